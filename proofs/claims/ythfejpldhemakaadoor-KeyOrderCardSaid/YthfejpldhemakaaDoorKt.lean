import Derived.Test.YthfejpldhemakaaDoorKu
import Derived.Test.YthfejpldhemakaaDoorL3
namespace Go.Proofs.YthfejpldhemakaaDoor
open Go.RowKit Go.Sort Go.Lib
set_option maxRecDepth 100000 in
set_option maxHeartbeats 4000000 in
theorem rkey_c (l : List V) (d : List Bool) (A A2 : Option Addr) (c c2 : Nat) (w : World) (hT : Tabs w) (hA : RL w l A c) (hD : RB w A2 d) :
    Calls Tryd.prog 38 #[.slice A l.length c, .slice A2 d.length c2] w (KeyPost w (keyV l d)) := by
  by_cases hbad : l.length < 1 ∨ 4 < l.length ∨ d.length ≠ l.length
  · have H := Lib.hid (keyV_bad hbad)
    have hl0 := hA.1
    have hd0 := hD.1
    clear hA hD
    by_cases h1 : l.length < 1
    · clear hbad
      go_enter Tryd.func38, Tryd.ntmps38
      go_wp2_with fail
      go_ret2
      rw [H.out]
      exact keyPost_nil 1 (Below.refl _ _)
    · by_cases h2 : 4 < l.length
      · clear hbad
        go_enter Tryd.func38, Tryd.ntmps38
        go_wp2_with fail
        go_ret2
        rw [H.out]
        exact keyPost_nil 1 (Below.refl _ _)
      · have h3 : d.length ≠ l.length := by omega
        have h3' : ((d.length : Int) != (l.length : Int)) = true := by simp; omega
        clear hbad h3
        go_enter Tryd.func38, Tryd.ntmps38
        go_wp2_with fail
        go_ret2
        rw [H.out]
        exact keyPost_nil 1 (Below.refl _ _)
  · have h1 : ¬ l.length < 1 := by omega
    have h2 : ¬ 4 < l.length := by omega
    have h3 : d.length = l.length := by omega
    have h3' : ((d.length : Int) != (l.length : Int)) = false := by simp [h3]
    have HBad := Lib.hid hbad
    have HD3 := Lib.hid h3
    have hd4 : d.length ≤ 4 := by omega
    have hl4 : l.length ≤ 4 := by omega
    clear hbad h3
    have HR := Lib.hid (And.intro hA (And.intro hD hT))
    clear hA hD hT
    go_enter Tryd.func38, Tryd.ntmps38
    go_wp2_with fail
    go_loopw [6, 7] (fun vv ix wr => ∃ (j : Nat), j ≤ l.length ∧ ix = .int .i64 j ∧ Hid (BO wr vv (rowsB (l.take j) (d.take j)) ∧ Gr w wr (.slice none 0 0) vv ∧ firstW (l.drop j) = firstW l ∧ (rowsB (l.take j) (d.take j)).length ≤ j * 200000)) (fun _ ix _ => l.length - (RowKit.intOf ix).toNat)
    case atStart => exact ⟨0, by omega, rfl, Lib.hid ⟨by simpa [rowsB] using BO.nil w, Gr.refl _ _, rfl, by simp [rowsB]⟩⟩
    case round =>
      obtain ⟨j, hj, rfl, H⟩ := hrel
      have hb := H.out.2.1.nil_below
      by_cases hlt : j < l.length
      · obtain ⟨pre, hpre⟩ : ∃ pre, rowsB (l.take j) (d.take j) = pre := ⟨_, rfl⟩
        rw [hpre] at H
        have hjd : j < d.length := by rw [HD3.out]; exact hlt
        have hrs := rowsB_step hlt hjd
        rw [hpre] at hrs
        obtain ⟨b, off, a0, n0, a1, n1, rfl, hrv, e0, e1, e2, e3, e4⟩ := HR.out.1.get j hlt
        obtain ⟨b2, off2, rfl, y0⟩ := HR.out.2.1.get hjd
        have HEL : Hid (∀ u, Below w.heap.size w u → u.cell? ⟨b, off + j * 5, none⟩ = some (.int .i64 l[j].k) ∧ u.cell? ⟨b, off + j * 5 + 1, none⟩ = some (.int .i64 l[j].i) ∧ u.cell? ⟨b, off + j * 5 + 2, none⟩ = some (.string l[j].t) ∧ u.cell? ⟨b, off + j * 5 + 3, none⟩ = some (.slice a0 l[j].l.length n0) ∧ u.cell? ⟨b, off + j * 5 + 4, none⟩ = some (.slice a1 l[j].d.length n1) ∧ u.cell? ⟨b2, off2 + j, none⟩ = some (.bool d[j])) := Lib.hid fun u hu => ⟨cell_grow hu e0, cell_grow hu e1, cell_grow hu e2, cell_grow hu e3, cell_grow hu e4, cell_grow hu y0⟩
        have hst := firstW_drop hlt
        have HRV := Lib.hid (And.intro hrv (And.intro hst hrs))
        have hP : pre.length ≤ j * 200000 := H.out.2.2.2
        obtain ⟨f0, f1, f2, f3, f4, _⟩ := HEL.out _ hb
        clear hrv hst hpre hrs y0 e0 e1 e2 e3 e4
        go_wp2_with fail
        refine (rright_c l[j] _ wr (HR.out.2.2.grow hb) (HRV.out.1.grow hb)).mono ?_
        rintro e w4 ⟨rfl, d4⟩
        obtain ⟨r, hr⟩ : ∃ r, rightV l[j] = r := ⟨_, rfl⟩
        rw [hr]
        clear f0 f1 f2 f3 f4
        have hb4 := below2 hb d4
        by_cases h0 : r = 0
        · subst h0
          obtain ⟨hsh, hsz⟩ := shape_right HRV.out.1 hr
          have hsl := shape_len hsh
          have hcall := rb_c hsh _ w4 (HRV.out.1.grow hb4) (by omega)
          have hpos : 0 < (encV l[j]).length := by
            generalize l[j] = q
            obtain ⟨k, i, t, l, d⟩ := q
            simp [encV]
          obtain ⟨zs, hzs⟩ : ∃ zs, encV l[j] = zs := ⟨_, rfl⟩
          rw [hzs] at hcall hsl hpos
          have HX := Lib.hid (And.intro hr (And.intro hzs d4))
          obtain ⟨f0, f1, f2, f3, f4, _⟩ := HEL.out _ hb4
          clear hr hsh hzs d4 hb
          go_wp2_with fail
          clear f0 f1 f2 f3 f4
          refine hcall.mono ?_
          rintro e w5 hput
          obtain ⟨g5, cap5, n5, hn5, rfl, bo5, hg5, d5⟩ := hput.own
          have hb5 := below2 hb4 d5
          obtain ⟨_, _, _, _, _, y0⟩ := HEL.out _ hb5
          have H5 := Lib.hid (And.intro hn5 (And.intro bo5 (And.intro hg5 (And.intro d5 hb5))))
          clear hn5 bo5 hg5 d5 hb5 hput hcall hb4
          by_cases hd : d[j] = true
          · have HDJ := Lib.hid hd
            go_wp2_with fail
            clear y0
            refine (turned_c g5 cap5 n5 zs H5.out.1 w5 H5.out.2.1 hpos (by omega)).mono ?_
            rintro e w6 hput
            obtain ⟨g6, cap6, n6, hn6, rfl, bo6, hg6, d6⟩ := hput.own
            have H6 := Lib.hid (And.intro hn6 (And.intro bo6 d6))
            clear hn6 bo6 hg6 d6 hput
            go_wp2_with (refine wpList_app2 (by rfl) _ _ (by rfl) u6 pre (zs.map (255 - ·)) (by rfl) (H.out.1.grow (below2 HX.out.2.2 (below2 H5.out.2.2.2.1 H6.out.2.2))) g6 cap6 n6 (by rfl) H6.out.1 H6.out.2.1 (by simpa using hpos) (by simp; omega) (pre.length + zs.length) (by simp) ?_; intro g7 cap7 w7 bo7 hg7)
            go_roundw
            case rel =>
              have hrs := HRV.out.2.2
              rw [HX.out.2.1, turnB, if_pos HDJ.out] at hrs
              refine ⟨j + 1, by omega, by go_num, Lib.hid ⟨by rw [hrs]; exact bo7, (H.out.2.1.post (below2 HX.out.2.2 (below2 H5.out.2.2.2.1 H6.out.2.2))).trans hg7, ?_, ?_⟩⟩
              · rw [← H.out.2.2.1, HRV.out.2.1, if_neg (by rw [HX.out.1]; simp)]
              · rw [hrs]; simp; omega
            case measure => simp [RowKit.intOf]; omega
          · have HDJ := Lib.hid hd
            have hdf : d[j] = false := by simpa using hd
            clear hd
            go_wp2_with (refine wpList_app2 (by rfl) _ _ (by rfl) u6 pre zs (by rfl) (H.out.1.grow (below2 HX.out.2.2 H5.out.2.2.2.1)) g5 cap5 n5 (by rfl) H5.out.1 H5.out.2.1 hpos (by omega) (pre.length + zs.length) (by rfl) ?_; intro g7 cap7 w7 bo7 hg7)
            go_roundw
            case rel =>
              have hrs := HRV.out.2.2
              rw [HX.out.2.1, turnB, if_neg HDJ.out] at hrs
              refine ⟨j + 1, by omega, by go_num, Lib.hid ⟨by rw [hrs]; exact bo7, (H.out.2.1.post (below2 HX.out.2.2 H5.out.2.2.2.1)).trans hg7, ?_, ?_⟩⟩
              · rw [← H.out.2.2.1, HRV.out.2.1, if_neg (by rw [HX.out.1]; simp)]
              · rw [hrs]; simp; omega
            case measure => simp [RowKit.intOf]; omega
        · have HF := Lib.hid (show firstW l = r by rw [← H.out.2.2.1, HRV.out.2.1, if_pos (by rw [hr]; exact h0), hr])
          have hne : (r != 0) = true := by simpa using h0
          have H0 := Lib.hid h0
          clear h0 hr
          go_wp2_with fail
          go_ret2
          rw [keyV_wrong HBad.out (by rw [HF.out]; exact H0.out), HF.out]
          exact keyPost_nil r hb4
      · obtain rfl : j = l.length := by omega
        rw [List.take_length, List.take_of_length_le (by rw [HD3.out]; exact Nat.le_refl _), List.drop_length] at H
        obtain ⟨out, hout⟩ : ∃ out, rowsB l d = out := ⟨_, rfl⟩
        rw [hout] at H
        obtain ⟨A6, c6, rfl, _⟩ := H.out.1.form
        have hO := H.out.2.2.2
        have HO := Lib.hid hout
        have hfr : ∀ g, (Value.slice A6 out.length c6).ownBlock = some g → w.heap.size ≤ g := H.out.2.1.from_ (Nat.le_refl _) (by simp [Value.ownBlock])
        have HFR := Lib.hid hfr
        clear hout hfr
        by_cases hlong : 1000 < out.length
        · have HL := Lib.hid hlong
          clear hlt
          go_wp2_with fail
          go_ret2
          rw [keyV_long HBad.out (by rw [← H.out.2.2.1]; rfl) (by rw [HO.out]; exact HL.out)]
          exact keyPost_nil 30 hb
        · have HL := Lib.hid hlong
          clear hlt
          go_wp2_with fail
          go_ret2
          rw [keyV_ok HBad.out (by rw [← H.out.2.2.1]; rfl) (by rw [HO.out]; exact HL.out), HO.out]
          exact ⟨_, rfl, H.out.1, HFR.out, hb⟩
end Go.Proofs.YthfejpldhemakaaDoor
