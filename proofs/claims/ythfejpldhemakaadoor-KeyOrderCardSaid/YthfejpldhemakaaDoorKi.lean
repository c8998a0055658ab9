import Derived.Test.YthfejpldhemakaaDoorKh
namespace Go.Proofs.YthfejpldhemakaaDoor
open Go.RowKit Go.Sort Go.Lib
/-- What a call answers that gives bytes and a fault. -/
def KeyPost (w : World) (r : Int × List UInt8) (e : Ending) (w' : World) : Prop :=
  ∃ v, e = .returned (.tuple #[v, .int .i64 r.1]) ∧ BO w' v r.2 ∧ (∀ g, v.ownBlock = some g → w.heap.size ≤ g) ∧ Below w.heap.size w w'
theorem keyPost_nil {w w' : World} (n : Int) (hb : Below w.heap.size w w') : KeyPost w (n, []) (.returned (.tuple #[.slice none 0 0, .int .i64 n])) w' :=
  ⟨_, rfl, BO.nil w', by simp [Value.ownBlock], hb⟩
theorem keyV_bad {l : List V} {d : List Bool} (h : l.length < 1 ∨ 4 < l.length ∨ d.length ≠ l.length) : keyV l d = (1, []) := by rw [keyV, if_pos h]
theorem keyV_wrong {l : List V} {d : List Bool} (h : ¬ (l.length < 1 ∨ 4 < l.length ∨ d.length ≠ l.length)) (hf : firstW l ≠ 0) : keyV l d = (firstW l, []) := by rw [keyV, if_neg h, if_pos hf]
theorem keyV_long {l : List V} {d : List Bool} (h : ¬ (l.length < 1 ∨ 4 < l.length ∨ d.length ≠ l.length)) (hf : firstW l = 0) (hl : 1000 < (rowsB l d).length) : keyV l d = (30, []) := by rw [keyV, if_neg h, if_neg (by omega), if_pos hl]
theorem keyV_ok {l : List V} {d : List Bool} (h : ¬ (l.length < 1 ∨ 4 < l.length ∨ d.length ≠ l.length)) (hf : firstW l = 0) (hl : ¬ 1000 < (rowsB l d).length) : keyV l d = (0, rowsB l d) := by rw [keyV, if_neg h, if_neg (by omega), if_neg hl]
theorem rowFree {w : World} {e sz g n c : Nat} {xs : List Value} (h : w.ownsRow 0 e sz (.slice (some ⟨g, 0, none⟩) n c) n xs) (p : Nat) : w.frozen? ⟨g, p, none⟩ = false := by
  rcases h.2 with ⟨h3, _⟩ | ⟨g', cap, cur, h3, _, h4, _⟩
  · cases h3
  · injection h3 with h3
    injection h3 with h3
    injection h3 with h3
    subst h3
    exact free_at h4 p
theorem rowSet {w : World} {e sz g n c : Nat} {xs : List Value} (h : w.ownsRow 0 e sz (.slice (some ⟨g, 0, none⟩) n c) n xs) (p : Nat) (v : Value) : (w.setCell ⟨g, p, none⟩ v).ownsRow 0 e sz (.slice (some ⟨g, 0, none⟩) n c) n (xs.set p v) := by
  obtain ⟨hl, h3⟩ := h
  refine ⟨by simpa using hl, ?_⟩
  rcases h3 with ⟨h3, _⟩ | ⟨g', cap, cur, h3, h4, h5, h6, h7, h8, h9⟩
  · cases h3
  · injection h3 with h3 h3' h3''
    injection h3 with h3
    injection h3 with h3
    subst h3 h3''
    refine .inr ⟨g, c, _, rfl, h4, setCell_block h5 p v, h6, h7, by simpa using h8, ?_⟩
    rw [Array.toList_setIfInBounds, List.take_set, h9]
theorem BO.cell {w : World} {g c n : Nat} {xs : List UInt8} (h : BO w (.slice (some ⟨g, 0, none⟩) n c) xs) {k : Nat} (hk : k < xs.length) : w.cell? ⟨g, k, none⟩ = some (.int .u8 (xs[k].toNat : Int)) ∧ w.frozen? ⟨g, k, none⟩ = false := by
  have hn : n = xs.length := by
    rcases h.2 with ⟨e, h0⟩ | ⟨_, _, _, e, _⟩
    · cases e
    · injection e
  subst hn
  refine ⟨?_, rowFree h k⟩
  have := World.ownsRow.cells h (g := g) rfl k (bv xs[k]) (by simp [hk])
  have ha : (⟨g, 0, none⟩ : Addr).add k = ⟨g, k, none⟩ := by unfold Addr.add; split <;> simp_all
  rwa [ha] at this
theorem BO.set {w : World} {g c n : Nat} {xs : List UInt8} (h : BO w (.slice (some ⟨g, 0, none⟩) n c) xs) (k : Nat) (b : UInt8) : BO (w.setCell ⟨g, k, none⟩ (.int .u8 (b.toNat : Int))) (.slice (some ⟨g, 0, none⟩) n c) (xs.set k b) := by
  have hn : n = xs.length := by
    rcases h.2 with ⟨e, h0⟩ | ⟨_, _, _, e, _⟩
    · cases e
    · injection e
  subst hn
  have := rowSet h k (bv b)
  unfold BO
  rw [List.length_set, List.map_set]
  exact this
/-- The bytes while those from a place on are turned. -/
theorem turning {pre m : List UInt8} {q : Nat} (hq : q < m.length) : (pre ++ ((m.take q).map (255 - ·) ++ m.drop q)).set (pre.length + q) (255 - m[q]) = pre ++ ((m.take (q + 1)).map (255 - ·) ++ m.drop (q + 1)) := by
  rw [List.set_append_right _ _ (by omega), show pre.length + q - pre.length = q by omega, List.set_append_right _ _ (by simp; omega)]
  congr 1
  rw [List.length_map, List.length_take, Nat.min_eq_left (by omega), Nat.sub_self, List.drop_eq_getElem_cons hq, List.set_cons_zero, List.take_succ_eq_append_getElem hq, List.map_append]
  simp
theorem turning_at {pre m : List UInt8} {q : Nat} (hq : q < m.length) (h : pre.length + q < (pre ++ ((m.take q).map (255 - ·) ++ m.drop q)).length) : (pre ++ ((m.take q).map (255 - ·) ++ m.drop q))[pre.length + q] = m[q] := by
  rw [List.getElem_append_right (by omega)]
  simp only [show pre.length + q - pre.length = q by omega]
  rw [List.getElem_append_right (by simp; omega)]
  simp [Nat.min_eq_left (Nat.le_of_lt hq)]
set_option maxRecDepth 100000 in
set_option maxHeartbeats 4000000 in
theorem key_c (l : List V) (d : List Bool) (A A2 : Option Addr) (c c2 : Nat) (w : World) (hT : Tabs w) (hA : RL w l A c) (hD : RB w A2 d) :
    Calls Tryd.prog 37 #[.slice A l.length c, .slice A2 d.length c2] w (KeyPost w (keyV l d)) := by
  by_cases hbad : l.length < 1 ∨ 4 < l.length ∨ d.length ≠ l.length
  · have H := Lib.hid (keyV_bad hbad)
    have hl0 := hA.1
    have hd0 := hD.1
    clear hA hD
    by_cases h1 : l.length < 1
    · clear hbad
      go_enter Tryd.func37, Tryd.ntmps37
      go_wp2_with fail
      go_ret2
      rw [H.out]
      exact keyPost_nil 1 (Below.refl _ _)
    · by_cases h2 : 4 < l.length
      · clear hbad
        go_enter Tryd.func37, Tryd.ntmps37
        go_wp2_with fail
        go_ret2
        rw [H.out]
        exact keyPost_nil 1 (Below.refl _ _)
      · have h3 : d.length ≠ l.length := by omega
        have h3' : ((d.length : Int) != (l.length : Int)) = true := by simp; omega
        clear hbad h3
        go_enter Tryd.func37, Tryd.ntmps37
        go_wp2_with fail
        go_ret2
        rw [H.out]
        exact keyPost_nil 1 (Below.refl _ _)
  · have h1 : ¬ l.length < 1 := by omega
    have h2 : ¬ 4 < l.length := by omega
    have h3 : d.length = l.length := by omega
    have h3' : ((d.length : Int) != (l.length : Int)) = false := by simp [h3]
    have HBad := Lib.hid hbad
    have HD3 := Lib.hid h3
    have hd4 : d.length ≤ 4 := by omega
    have hl4 : l.length ≤ 4 := by omega
    clear hbad h3
    have HR := Lib.hid (And.intro hA (And.intro hD hT))
    clear hA hD hT
    go_enter Tryd.func37, Tryd.ntmps37
    go_wp2_with fail
    go_loopw [6, 29] (fun vv ix wr => ∃ (j : Nat), j ≤ l.length ∧ ix = .int .i64 j ∧ Hid (BO wr vv (rowsB (l.take j) (d.take j)) ∧ (∀ g, vv.ownBlock = some g → w.heap.size ≤ g) ∧ firstW (l.drop j) = firstW l ∧ (rowsB (l.take j) (d.take j)).length ≤ j * 200000) ∧ Below w.heap.size w wr) (fun _ ix _ => l.length - (RowKit.intOf ix).toNat)
    case atStart => exact ⟨0, by omega, rfl, Lib.hid ⟨by simpa [rowsB] using BO.nil w, by simp [Value.ownBlock], rfl, by simp [rowsB]⟩, Below.refl _ _⟩
    case round =>
      obtain ⟨j, hj, rfl, H, hb⟩ := hrel
      by_cases hlt : j < l.length
      · obtain ⟨pre, hpre⟩ : ∃ pre, rowsB (l.take j) (d.take j) = pre := ⟨_, rfl⟩
        rw [hpre] at H
        have hjd : j < d.length := by rw [HD3.out]; exact hlt
        have hrs := rowsB_step hlt hjd
        rw [hpre] at hrs
        obtain ⟨b, off, a0, n0, a1, n1, rfl, hrv, f0, f1, f2, f3, f4⟩ := HR.out.1.get j hlt
        have f0 := cell_grow hb f0
        have f1 := cell_grow hb f1
        have f2 := cell_grow hb f2
        have f3 := cell_grow hb f3
        have f4 := cell_grow hb f4
        obtain ⟨b2, off2, rfl, y0⟩ := HR.out.2.1.get hjd
        have hst := firstW_drop hlt
        have HRV := Lib.hid (And.intro hrv (And.intro hb (And.intro hst hrs)))
        have HY0 := Lib.hid y0
        have hP : pre.length ≤ j * 200000 := H.out.2.2.2
        clear hrv hst hb hpre hrs y0
        go_wp2_with fail
        generalize hW4 : World.alloc wr _ = W4
        have d4 : Below wr.heap.size wr W4 := by rw [← hW4]; exact below_alloc1 _ _
        have hs4 : W4.heap.size = wr.heap.size + 1 := by rw [← hW4]; simp
        have e8 : W4.heap[wr.heap.size]? = some (.cells #[.int .i64 l[j].k, .int .i64 l[j].i, .string l[j].t, .slice a0 l[j].l.length n0, .slice a1 l[j].d.length n1] 25 (0, 0)) := by rw [← hW4, heap_alloc_new]
        have HD4 := Lib.hid (And.intro d4 (And.intro hs4 e8))
        clear hW4 d4 hs4 e8 f0 f1 f2 f3 f4
        have hb4 := below2 HRV.out.2.1 HD4.out.1
        refine (right_c l[j] _ W4 (HR.out.2.2.grow hb4) (HRV.out.1.grow hb4)).mono ?_
        rintro e w5 ⟨rfl, d5⟩
        obtain ⟨r, hr⟩ : ∃ r, rightV l[j] = r := ⟨_, rfl⟩
        rw [hr]
        by_cases h0 : r = 0
        · subst h0
          have e8 := (d5.block _ (block_lt HD4.out.2.2)).trans HD4.out.2.2
          have x0 := cell_at e8 0 _ rfl
          have x1 := cell_at e8 1 _ rfl
          have x2 := cell_at e8 2 _ rfl
          have x3 := cell_at e8 3 _ rfl
          have x4 := cell_at e8 4 _ rfl
          obtain ⟨hsh, hsz⟩ := shape_right HRV.out.1 hr
          have hsl := shape_len hsh
          obtain ⟨A6, c6, rfl, hc6⟩ := H.out.1.form
          have hb5 := below2 hb4 d5
          have hput := put_c hsh _ w w5 _ pre HRV.out.1 hb5 (H.out.1.grow (below2 HD4.out.1 d5)) H.out.2.1 (by omega)
          have HX := Lib.hid (And.intro hr (And.intro hsh (And.intro hsz (And.intro hsl (And.intro hb5 hc6)))))
          clear hr hsh hsz hsl e8 d5 hb4 hc6 hb5
          go_wp2_with fail
          clear x0 x1 x2 x3 x4
          refine hput.mono ?_
          rintro e w6 ⟨g, cap, n, hn, rfl, hb6, hg6⟩
          have hfr6 := hg6.from_ HX.out.2.2.2.2.1.size H.out.2.1
          have hbw6 : Below w.heap.size w w6 := HX.out.2.2.2.2.1.trans (hg6.below HX.out.2.2.2.2.1.size H.out.2.1)
          have y0 := cell_grow hbw6 HY0.out
          have hnb : n ≤ (j + 1) * 200000 := by
            have h1 := HX.out.2.2.2.1
            have h2 := HX.out.2.2.1
            rw [hn, List.length_append]; omega
          have H6 := Lib.hid (And.intro hn (And.intro hb6 (And.intro hfr6 hbw6)))
          clear hput hn hb6 hg6 hfr6 hbw6
          by_cases hd : d[j] = true
          · have HDJ := Lib.hid hd
            go_wp2_with fail
            have hPn : pre.length ≤ n := by rw [H6.out.1, List.length_append]; omega
            go_loopw [11] (fun kk w7 => ∃ (k : Nat), pre.length ≤ k ∧ k ≤ n ∧ kk = .int .i64 k ∧ Hid (BO w7 (.slice (some ⟨g, 0, none⟩) n cap) (pre ++ (((encV l[j]).take (k - pre.length)).map (255 - ·) ++ (encV l[j]).drop (k - pre.length)))) ∧ Only (· = g) w6 w7) (fun kk _ => n - (RowKit.intOf kk).toNat)
            case atStart => exact ⟨pre.length, Nat.le_refl _, hPn, rfl, Lib.hid (by simpa using H6.out.2.1), Only.refl _ _⟩
            case round =>
              obtain ⟨k, hk1, hk2, rfl, HB, hon⟩ := hrel
              have hnm := H6.out.1
              rw [List.length_append] at hnm
              by_cases hkn : k < n
              · obtain ⟨q, hq⟩ : ∃ q, k = pre.length + q := ⟨k - pre.length, by omega⟩
                have hqm : q < (encV l[j]).length := by omega
                have hkq : k - pre.length = q := by omega
                rw [hkq] at HB
                have hll : pre.length + q < (pre ++ (((encV l[j]).take q).map (255 - ·) ++ (encV l[j]).drop q)).length := by simp; omega
                obtain ⟨z1, z2⟩ := HB.out.cell (k := pre.length + q) hll
                rw [turning_at hqm hll, ← hq] at z1
                rw [← hq] at z2
                obtain ⟨cc, hcc⟩ : ∃ cc, (encV l[j])[q] = cc := ⟨_, rfl⟩
                rw [hcc] at z1
                have hx := xor_255 cc
                have HQ := Lib.hid (And.intro hq (And.intro hqm hcc))
                clear hq hkq hll hcc hnm
                go_wp2_with fail
                go_roundw
                case rel =>
                  obtain ⟨hq, hqm, hcc⟩ := HQ.out
                  refine ⟨k + 1, by omega, by omega, by go_num, Lib.hid ?_, hon.trans (only_set wr g k _) (fun _ _ h => h)⟩
                  have := HB.out.set k (255 - cc)
                  rw [show k + 1 - pre.length = q + 1 by omega, ← turning hqm, hcc, ← hq]
                  exact this
                case measure => simp [RowKit.intOf]; omega
              · obtain rfl : k = n := by omega
                have HN := Lib.hid hnm
                clear hnm
                go_wp2_with fail
                go_roundw
                case rel =>
                  have hbw : RowKit.Below w.heap.size w wr := H6.out.2.2.2.trans (hon.below (fun q hq => by rw [hq]; exact H6.out.2.2.1 g rfl) H6.out.2.2.2.size)
                  have hrs := HRV.out.2.2.2
                  refine ⟨j + 1, by omega, by go_num, Lib.hid ⟨?_, H6.out.2.2.1, ?_, ?_⟩, hbw⟩
                  · have := HB.out
                    rw [List.take_of_length_le (by have := HN.out; omega), List.drop_eq_nil_of_le (by have := HN.out; omega), List.append_nil] at this
                    rw [hrs, turnB, if_pos HDJ.out]
                    exact this
                  · rw [← H.out.2.2.1, HRV.out.2.2.1, if_neg (by rw [HX.out.1]; simp)]
                  · rw [hrs, List.length_append, turnB_len]
                    have := HN.out
                    omega
                case measure => simp [RowKit.intOf]; omega
          · have HDJ := Lib.hid hd
            have hdf : d[j] = false := by simpa using hd
            clear hd
            go_wp2_with fail
            go_roundw
            case rel =>
              have hrs := HRV.out.2.2.2
              refine ⟨j + 1, by omega, by go_num, Lib.hid ⟨?_, H6.out.2.2.1, ?_, ?_⟩, H6.out.2.2.2⟩
              · rw [hrs, turnB, if_neg HDJ.out]
                exact H6.out.2.1
              · rw [← H.out.2.2.1, HRV.out.2.2.1, if_neg (by rw [HX.out.1]; simp)]
              · rw [hrs, List.length_append, turnB_len]
                have h1 := HX.out.2.2.2.1
                have h2 := HX.out.2.2.1
                omega
            case measure => simp [RowKit.intOf]; omega
        · have HF := Lib.hid (show firstW l = r by rw [← H.out.2.2.1, HRV.out.2.2.1, if_pos (by rw [hr]; exact h0), hr])
          have hne : (r != 0) = true := by simpa using h0
          have H0 := Lib.hid h0
          have hb5 := below2 hb4 d5
          clear h0 hr
          go_wp2_with fail
          go_ret2
          rw [keyV_wrong HBad.out (by rw [HF.out]; exact H0.out), HF.out]
          exact keyPost_nil r hb5
      · obtain rfl : j = l.length := by omega
        rw [List.take_length, List.take_of_length_le (by rw [HD3.out]; exact Nat.le_refl _), List.drop_length] at H
        obtain ⟨out, hout⟩ : ∃ out, rowsB l d = out := ⟨_, rfl⟩
        rw [hout] at H
        obtain ⟨A6, c6, rfl, _⟩ := H.out.1.form
        have hO := H.out.2.2.2
        have HO := Lib.hid hout
        clear hout
        by_cases hlong : 1000 < out.length
        · have HL := Lib.hid hlong
          clear hlt
          go_wp2_with fail
          go_ret2
          rw [keyV_long HBad.out (by rw [← H.out.2.2.1]; rfl) (by rw [HO.out]; exact HL.out)]
          exact keyPost_nil 30 hb
        · have HL := Lib.hid hlong
          clear hlt
          go_wp2_with fail
          go_ret2
          rw [keyV_ok HBad.out (by rw [← H.out.2.2.1]; rfl) (by rw [HO.out]; exact HL.out), HO.out]
          exact ⟨_, rfl, H.out.1, H.out.2.1, hb⟩
end Go.Proofs.YthfejpldhemakaaDoor
