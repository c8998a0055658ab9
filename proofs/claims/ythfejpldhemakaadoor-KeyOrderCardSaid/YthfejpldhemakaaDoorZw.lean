import Derived.Test.YthfejpldhemakaaDoorZo
import Derived.Test.YthfejpldhemakaaDoorSi
namespace Go.Proofs.YthfejpldhemakaaDoor
open Go.RowKit Go.Sort Go.Lib
theorem wantV_step {a b : List V} {d : List Bool} {j : Nat} (ha : j < a.length) (hb : j < b.length) (hd : j < d.length) : wantV (a.drop j) (b.drop j) (d.drop j) =
    if ¬ cmpV a[j] b[j] = 0 then (if d[j] then - cmpV a[j] b[j] else cmpV a[j] b[j]) else wantV (a.drop (j + 1)) (b.drop (j + 1)) (d.drop (j + 1)) := by
  rw [List.drop_eq_getElem_cons ha, List.drop_eq_getElem_cons hb, List.drop_eq_getElem_cons hd, wantV]
set_option maxRecDepth 100000 in
set_option maxHeartbeats 4000000 in
theorem keyOrder_c (a : List V) (A : Option Addr) (c : Nat) (b : List V) (A' : Option Addr) (c' : Nat) (d : List Bool) (A2 : Option Addr) (c2 : Nat) (W : World) (hT : Tabs W) (hA : RL W a A c) (hB : RL W b A' c') (hD : RB W A2 d) :
    Calls Tryd.prog 17 #[.slice A a.length c, .slice A' b.length c', .slice A2 d.length c2] W fun e w' => e = .returned (.bool true) ∧ Below W.heap.size W w' := by
  have hsa := hA.shapes
  have hsb := hB.shapes
  obtain ⟨re, xs, hkx⟩ : ∃ r xs, keyV a d = (r, xs) := ⟨_, _, rfl⟩
  obtain ⟨rf, ys, hky⟩ : ∃ r xs, keyV b d = (r, xs) := ⟨_, _, rfl⟩
  have HO : Hid (re = 0 → rf = 0 → cmpB xs ys = wantV a b d ∧ d.length = a.length ∧ d.length = b.length ∧ d.length ≤ 4) := Lib.hid fun h1 h2 => by
    rw [h1] at hkx; rw [h2] at hky
    have z1 := keyV_zero hkx; have z2 := keyV_zero hky
    exact ⟨order_law hkx hky hsa hsb, z1.2.2.1, z2.2.2.1, by omega⟩
  have HXY : Hid (xs.length ≤ 140737488355328 ∧ ys.length ≤ 140737488355328) := Lib.hid (by
    have h1 := keyV_len a d; have h2 := keyV_len b d
    rw [hkx] at h1; rw [hky] at h2
    simp only at h1 h2
    omega)
  have hk1 := fun w hT hA hD => key_c a d A A2 c c2 w hT hA hD
  have hk2 := fun w hT hA hD => key_c b d A' A2 c' c2 w hT hA hD
  rw [hkx] at hk1
  rw [hky] at hk2
  obtain ⟨na, hna⟩ : ∃ n, a.length = n := ⟨_, rfl⟩
  obtain ⟨nb, hnb⟩ : ∃ n, b.length = n := ⟨_, rfl⟩
  obtain ⟨nd, hnd⟩ : ∃ n, d.length = n := ⟨_, rfl⟩
  rw [hna, hnd] at hk1
  rw [hnb, hnd] at hk2
  rw [hna, hnb, hnd] at HO
  rw [hna, hnb, hnd]
  have HN := Lib.hid (And.intro hna (And.intro hnb hnd))
  have HK := Lib.hid (And.intro hk1 hk2)
  have HA := Lib.hid (And.intro hT (And.intro hA (And.intro hB hD)))
  clear hsa hsb hkx hky hk1 hk2 hna hnb hnd hT hA hB hD
  go_enter Tryd.func17, Tryd.ntmps17
  go_wp2_with fail
  refine (awake03_c W HA.out.1).mono ?_
  rintro e w1 ⟨rfl, hb1⟩
  have HB1 := Lib.hid hb1
  clear hb1
  go_wp2_with fail
  refine (HK.out.1 w1 (HA.out.1.grow HB1.out) (HA.out.2.1.grow HB1.out) (HA.out.2.2.2.grow HB1.out)).mono ?_
  rintro e w2 ⟨va, rfl, hba, _, hb2⟩
  obtain ⟨Aa, ca, rfl, _⟩ := hba.form
  have H2 := Lib.hid (And.intro hba hb2)
  have HB2 := Lib.hid (below2 HB1.out hb2)
  clear hba hb2
  go_wp2_with fail
  refine (HK.out.2 w2 (HA.out.1.grow HB2.out) (HA.out.2.2.1.grow HB2.out) (HA.out.2.2.2.grow HB2.out)).mono ?_
  rintro e w3 ⟨vb, rfl, hbb, _, hb3⟩
  obtain ⟨Ab, cb, rfl, _⟩ := hbb.form
  have HX3 := Lib.hid (H2.out.1.grow hb3)
  have HY3 := Lib.hid hbb
  have HB3 := Lib.hid (below2 HB2.out hb3)
  clear hbb hb3
  by_cases he0 : re = 0
  case neg =>
    have heb : (re != 0) = true := by simp [he0]
    go_wp2_with fail
    go_ret
    exact ⟨rfl, HB3.out⟩
  by_cases hf0 : rf = 0
  case neg =>
    subst he0
    have heb : (rf != 0) = true := by simp [hf0]
    go_wp2_with fail
    go_ret
    exact ⟨rfl, HB3.out⟩
  subst he0 hf0
  have HO' := Lib.hid (HO.out rfl rfl)
  have hnd4 : nd ≤ 4 := HO'.out.2.2.2
  clear HO
  go_wp2_with fail
  go_loopw [12, 13] (fun vv ix wr => ∃ (j : Nat) (wt : Int), j ≤ nd ∧ ix = .int .i64 (j : Int) ∧ vv = .int .i64 wt ∧ Hid (wantV a b d = if ¬ wt = 0 then wt else wantV (a.drop j) (b.drop j) (d.drop j)) ∧ Hid (Below w3.heap.size w3 wr)) (fun _ ix _ => nd - (RowKit.intOf ix).toNat)
  case atStart => exact ⟨0, 0, by omega, rfl, rfl, Lib.hid (by simp), Lib.hid (Below.refl _ _)⟩
  case round =>
    obtain ⟨j, wt, hj, rfl, rfl, hw, hb⟩ := hrel
    have hbw := Lib.hid (below2 HB3.out hb.out)
    have hend : (¬ wt = 0 ∨ j = nd) → Hid (wantV a b d = wt) := fun h => Lib.hid (by
      rw [hw.out]
      by_cases hz : wt = 0
      · have hjn : j = nd := h.resolve_left (fun h => h hz)
        rw [if_neg (by simp [hz]), hz, List.drop_eq_nil_of_le (by have := HN.out.1; have := HO'.out.2.1; omega)]
        simp [wantV]
      · rw [if_pos hz])
    by_cases hlt : j < nd
    · by_cases hz : wt = 0
      · subst hz
        have hja : j < a.length := by have := HN.out.1; have := HO'.out.2.1; omega
        have hjb : j < b.length := by have := HN.out.2.1; have := HO'.out.2.2.1; omega
        have hjd : j < d.length := by have := HN.out.2.2; omega
        have hlt1 : (j : Int) < (na : Int) := by have := HO'.out.2.1; omega
        have hlt2 : (j : Int) < (nb : Int) := by have := HO'.out.2.2.1; omega
        have hlt3 : (j : Int) < (nd : Int) := by omega
        obtain ⟨bk, off, a0, n0, a1, n1, rfl, hrv, f0, f1, f2, f3, f4⟩ := (HA.out.2.1.grow hbw.out).get j hja
        obtain ⟨b', off', a0', n0', a1', n1', rfl, hrv', g0, g1, g2, g3, g4⟩ := (HA.out.2.2.1.grow hbw.out).get j hjb
        obtain ⟨b2, off2, rfl, y0⟩ := (HA.out.2.2.2.grow hbw.out).get hjd
        have hst := wantV_step hja hjb hjd
        obtain ⟨q, hq⟩ : ∃ q, cmpV a[j] b[j] = q := ⟨_, rfl⟩
        obtain ⟨t, ht⟩ : ∃ t, d[j] = t := ⟨_, rfl⟩
        have hqr : -1 ≤ q ∧ q ≤ 1 := by rw [← hq]; exact cmpV_range _ _
        have hih := fun dd os => Calls.regrown_of (compare_c a[j] b[j] _ _ _ (hrv.grow (below_regrown wr dd os)) (hrv'.grow (below_regrown wr dd os)))
        simp only [hq] at hih
        rw [ht] at y0
        rw [hq, ht] at hst
        have HST := Lib.hid hst
        clear hq ht hst hend hjd
        go_wp2_with fail
        have m0 := cell_regrown f0
        have m1 := cell_regrown f1
        have m2 := cell_regrown f2
        have m3 := cell_regrown f3
        have m4 := cell_regrown f4
        have p0 := cell_regrown g0
        have p1 := cell_regrown g1
        have p2 := cell_regrown g2
        have p3 := cell_regrown g3
        have p4 := cell_regrown g4
        refine wp_region_quiet_below (by kernel_rfl) (by kernel_rfl) ?_
        repeat (go_big_quiet_step (exact hih _ _))
        refine wpQuiet_nil ?_
        intro _ hw'
        obtain ⟨⟨dq, osq⟩, hw''⟩ := hw'
        subst hw''
        clear m0 m1 m2 m3 m4 p0 p1 p2 p3 p4 hih
        have y1 := cell_regrown y0 dq osq
        have HBn := Lib.hid (below2 hb.out (below_regrown wr dq osq))
        obtain ⟨hq1, hq2⟩ := hqr
        cases t with
        | true =>
          go_wp2_with fail
          go_roundw
          case rel =>
            refine ⟨j + 1, -q, by omega, by go_num, rfl, Lib.hid ?_, HBn⟩
            rw [hw.out, if_neg (by simp), HST.out]
            by_cases hq0 : q = 0
            · simp [hq0]
            · rw [if_pos hq0, if_pos rfl, if_pos (by omega)]
          case measure => simp [RowKit.intOf]; omega
        | false =>
          go_wp2_with fail
          go_roundw
          case rel =>
            refine ⟨j + 1, q, by omega, by go_num, rfl, Lib.hid ?_, HBn⟩
            rw [hw.out, if_neg (by simp), HST.out]
            by_cases hq0 : q = 0
            · simp [hq0]
            · rw [if_pos hq0, if_neg (by simp), if_pos hq0]
          case measure => simp [RowKit.intOf]; omega
      · have hzb : (wt == 0) = false := by simp [hz]
        have HE := hend (.inl hz)
        have hlt3 : (j : Int) < (nd : Int) := by omega
        clear hend
        go_wp2_with fail
        refine (comp_c Aa Ab ca cb xs.length ys.length xs ys rfl rfl wr ((HX3.out.grow hb.out).ry HXY.out.1) ((HY3.out.grow hb.out).ry HXY.out.2)).mono ?_
        rintro e w5 ⟨rfl, hb5⟩
        have hres : cmpB xs ys = wt := by rw [HO'.out.1, HE.out]
        rw [hres]
        have HF := Lib.hid (below2 hbw.out hb5)
        clear hb5 hres
        go_wp2_with fail
        go_ret
        exact ⟨ret_bool (by simp), HF.out⟩
    · obtain rfl : j = nd := by omega
      have HE := hend (.inr rfl)
      clear hend
      go_wp2_with fail
      refine (comp_c Aa Ab ca cb xs.length ys.length xs ys rfl rfl wr ((HX3.out.grow hb.out).ry HXY.out.1) ((HY3.out.grow hb.out).ry HXY.out.2)).mono ?_
      rintro e w5 ⟨rfl, hb5⟩
      have hres : cmpB xs ys = wt := by rw [HO'.out.1, HE.out]
      rw [hres]
      have HF := Lib.hid (below2 hbw.out hb5)
      clear hb5 hres
      go_wp2_with fail
      go_ret
      exact ⟨ret_bool (by simp), HF.out⟩
/-- The walk, in the order that the row's printer hands its arguments. -/
theorem keyOrder_cc (a : List V) (A : Option Addr) (c : Nat) (b : List V) (A' : Option Addr) (c' : Nat) (d : List Bool) (A2 : Option Addr) (c2 : Nat) (W : World) (hT : Tabs W) (hA : RL W a A c) (_ : ∀ x ∈ a, Slack 4096 x) (hB : RL W b A' c') (_ : ∀ x ∈ b, Slack 4096 x) (hD : RB W A2 d) :
    Calls Tryd.prog 17 #[.slice A a.length c, .slice A' b.length c', .slice A2 d.length c2] W fun e w' => e = .returned (.bool true) ∧ Below W.heap.size W w' := keyOrder_c a A c b A' c' d A2 c2 W hT hA hB hD
end Go.Proofs.YthfejpldhemakaaDoor
