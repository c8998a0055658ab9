import Derived.Test.YthfejpldhemakaaDoorKc
import Derived.Test.YthfejpldhemakaaDoorPl
import Derived.Test.YthfejpldhemakaaDoorNm
import Derived.Test.YthfejpldhemakaaDoorE
namespace Go.Proofs.YthfejpldhemakaaDoor
open Go.RowKit Go.Sort Go.Maps
set_option maxRecDepth 100000 in
set_option maxHeartbeats 1000000 in
theorem walk_c (v : V) : ∀ (deep : Int) (cs : List Value) (w : World), Tabs w → RV w v cs → 0 ≤ deep → deep ≤ 21 →
    Calls Tryd.prog 63 #[.agg cs.toArray, .int .i64 deep] w fun e w' => e = .returned (.int .i64 (checkV v deep)) ∧ Below w.heap.size w w' := by
  induction v using V.ind with
  | h k i t l d ihl ihd =>
    intro deep cs w hT hv h0 h1
    obtain ⟨A, c, A', c', rfl, hk, hi, ht, hA, hD⟩ := hv.inv
    by_cases hdp : (k = 5 ∨ k = 6) ∧ 20 < deep
    · have H := Lib.hid (show checkV (.mk k i t l d) deep = 12 by rw [checkV, if_pos hdp])
      obtain ⟨hk56, hd20⟩ := hdp
      rcases hk56 with rfl | rfl
      all_goals
        clear ihl ihd hA hD hv
        go_enter Tryd.func63, Tryd.ntmps63
        go_wp2_with fail
        go_ret
        exact ⟨ret_int H.out.symm, below_alloc1 _ _⟩
    have hw := fun o => plain_c k i t l.length d.length A A' c c' (w.alloc o) (hT.grow (below_alloc1 w o)) ht
    obtain ⟨q, hq⟩ : ∃ q, decide (WrongP k i t l.length d.length) = q := ⟨_, rfl⟩
    simp only [hq] at hw
    have hfirst : (k == 5) = false ∧ (k == 6) = false ∨ (k = 5 ∧ deep ≤ 20) ∨ (k = 6 ∧ deep ≤ 20) := by
      by_cases a : k = 5
      · exact .inr (.inl ⟨a, by omega⟩)
      by_cases b : k = 6
      · exact .inr (.inr ⟨b, by omega⟩)
      exact .inl ⟨by simpa using a, by simpa using b⟩
    cases q
    case true =>
      have H := Lib.hid (show checkV (.mk k i t l d) deep = 10 by rw [checkV, if_neg hdp, if_pos (by simpa using hq)])
      clear ihl ihd hA hD hv hq hdp
      rcases hfirst with ⟨f5, f6⟩ | ⟨rfl, hd⟩ | ⟨rfl, hd⟩
      all_goals
        go_enter Tryd.func63, Tryd.ntmps63
        go_wp2_with fail
        refine (hw _).mono ?_
        rintro e w1 ⟨rfl, hb1⟩
        go_wp2_with fail
        go_ret
        exact ⟨ret_int H.out.symm, below2 (below_alloc1 _ _) hb1⟩
    case false =>
      have hnw : ¬ WrongP k i t l.length d.length := by simpa using hq
      have hl6 : 0 < l.length → k = 6 := by
        intro hl
        apply Classical.byContradiction
        intro h
        exact hnw (.inr (.inr (.inr (.inr (.inl ⟨h, hl⟩)))))
      have hd5 : 0 < d.length → k = 5 := by
        intro hl
        apply Classical.byContradiction
        intro h
        exact hnw (.inr (.inr (.inr (.inl ⟨h, hl⟩))))
      have hld : 0 < l.length → deep ≤ 20 := fun h => by have := hl6 h; omega
      have hdd : 0 < d.length → deep ≤ 20 := fun h => by have := hd5 h; omega
      have HV := Lib.hid (show checkV (.mk k i t l d) deep = if checkL l (deep + 1) ≠ 0 then checkL l (deep + 1) else checkD [] d (deep + 1) by rw [checkV, if_neg hdp, if_neg hnw])
      have hA0 := hA.1
      have hD0 := hD.1
      have HLD := Lib.hid hld
      have HDD := Lib.hid hdd
      clear hv hq hdp hnw hl6 hd5 hld hdd
      rcases hfirst with ⟨f5, f6⟩ | ⟨rfl, hd⟩ | ⟨rfl, hd⟩
      all_goals
        go_enter Tryd.func63, Tryd.ntmps63
        go_wp2_with fail
        refine (hw _).mono ?_
        rintro e w1 ⟨rfl, hb1⟩
        have hbx3 := cell_grow hb1 (box_cell 3 _ rfl)
        have hbx4 := cell_grow hb1 (box_cell 4 _ rfl)
        have hbw := below2 (below_alloc1 _ _) hb1
        go_wp2_with fail
        go_loopw [6] (fun ix wr => ∃ j : Nat, j ≤ l.length ∧ ix = .int .i64 j ∧ Hid (checkL (l.drop j) (deep + 1) = checkL l (deep + 1)) ∧ Below w1.heap.size w1 wr) (fun ix _ => l.length - (intOf ix).toNat)
        case atStart => exact ⟨0, by omega, rfl, Lib.hid rfl, Below.refl _ _⟩
        case round =>
          obtain ⟨j, hj, rfl, hrec, hb⟩ := hrel
          have z3 := cell_grow hb hbx3
          by_cases hlt : j < l.length
          · have hdeep := HLD.out (by omega)
            obtain ⟨b, off, a0, n0, a1, n1, rfl, hrv, f0, f1, f2, f3, f4⟩ := (hA.grow (below2 hbw hb)).get j hlt
            have Hst := Lib.hid (checkL_step hlt (deep + 1))
            have hih := ihl l[j] (List.getElem_mem hlt) (deep + 1) _ _ (hT.grow (below2 hbw hb)) hrv (by omega) (by omega)
            by_cases hz : checkV l[j] (deep + 1) = 0
            · have HZ := Lib.hid hz
              rw [hz] at hih
              clear hz ihl ihd hA hD
              go_wp2_with (go_at_call 63; refine hih.mono ?_; rintro e w2 ⟨rfl, hb2⟩)
              go_roundw
              case rel => exact ⟨j + 1, by omega, by go_num, Lib.hid (by rw [← hrec.out, Hst.out, if_neg (by simpa using HZ.out)]), below2 hb hb2⟩
              case measure => simp [intOf]; omega
            · have HZ := Lib.hid hz
              have hzb : (checkV l[j] (deep + 1) != 0) = true := by simpa using hz
              clear ihl ihd hA hD
              go_wp2_with (go_at_call 63; refine hih.mono ?_; rintro e w2 ⟨rfl, hb2⟩)
              go_ret
              exact ⟨ret_int (by rw [HV.out, ← hrec.out, Hst.out, if_pos HZ.out, if_pos HZ.out]), below2 (below2 hbw hb) hb2⟩
          · obtain rfl : j = l.length := by omega
            have HV2 := Lib.hid (show checkV (.mk _ i t l d) deep = checkD [] d (deep + 1) by rw [HV.out, if_neg (by rw [← hrec.out]; simp [checkL])])
            have hbx4' := cell_grow hb hbx4
            have hbw' := below2 hbw hb
            clear ihl hA hb hbx3 hbx4 HV hrec
            go_wp2_with fail
            clear z3
            obtain ⟨wo, hwo⟩ : ∃ wo : World, wo = wr := ⟨_, rfl⟩
            rw [← hwo] at hbx4' hbw' ⊢
            clear hwo
            go_loopw [8] (fun ix wr => ∃ j : Nat, j ≤ d.length ∧ ix = .int .i64 j ∧ Hid (checkD ((d.take j).map (·.1)) (d.drop j) (deep + 1) = checkD [] d (deep + 1)) ∧ Below wo.heap.size wo wr) (fun ix _ => d.length - (intOf ix).toNat)
            case atStart => exact ⟨0, by omega, rfl, Lib.hid rfl, Below.refl _ _⟩
            case round =>
              obtain ⟨j, hj, rfl, hrec, hb⟩ := hrel
              have hbr := below2 hbw' hb
              have z4 := cell_grow hb hbx4'
              by_cases hlt : j < d.length
              · have hdeep := HDD.out (by omega)
                obtain ⟨b, off, a0, n0, a1, n1, rfl, hnm, hrv, g0, g1, g2, g3, g4, g5⟩ := (hD.grow hbr).get j hlt
                have Hst := Lib.hid (checkD_step hlt ((d.take j).map (·.1)) (deep + 1))
                obtain ⟨ok, hok⟩ : ∃ ok, nameOk d[j].1 = ok := ⟨_, rfl⟩
                have hnc := rname_c d[j].1 wr (hT.grow hbr) hnm
                rw [hok] at hnc
                have HOK := Lib.hid hok
                clear hok
                go_wp2_with (go_at_call 96; refine hnc.mono ?_; rintro e w2 ⟨rfl, hb2⟩)
                have hbr2 := below2 hbr hb2
                have y4 := cell_grow hb2 z4
                go_loopw [9, 10] (fun ov ix wr => ∃ (m : Nat) (b : Bool), m ≤ j ∧ ov = .bool b ∧ ix = .int .i64 m ∧ Hid (b = (ok && decide (¬ d[j].1 ∈ (d.take m).map (·.1)))) ∧ Below w2.heap.size w2 wr) (fun _ ix _ => j - (intOf ix).toNat)
                case atStart => exact ⟨0, ok, by omega, rfl, rfl, Lib.hid (by simp), Below.refl _ _⟩
                case round =>
                  obtain ⟨m, b, hm, rfl, rfl, hrb, hb3⟩ := hrel
                  have hbr3 := below2 hbr2 hb3
                  have x4 := cell_grow hb3 y4
                  by_cases hmj : m < j
                  · obtain ⟨b', off', a0', n0', a1', n1', he', _, _, f0, _, _, _, _, _⟩ := (hD.grow hbr3).get m (by omega)
                    obtain ⟨b'', off'', a0'', n0'', a1'', n1'', he'', _, _, s0, _, _, _, _, _⟩ := (hD.grow hbr3).get j hlt
                    injection he' with he'
                    injection he' with e1 e2
                    subst e1 e2
                    injection he'' with he''
                    injection he'' with e1 e2
                    subst e1 e2
                    have hm63 : m < d.length := by omega
                    have htk : (d.take (m + 1)).map (·.1) = (d.take m).map (·.1) ++ [d[m].1] := by rw [List.take_succ_eq_append_getElem hm63, List.map_append]; rfl
                    have HTK := Lib.hid htk
                    clear htk ihd hD g0 g1 g2 g3 g4 g5 hrv
                    cases b
                    case false =>
                      go_wp2_with fail
                      go_quiet (fail)
                      go_wp2_with fail
                      go_roundw
                      case rel => exact ⟨m + 1, _, by omega, rfl, by go_num, Lib.hid (by
                        have := hrb.out
                        rw [HTK.out]
                        cases ok
                        · rfl
                        · simp at this
                          simp [this]), drewN_below2 hb3 nq⟩
                      case measure => simp [intOf]; omega
                    case true =>
                      by_cases hne : d[m].1 = d[j].1
                      · have heq := str_eq' hne
                        have HN := Lib.hid hne
                        clear hne
                        go_wp2_with fail
                        go_quiet (fail)
                        go_wp2_with fail
                        go_roundw
                        case rel => exact ⟨m + 1, _, by omega, rfl, by go_num, Lib.hid (by rw [HTK.out]; simp [HN.out]), drewN_below2 hb3 nq⟩
                        case measure => simp [intOf]; omega
                      · have hnb : (d[m].1.toList == d[j].1.toList) = false := beq_eq_false_iff_ne.2 (list_ne hne)
                        have HN := Lib.hid hne
                        clear hne
                        go_wp2_with fail
                        go_quiet (fail)
                        go_wp2_with fail
                        go_roundw
                        case rel => exact ⟨m + 1, _, by omega, rfl, by go_num, Lib.hid (by
                          have := hrb.out
                          rw [HTK.out]
                          have hx : ¬ d[j].1 = d[m].1 := fun h => HN.out h.symm
                          cases ok
                          · simp at this
                          · simp at this
                            simp [this, hx]), drewN_below2 hb3 nq⟩
                        case measure => simp [intOf]; omega
                  · obtain rfl : m = j := by omega
                    have HB := Lib.hid (show b = (nameOk d[m].1 && decide (¬ d[m].1 ∈ (d.take m).map (·.1))) by rw [HOK.out]; exact hrb.out)
                    cases b
                    case false =>
                      clear ihd
                      go_wp2_with fail
                      go_ret
                      exact ⟨ret_int (by
                        rw [HV2.out, ← hrec.out, Hst.out, if_pos]
                        have h2 := HB.out
                        rcases Classical.em (d[m].1 ∈ (d.take m).map (·.1)) with hin | hin
                        · exact .inl hin
                        · rw [decide_eq_true hin, Bool.and_true] at h2
                          exact .inr h2.symm), hbr3⟩
                    case true =>
                      have HNO : Hid (¬ (d[m].1 ∈ (d.take m).map (·.1) ∨ nameOk d[m].1 = false)) := Lib.hid (fun h => by
                        have h2 := HB.out.symm
                        rw [Bool.and_eq_true] at h2
                        rcases h with h | h
                        · exact of_decide_eq_true h2.2 h
                        · rw [h] at h2
                          cases h2.1)
                      replace g1 := cell_grow (below2 hb2 hb3) g1
                      replace g2 := cell_grow (below2 hb2 hb3) g2
                      replace g3 := cell_grow (below2 hb2 hb3) g3
                      replace g4 := cell_grow (below2 hb2 hb3) g4
                      replace g5 := cell_grow (below2 hb2 hb3) g5
                      have hih := ihd d[m] (List.getElem_mem hlt) (deep + 1) _ _ (hT.grow hbr3) (hrv.grow (below2 hb2 hb3)) (by omega) (by omega)
                      clear ihd hD g0 z4 y4
                      by_cases hz : checkV d[m].2 (deep + 1) = 0
                      · have HZ := Lib.hid hz
                        rw [hz] at hih
                        clear hz
                        go_wp2_with (go_at_call 63; refine hih.mono ?_; rintro e w4 ⟨rfl, hb4⟩)
                        go_roundw
                        case rel =>
                          have htk : (d.take (m + 1)).map (·.1) = (d.take m).map (·.1) ++ [d[m].1] := by rw [List.take_succ_eq_append_getElem hlt, List.map_append]; rfl
                          exact ⟨m + 1, by omega, by go_num, Lib.hid (by rw [← hrec.out, Hst.out, if_neg HNO.out, if_neg (by simpa using HZ.out), htk]), below2 (below2 hb (below2 hb2 hb3)) hb4⟩
                        case measure => simp [intOf]; omega
                      · have HZ := Lib.hid hz
                        have hzb : (checkV d[m].2 (deep + 1) != 0) = true := by simpa using hz
                        clear hz
                        go_wp2_with (go_at_call 63; refine hih.mono ?_; rintro e w4 ⟨rfl, hb4⟩)
                        go_ret
                        exact ⟨ret_int (by rw [HV2.out, ← hrec.out, Hst.out, if_neg HNO.out, if_pos HZ.out]), below2 hbr3 hb4⟩
              · obtain rfl : j = d.length := by omega
                clear ihd hD
                go_wp2_with fail
                go_ret
                exact ⟨ret_int (by rw [HV2.out, ← hrec.out]; simp [checkD]), hbr⟩
end Go.Proofs.YthfejpldhemakaaDoor
