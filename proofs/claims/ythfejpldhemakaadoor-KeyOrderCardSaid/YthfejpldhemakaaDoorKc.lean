import Derived.Test.YthfejpldhemakaaDoorK
namespace Go.Proofs.YthfejpldhemakaaDoor
open Go.RowKit Go.Sort Go.Maps
theorem checkL_step {l : List V} {j : Nat} (h : j < l.length) (deep : Int) : checkL (l.drop j) deep = if checkV l[j] deep ≠ 0 then checkV l[j] deep else checkL (l.drop (j + 1)) deep := by
  rw [List.drop_eq_getElem_cons h, checkL]
theorem checkD_step {d : List (ByteArray × V)} {j : Nat} (h : j < d.length) (seen : List ByteArray) (deep : Int) : checkD seen (d.drop j) deep = if d[j].1 ∈ seen ∨ nameOk d[j].1 = false then 11 else if checkV d[j].2 deep ≠ 0 then checkV d[j].2 deep else checkD (seen ++ [d[j].1]) (d.drop (j + 1)) deep := by
  rw [List.drop_eq_getElem_cons h, checkD]
theorem law9 : Keyed Tryd.prog 9 := string_keyed Tryd.underlying9
theorem zero110 (w : World) : (zeroValue 110).run Tryd.prog w = .ok (.agg #[]) w := by kernel_rfl
theorem ownsMap_at {H : Type} {P : Program} {k : TypeId} {R : Value → Option (DataW H × List MemPlace)} {b n : Nat} {D : DataW H} {w w1 : World} (h : w.ownsMap P k R b n D) (hb : w1.heap[b]? = w.heap[b]?) : w1.ownsMap P k R b n D := by
  obtain ⟨es, clock, h1, h2⟩ := h
  exact ⟨es, clock, hb.trans h1, h2⟩
theorem ownsMap_lt {H : Type} {P : Program} {k : TypeId} {R : Value → Option (DataW H × List MemPlace)} {b n : Nat} {D : DataW H} {w : World} (h : w.ownsMap P k R b n D) : b < w.heap.size := by
  obtain ⟨es, clock, h1, h2⟩ := h
  exact block_lt h1
set_option maxRecDepth 100000 in
set_option maxHeartbeats 1000000 in
theorem check_c (v : V) : ∀ (deep : Int) (cs : List Value) (w : World), Tabs w → RV w v cs → 0 ≤ deep → deep ≤ 21 →
    Calls Tryd.prog 61 #[.agg cs.toArray, .int .i64 deep] w fun e w' => e = .returned (.int .i64 (checkV v deep)) ∧ Below w.heap.size w w' := by
  induction v using V.ind with
  | h k i t l d ihl ihd =>
    intro deep cs w hT hv h0 h1
    obtain ⟨A, c, A', c', rfl, hk, hi, ht, hA, hD⟩ := hv.inv
    have hmm := @run_makeMap Tryd.prog
    by_cases hdp : (k = 5 ∨ k = 6) ∧ 20 < deep
    · have H := Lib.hid (show checkV (.mk k i t l d) deep = 12 by rw [checkV, if_pos hdp])
      obtain ⟨hk56, hd20⟩ := hdp
      rcases hk56 with rfl | rfl
      all_goals
        clear ihl ihd hA hD hv hmm
        go_enter Tryd.func61, Tryd.ntmps61
        go_wp2_with fail
        go_ret
        exact ⟨ret_int H.out.symm, below_alloc1 _ _⟩
    have hw := fun o => wrong_c k i t l d A A' c c' (w.alloc o) (hT.grow (below_alloc1 w o)) ht
    obtain ⟨q, hq⟩ : ∃ q, decide (WrongP k i t l.length d.length) = q := ⟨_, rfl⟩
    simp only [hq] at hw
    have hfirst : (k == 5) = false ∧ (k == 6) = false ∨ (k = 5 ∧ deep ≤ 20) ∨ (k = 6 ∧ deep ≤ 20) := by
      by_cases a : k = 5
      · exact .inr (.inl ⟨a, by omega⟩)
      by_cases b : k = 6
      · exact .inr (.inr ⟨b, by omega⟩)
      exact .inl ⟨by simpa using a, by simpa using b⟩
    cases q
    case true =>
      have H := Lib.hid (show checkV (.mk k i t l d) deep = 10 by rw [checkV, if_neg hdp, if_pos (by simpa using hq)])
      clear ihl ihd hA hD hv hq hdp hmm
      rcases hfirst with ⟨f5, f6⟩ | ⟨rfl, hd⟩ | ⟨rfl, hd⟩
      all_goals
        go_enter Tryd.func61, Tryd.ntmps61
        go_wp2_with fail
        refine (hw _).mono ?_
        rintro e w1 ⟨rfl, hb1⟩
        go_wp2_with fail
        go_ret
        exact ⟨ret_int H.out.symm, below2 (below_alloc1 _ _) hb1⟩
    case false =>
      have hnw : ¬ WrongP k i t l.length d.length := by simpa using hq
      have hl6 : 0 < l.length → k = 6 := by
        intro hl
        apply Classical.byContradiction
        intro h
        exact hnw (.inr (.inr (.inr (.inr (.inl ⟨h, hl⟩)))))
      have hd5 : 0 < d.length → k = 5 := by
        intro hl
        apply Classical.byContradiction
        intro h
        exact hnw (.inr (.inr (.inr (.inl ⟨h, hl⟩))))
      have hld : 0 < l.length → deep ≤ 20 := fun h => by have := hl6 h; omega
      have hdd : 0 < d.length → deep ≤ 20 := fun h => by have := hd5 h; omega
      have HV := Lib.hid (show checkV (.mk k i t l d) deep = if checkL l (deep + 1) ≠ 0 then checkL l (deep + 1) else checkD [] d (deep + 1) by rw [checkV, if_neg hdp, if_neg hnw])
      have hA0 := hA.1
      have hD0 := hD.1
      have HLD := Lib.hid hld
      have HDD := Lib.hid hdd
      clear hv hq hdp hnw hl6 hd5 hld hdd
      rcases hfirst with ⟨f5, f6⟩ | ⟨rfl, hd⟩ | ⟨rfl, hd⟩
      all_goals
        go_enter Tryd.func61, Tryd.ntmps61
        go_wp2_with fail
        refine (hw _).mono ?_
        rintro e w1 ⟨rfl, hb1⟩
        have hbx3 := cell_grow hb1 (box_cell 3 _ rfl)
        have hbx4 := cell_grow hb1 (box_cell 4 _ rfl)
        have hbw := below2 (below_alloc1 _ _) hb1
        go_wp2_with fail
        go_loopw [31] (fun ix wr => ∃ j : Nat, j ≤ l.length ∧ ix = .int .i64 j ∧ Hid (checkL (l.drop j) (deep + 1) = checkL l (deep + 1)) ∧ Below w1.heap.size w1 wr) (fun ix _ => l.length - (intOf ix).toNat)
        case atStart => exact ⟨0, by omega, rfl, Lib.hid rfl, Below.refl _ _⟩
        case round =>
          obtain ⟨j, hj, rfl, hrec, hb⟩ := hrel
          by_cases hlt : j < l.length
          · have hdeep := HLD.out (by omega)
            obtain ⟨b, off, a0, n0, a1, n1, rfl, hrv, f0, f1, f2, f3, f4⟩ := (hA.grow (below2 hbw hb)).get j hlt
            have Hst := Lib.hid (checkL_step hlt (deep + 1))
            have hih := fun o => ihl l[j] (List.getElem_mem hlt) (deep + 1) _ _ ((hT.grow (below2 hbw hb)).grow (below_alloc1 wr o)) (hrv.grow (below_alloc1 wr o)) (by omega) (by omega)
            by_cases hz : checkV l[j] (deep + 1) = 0
            · have HZ := Lib.hid hz
              rw [hz] at hih
              clear hz ihl ihd hA hD hmm
              go_wp2_with (go_at_call 61; refine (hih _).mono ?_; rintro e w2 ⟨rfl, hb2⟩)
              go_roundw
              case rel => exact ⟨j + 1, by omega, by go_num, Lib.hid (by rw [← hrec.out, Hst.out, if_neg (by simpa using HZ.out)]), below2 (hb.alloc hb.size _) hb2⟩
              case measure => simp [intOf]; omega
            · have HZ := Lib.hid hz
              have hzb : (checkV l[j] (deep + 1) != 0) = true := by simpa using hz
              clear ihl ihd hA hD hmm
              go_wp2_with (go_at_call 61; refine (hih _).mono ?_; rintro e w2 ⟨rfl, hb2⟩)
              go_ret
              exact ⟨ret_int (by rw [HV.out, ← hrec.out, Hst.out, if_pos HZ.out, if_pos HZ.out]), below2 (below2 hbw (hb.alloc hb.size _)) hb2⟩
          · obtain rfl : j = l.length := by omega
            have HV2 := Lib.hid (show checkV (.mk _ i t l d) deep = checkD [] d (deep + 1) by rw [HV.out, if_neg (by rw [← hrec.out]; simp [checkL])])
            have hbx4' := cell_alloc1 (cell_grow hb hbx4)
            have hbw' := below2 hbw hb
            clear ihl hA hb hbx3 hbx4 HV hrec
            go_wp2_with fail
            generalize hWm : wr.alloc _ = Wm
            have hmap : Wm.ownsMap Tryd.prog 9 (unitElem (H := Unit)) wr.heap.size 0 (M []) := by rw [← hWm]; exact World.ownsMap_made _ _ _ _
            have hbm : Below w.heap.size w Wm := by rw [← hWm]; exact hbw'.alloc hbw'.size _
            have hsm : w.heap.size ≤ wr.heap.size := hbw'.size
            obtain ⟨mb, hmb⟩ : ∃ mb, wr.heap.size = mb := ⟨_, rfl⟩
            rw [hmb] at hmap hsm ⊢
            have HM := Lib.hid hmap
            clear hWm hmap hmb hbw' hbx4'
            go_loopw [47] (fun ix wr => ∃ j : Nat, j ≤ d.length ∧ ix = .int .i64 j ∧ Hid (checkD ((d.take j).map (·.1)) (d.drop j) (deep + 1) = checkD [] d (deep + 1) ∧ wr.ownsMap Tryd.prog 9 (unitElem (H := Unit)) mb j (M ((d.take j).map (·.1)))) ∧ Only (· = mb) Wm wr) (fun ix _ => d.length - (intOf ix).toNat)
            case atStart => exact ⟨0, by omega, rfl, Lib.hid ⟨rfl, HM.out⟩, Only.refl _ _⟩
            case round =>
              obtain ⟨j, hj, rfl, hrec, ho⟩ := hrel
              by_cases hlt : j < d.length
              · have hdeep := HDD.out (by omega)
                have hbr : Below w.heap.size w wr := hbm.trans (ho.below (fun g hg => by omega) hbm.size)
                obtain ⟨b, off, a0, n0, a1, n1, rfl, hnm, hrv, g0, g1, g2, g3, g4, g5⟩ := hD.get j hlt
                have f0 := cell_grow hbr g0
                have f1 := cell_grow hbr g1
                have f2 := cell_grow hbr g2
                have f3 := cell_grow hbr g3
                have f4 := cell_grow hbr g4
                have f5 := cell_grow hbr g5
                clear g0 g1 g2 g3 g4 g5
                have Hst := Lib.hid (checkD_step hlt ((d.take j).map (·.1)) (deep + 1))
                have hkey : keyOf Tryd.prog 9 (.string d[j].1) = some (.string d[j].1.data.toList) := WideMaps.keyOf_string_mk Tryd.underlying9 (by unfold maxLen; omega)
                have hih := ihd d[j] (List.getElem_mem hlt) (deep + 1)
                have hmlt : mb < wr.heap.size := ownsMap_lt hrec.out.2
                have hmne : wr.heap.size ≠ mb := by omega
                obtain ⟨D, hDD⟩ : ∃ D, M ((d.take j).map (·.1)) = D := ⟨_, rfl⟩
                have hown := hrec.out.2
                rw [hDD] at hown
                have HDD2 := Lib.hid hDD
                have hown1 := hown.alloc
                clear ihd hD hDD
                by_cases hin : d[j].1 ∈ (d.take j).map (·.1)
                · have hhas : has D (.string d[j].1.data.toList) = true := by rw [← HDD2.out, has_M]; simpa using hin
                  have HIN := Lib.hid hin
                  clear hin
                  go_wp2_with (at_lookup; refine wpList_lookup_own_unit _ rfl _ _ 109 rfl 9 110 law9 Tryd.underlying109 (zero110 _) mb j _ rfl (hown1 _) _ _ rfl hkey ?_)
                  go_ret
                  exact ⟨ret_int (by rw [HV2.out, ← hrec.out.1, Hst.out, if_pos (.inl HIN.out)]), (hbr.alloc hbr.size _).alloc (by have := hbr.size; simp; omega) _⟩
                · have hhas : has D (.string d[j].1.data.toList) = false := by rw [← HDD2.out, has_M]; simpa using hin
                  have HIN := Lib.hid hin
                  clear hin
                  go_wp2_with (at_lookup; refine wpList_lookup_own_unit _ rfl _ _ 109 rfl 9 110 law9 Tryd.underlying109 (zero110 _) mb j _ rfl (hown1 _) _ _ rfl hkey ?_)
                  refine (name_c d[j].1 _ (hT.grow (below2 hbr (below_alloc2 wr _ _))) hnm).mono ?_
                  rintro e w2 ⟨rfl, hb2⟩
                  have hb2w := below2 (below2 hbr (below_alloc2 wr _ _)) hb2
                  have q0 := cell_grow hb2 (cell_alloc1 (box_cell 0 _ rfl) _)
                  have q1 := cell_grow hb2 (cell_alloc1 (box_cell 1 _ rfl) _)
                  have q2 := cell_grow hb2 (cell_alloc1 (box_cell 2 _ rfl) _)
                  have q3 := cell_grow hb2 (cell_alloc1 (box_cell 3 _ rfl) _)
                  have q4 := cell_grow hb2 (cell_alloc1 (box_cell 4 _ rfl) _)
                  have q5 := cell_grow hb2 (cell_alloc1 (box_cell 5 _ rfl) _)
                  have hown2 := Lib.hid (ownsMap_at ((hown1 _).alloc _) (hb2.block mb (by simp; omega)))
                  have o2 := Lib.hid ((ho.trans (Only.of_below (S := (· = mb)) (below_alloc2 wr _ _)) (fun _ _ h => h)).trans (Only.of_below (S := (· = mb)) hb2) (fun _ _ h => h))
                  obtain ⟨ok, hok⟩ : ∃ ok, nameOk d[j].1 = ok := ⟨_, rfl⟩
                  rw [hok]
                  have HOK := Lib.hid hok
                  clear hok hown1 hown
                  cases ok
                  case false =>
                    go_wp2_with fail
                    go_ret
                    exact ⟨ret_int (by rw [HV2.out, ← hrec.out.1, Hst.out, if_pos (.inr HOK.out)]), hb2w⟩
                  case true =>
                    have HNO : Hid (¬ (d[j].1 ∈ (d.take j).map (·.1) ∨ nameOk d[j].1 = false)) := Lib.hid (fun h => h.elim HIN.out (fun h => by rw [HOK.out] at h; cases h))
                    go_wp2_with (at_mapUpdate; refine wpList_mapUpdate_own _ rfl _ _ _ 109 rfl 9 110 law9 Tryd.underlying109 (unitElem (H := Unit)) mb j _ rfl hown2.out (by unfold maxLen; omega) _ _ _ rfl rfl hkey _ [] unitElem_mk ?_; intro w3 hown3 hgrow3; have t0 := (Only.of_grown hgrow3).cell q0 (by simp; omega); have t1 := (Only.of_grown hgrow3).cell q1 (by simp; omega); have t2 := (Only.of_grown hgrow3).cell q2 (by simp; omega); have t3 := (Only.of_grown hgrow3).cell q3 (by simp; omega); have t4 := (Only.of_grown hgrow3).cell q4 (by simp; omega); have t5 := (Only.of_grown hgrow3).cell q5 (by simp; omega))
                    have HO3 := Lib.hid hown3
                    have o3 := Lib.hid (o2.out.trans (Only.of_grown hgrow3) (fun g _ h => by injection h))
                    have hb3w : Below w.heap.size w w3 := hbm.trans (o3.out.below (fun g hg => by omega) hbm.size)
                    clear hown3 q0 q1 q2 q3 q4 q5
                    by_cases hz : checkV d[j].2 (deep + 1) = 0
                    · have HZ := Lib.hid hz
                      rw [hz] at hih
                      clear hz
                      refine (hih _ _ (hT.grow hb3w) (hrv.grow hb3w) (by omega) (by omega)).mono ?_
                      rintro e w4 ⟨rfl, hb4⟩
                      go_wp2_with fail
                      go_roundw
                      case rel =>
                        have htk : (d.take (j + 1)).map (·.1) = (d.take j).map (·.1) ++ [d[j].1] := by rw [List.take_succ_eq_append_getElem hlt, List.map_append]; rfl
                        refine ⟨j + 1, by omega, by go_num, Lib.hid ⟨?_, ?_⟩, o3.out.trans (Only.of_below (S := (· = mb)) hb4) (fun _ _ h => h)⟩
                        · rw [← hrec.out.1, Hst.out, if_neg HNO.out, if_neg (by simpa using HZ.out), htk]
                        · rw [htk, M_snoc, HDD2.out]
                          exact ownsMap_at HO3.out (hb4.block mb (ownsMap_lt HO3.out))
                      case measure => simp [intOf]; omega
                    · have HZ := Lib.hid hz
                      have hzb : (checkV d[j].2 (deep + 1) != 0) = true := by simpa using hz
                      refine (hih _ _ (hT.grow hb3w) (hrv.grow hb3w) (by omega) (by omega)).mono ?_
                      rintro e w4 ⟨rfl, hb4⟩
                      go_wp2_with fail
                      go_ret
                      exact ⟨ret_int (by rw [HV2.out, ← hrec.out.1, Hst.out, if_neg HNO.out, if_pos HZ.out]), below2 hb3w hb4⟩
              · obtain rfl : j = d.length := by omega
                clear ihd hD
                go_wp2_with fail
                go_ret
                exact ⟨ret_int (by rw [HV2.out, ← hrec.out.1]; simp [checkD]), hbm.trans (ho.below (fun g hg => by omega) hbm.size)⟩
/-- The whole: too big, or what is wrong first. -/
def rightV (v : V) : Int := if sizeV v ≤ 65536 then checkV v 1 else 3
set_option maxHeartbeats 400000 in
theorem right_c (v : V) (cs : List Value) (w : World) (hT : Tabs w) (hv : RV w v cs) :
    Calls Tryd.prog 21 #[.agg cs.toArray] w fun e w' => e = .returned (.int .i64 (rightV v)) ∧ Below w.heap.size w w' := by
  obtain ⟨a0, n0, a1, n1, rfl⟩ := hv.shape
  have hs := fun o => size_c v _ _ (hT.grow (below_alloc1 w o)) (hv.grow (below_alloc1 w o))
  by_cases h : sizeV v ≤ 65536
  · have hc := fun o w1 (hb : Below (w.alloc o).heap.size (w.alloc o) w1) => check_c v 1 _ w1 (hT.grow (below2 (below_alloc1 w o) hb)) (hv.grow (below2 (below_alloc1 w o) hb)) (by omega) (by omega)
    have H := Lib.hid (show rightV v = checkV v 1 by rw [rightV, if_pos h])
    simp only [if_pos h] at hs
    have hsz : (sizeV v : Int) ≤ 65536 := by omega
    clear h
    go_enter Tryd.func21, Tryd.ntmps21
    go_wp2_with fail
    refine (hs _).mono ?_
    rintro e w1 ⟨rfl, hb1⟩
    have k0 := cell_grow hb1 (box_cell 0 _ rfl)
    have k1 := cell_grow hb1 (box_cell 1 _ rfl)
    have k2 := cell_grow hb1 (box_cell 2 _ rfl)
    have k3 := cell_grow hb1 (box_cell 3 _ rfl)
    have k4 := cell_grow hb1 (box_cell 4 _ rfl)
    go_wp2_with fail
    refine (hc _ _ hb1).mono ?_
    rintro e w2 ⟨rfl, hb2⟩
    go_wp2_with fail
    go_ret
    exact ⟨ret_int H.out.symm, below2 (below2 (below_alloc1 _ _) hb1) hb2⟩
  · have H := Lib.hid (show rightV v = 3 by rw [rightV, if_neg h])
    simp only [if_neg h] at hs
    clear h
    go_enter Tryd.func21, Tryd.ntmps21
    go_wp2_with fail
    refine (hs _).mono ?_
    rintro e w1 ⟨rfl, hb1⟩
    go_wp2_with fail
    go_ret
    exact ⟨ret_int H.out.symm, below2 (below_alloc1 _ _) hb1⟩
end Go.Proofs.YthfejpldhemakaaDoor
