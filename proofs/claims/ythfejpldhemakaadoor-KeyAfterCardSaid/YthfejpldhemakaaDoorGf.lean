import Derived.Test.YthfejpldhemakaaDoorG
import Derived.Test.YthfejpldhemakaaDoorCf
namespace Go.Proofs.YthfejpldhemakaaDoor
open Go.RowKit Go.Sort
set_option maxRecDepth 100000 in
set_option maxHeartbeats 1000000 in
theorem rget_c (v : V) (n : ByteArray) (cs : List Value) (w : World) (hv : RV w v cs) :
    Calls Tryd.prog 32 #[.agg cs.toArray, .string n] w (GetPost w (getV v n)) := by
  obtain ⟨k, i, t, l, d⟩ := v
  obtain ⟨A, c, A', c', rfl, hk, hi, ht, hA, hD⟩ := hv.inv
  have hz : ∀ x y, (((w.alloc x).alloc (.cells zero5 25)).alloc y).heap[w.heap.size + 1]? = some (.cells zero5 25 (0, 0)) := by
    intro x y
    rw [heap_alloc_old _ _ (by simp)]
    exact heap2_second w x _ 0
  by_cases h5 : k = 5
  case neg =>
    have H := Lib.hid (show getV (.mk k i t l d) n = none by rw [getV, if_neg h5])
    have hb : (k == 5) = false := by simpa using h5
    clear h5 hv hA hD hz
    go_enter Tryd.func32, Tryd.ntmps32
    go_wp2_with fail
    refine bodyPost_ret (v := .tuple #[.agg zero5, .bool false]) (by simp [results, Tryd.results32, go_sem, zero5]) rfl ?_
    rw [H.out]
    exact ⟨below_alloc2 _ _ _, rfl⟩
  subst h5
  have HG := Lib.hid (show getV (.mk 5 i t l d) n = getD d n by rw [getV, if_pos rfl])
  have hd0 := hD.1
  clear hv hA
  go_enter Tryd.func32, Tryd.ntmps32
  go_wp2_with fail
  generalize hW0 : World.alloc (w.alloc _) _ = W0
  have hb0 : Below w.heap.size w W0 := by rw [← hW0]; exact below_alloc2 _ _ _
  have hk0 : W0.heap[w.heap.size + 1]? = some (.cells zero5 25 (0, 0)) := by rw [← hW0]; exact heap2_second _ _ _ 0
  have x4 : W0.cell? ⟨w.heap.size, 4, none⟩ = some (.slice A' d.length c') := by rw [← hW0]; exact cell_alloc1 (box_cell 4 _ rfl) _
  have hs0 : w.heap.size + 1 < W0.heap.size := block_lt hk0
  have H0 := Lib.hid hk0
  clear hk0 hW0 hz
  go_loopw [6] (fun ix wr => ∃ j : Nat, j ≤ d.length ∧ ix = .int .i64 j ∧ Hid (getD (d.drop j) n = getD d n) ∧ Below W0.heap.size W0 wr) (fun ix _ => d.length - (intOf ix).toNat)
  case atStart => exact ⟨0, by omega, rfl, Lib.hid rfl, Below.refl _ _⟩
  case round =>
    obtain ⟨j, hj, rfl, hrec, hb⟩ := hrel
    have hbw := below2 hb0 hb
    have hkr := (hb.block _ hs0).trans H0.out
    have z4 := cell_grow hb x4
    by_cases hlt : j < d.length
    · obtain ⟨b, off, a0, n0, a1, n1, rfl, hnm, hrv, f0, f1, f2, f3, f4, f5⟩ := (hD.grow hbw).get j hlt
      have Hst := Lib.hid (getD_step hlt n)
      by_cases he : d[j].1 = n
      · have heq := str_eq he
        have HE := Lib.hid he
        have hcl := rclone_c d[j].2 _ wr hrv
        have HK := Lib.hid hkr
        clear he hD hkr
        go_wp2_with fail
        refine hcl.mono ?_
        rintro e w1 ⟨cs', F, rfl, hov, hnd, hfr, hb1⟩
        obtain ⟨p0, q0, p1, q1, rfl⟩ := hov.rv.shape
        have hk1 := fun o => ((below2 hb1 (below_alloc1 w1 o)).block _ (block_lt HK.out)).trans HK.out
        unfold zero5 at hk1
        have r0 := fun o => cell_at (hk1 o) 0 _ rfl
        have r1 := fun o => cell_at (hk1 o) 1 _ rfl
        have r2 := fun o => cell_at (hk1 o) 2 _ rfl
        have r3 := fun o => cell_at (hk1 o) 3 _ rfl
        have r4 := fun o => cell_at (hk1 o) 4 _ rfl
        have g0 := fun o => free_at (hk1 o) 0
        have g1 := fun o => free_at (hk1 o) 1
        have g2 := fun o => free_at (hk1 o) 2
        have g3 := fun o => free_at (hk1 o) 3
        have g4 := fun o => free_at (hk1 o) 4
        have hsw := Lib.hid (show w.heap.size + 1 < wr.heap.size from block_lt HK.out)
        clear hk1
        go_wp2_with fail
        refine bodyPost_ret (v := .tuple #[.agg #[.int .i64 d[j].2.k, .int .i64 d[j].2.i, .string d[j].2.t, .slice p0 d[j].2.l.length q0, .slice p1 d[j].2.d.length q1], .bool true]) (by simp [results, Tryd.results32, go_sem, r0, r1, r2, r3, r4]) rfl ?_
        have hov2 := hov.grow (below_alloc1 w1 (.cells #[.int .i64 d[j].2.k, .int .i64 d[j].2.i, .string d[j].2.t, .slice p0 d[j].2.l.length q0, .slice p1 d[j].2.d.length q1] 25))
        have hb2 := below2 hb1 (below_alloc1 w1 (.cells #[.int .i64 d[j].2.k, .int .i64 d[j].2.i, .string d[j].2.t, .slice p0 d[j].2.l.length q0, .slice p1 d[j].2.d.length q1] 25))
        have ho := set5_only (w1.alloc (.cells #[.int .i64 d[j].2.k, .int .i64 d[j].2.i, .string d[j].2.t, .slice p0 d[j].2.l.length q0, .slice p1 d[j].2.d.length q1] 25)) (w.heap.size + 1) (.int .i64 d[j].2.k) (.int .i64 d[j].2.i) (.string d[j].2.t) (.slice p0 d[j].2.l.length q0) (.slice p1 d[j].2.d.length q1)
        refine ⟨(below2 hbw hb2).trans (ho.below (fun g hg => by omega) (below2 hbw hb2).size), ?_⟩
        rw [HG.out, ← hrec.out, Hst.out, if_pos HE.out]
        exact ⟨_, F, rfl, hov2.at_ fun g hg => ho.block g (hov2.lt g hg) (by have := hfr g hg; have := hsw.out; omega), hnd, fun g hg => by have := hfr g hg; have := hsw.out; omega⟩
      · have hne := str_ne he
        have HE := Lib.hid he
        clear he hD hkr
        go_wp2_with fail
        go_roundw
        case rel => exact ⟨j + 1, by omega, by go_num, Lib.hid (by rw [← hrec.out, Hst.out, if_neg HE.out]), hb⟩
        case measure => simp [intOf]; omega
    · obtain rfl : j = d.length := by omega
      unfold zero5 at hkr
      have r0 := cell_at hkr 0 _ rfl
      have r1 := cell_at hkr 1 _ rfl
      have r2 := cell_at hkr 2 _ rfl
      have r3 := cell_at hkr 3 _ rfl
      have r4 := cell_at hkr 4 _ rfl
      have g0 := free_at hkr 0
      have g1 := free_at hkr 1
      have g2 := free_at hkr 2
      have g3 := free_at hkr 3
      have g4 := free_at hkr 4
      clear hkr hD
      go_wp2_with fail
      refine bodyPost_ret (v := .tuple #[.agg zero5, .bool false]) (by simp [results, Tryd.results32, go_sem, r0, r1, r2, r3, r4, zero5]) rfl ?_
      have ho := set5_only wr (w.heap.size + 1) (.int .i64 0) (.int .i64 0) (.string ByteArray.empty) (.slice none 0 0) (.slice none 0 0)
      refine ⟨hbw.trans (ho.below (fun g hg => by omega) hbw.size), ?_⟩
      rw [HG.out, ← hrec.out]
      simp [getD]
end Go.Proofs.YthfejpldhemakaaDoor
