import Derived.Test.YthfejpldhemakaaDoorA
import Derived.Test.YthfejpldhemakaaDoorLn
import Derived.Test.YthfejpldhemakaaDoorKp
import Derived.Test.YthfejpldhemakaaDoorRf
import Derived.Test.YthfejpldhemakaaDoorWk
namespace Go.Proofs.YthfejpldhemakaaDoor
open Go.RowKit Go.Sort
/-- A value's size, as Size tells it. -/
def sizeI (v : V) : Int := if sizeV v ≤ 65536 then (sizeV v : Int) else 65537
set_option maxHeartbeats 400000 in
theorem rsize_c (v : V) (cs : List Value) (w : World) (hv : RV w v cs) :
    Calls Tryd.prog 25 #[.agg cs.toArray] w fun e w' => e = .returned (.int .i64 (sizeI v)) ∧ Below w.heap.size w w' := by
  obtain ⟨a0, n0, a1, n1, rfl⟩ := hv.shape
  have hc := fun o => left_c v 65536 _ (w.alloc o) (hv.grow (below_alloc1 w o)) (by omega) (by omega)
  obtain ⟨q, hq⟩ : ∃ q, leftV v 65536 = q := ⟨_, rfl⟩
  have hsz := left_size v 65536 (by omega)
  have hup := left_up v 65536
  have hlo := left_low hv 65536
  simp only [hq] at hc hsz hup hlo
  have HS : Hid (sizeI v = if q < 0 then 65537 else 65536 - q) := Lib.hid (by
    unfold sizeI
    by_cases h : sizeV v ≤ 65536
    · rw [if_pos h]
      have := hsz.1 (by omega)
      rw [if_neg (by omega)]
      omega
    · rw [if_neg h, if_pos (hsz.2 (by omega))])
  have hq0 := hlo.1 (by omega)
  have hq1 : q ≤ 65536 := by omega
  clear hsz hup hlo hq
  by_cases hneg : q < 0
  all_goals
    go_enter Tryd.func25, Tryd.ntmps25
    go_wp2_with fail
    refine (hc _).mono ?_
    rintro e w1 ⟨rfl, hb1⟩
    go_wp2_with fail
    go_ret
    exact ⟨ret_int (by rw [HS.out]; split <;> omega), below2 (below_alloc1 _ _) hb1⟩
set_option maxHeartbeats 400000 in
theorem rright_c (v : V) (cs : List Value) (w : World) (hT : Tabs w) (hv : RV w v cs) :
    Calls Tryd.prog 24 #[.agg cs.toArray] w fun e w' => e = .returned (.int .i64 (rightV v)) ∧ Below w.heap.size w w' := by
  obtain ⟨a0, n0, a1, n1, rfl⟩ := hv.shape
  have hs := fun o => rsize_c v _ _ (hv.grow (below_alloc1 w o))
  by_cases h : sizeV v ≤ 65536
  · have hc := fun o w1 (hb : Below (w.alloc o).heap.size (w.alloc o) w1) => walk_c v 1 _ w1 (hT.grow (below2 (below_alloc1 w o) hb)) (hv.grow (below2 (below_alloc1 w o) hb)) (by omega) (by omega)
    have H := Lib.hid (show rightV v = checkV v 1 by rw [rightV, if_pos h])
    simp only [sizeI, if_pos h] at hs
    have hsz : (sizeV v : Int) ≤ 65536 := by omega
    clear h
    go_enter Tryd.func24, Tryd.ntmps24
    go_wp2_with fail
    refine (hs _).mono ?_
    rintro e w1 ⟨rfl, hb1⟩
    have k0 := cell_grow hb1 (box_cell 0 _ rfl)
    have k1 := cell_grow hb1 (box_cell 1 _ rfl)
    have k2 := cell_grow hb1 (box_cell 2 _ rfl)
    have k3 := cell_grow hb1 (box_cell 3 _ rfl)
    have k4 := cell_grow hb1 (box_cell 4 _ rfl)
    go_wp2_with fail
    refine (hc _ _ hb1).mono ?_
    rintro e w2 ⟨rfl, hb2⟩
    go_wp2_with fail
    go_ret
    exact ⟨ret_int H.out.symm, below2 (below2 (below_alloc1 _ _) hb1) hb2⟩
  · have H := Lib.hid (show rightV v = 3 by rw [rightV, if_neg h])
    simp only [sizeI, if_neg h] at hs
    clear h
    go_enter Tryd.func24, Tryd.ntmps24
    go_wp2_with fail
    refine (hs _).mono ?_
    rintro e w1 ⟨rfl, hb1⟩
    go_wp2_with fail
    go_ret
    exact ⟨ret_int H.out.symm, below2 (below_alloc1 _ _) hb1⟩
set_option maxHeartbeats 1000000 in
theorem rights_c (a : V) (ca : List Value) (w : World) (hT : Tabs w) (ha : RV w a ca) :
    Calls Tryd.prog 3 #[.agg ca.toArray] w fun e w' => e = .returned (.bool true) ∧ Below w.heap.size w w' := by
  obtain ⟨p0, q0, p1, q1, rfl⟩ := ha.shape
  obtain ⟨r, hr⟩ : ∃ r, rightV a = r := ⟨_, rfl⟩
  obtain ⟨z, hz⟩ : ∃ z, sizeI a = z := ⟨_, rfl⟩
  have h21 := fun cs w => right_c a cs w
  have h22 := fun cs w => size_c a cs w
  have h24 := fun cs w => rright_c a cs w
  have h25 := fun cs w => rsize_c a cs w
  simp only [show (if sizeV a ≤ 65536 then (sizeV a : Int) else 65537) = sizeI a from rfl] at h22
  simp only [hr, hz] at h21 h22 h24 h25
  clear hr hz
  go_enter Tryd.func3, Tryd.ntmps3
  go_wp2_with fail
  generalize hW0 : World.alloc w _ = W0
  have b0 : Below w.heap.size w W0 := by rw [← hW0]; exact below_alloc1 _ _
  have hs0 : W0.heap.size = w.heap.size + 1 := by rw [← hW0]; simp
  have B1 := Box.of (show W0.heap[w.heap.size]? = _ by rw [← hW0, heap_alloc_new])
  clear hW0
  refine (awake_c W0 (hT.grow b0)).mono ?_
  rintro e w1 ⟨rfl, d1⟩
  have b1 := below2 b0 d1
  have s1 := d1.size
  have B1' := Lib.hid (B1.grow d1)
  clear B1
  obtain ⟨x0, x1, x2, x3, x4⟩ := B1'.out
  go_wp2_with fail
  refine (lent_c a _ w1 (ha.grow b1)).mono ?_
  rintro e w2 ⟨cx, F, rfl, ho1, hn1, hF1, d2⟩
  obtain ⟨r0, u0, r1, u1, rfl⟩ := ho1.rv.shape
  clear x0 x1 x2 x3 x4
  go_wp2_with fail
  generalize hW2 : World.alloc w2 _ = W2
  have d2' : Below w2.heap.size w2 W2 := by rw [← hW2]; exact below_alloc1 _ _
  have hs2 : W2.heap.size = w2.heap.size + 1 := by rw [← hW2]; simp
  have B3 := Lib.hid (Box.of (show W2.heap[w2.heap.size]? = _ by rw [← hW2, heap_alloc_new]))
  clear hW2
  have b2 := below2 b1 (below2 d2 d2')
  have o2 := ho1.grow d2'
  refine (h21 _ W2 (hT.grow b2) o2.rv).mono ?_
  rintro e w3 ⟨rfl, d3⟩
  have b3 := below2 b2 d3
  obtain ⟨x0, x1, x2, x3, x4⟩ := B3.out.grow d3
  go_wp2_with fail
  refine (h22 _ w3 (hT.grow b3) (o2.grow d3).rv).mono ?_
  rintro e w4 ⟨rfl, d4⟩
  have b4 := below2 b3 d4
  have d34 := below2 d3 d4
  clear x0 x1 x2 x3 x4
  obtain ⟨x0, x1, x2, x3, x4⟩ := B3.out.grow d34
  obtain ⟨y0, y1, y2, y3, y4⟩ := (B1'.out.grow (below2 d2 d2')).grow d34
  have hlt1 := ho1.lt
  have z1 := d2.size
  have z2 := d34.size
  go_wp2_with fail
  refine (kept_c a _ _ F w w4 (o2.grow d34) hn1 (fun g hg => by have := hF1 g hg; have := b1.size; omega) ha b4).mono ?_
  rintro e w5 ⟨rfl, k5⟩
  have b5 : Below w.heap.size w w5 := b4.trans (k5.below (fun g hg => by have := hF1 g hg; have := b1.size; omega) b4.size)
  clear x0 x1 x2 x3 x4 y0 y1 y2 y3 y4
  have B5 := Lib.hid (((B1'.out.grow (below2 d2 d2')).grow d34).at_ (w1 := w5) (k5.block _ (by omega) (fun hg => by have := hF1 _ hg; omega)))
  obtain ⟨y0, y1, y2, y3, y4⟩ := B5.out
  go_wp2_with fail
  refine (h24 _ w5 (hT.grow b5) (ha.grow b5)).mono ?_
  rintro e w6 ⟨rfl, d6⟩
  clear y0 y1 y2 y3 y4
  obtain ⟨y0, y1, y2, y3, y4⟩ := B5.out.grow d6
  have b6 := below2 b5 d6
  go_wp2_with fail
  refine (h25 _ w6 (ha.grow b6)).mono ?_
  rintro e w7 ⟨rfl, d7⟩
  go_wp2_with fail
  go_ret
  exact ⟨rfl, below2 b6 d7⟩
end Go.Proofs.YthfejpldhemakaaDoor
