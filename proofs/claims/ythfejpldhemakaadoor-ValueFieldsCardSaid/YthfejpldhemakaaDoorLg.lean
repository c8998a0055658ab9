import Derived.Test.YthfejpldhemakaaDoorLf
import Derived.Test.YthfejpldhemakaaDoorP
namespace Go.Proofs.YthfejpldhemakaaDoor
open Go.RowKit Go.Sort
set_option maxRecDepth 100000 in
set_option maxHeartbeats 2000000 in
theorem fields_c (v x : V) (nm : ByteArray) (cv cx : List Value) (w : World) (hT : Tabs w) (hv : RV w v cv) (hx : RV w x cx) (hnm : nm.size ≤ 140737488355328) (sv : Slack 4096 v) (sx : Slack 4096 x) :
    Calls Tryd.prog 6 #[.agg cv.toArray, .string nm, .agg cx.toArray] w fun e w' => e = .returned (.bool true) ∧ Below w.heap.size w w' := by
  obtain ⟨p0, q0, p1, q1, rfl⟩ := hv.shape
  obtain ⟨p2, q2, p3, q3, rfl⟩ := hx.shape
  go_enter Tryd.func6, Tryd.ntmps6
  go_wp2_with fail
  generalize hW0 : World.alloc (w.alloc _) _ = W0
  obtain ⟨e3, e5, b0, hs0⟩ := boxes2 hW0
  clear hW0
  have B3 := Box.of e3
  have B5 := Box.of e5
  clear e3 e5
  refine (awake_c W0 (hT.grow b0)).mono ?_
  rintro e w1 ⟨rfl, d1⟩
  have b1 := below2 b0 d1
  have z1 := d1.size
  have B3' := Lib.hid (B3.grow d1)
  have B5' := Lib.hid (B5.grow d1)
  clear B3 B5
  obtain ⟨x0, x1, x2, x3, x4⟩ := B3'.out
  go_wp2_with fail
  refine (lent_c v _ w1 (hv.grow b1)).mono ?_
  rintro e w2 ⟨cy, F1, rfl, ho1, hn1, hF1, d2⟩
  obtain ⟨r0, u0, r1, u1, rfl⟩ := ho1.rv.shape
  clear x0 x1 x2 x3 x4
  obtain ⟨x0, x1, x2, x3, x4⟩ := (B5'.out.grow d2).grow (below_alloc1 w2 (.cells #[.int .i64 v.k, .int .i64 v.i, .string v.t, .slice r0 v.l.length u0, .slice r1 v.d.length u1] 25))
  go_wp2_with fail
  clear x0 x1 x2 x3 x4
  generalize hW2 : World.alloc w2 _ = W2 at *
  have d2' : Below w2.heap.size w2 W2 := by rw [← hW2]; exact below_alloc1 _ _
  have hs2 : W2.heap.size = w2.heap.size + 1 := by rw [← hW2]; simp
  have B8 := Lib.hid (Box.of (show W2.heap[w2.heap.size]? = _ by rw [← hW2, heap_alloc_new]))
  clear hW2
  have b2 := below2 b1 (below2 d2 d2')
  have z2 := d2.size
  refine (lent_c x _ W2 (hx.grow b2)).mono ?_
  rintro e w3 ⟨cy, F2, rfl, ho2, hn2, hF2, d3⟩
  obtain ⟨r2, u2, r3, u3, rfl⟩ := ho2.rv.shape
  obtain ⟨x0, x1, x2, x3, x4⟩ := (B8.out.grow d3).grow (below_alloc1 w3 (.cells #[.int .i64 x.k, .int .i64 x.i, .string x.t, .slice r2 x.l.length u2, .slice r3 x.d.length u3] 25))
  go_wp2_with fail
  clear x0 x1 x2 x3 x4
  generalize hW3 : World.alloc w3 _ = W3 at *
  have d3' : Below w3.heap.size w3 W3 := by rw [← hW3]; exact below_alloc1 _ _
  have hs3 : W3.heap.size = w3.heap.size + 1 := by rw [← hW3]; simp
  have B9 := Lib.hid (Box.of (show W3.heap[w3.heap.size]? = _ by rw [← hW3, heap_alloc_new]))
  clear hW3
  have b3 := below2 b2 (below2 d3 d3')
  have z3 := d3.size
  have o1 := ho1.grow (below2 d2' (below2 d3 d3'))
  have o2 := ho2.grow d3'
  have i1 : ∀ q ∈ F1, W0.heap.size ≤ q ∧ q < w2.heap.size := fun q hq => by have := hF1 q hq; have := ho1.lt q hq; omega
  have i2 : ∀ q ∈ F2, w2.heap.size < q ∧ q < w3.heap.size := fun q hq => by have := hF2 q hq; have := ho2.lt q hq; omega
  have B8 := Lib.hid (B8.out.grow (below2 d3 d3'))
  have B3 := Lib.hid (B3'.out.grow (below2 (below2 d2 d2') (below2 d3 d3')))
  have B5 := Lib.hid (B5'.out.grow (below2 (below2 d2 d2') (below2 d3 d3')))
  have HO1 := Lib.hid (And.intro o1 (And.intro hn1 i1))
  have HO2 := Lib.hid (And.intro o2 (And.intro hn2 i2))
  clear B3' B5' ho1 ho2 hF1 hF2 hn1 hn2 o1 o2 i1 i2 d1 d2 d2' d3 d3' b0 b1 b2
  -- Get
  obtain ⟨o1, hn1, i1⟩ := HO1.out
  obtain ⟨o2, hn2, i2⟩ := HO2.out
  have O1 := Lib.hid o1
  have O2 := Lib.hid o2
  have N1 := Lib.hid (And.intro hn1 i1)
  have N2 := Lib.hid (And.intro hn2 i2)
  clear o1 o2 hn1 hn2 i1 i2 HO1 HO2
  obtain ⟨is, his⟩ : ∃ is, (getV v nm).isSome = is := ⟨_, rfl⟩
  obtain ⟨A, hA⟩ : ∃ A, getA v nm = A := ⟨_, rfl⟩
  obtain ⟨E, hE⟩ : ∃ E, withV v nm x = E := ⟨_, rfl⟩
  obtain ⟨C, hC⟩ : ∃ C, withoutV v nm = C := ⟨_, rfl⟩
  have SA : Slack 100 A := hA ▸ Slack.getA sv
  have SE : Slack 100 E := hE ▸ Slack.with sv sx
  have SC : Slack 100 C := hC ▸ Slack.without sv
  have HA := Lib.hid (And.intro hA his)
  have HE := Lib.hid hE
  have HC := Lib.hid hC
  have HS := Lib.hid sv
  clear his hA hE hC sv
  refine (get_c v nm _ W3 O1.out.rv).mono ?_
  intro e w4 hm
  obtain ⟨B10a, B10b, B10c, B10d, FA, rfl, oo, nn, hF, d⟩ := getPost_any hm
  clear hm
  rw [HA.out.1] at oo ⊢
  rw [HA.out.2]
  obtain ⟨x00, x01, x02, x03, x04⟩ := (B8.out.grow d).grow (below_alloc1 w4 (.cells #[.int .i64 A.k, .int .i64 A.i, .string A.t, .slice B10a A.l.length B10b, .slice B10c A.d.length B10d] 25))
  obtain ⟨x10, x11, x12, x13, x14⟩ := (B9.out.grow d).grow (below_alloc1 w4 (.cells #[.int .i64 A.k, .int .i64 A.i, .string A.t, .slice B10a A.l.length B10b, .slice B10c A.d.length B10d] 25))
  go_wp2_with fail
  clear x00 x01 x02 x03 x04 x10 x11 x12 x13 x14
  generalize hW : World.alloc w4 _ = W4 at *
  have d' : Below w4.heap.size w4 W4 := by rw [← hW]; exact below_alloc1 _ _
  have hs4 : W4.heap.size = w4.heap.size + 1 := by rw [← hW]; simp
  have B10 := Lib.hid (Box.of (show W4.heap[w4.heap.size]? = _ by rw [← hW, heap_alloc_new]))
  clear hW
  have z4 := d.size
  have NA := Lib.hid (And.intro nn (show ∀ q ∈ FA, W3.heap.size ≤ q ∧ q < w4.heap.size from fun q hq => by have := hF q hq; have := oo.lt q hq; omega))
  have OA0 := Lib.hid (oo.grow d')
  replace B3 := Lib.hid (B3.out.grow (below2 d d'))
  replace B5 := Lib.hid (B5.out.grow (below2 d d'))
  replace B8 := Lib.hid (B8.out.grow (below2 d d'))
  replace B9 := Lib.hid (B9.out.grow (below2 d d'))
  replace O1 := Lib.hid (O1.out.grow (below2 d d'))
  replace O2 := Lib.hid (O2.out.grow (below2 d d'))
  have OA := OA0
  have b4 := below2 b3 (below2 d d')
  clear d d' oo nn hF OA0
  refine (with_c v x nm _ _ W4 O1.out.rv O2.out.rv hnm (HS.out)).mono ?_
  intro e w5 hm
  obtain ⟨B12a, B12b, B12c, B12d, F3, rfl, oo, nn, hF, d⟩ := made_any hm
  clear hm
  rw [HE.out] at oo ⊢
  obtain ⟨x00, x01, x02, x03, x04⟩ := (B8.out.grow d).grow (below_alloc1 w5 (.cells #[.int .i64 E.k, .int .i64 E.i, .string E.t, .slice B12a E.l.length B12b, .slice B12c E.d.length B12d] 25))
  go_wp2_with fail
  clear x00 x01 x02 x03 x04
  generalize hW : World.alloc w5 _ = W5 at *
  have d' : Below w5.heap.size w5 W5 := by rw [← hW]; exact below_alloc1 _ _
  have hs5 : W5.heap.size = w5.heap.size + 1 := by rw [← hW]; simp
  have B12 := Lib.hid (Box.of (show W5.heap[w5.heap.size]? = _ by rw [← hW, heap_alloc_new]))
  clear hW
  have z5 := d.size
  have NB := Lib.hid (And.intro nn (show ∀ q ∈ F3, W4.heap.size ≤ q ∧ q < w5.heap.size from fun q hq => by have := hF q hq; have := oo.lt q hq; omega))
  have OB0 := Lib.hid (oo.grow d')
  replace B3 := Lib.hid (B3.out.grow (below2 d d'))
  replace B5 := Lib.hid (B5.out.grow (below2 d d'))
  replace B8 := Lib.hid (B8.out.grow (below2 d d'))
  replace B9 := Lib.hid (B9.out.grow (below2 d d'))
  replace B10 := Lib.hid (B10.out.grow (below2 d d'))
  replace O1 := Lib.hid (O1.out.grow (below2 d d'))
  replace O2 := Lib.hid (O2.out.grow (below2 d d'))
  replace OA := Lib.hid (OA.out.grow (below2 d d'))
  have OB := OB0
  have b5 := below2 b4 (below2 d d')
  clear d d' oo nn hF OB0
  refine (without_c v nm _ W5 O1.out.rv).mono ?_
  intro e w6 hm
  obtain ⟨B13a, B13b, B13c, B13d, F4, rfl, oo, nn, hF, d⟩ := made_any hm
  clear hm
  rw [HC.out] at oo ⊢
  obtain ⟨x00, x01, x02, x03, x04⟩ := (B8.out.grow d).grow (below_alloc1 w6 (.cells #[.int .i64 C.k, .int .i64 C.i, .string C.t, .slice B13a C.l.length B13b, .slice B13c C.d.length B13d] 25))
  obtain ⟨x10, x11, x12, x13, x14⟩ := (B9.out.grow d).grow (below_alloc1 w6 (.cells #[.int .i64 C.k, .int .i64 C.i, .string C.t, .slice B13a C.l.length B13b, .slice B13c C.d.length B13d] 25))
  go_wp2_with fail
  clear x00 x01 x02 x03 x04 x10 x11 x12 x13 x14
  generalize hW : World.alloc w6 _ = W6 at *
  have d' : Below w6.heap.size w6 W6 := by rw [← hW]; exact below_alloc1 _ _
  have hs6 : W6.heap.size = w6.heap.size + 1 := by rw [← hW]; simp
  have B13 := Lib.hid (Box.of (show W6.heap[w6.heap.size]? = _ by rw [← hW, heap_alloc_new]))
  clear hW
  have z6 := d.size
  have NC := Lib.hid (And.intro nn (show ∀ q ∈ F4, W5.heap.size ≤ q ∧ q < w6.heap.size from fun q hq => by have := hF q hq; have := oo.lt q hq; omega))
  have OC0 := Lib.hid (oo.grow d')
  replace B3 := Lib.hid (B3.out.grow (below2 d d'))
  replace B5 := Lib.hid (B5.out.grow (below2 d d'))
  replace B8 := Lib.hid (B8.out.grow (below2 d d'))
  replace B9 := Lib.hid (B9.out.grow (below2 d d'))
  replace B10 := Lib.hid (B10.out.grow (below2 d d'))
  replace B12 := Lib.hid (B12.out.grow (below2 d d'))
  replace O1 := Lib.hid (O1.out.grow (below2 d d'))
  replace O2 := Lib.hid (O2.out.grow (below2 d d'))
  replace OA := Lib.hid (OA.out.grow (below2 d d'))
  replace OB := Lib.hid (OB.out.grow (below2 d d'))
  have OC := OC0
  have b6 := below2 b5 (below2 d d')
  clear d d' oo nn hF OC0
  refine (with_c v x nm _ _ W6 O1.out.rv O2.out.rv hnm (HS.out)).mono ?_
  intro e w7 hm
  obtain ⟨B14a, B14b, B14c, B14d, F5, rfl, oo, nn, hF, d⟩ := made_any hm
  clear hm
  rw [HE.out] at oo ⊢
  obtain ⟨x00, x01, x02, x03, x04⟩ := (B8.out.grow d).grow (below_alloc1 w7 (.cells #[.int .i64 E.k, .int .i64 E.i, .string E.t, .slice B14a E.l.length B14b, .slice B14c E.d.length B14d] 25))
  obtain ⟨x10, x11, x12, x13, x14⟩ := (B3.out.grow d).grow (below_alloc1 w7 (.cells #[.int .i64 E.k, .int .i64 E.i, .string E.t, .slice B14a E.l.length B14b, .slice B14c E.d.length B14d] 25))
  go_wp2_with fail
  clear x00 x01 x02 x03 x04 x10 x11 x12 x13 x14
  generalize hW : World.alloc w7 _ = W7 at *
  have d' : Below w7.heap.size w7 W7 := by rw [← hW]; exact below_alloc1 _ _
  have hs7 : W7.heap.size = w7.heap.size + 1 := by rw [← hW]; simp
  have B14 := Lib.hid (Box.of (show W7.heap[w7.heap.size]? = _ by rw [← hW, heap_alloc_new]))
  clear hW
  have z7 := d.size
  have ND := Lib.hid (And.intro nn (show ∀ q ∈ F5, W6.heap.size ≤ q ∧ q < w7.heap.size from fun q hq => by have := hF q hq; have := oo.lt q hq; omega))
  have OD0 := Lib.hid (oo.grow d')
  replace B3 := Lib.hid (B3.out.grow (below2 d d'))
  replace B5 := Lib.hid (B5.out.grow (below2 d d'))
  replace B8 := Lib.hid (B8.out.grow (below2 d d'))
  replace B9 := Lib.hid (B9.out.grow (below2 d d'))
  replace B10 := Lib.hid (B10.out.grow (below2 d d'))
  replace B12 := Lib.hid (B12.out.grow (below2 d d'))
  replace B13 := Lib.hid (B13.out.grow (below2 d d'))
  replace O1 := Lib.hid (O1.out.grow (below2 d d'))
  replace O2 := Lib.hid (O2.out.grow (below2 d d'))
  replace OA := Lib.hid (OA.out.grow (below2 d d'))
  replace OB := Lib.hid (OB.out.grow (below2 d d'))
  replace OC := Lib.hid (OC.out.grow (below2 d d'))
  have OD := OD0
  have b7 := below2 b6 (below2 d d')
  clear d d' oo nn hF OD0
  refine (kept_c v _ _ F1 w W7 O1.out N1.out.1 (fun q hq => by have := N1.out.2 q hq; omega) hv b7).mono ?_
  rintro e w8 ⟨rfl, k⟩
  replace B3 := Lib.hid (B3.out.at_ (w1 := w8) (k.block _ B3.out.lt (fun hq => by have := N1.out.2 _ hq; omega)))
  replace B5 := Lib.hid (B5.out.at_ (w1 := w8) (k.block _ B5.out.lt (fun hq => by have := N1.out.2 _ hq; omega)))
  replace B8 := Lib.hid (B8.out.at_ (w1 := w8) (k.block _ B8.out.lt (fun hq => by have := N1.out.2 _ hq; omega)))
  replace B9 := Lib.hid (B9.out.at_ (w1 := w8) (k.block _ B9.out.lt (fun hq => by have := N1.out.2 _ hq; omega)))
  replace B10 := Lib.hid (B10.out.at_ (w1 := w8) (k.block _ B10.out.lt (fun hq => by have := N1.out.2 _ hq; omega)))
  replace B12 := Lib.hid (B12.out.at_ (w1 := w8) (k.block _ B12.out.lt (fun hq => by have := N1.out.2 _ hq; omega)))
  replace B13 := Lib.hid (B13.out.at_ (w1 := w8) (k.block _ B13.out.lt (fun hq => by have := N1.out.2 _ hq; omega)))
  replace B14 := Lib.hid (B14.out.at_ (w1 := w8) (k.block _ B14.out.lt (fun hq => by have := N1.out.2 _ hq; omega)))
  replace O2 := Lib.hid (O2.out.at_ (w1 := w8) (fun q hq => k.block q (O2.out.lt q hq) (fun hq' => by have := N1.out.2 q hq'; have := N2.out.2 q hq; omega)))
  replace OA := Lib.hid (OA.out.at_ (w1 := w8) (fun q hq => k.block q (OA.out.lt q hq) (fun hq' => by have := N1.out.2 q hq'; have := NA.out.2 q hq; omega)))
  replace OB := Lib.hid (OB.out.at_ (w1 := w8) (fun q hq => k.block q (OB.out.lt q hq) (fun hq' => by have := N1.out.2 q hq'; have := NB.out.2 q hq; omega)))
  replace OC := Lib.hid (OC.out.at_ (w1 := w8) (fun q hq => k.block q (OC.out.lt q hq) (fun hq' => by have := N1.out.2 q hq'; have := NC.out.2 q hq; omega)))
  replace OD := Lib.hid (OD.out.at_ (w1 := w8) (fun q hq => k.block q (OD.out.lt q hq) (fun hq' => by have := N1.out.2 q hq'; have := ND.out.2 q hq; omega)))
  have b8 : Below w.heap.size w w8 := b7.trans (k.below (fun q hq => by have := N1.out.2 q hq; omega) b7.size)
  have zz8 := k.size
  clear k
  obtain ⟨x00, x01, x02, x03, x04⟩ := B9.out
  obtain ⟨x10, x11, x12, x13, x14⟩ := B5.out
  go_wp2_with fail
  clear x00 x01 x02 x03 x04 x10 x11 x12 x13 x14
  refine (kept_c x _ _ F2 w w8 O2.out N2.out.1 (fun q hq => by have := N2.out.2 q hq; omega) hx b8).mono ?_
  rintro e w9 ⟨rfl, k⟩
  replace B3 := Lib.hid (B3.out.at_ (w1 := w9) (k.block _ B3.out.lt (fun hq => by have := N2.out.2 _ hq; omega)))
  replace B5 := Lib.hid (B5.out.at_ (w1 := w9) (k.block _ B5.out.lt (fun hq => by have := N2.out.2 _ hq; omega)))
  replace B8 := Lib.hid (B8.out.at_ (w1 := w9) (k.block _ B8.out.lt (fun hq => by have := N2.out.2 _ hq; omega)))
  replace B9 := Lib.hid (B9.out.at_ (w1 := w9) (k.block _ B9.out.lt (fun hq => by have := N2.out.2 _ hq; omega)))
  replace B10 := Lib.hid (B10.out.at_ (w1 := w9) (k.block _ B10.out.lt (fun hq => by have := N2.out.2 _ hq; omega)))
  replace B12 := Lib.hid (B12.out.at_ (w1 := w9) (k.block _ B12.out.lt (fun hq => by have := N2.out.2 _ hq; omega)))
  replace B13 := Lib.hid (B13.out.at_ (w1 := w9) (k.block _ B13.out.lt (fun hq => by have := N2.out.2 _ hq; omega)))
  replace B14 := Lib.hid (B14.out.at_ (w1 := w9) (k.block _ B14.out.lt (fun hq => by have := N2.out.2 _ hq; omega)))
  replace OA := Lib.hid (OA.out.at_ (w1 := w9) (fun q hq => k.block q (OA.out.lt q hq) (fun hq' => by have := N2.out.2 q hq'; have := NA.out.2 q hq; omega)))
  replace OB := Lib.hid (OB.out.at_ (w1 := w9) (fun q hq => k.block q (OB.out.lt q hq) (fun hq' => by have := N2.out.2 q hq'; have := NB.out.2 q hq; omega)))
  replace OC := Lib.hid (OC.out.at_ (w1 := w9) (fun q hq => k.block q (OC.out.lt q hq) (fun hq' => by have := N2.out.2 q hq'; have := NC.out.2 q hq; omega)))
  replace OD := Lib.hid (OD.out.at_ (w1 := w9) (fun q hq => k.block q (OD.out.lt q hq) (fun hq' => by have := N2.out.2 q hq'; have := ND.out.2 q hq; omega)))
  have b9 : Below w.heap.size w w9 := b8.trans (k.below (fun q hq => by have := N2.out.2 q hq; omega) b8.size)
  have zz9 := k.size
  clear k
  obtain ⟨x00, x01, x02, x03, x04⟩ := B3.out
  go_wp2_with fail
  clear x00 x01 x02 x03 x04
  refine (rget_c v nm _ w9 (hv.grow b9)).mono ?_
  intro e w10 hm
  obtain ⟨a0, n0, a1, n1, FW, rfl, oo, nn, hF, d⟩ := getPost_any hm
  clear hm
  rw [HA.out.1] at oo ⊢
  rw [HA.out.2]
  obtain ⟨x00, x01, x02, x03, x04⟩ := (B10.out.grow d).grow (below_alloc1 w10 (.cells #[.int .i64 A.k, .int .i64 A.i, .string A.t, .slice a0 A.l.length n0, .slice a1 A.d.length n1] 25))
  go_wp2_with fail
  clear x00 x01 x02 x03 x04
  generalize hW : World.alloc w10 _ = W10 at *
  have d' : Below w10.heap.size w10 W10 := by rw [← hW]; exact below_alloc1 _ _
  have hs10 : W10.heap.size = w10.heap.size + 1 := by rw [← hW]; simp
  clear hW
  have OW0 := Lib.hid (oo.grow d')
  replace B3 := Lib.hid (B3.out.grow (below2 d d'))
  replace B5 := Lib.hid (B5.out.grow (below2 d d'))
  replace B8 := Lib.hid (B8.out.grow (below2 d d'))
  replace B9 := Lib.hid (B9.out.grow (below2 d d'))
  replace B10 := Lib.hid (B10.out.grow (below2 d d'))
  replace B12 := Lib.hid (B12.out.grow (below2 d d'))
  replace B13 := Lib.hid (B13.out.grow (below2 d d'))
  replace B14 := Lib.hid (B14.out.grow (below2 d d'))
  replace OA := Lib.hid (OA.out.grow (below2 d d'))
  replace OB := Lib.hid (OB.out.grow (below2 d d'))
  replace OC := Lib.hid (OC.out.grow (below2 d d'))
  replace OD := Lib.hid (OD.out.grow (below2 d d'))
  have OW := OW0
  have b10 := below2 b9 (below2 d d')
  have zz10 := d.size
  clear d d' oo nn hF OW0
  refine (sameSelf_c A _ _ W10 OA.out.rv OW.out.rv).mono ?_
  rintro e w11 ⟨rfl, d⟩
  clear OW
  replace B3 := Lib.hid (B3.out.grow (d))
  replace B5 := Lib.hid (B5.out.grow (d))
  replace B8 := Lib.hid (B8.out.grow (d))
  replace B9 := Lib.hid (B9.out.grow (d))
  replace B10 := Lib.hid (B10.out.grow (d))
  replace B12 := Lib.hid (B12.out.grow (d))
  replace B13 := Lib.hid (B13.out.grow (d))
  replace B14 := Lib.hid (B14.out.grow (d))
  replace OA := Lib.hid (OA.out.grow (d))
  replace OB := Lib.hid (OB.out.grow (d))
  replace OC := Lib.hid (OC.out.grow (d))
  replace OD := Lib.hid (OD.out.grow (d))
  have b11 := below2 b10 d
  have zz11 := d.size
  clear d
  go_wp2_with fail
  have HG : Hid (∀ u, Below w11.heap.size w11 u → u.cell? ⟨w5.heap.size, 0, none⟩ = some (.int .i64 E.k) ∧ u.cell? ⟨w5.heap.size, 1, none⟩ = some (.int .i64 E.i) ∧ u.cell? ⟨w5.heap.size, 2, none⟩ = some (.string E.t) ∧ u.cell? ⟨w5.heap.size, 3, none⟩ = some (.slice B12a E.l.length B12b) ∧ u.cell? ⟨w5.heap.size, 4, none⟩ = some (.slice B12c E.d.length B12d) ∧ u.cell? ⟨w.heap.size, 0, none⟩ = some (.int .i64 v.k) ∧ u.cell? ⟨w.heap.size, 1, none⟩ = some (.int .i64 v.i) ∧ u.cell? ⟨w.heap.size, 2, none⟩ = some (.string v.t) ∧ u.cell? ⟨w.heap.size, 3, none⟩ = some (.slice p0 v.l.length q0) ∧ u.cell? ⟨w.heap.size, 4, none⟩ = some (.slice p1 v.d.length q1) ∧ u.cell? ⟨w.heap.size + 1, 0, none⟩ = some (.int .i64 x.k) ∧ u.cell? ⟨w.heap.size + 1, 1, none⟩ = some (.int .i64 x.i) ∧ u.cell? ⟨w.heap.size + 1, 2, none⟩ = some (.string x.t) ∧ u.cell? ⟨w.heap.size + 1, 3, none⟩ = some (.slice p2 x.l.length q2) ∧ u.cell? ⟨w.heap.size + 1, 4, none⟩ = some (.slice p3 x.d.length q3)) := Lib.hid fun u hb => ⟨((B12.out.grow hb).1), ((B12.out.grow hb).2.1), ((B12.out.grow hb).2.2.1), ((B12.out.grow hb).2.2.2.1), ((B12.out.grow hb).2.2.2.2), ((B3.out.grow hb).1), ((B3.out.grow hb).2.1), ((B3.out.grow hb).2.2.1), ((B3.out.grow hb).2.2.2.1), ((B3.out.grow hb).2.2.2.2), ((B5.out.grow hb).1), ((B5.out.grow hb).2.1), ((B5.out.grow hb).2.2.1), ((B5.out.grow hb).2.2.2.1), ((B5.out.grow hb).2.2.2.2)⟩
  have hdr : Below w11.heap.size w11 w11.drew := (Below.refl _ _).drew
  have hS0 := HG.out _ hdr
  have HS0 := Lib.hid hS0
  have hcl := rwith_c v x nm _ _ w11.drew (hv.grow (below2 b11 hdr)) (hx.grow (below2 b11 hdr)) hnm HS.out
  rw [HE.out] at hcl
  have hBx := HG.out
  clear hS0 hBx
  go_region_held3 (fun u => u.cell? ⟨w5.heap.size, 0, none⟩ = some (.int .i64 E.k) ∧ u.cell? ⟨w5.heap.size, 1, none⟩ = some (.int .i64 E.i) ∧ u.cell? ⟨w5.heap.size, 2, none⟩ = some (.string E.t) ∧ u.cell? ⟨w5.heap.size, 3, none⟩ = some (.slice B12a E.l.length B12b) ∧ u.cell? ⟨w5.heap.size, 4, none⟩ = some (.slice B12c E.d.length B12d) ∧ u.cell? ⟨w.heap.size, 0, none⟩ = some (.int .i64 v.k) ∧ u.cell? ⟨w.heap.size, 1, none⟩ = some (.int .i64 v.i) ∧ u.cell? ⟨w.heap.size, 2, none⟩ = some (.string v.t) ∧ u.cell? ⟨w.heap.size, 3, none⟩ = some (.slice p0 v.l.length q0) ∧ u.cell? ⟨w.heap.size, 4, none⟩ = some (.slice p1 v.d.length q1) ∧ u.cell? ⟨w.heap.size + 1, 0, none⟩ = some (.int .i64 x.k) ∧ u.cell? ⟨w.heap.size + 1, 1, none⟩ = some (.int .i64 x.i) ∧ u.cell? ⟨w.heap.size + 1, 2, none⟩ = some (.string x.t) ∧ u.cell? ⟨w.heap.size + 1, 3, none⟩ = some (.slice p2 x.l.length q2) ∧ u.cell? ⟨w.heap.size + 1, 4, none⟩ = some (.slice p3 x.d.length q3))
    (first | with_reducible exact HS0.out | with_reducible exact hS1 | with_reducible exact hS2)
    (first | ((go_at_call 33; refine hcl.mono ?_; intro e w12 hm; obtain ⟨a0, n0, a1, n1, FX, rfl, oo, _, _, dx⟩ := made_any hm; have dd := hdr.trans dx; have hS1 := HG.out _ dd; have HOO := Lib.hid (And.intro oo dd); clear hm oo dx dd)) | ((go_at_call 28; refine (sameSelf_c E _ _ w12 ((OB.out.grow HOO.out.2).rv) HOO.out.1.rv).mono ?_; rintro e w13 ⟨rfl, dy⟩; have dz := below2 HOO.out.2 dy; have hS2 := HG.out _ dz; have HDZ := Lib.hid dz; clear dy dz)))
  have d := HDZ.out
  clear HG HS0 hcl HOO HDZ hdr
  replace B3 := Lib.hid (B3.out.grow (d))
  replace B5 := Lib.hid (B5.out.grow (d))
  replace B8 := Lib.hid (B8.out.grow (d))
  replace B9 := Lib.hid (B9.out.grow (d))
  replace B10 := Lib.hid (B10.out.grow (d))
  replace B12 := Lib.hid (B12.out.grow (d))
  replace B13 := Lib.hid (B13.out.grow (d))
  replace B14 := Lib.hid (B14.out.grow (d))
  replace OA := Lib.hid (OA.out.grow (d))
  replace OB := Lib.hid (OB.out.grow (d))
  replace OC := Lib.hid (OC.out.grow (d))
  replace OD := Lib.hid (OD.out.grow (d))
  have b13 := below2 b11 d
  have zz13 := d.size
  clear d
  go_wp2_with fail
  have HG : Hid (∀ u, Below w13.heap.size w13 u → u.cell? ⟨w6.heap.size, 0, none⟩ = some (.int .i64 C.k) ∧ u.cell? ⟨w6.heap.size, 1, none⟩ = some (.int .i64 C.i) ∧ u.cell? ⟨w6.heap.size, 2, none⟩ = some (.string C.t) ∧ u.cell? ⟨w6.heap.size, 3, none⟩ = some (.slice B13a C.l.length B13b) ∧ u.cell? ⟨w6.heap.size, 4, none⟩ = some (.slice B13c C.d.length B13d) ∧ u.cell? ⟨w.heap.size, 0, none⟩ = some (.int .i64 v.k) ∧ u.cell? ⟨w.heap.size, 1, none⟩ = some (.int .i64 v.i) ∧ u.cell? ⟨w.heap.size, 2, none⟩ = some (.string v.t) ∧ u.cell? ⟨w.heap.size, 3, none⟩ = some (.slice p0 v.l.length q0) ∧ u.cell? ⟨w.heap.size, 4, none⟩ = some (.slice p1 v.d.length q1)) := Lib.hid fun u hb => ⟨((B13.out.grow hb).1), ((B13.out.grow hb).2.1), ((B13.out.grow hb).2.2.1), ((B13.out.grow hb).2.2.2.1), ((B13.out.grow hb).2.2.2.2), ((B3.out.grow hb).1), ((B3.out.grow hb).2.1), ((B3.out.grow hb).2.2.1), ((B3.out.grow hb).2.2.2.1), ((B3.out.grow hb).2.2.2.2)⟩
  have hdr : Below w13.heap.size w13 w13.drew := (Below.refl _ _).drew
  have hS0 := HG.out _ hdr
  have HS0 := Lib.hid hS0
  have hcl := rwithout_c v nm _ w13.drew (hv.grow (below2 b13 hdr))
  rw [HC.out] at hcl
  have hBx := HG.out
  clear hS0 hBx
  go_region_held3 (fun u => u.cell? ⟨w6.heap.size, 0, none⟩ = some (.int .i64 C.k) ∧ u.cell? ⟨w6.heap.size, 1, none⟩ = some (.int .i64 C.i) ∧ u.cell? ⟨w6.heap.size, 2, none⟩ = some (.string C.t) ∧ u.cell? ⟨w6.heap.size, 3, none⟩ = some (.slice B13a C.l.length B13b) ∧ u.cell? ⟨w6.heap.size, 4, none⟩ = some (.slice B13c C.d.length B13d) ∧ u.cell? ⟨w.heap.size, 0, none⟩ = some (.int .i64 v.k) ∧ u.cell? ⟨w.heap.size, 1, none⟩ = some (.int .i64 v.i) ∧ u.cell? ⟨w.heap.size, 2, none⟩ = some (.string v.t) ∧ u.cell? ⟨w.heap.size, 3, none⟩ = some (.slice p0 v.l.length q0) ∧ u.cell? ⟨w.heap.size, 4, none⟩ = some (.slice p1 v.d.length q1))
    (first | with_reducible exact HS0.out | with_reducible exact hS1 | with_reducible exact hS2)
    (first | ((go_at_call 34; refine hcl.mono ?_; intro e w14 hm; obtain ⟨a0, n0, a1, n1, FX, rfl, oo, _, _, dx⟩ := made_any hm; have dd := hdr.trans dx; have hS1 := HG.out _ dd; have HOO := Lib.hid (And.intro oo dd); clear hm oo dx dd)) | ((go_at_call 28; refine (sameSelf_c C _ _ w14 ((OC.out.grow HOO.out.2).rv) HOO.out.1.rv).mono ?_; rintro e w15 ⟨rfl, dy⟩; have dz := below2 HOO.out.2 dy; have hS2 := HG.out _ dz; have HDZ := Lib.hid dz; clear dy dz)))
  have d := HDZ.out
  clear HG HS0 hcl HOO HDZ hdr
  replace B3 := Lib.hid (B3.out.grow (d))
  replace B5 := Lib.hid (B5.out.grow (d))
  replace B8 := Lib.hid (B8.out.grow (d))
  replace B9 := Lib.hid (B9.out.grow (d))
  replace B10 := Lib.hid (B10.out.grow (d))
  replace B12 := Lib.hid (B12.out.grow (d))
  replace B13 := Lib.hid (B13.out.grow (d))
  replace B14 := Lib.hid (B14.out.grow (d))
  replace OA := Lib.hid (OA.out.grow (d))
  replace OB := Lib.hid (OB.out.grow (d))
  replace OC := Lib.hid (OC.out.grow (d))
  replace OD := Lib.hid (OD.out.grow (d))
  have b15 := below2 b13 d
  have zz15 := d.size
  clear d
  obtain ⟨x00, x01, x02, x03, x04⟩ := B12.out
  go_wp2_with fail
  clear x00 x01 x02 x03 x04
  refine (spoil_c E _ F3 w15 OB.out NB.out.1 SE).mono ?_
  rintro e w16 ⟨rfl, k⟩
  replace B3 := Lib.hid (B3.out.at_ (w1 := w16) (k.block _ B3.out.lt (fun hq => by have := NB.out.2 _ hq; omega)))
  replace B5 := Lib.hid (B5.out.at_ (w1 := w16) (k.block _ B5.out.lt (fun hq => by have := NB.out.2 _ hq; omega)))
  replace B8 := Lib.hid (B8.out.at_ (w1 := w16) (k.block _ B8.out.lt (fun hq => by have := NB.out.2 _ hq; omega)))
  replace B9 := Lib.hid (B9.out.at_ (w1 := w16) (k.block _ B9.out.lt (fun hq => by have := NB.out.2 _ hq; omega)))
  replace B10 := Lib.hid (B10.out.at_ (w1 := w16) (k.block _ B10.out.lt (fun hq => by have := NB.out.2 _ hq; omega)))
  replace B12 := Lib.hid (B12.out.at_ (w1 := w16) (k.block _ B12.out.lt (fun hq => by have := NB.out.2 _ hq; omega)))
  replace B13 := Lib.hid (B13.out.at_ (w1 := w16) (k.block _ B13.out.lt (fun hq => by have := NB.out.2 _ hq; omega)))
  replace B14 := Lib.hid (B14.out.at_ (w1 := w16) (k.block _ B14.out.lt (fun hq => by have := NB.out.2 _ hq; omega)))
  replace OA := Lib.hid (OA.out.at_ (w1 := w16) (fun q hq => k.block q (OA.out.lt q hq) (fun hq' => by have := NB.out.2 q hq'; have := NA.out.2 q hq; omega)))
  replace OC := Lib.hid (OC.out.at_ (w1 := w16) (fun q hq => k.block q (OC.out.lt q hq) (fun hq' => by have := NB.out.2 q hq'; have := NC.out.2 q hq; omega)))
  replace OD := Lib.hid (OD.out.at_ (w1 := w16) (fun q hq => k.block q (OD.out.lt q hq) (fun hq' => by have := NB.out.2 q hq'; have := ND.out.2 q hq; omega)))
  have b16 : Below w.heap.size w w16 := b15.trans (k.below (fun q hq => by have := NB.out.2 q hq; omega) b15.size)
  have zz16 := k.size
  clear k
  obtain ⟨x00, x01, x02, x03, x04⟩ := B10.out
  go_wp2_with fail
  clear x00 x01 x02 x03 x04
  refine (spoil_c A _ FA w16 OA.out NA.out.1 SA).mono ?_
  rintro e w17 ⟨rfl, k⟩
  replace B3 := Lib.hid (B3.out.at_ (w1 := w17) (k.block _ B3.out.lt (fun hq => by have := NA.out.2 _ hq; omega)))
  replace B5 := Lib.hid (B5.out.at_ (w1 := w17) (k.block _ B5.out.lt (fun hq => by have := NA.out.2 _ hq; omega)))
  replace B8 := Lib.hid (B8.out.at_ (w1 := w17) (k.block _ B8.out.lt (fun hq => by have := NA.out.2 _ hq; omega)))
  replace B9 := Lib.hid (B9.out.at_ (w1 := w17) (k.block _ B9.out.lt (fun hq => by have := NA.out.2 _ hq; omega)))
  replace B10 := Lib.hid (B10.out.at_ (w1 := w17) (k.block _ B10.out.lt (fun hq => by have := NA.out.2 _ hq; omega)))
  replace B12 := Lib.hid (B12.out.at_ (w1 := w17) (k.block _ B12.out.lt (fun hq => by have := NA.out.2 _ hq; omega)))
  replace B13 := Lib.hid (B13.out.at_ (w1 := w17) (k.block _ B13.out.lt (fun hq => by have := NA.out.2 _ hq; omega)))
  replace B14 := Lib.hid (B14.out.at_ (w1 := w17) (k.block _ B14.out.lt (fun hq => by have := NA.out.2 _ hq; omega)))
  replace OC := Lib.hid (OC.out.at_ (w1 := w17) (fun q hq => k.block q (OC.out.lt q hq) (fun hq' => by have := NA.out.2 q hq'; have := NC.out.2 q hq; omega)))
  replace OD := Lib.hid (OD.out.at_ (w1 := w17) (fun q hq => k.block q (OD.out.lt q hq) (fun hq' => by have := NA.out.2 q hq'; have := ND.out.2 q hq; omega)))
  have b17 : Below w.heap.size w w17 := b16.trans (k.below (fun q hq => by have := NA.out.2 q hq; omega) b16.size)
  have zz17 := k.size
  clear k
  obtain ⟨x00, x01, x02, x03, x04⟩ := B13.out
  go_wp2_with fail
  clear x00 x01 x02 x03 x04
  refine (spoil_c C _ F4 w17 OC.out NC.out.1 SC).mono ?_
  rintro e w18 ⟨rfl, k⟩
  replace B3 := Lib.hid (B3.out.at_ (w1 := w18) (k.block _ B3.out.lt (fun hq => by have := NC.out.2 _ hq; omega)))
  replace B5 := Lib.hid (B5.out.at_ (w1 := w18) (k.block _ B5.out.lt (fun hq => by have := NC.out.2 _ hq; omega)))
  replace B8 := Lib.hid (B8.out.at_ (w1 := w18) (k.block _ B8.out.lt (fun hq => by have := NC.out.2 _ hq; omega)))
  replace B9 := Lib.hid (B9.out.at_ (w1 := w18) (k.block _ B9.out.lt (fun hq => by have := NC.out.2 _ hq; omega)))
  replace B10 := Lib.hid (B10.out.at_ (w1 := w18) (k.block _ B10.out.lt (fun hq => by have := NC.out.2 _ hq; omega)))
  replace B12 := Lib.hid (B12.out.at_ (w1 := w18) (k.block _ B12.out.lt (fun hq => by have := NC.out.2 _ hq; omega)))
  replace B13 := Lib.hid (B13.out.at_ (w1 := w18) (k.block _ B13.out.lt (fun hq => by have := NC.out.2 _ hq; omega)))
  replace B14 := Lib.hid (B14.out.at_ (w1 := w18) (k.block _ B14.out.lt (fun hq => by have := NC.out.2 _ hq; omega)))
  replace OD := Lib.hid (OD.out.at_ (w1 := w18) (fun q hq => k.block q (OD.out.lt q hq) (fun hq' => by have := NC.out.2 q hq'; have := ND.out.2 q hq; omega)))
  have b18 : Below w.heap.size w w18 := b17.trans (k.below (fun q hq => by have := NC.out.2 q hq; omega) b17.size)
  have zz18 := k.size
  clear k
  go_wp2_with fail
  have HG : Hid (∀ u, Below w18.heap.size w18 u → u.cell? ⟨w7.heap.size, 0, none⟩ = some (.int .i64 E.k) ∧ u.cell? ⟨w7.heap.size, 1, none⟩ = some (.int .i64 E.i) ∧ u.cell? ⟨w7.heap.size, 2, none⟩ = some (.string E.t) ∧ u.cell? ⟨w7.heap.size, 3, none⟩ = some (.slice B14a E.l.length B14b) ∧ u.cell? ⟨w7.heap.size, 4, none⟩ = some (.slice B14c E.d.length B14d) ∧ u.cell? ⟨w.heap.size, 0, none⟩ = some (.int .i64 v.k) ∧ u.cell? ⟨w.heap.size, 1, none⟩ = some (.int .i64 v.i) ∧ u.cell? ⟨w.heap.size, 2, none⟩ = some (.string v.t) ∧ u.cell? ⟨w.heap.size, 3, none⟩ = some (.slice p0 v.l.length q0) ∧ u.cell? ⟨w.heap.size, 4, none⟩ = some (.slice p1 v.d.length q1) ∧ u.cell? ⟨w.heap.size + 1, 0, none⟩ = some (.int .i64 x.k) ∧ u.cell? ⟨w.heap.size + 1, 1, none⟩ = some (.int .i64 x.i) ∧ u.cell? ⟨w.heap.size + 1, 2, none⟩ = some (.string x.t) ∧ u.cell? ⟨w.heap.size + 1, 3, none⟩ = some (.slice p2 x.l.length q2) ∧ u.cell? ⟨w.heap.size + 1, 4, none⟩ = some (.slice p3 x.d.length q3)) := Lib.hid fun u hb => ⟨((B14.out.grow hb).1), ((B14.out.grow hb).2.1), ((B14.out.grow hb).2.2.1), ((B14.out.grow hb).2.2.2.1), ((B14.out.grow hb).2.2.2.2), ((B3.out.grow hb).1), ((B3.out.grow hb).2.1), ((B3.out.grow hb).2.2.1), ((B3.out.grow hb).2.2.2.1), ((B3.out.grow hb).2.2.2.2), ((B5.out.grow hb).1), ((B5.out.grow hb).2.1), ((B5.out.grow hb).2.2.1), ((B5.out.grow hb).2.2.2.1), ((B5.out.grow hb).2.2.2.2)⟩
  have hdr : Below w18.heap.size w18 w18.drew := (Below.refl _ _).drew
  have hS0 := HG.out _ hdr
  have HS0 := Lib.hid hS0
  have hcl := rwith_c v x nm _ _ w18.drew (hv.grow (below2 b18 hdr)) (hx.grow (below2 b18 hdr)) hnm HS.out
  rw [HE.out] at hcl
  have hBx := HG.out
  clear hS0 hBx
  go_region_held3 (fun u => u.cell? ⟨w7.heap.size, 0, none⟩ = some (.int .i64 E.k) ∧ u.cell? ⟨w7.heap.size, 1, none⟩ = some (.int .i64 E.i) ∧ u.cell? ⟨w7.heap.size, 2, none⟩ = some (.string E.t) ∧ u.cell? ⟨w7.heap.size, 3, none⟩ = some (.slice B14a E.l.length B14b) ∧ u.cell? ⟨w7.heap.size, 4, none⟩ = some (.slice B14c E.d.length B14d) ∧ u.cell? ⟨w.heap.size, 0, none⟩ = some (.int .i64 v.k) ∧ u.cell? ⟨w.heap.size, 1, none⟩ = some (.int .i64 v.i) ∧ u.cell? ⟨w.heap.size, 2, none⟩ = some (.string v.t) ∧ u.cell? ⟨w.heap.size, 3, none⟩ = some (.slice p0 v.l.length q0) ∧ u.cell? ⟨w.heap.size, 4, none⟩ = some (.slice p1 v.d.length q1) ∧ u.cell? ⟨w.heap.size + 1, 0, none⟩ = some (.int .i64 x.k) ∧ u.cell? ⟨w.heap.size + 1, 1, none⟩ = some (.int .i64 x.i) ∧ u.cell? ⟨w.heap.size + 1, 2, none⟩ = some (.string x.t) ∧ u.cell? ⟨w.heap.size + 1, 3, none⟩ = some (.slice p2 x.l.length q2) ∧ u.cell? ⟨w.heap.size + 1, 4, none⟩ = some (.slice p3 x.d.length q3))
    (first | with_reducible exact HS0.out | with_reducible exact hS1 | with_reducible exact hS2)
    (first | ((go_at_call 33; refine hcl.mono ?_; intro e w19 hm; obtain ⟨a0, n0, a1, n1, FX, rfl, oo, _, _, dx⟩ := made_any hm; have dd := hdr.trans dx; have hS1 := HG.out _ dd; have HOO := Lib.hid (And.intro oo dd); clear hm oo dx dd)) | ((go_at_call 28; refine (sameSelf_c E _ _ w19 ((OD.out.grow HOO.out.2).rv) HOO.out.1.rv).mono ?_; rintro e w20 ⟨rfl, dy⟩; have dz := below2 HOO.out.2 dy; have hS2 := HG.out _ dz; have HDZ := Lib.hid dz; clear dy dz)))
  have d := HDZ.out
  clear HG HS0 hcl HOO HDZ hdr
  replace B3 := Lib.hid (B3.out.grow (d))
  replace B5 := Lib.hid (B5.out.grow (d))
  replace B8 := Lib.hid (B8.out.grow (d))
  replace B9 := Lib.hid (B9.out.grow (d))
  replace B10 := Lib.hid (B10.out.grow (d))
  replace B12 := Lib.hid (B12.out.grow (d))
  replace B13 := Lib.hid (B13.out.grow (d))
  replace B14 := Lib.hid (B14.out.grow (d))
  replace OD := Lib.hid (OD.out.grow (d))
  have b20 := below2 b18 d
  have zz20 := d.size
  clear d
  go_wp2_with fail
  go_ret
  exact ⟨rfl, b20⟩
/-- The same, its arguments in the card's order. -/
theorem fields_cc (v : V) (cv : List Value) (nm : ByteArray) (x : V) (cx : List Value) (w : World) (hT : Tabs w) (hv : RV w v cv) (sv : Slack 4096 v) (hnm : nm.size ≤ 140737488355328) (hx : RV w x cx) (sx : Slack 4096 x) :
    Calls Tryd.prog 6 #[.agg cv.toArray, .string nm, .agg cx.toArray] w fun e w' => e = .returned (.bool true) ∧ Below w.heap.size w w' := fields_c v x nm cv cx w hT hv hx hnm sv sx
end Go.Proofs.YthfejpldhemakaaDoor
