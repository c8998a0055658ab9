import Derived.Test.YthfejpldhemakaaDoorA
import Derived.Test.YthfejpldhemakaaDoorCr
import Derived.Test.YthfejpldhemakaaDoorLn
import Derived.Test.YthfejpldhemakaaDoorKp
namespace Go.Proofs.YthfejpldhemakaaDoor
open Go.RowKit Go.Sort
/-- A box's five cells. -/
def Box (w : World) (b : Nat) (c0 c1 c2 c3 c4 : Value) : Prop :=
  w.cell? ⟨b, 0, none⟩ = some c0 ∧ w.cell? ⟨b, 1, none⟩ = some c1 ∧ w.cell? ⟨b, 2, none⟩ = some c2 ∧ w.cell? ⟨b, 3, none⟩ = some c3 ∧ w.cell? ⟨b, 4, none⟩ = some c4
theorem Box.of {w : World} {b : Nat} {c0 c1 c2 c3 c4 : Value} {e : TypeId} {fr : Nat × Nat} (h : w.heap[b]? = some (.cells #[c0, c1, c2, c3, c4] e fr)) : Box w b c0 c1 c2 c3 c4 :=
  ⟨cell_at h 0 _ rfl, cell_at h 1 _ rfl, cell_at h 2 _ rfl, cell_at h 3 _ rfl, cell_at h 4 _ rfl⟩
theorem Box.at_ {w w1 : World} {b : Nat} {c0 c1 c2 c3 c4 : Value} (h : Box w b c0 c1 c2 c3 c4) (hb : w1.heap[b]? = w.heap[b]?) : Box w1 b c0 c1 c2 c3 c4 := by
  have hc : ∀ i, w1.cell? ⟨b, i, none⟩ = w.cell? ⟨b, i, none⟩ := fun i => World.cell?_of_block (w := w) (a := ⟨b, i, none⟩) hb
  exact ⟨(hc 0).trans h.1, (hc 1).trans h.2.1, (hc 2).trans h.2.2.1, (hc 3).trans h.2.2.2.1, (hc 4).trans h.2.2.2.2⟩
theorem Box.lt {w : World} {b : Nat} {c0 c1 c2 c3 c4 : Value} (h : Box w b c0 c1 c2 c3 c4) : b < w.heap.size := World.block_lt_of_cell? w _ h.1
theorem Box.grow {w w1 : World} {b : Nat} {c0 c1 c2 c3 c4 : Value} (h : Box w b c0 c1 c2 c3 c4) (hb : Below w.heap.size w w1) : Box w1 b c0 c1 c2 c3 c4 := h.at_ (hb.block b h.lt)
set_option maxHeartbeats 1000000 in
theorem compares_c (a b : V) (ca cb : List Value) (w : World) (hT : Tabs w) (ha : RV w a ca) (hb : RV w b cb) :
    Calls Tryd.prog 4 #[.agg ca.toArray, .agg cb.toArray] w fun e w' => e = .returned (.bool true) ∧ Below w.heap.size w w' := by
  obtain ⟨p0, q0, p1, q1, rfl⟩ := ha.shape
  obtain ⟨p2, q2, p3, q3, rfl⟩ := hb.shape
  obtain ⟨q, hq⟩ : ∃ q, cmpV a b = q := ⟨_, rfl⟩
  have h26 := fun cs cs' w => compare_c a b cs cs' w
  have h27 := fun cs cs' w => rcompare_c a b cs cs' w
  simp only [hq] at h26 h27
  clear hq
  go_enter Tryd.func4, Tryd.ntmps4
  go_wp2_with fail
  generalize hW0 : World.alloc (w.alloc _) _ = W0
  have b0 : Below w.heap.size w W0 := by rw [← hW0]; exact below_alloc2 _ _ _
  have hs0 : W0.heap.size = w.heap.size + 2 := by rw [← hW0]; simp
  have B1 := Box.of (show W0.heap[w.heap.size]? = _ by rw [← hW0, heap_alloc_old _ _ (by simp), heap_alloc_new])
  have B2 := Box.of (show W0.heap[w.heap.size + 1]? = some (.cells #[.int .i64 b.k, .int .i64 b.i, .string b.t, .slice p2 b.l.length q2, .slice p3 b.d.length q3] 25 (0, 0)) by rw [← hW0]; have := heap_alloc_new (w.alloc (.cells #[.int .i64 a.k, .int .i64 a.i, .string a.t, .slice p0 a.l.length q0, .slice p1 a.d.length q1] 25)) (.cells #[.int .i64 b.k, .int .i64 b.i, .string b.t, .slice p2 b.l.length q2, .slice p3 b.d.length q3] 25); simpa using this)
  clear hW0
  refine (awake_c W0 (hT.grow b0)).mono ?_
  rintro e w1 ⟨rfl, d1⟩
  have b1 := below2 b0 d1
  have s1 := d1.size
  have B1' := Lib.hid (B1.grow d1)
  have B2' := Lib.hid (B2.grow d1)
  clear B1 B2
  obtain ⟨x0, x1, x2, x3, x4⟩ := B1'.out
  go_wp2_with fail
  refine (lent_c a _ w1 (ha.grow b1)).mono ?_
  rintro e w2 ⟨cx, F, rfl, ho1, hn1, hF1, d2⟩
  obtain ⟨r0, u0, r1, u1, rfl⟩ := ho1.rv.shape
  clear x0 x1 x2 x3 x4
  obtain ⟨y0, y1, y2, y3, y4⟩ := (B2'.out.grow d2).grow (below_alloc1 w2 (.cells #[.int .i64 a.k, .int .i64 a.i, .string a.t, .slice r0 a.l.length u0, .slice r1 a.d.length u1] 25))
  go_wp2_with fail
  generalize hW2 : World.alloc w2 _ = W2 at *
  have d2' : Below w2.heap.size w2 W2 := by rw [← hW2]; exact below_alloc1 _ _
  have hs2 : W2.heap.size = w2.heap.size + 1 := by rw [← hW2]; simp
  have B3 := Lib.hid (Box.of (show W2.heap[w2.heap.size]? = _ by rw [← hW2, heap_alloc_new]))
  clear hW2
  have b2 := below2 b1 (below2 d2 d2')
  refine (lent_c b _ W2 (hb.grow b2)).mono ?_
  rintro e w3 ⟨cy, F2, rfl, ho2, hn2, hF2, d3⟩
  obtain ⟨r2, u2, r3, u3, rfl⟩ := ho2.rv.shape
  clear y0 y1 y2 y3 y4
  obtain ⟨x0, x1, x2, x3, x4⟩ := (B3.out.grow d3).grow (below_alloc1 w3 (.cells #[.int .i64 b.k, .int .i64 b.i, .string b.t, .slice r2 b.l.length u2, .slice r3 b.d.length u3] 25))
  go_wp2_with fail
  clear x0 x1 x2 x3 x4
  generalize hW3 : World.alloc w3 _ = W3
  have d3' : Below w3.heap.size w3 W3 := by rw [← hW3]; exact below_alloc1 _ _
  have hs3 : W3.heap.size = w3.heap.size + 1 := by rw [← hW3]; simp
  have B4 := Lib.hid (Box.of (show W3.heap[w3.heap.size]? = _ by rw [← hW3, heap_alloc_new]))
  clear hW3
  have b3 := below2 b2 (below2 d3 d3')
  have o1 := ho1.grow (below2 d2' (below2 d3 d3'))
  have o2 := ho2.grow d3'
  refine (h26 _ _ W3 o1.rv o2.rv).mono ?_
  rintro e w4 ⟨rfl, d4⟩
  have b4 := below2 b3 d4
  -- Kept of the first
  have hlt1 := ho1.lt
  have hlt2 := ho2.lt
  have z1 := d2.size
  have z2 := d3.size
  have z3 := d4.size
  obtain ⟨x0, x1, x2, x3, x4⟩ := ((B3.out.grow (below2 d3 d3')).grow d4)
  obtain ⟨y0, y1, y2, y3, y4⟩ := ((B1'.out.grow (below2 d2 d2')).grow (below2 (below2 d3 d3') d4))
  go_wp2_with fail
  refine (kept_c a _ _ F w w4 (o1.grow d4) hn1 (fun g hg => by have := hF1 g hg; have := b1.size; omega) ha b4).mono ?_
  rintro e w5 ⟨rfl, k5⟩
  have b5 : Below w.heap.size w w5 := b4.trans (k5.below (fun g hg => by have := hF1 g hg; have := b1.size; omega) b4.size)
  have o5 := (o2.grow d4).at_ (w1 := w5) fun g hg => k5.block g (by have := hlt2 g hg; omega) (fun hg' => by have := hlt1 g hg'; have := hF2 g hg; omega)
  have z5 := k5.size
  clear x0 x1 x2 x3 x4 y0 y1 y2 y3 y4
  obtain ⟨x0, x1, x2, x3, x4⟩ := ((B4.out.grow d4).at_ (w1 := w5) (k5.block _ (by omega) (fun hg => by have := hlt1 _ hg; omega)))
  obtain ⟨y0, y1, y2, y3, y4⟩ := (((B2'.out.grow (below2 d2 d2')).grow (below2 (below2 d3 d3') d4)).at_ (w1 := w5) (k5.block _ (by omega) (fun hg => by have := hF1 _ hg; omega)))
  go_wp2_with fail
  refine (kept_c b _ _ F2 w w5 o5 hn2 (fun g hg => by have := hF2 g hg; have := b2.size; omega) hb b5).mono ?_
  rintro e w6 ⟨rfl, k6⟩
  have b6 : Below w.heap.size w w6 := b5.trans (k6.below (fun g hg => by have := hF2 g hg; have := b2.size; omega) b5.size)
  clear x0 x1 x2 x3 x4 y0 y1 y2 y3 y4
  obtain ⟨x0, x1, x2, x3, x4⟩ := (((B1'.out.grow (below2 d2 d2')).grow (below2 (below2 d3 d3') d4)).at_ (w1 := w5) (k5.block _ (by omega) (fun hg => by have := hF1 _ hg; omega))).at_ (w1 := w6) (k6.block _ (by omega) (fun hg => by have := hF2 _ hg; omega))
  obtain ⟨y0, y1, y2, y3, y4⟩ := (((B2'.out.grow (below2 d2 d2')).grow (below2 (below2 d3 d3') d4)).at_ (w1 := w5) (k5.block _ (by omega) (fun hg => by have := hF1 _ hg; omega))).at_ (w1 := w6) (k6.block _ (by omega) (fun hg => by have := hF2 _ hg; omega))
  go_wp2_with (go_at_call 27; refine (h27 _ _ w6 (ha.grow b6) (hb.grow b6)).mono ?_; rintro e w7 ⟨rfl, d7⟩)
  go_ret
  exact ⟨rfl, below2 b6 d7⟩
end Go.Proofs.YthfejpldhemakaaDoor
