import Derived.Test.YthfejpldhemakaaDoorG
import Derived.Test.YthfejpldhemakaaDoorC
import Derived.Test.YthfejpldhemakaaDoorKc
namespace Go.Proofs.YthfejpldhemakaaDoor
open Go.RowKit Go.Sort
def intV (n : Int) : V := .mk 3 n ⟨#[]⟩ [] []
def docV (n : ByteArray) (x : V) : V := .mk 5 0 ⟨#[]⟩ [] [(n, x)]
theorem RV_int (w : World) (n : Int) (h : Rng n) : RV w (intV n) [.int .i64 3, .int .i64 n, .string ⟨#[]⟩, .slice none 0 0, .slice none 0 0] :=
  RV.mk' (l := []) (d := []) (by unfold Rng; omega) h (by simp [ByteArray.size]) RL.nil RD.nil
theorem int_c (n : Int) (w : World) :
    Calls Tryd.prog 60 #[.int .i64 n] w fun e w' => e = .returned (.agg #[.int .i64 3, .int .i64 n, .string ⟨#[]⟩, .slice none 0 0, .slice none 0 0]) ∧ Below w.heap.size w w' := by
  go_enter Tryd.func60, Tryd.ntmps60
  go_wp2_with fail
  exact bodyPost_ret (v := .agg #[.int .i64 3, .int .i64 n, .string ⟨#[]⟩, .slice none 0 0, .slice none 0 0]) (by simp [results, Tryd.results60, go_sem]) rfl ⟨rfl, below_alloc1 _ _⟩
/-- A document of one field. -/
def DocPost (w : World) (n : ByteArray) (x : V) (e : Ending) (w' : World) : Prop := ∃ cs, e = .returned (.agg cs.toArray) ∧ RV w' (docV n x) cs ∧ Below w.heap.size w w'
theorem doc_rv {w : World} {n : ByteArray} {x : V} {cs : List Value} {b : Nat} {e : TypeId} {fr : Nat × Nat} (hn : n.size ≤ 140737488355328) (hb : w.heap[b]? = some (.cells (.string n :: cs).toArray e fr)) (h : RV w x cs) :
    RV w (docV n x) [.int .i64 5, .int .i64 0, .string ⟨#[]⟩, .slice none 0 0, .slice (some ⟨b, 0, none⟩) 1 1] :=
  RV.mk' (l := []) (d := [(n, x)]) (by unfold Rng; omega) (by unfold Rng; omega) (by simp [ByteArray.size]) RL.nil
    ⟨by simp, by simp, fun j hj => by obtain rfl : j = 0 := by simpa using hj
                                      exact hn,
      fun _ => cs, fun j hj => by
        obtain rfl : j = 0 := by simpa using hj
        refine ⟨b, 0, rfl, fun i u hu => ?_⟩
        have := cell_at hb i u (by simpa using hu)
        simpa using this, fun j hj => by
        obtain rfl : j = 0 := by simpa using hj
        exact h⟩
set_option maxHeartbeats 400000 in
theorem doc_c (n : ByteArray) (x : V) (cs : List Value) (w : World) (hn : n.size ≤ 140737488355328) (h : RV w x cs) :
    Calls Tryd.prog 59 #[.string n, .agg cs.toArray] w (DocPost w n x) := by
  obtain ⟨a0, n0, a1, n1, rfl⟩ := h.shape
  go_enter Tryd.func59, Tryd.ntmps59
  go_wp2_with fail
  refine bodyPost_ret (v := .agg #[.int .i64 5, .int .i64 0, .string ⟨#[]⟩, .slice none 0 0, .slice (some ⟨w.heap.size + 2, 0, none⟩) 1 1]) (by simp [results, Tryd.results59, go_sem]) rfl ?_
  have hb3 := fun o o' o'' => below2 (below_alloc2 w o o') (below_alloc1 _ o'')
  refine ⟨_, rfl, doc_rv (e := 72) (fr := (0, 0)) hn ?_ (h.grow (hb3 _ _ _)), hb3 _ _ _⟩
  have := heap_alloc_new ((w.alloc (.cells #[.int .i64 x.k, .int .i64 x.i, .string x.t, .slice a0 x.l.length n0, .slice a1 x.d.length n1] 25)).alloc (.cells #[.int .i64 5, .int .i64 0, .string ⟨#[]⟩, .slice none 0 0, .slice (some ⟨w.heap.size + 2, 0, none⟩) 1 1] 25)) (.cells #[.string n, .int .i64 x.k, .int .i64 x.i, .string x.t, .slice a0 x.l.length n0, .slice a1 x.d.length n1] 72)
  simpa using this
theorem av1 : cmpV (docV ⟨#[97]⟩ (intV 1)) (docV ⟨#[98]⟩ (intV 0)) = -1 := by
  simp [docV, intV, cmpV, cmpD, cmpT, orI, Lib.compareBytes]
theorem av2 : rightV (docV ⟨#[]⟩ (intV 1)) = 11 := by
  simp [docV, intV, rightV, sizeV, sizeD, checkV, checkL, checkD, WrongP, nameOk, ByteArray.size]
theorem av3 : sizeV (docV ⟨#[97]⟩ (intV 1)) = 16 := by
  simp [docV, intV, sizeV, sizeD, ByteArray.size]
theorem av4 : getV (docV ⟨#[97]⟩ (intV 1)) ⟨#[97]⟩ = some (intV 1) := by
  simp [docV, getV, getD]
/-- Five cells that stand in every later world. -/
structure Five (w : World) (b : Nat) (c0 c1 c2 c3 c4 : Value) : Prop where
  f0 : w.cell? ⟨b, 0, none⟩ = some c0
  f1 : w.cell? ⟨b, 1, none⟩ = some c1
  f2 : w.cell? ⟨b, 2, none⟩ = some c2
  f3 : w.cell? ⟨b, 3, none⟩ = some c3
  f4 : w.cell? ⟨b, 4, none⟩ = some c4
theorem Five.grow {w w1 : World} {b : Nat} {c0 c1 c2 c3 c4 : Value} (h : Five w b c0 c1 c2 c3 c4) (hb : Below w.heap.size w w1) : Five w1 b c0 c1 c2 c3 c4 :=
  ⟨cell_grow hb h.f0, cell_grow hb h.f1, cell_grow hb h.f2, cell_grow hb h.f3, cell_grow hb h.f4⟩
theorem Five.box (w : World) (c0 c1 c2 c3 c4 : Value) (e : TypeId) : Five (w.alloc (.cells #[c0, c1, c2, c3, c4] e)) w.heap.size c0 c1 c2 c3 c4 :=
  ⟨box_cell 0 _ rfl, box_cell 1 _ rfl, box_cell 2 _ rfl, box_cell 3 _ rfl, box_cell 4 _ rfl⟩
set_option maxRecDepth 100000 in
set_option maxHeartbeats 1000000 in
theorem awake_c (w : World) (hT : Tabs w) : Calls Tryd.prog 19 #[] w fun e w' => e = .returned (.bool true) ∧ Below w.heap.size w w' := by
  go_enter Tryd.func19, Tryd.ntmps19
  go_wp2_with fail
  refine (int_c 1 _).mono ?_
  rintro e w1 ⟨rfl, b1⟩
  go_wp2_with fail
  refine (doc_c ⟨#[97]⟩ (intV 1) _ _ (by simp [ByteArray.size]) (RV_int w1 1 (by unfold Rng; omega))).mono ?_
  rintro e w2 ⟨ca, rfl, ra, b2⟩
  obtain ⟨p0, q0, p1, q1, rfl⟩ := ra.shape
  simp only [docV, V.k, V.i, V.t, V.l, V.d, List.length_nil, List.length_cons] at ra ⊢
  have B2 := below2 b1 b2
  clear b1 b2
  go_wp2_with fail
  refine (int_c 0 _).mono ?_
  rintro e w3 ⟨rfl, b3⟩
  go_wp2_with fail
  refine (doc_c ⟨#[98]⟩ (intV 0) _ _ (by simp [ByteArray.size]) (RV_int w3 0 (by unfold Rng; omega))).mono ?_
  rintro e w4 ⟨cb, rfl, rb, b4⟩
  obtain ⟨p2, q2, p3, q3, rfl⟩ := rb.shape
  simp only [docV, V.k, V.i, V.t, V.l, V.d, List.length_nil, List.length_cons] at rb ⊢
  have B4 := below2 (below2 B2 (below_alloc1 _ _)) (below2 b3 b4)
  have ra4 := ra.grow (below2 (below_alloc1 _ (.cells #[.int .i64 5, .int .i64 0, .string ⟨#[]⟩, .slice p0 0 q0, .slice p1 1 q1] 25)) (below2 b3 b4))
  have fa := (Five.box w2 (.int .i64 5) (.int .i64 0) (.string ⟨#[]⟩) (.slice p0 0 q0) (.slice p1 1 q1) 25).grow (below2 b3 b4)
  have T4 := hT.grow B4
  obtain ⟨ba, hba⟩ : ∃ ba, w2.heap.size = ba := ⟨_, rfl⟩
  rw [hba] at fa ⊢
  clear b3 b4 ra hba B2
  have fa5 := fun o => fa.grow (below_alloc1 w4 o)
  have x0 := fun o => (fa5 o).f0
  have x1 := fun o => (fa5 o).f1
  have x2 := fun o => (fa5 o).f2
  have x3 := fun o => (fa5 o).f3
  have x4 := fun o => (fa5 o).f4
  have hcmp := fun o => compare_c (docV ⟨#[97]⟩ (intV 1)) (docV ⟨#[98]⟩ (intV 0)) _ _ (w4.alloc o) (ra4.grow (below_alloc1 w4 o)) (rb.grow (below_alloc1 w4 o))
  rw [av1] at hcmp
  go_wp2_with fail
  refine (hcmp _).mono ?_
  rintro e w5 ⟨rfl, b5⟩
  have B5 := below2 (below_alloc1 w4 _) b5
  have fa6 := fa.grow B5
  have ra5 := ra4.grow B5
  have T5 := T4.grow B5
  have B5w := below2 B4 B5
  clear fa fa5 x0 x1 x2 x3 x4 hcmp ra4 rb b5 T4 B4
  go_wp2_with fail
  refine (int_c 1 _).mono ?_
  rintro e w6 ⟨rfl, b6⟩
  go_wp2_with fail
  refine (doc_c ⟨#[]⟩ (intV 1) _ _ (by simp [ByteArray.size]) (RV_int w6 1 (by unfold Rng; omega))).mono ?_
  rintro e w7 ⟨cb, rfl, rc, b7⟩
  have B7 := below2 b6 b7
  have hr := right_c (docV ⟨#[]⟩ (intV 1)) _ w7 (T5.grow B7) rc
  rw [av2] at hr
  obtain ⟨p4, q4, p5, q5, rfl⟩ := rc.shape
  simp only [docV, V.k, V.i, V.t, V.l, V.d, List.length_nil, List.length_cons] at rc hr ⊢
  go_wp2_with fail
  refine hr.mono ?_
  rintro e w8 ⟨rfl, b8⟩
  have B8 := below2 B7 b8
  have fa8 := fa6.grow B8
  have ra8 := ra5.grow B8
  have T8 := T5.grow B8
  have B8w := below2 B5w B8
  clear fa6 ra5 T5 B5w B8 B7 b6 b7 b8 hr rc
  have hs := size_c (docV ⟨#[97]⟩ (intV 1)) _ w8 T8 ra8
  rw [av3] at hs
  have x0 := fa8.f0
  have x1 := fa8.f1
  have x2 := fa8.f2
  have x3 := fa8.f3
  have x4 := fa8.f4
  go_wp2_with fail
  refine hs.mono ?_
  rintro e w9 ⟨rfl, b9⟩
  have fa9 := fa8.grow b9
  have B9w := below2 B8w b9
  have hg := get_c (docV ⟨#[97]⟩ (intV 1)) ⟨#[97]⟩ _ w9 (ra8.grow b9)
  rw [av4] at hg
  clear x0 x1 x2 x3 x4 hs fa8 b9 ra8 T8 B8w
  have x0 := fa9.f0
  have x1 := fa9.f1
  have x2 := fa9.f2
  have x3 := fa9.f3
  have x4 := fa9.f4
  go_wp2_with fail
  refine hg.mono ?_
  rintro e w10 ⟨b10, cx, F, rfl, hov, _, _⟩
  obtain ⟨p6, q6, p7, q7, rfl⟩ := hov.rv.shape
  simp only [intV, V.k, V.i, V.t, V.l, V.d, List.length_nil] at hov ⊢
  have Bf := below2 B9w b10
  go_wp2_with fail
  go_ret
  exact ⟨rfl, below2 Bf (below_alloc1 _ _)⟩
end Go.Proofs.YthfejpldhemakaaDoor
