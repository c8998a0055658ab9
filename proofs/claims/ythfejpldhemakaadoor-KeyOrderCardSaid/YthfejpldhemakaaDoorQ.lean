import Derived.Test.YthfejpldhemakaaDoorO
import Derived.Deep.AppendLies
import Derived.OwnWalk
namespace Go.Proofs.YthfejpldhemakaaDoor
open Go.RowKit Go.Sort
/-- A row of values that is being built: its elements, each with its cells and blocks; all blocks from B on, none twice. -/
structure QL (w : World) (B : Nat) (L : List (V × List Value × List Nat)) (sl : Value) : Prop where
  row : w.ownsRow 0 25 5 sl L.length (L.flatMap (·.2.1))
  each : ∀ c ∈ L, OV true w c.1 c.2.1 c.2.2
  nodup : (sl.ownBlock.toList ++ L.flatMap (·.2.2)).Nodup
  from_ : ∀ g ∈ sl.ownBlock.toList ++ L.flatMap (·.2.2), B ≤ g
theorem QL.lt {w : World} {B : Nat} {L : List (V × List Value × List Nat)} {sl : Value} (h : QL w B L sl) : ∀ g ∈ sl.ownBlock.toList ++ L.flatMap (·.2.2), g < w.heap.size := by
  intro g hg
  rcases List.mem_append.1 hg with hg | hg
  · exact ownsRow_lt h.row hg
  · obtain ⟨c, hc, hg⟩ := List.mem_flatMap.1 hg
    exact (h.each c hc).lt g hg
theorem QL.at_ {w w1 : World} {B : Nat} {L : List (V × List Value × List Nat)} {sl : Value} (h : QL w B L sl) (hb : ∀ g ∈ sl.ownBlock.toList ++ L.flatMap (·.2.2), w1.heap[g]? = w.heap[g]?) : QL w1 B L sl :=
  ⟨ownsRow_at h.row fun g hg => hb g (by simp [hg]), fun c hc => (h.each c hc).at_ fun g hg => hb g (List.mem_append_right _ (List.mem_flatMap.2 ⟨c, hc, hg⟩)), h.nodup, h.from_⟩
theorem QL.grow {w w1 : World} {B : Nat} {L : List (V × List Value × List Nat)} {sl : Value} (h : QL w B L sl) (hb : Below w.heap.size w w1) : QL w1 B L sl :=
  h.at_ fun g hg => hb.block g (h.lt g hg)
theorem QL.only {S : Nat → Prop} {w w1 : World} {B : Nat} {L : List (V × List Value × List Nat)} {sl : Value} (h : QL w B L sl) (hb : Only S w w1) (hS : ∀ g, S g → g < B) : QL w1 B L sl :=
  h.at_ fun g hg => hb.block g (h.lt g hg) fun hs => absurd (hS g hs) (by have := h.from_ g hg; omega)
theorem QL.snoc {w w' : World} {B H : Nat} {L : List (V × List Value × List Nat)} {sl : Value} {x : V} {cx : List Value} {Fx : List Nat} {g n cap : Nat} (h : QL w B L sl) (hx : OV true w x cx Fx) (hnd : Fx.Nodup)
    (hF : ∀ g ∈ Fx, B ≤ g ∧ g ∉ sl.ownBlock.toList ++ L.flatMap (·.2.2)) (hown : w'.ownsRow 0 25 5 (.slice (some ⟨g, 0, none⟩) n cap) (L.length + 1) (L.flatMap (·.2.1) ++ cx)) (hgrow : w.grownBy w' sl.ownBlock)
    (hat : sl.ownBlock = some g ∨ g = H) (hH : H = w.heap.size) (hB : B ≤ w.heap.size) : QL w' B (L ++ [(x, cx, Fx)]) (.slice (some ⟨g, 0, none⟩) n cap) := by
  have hnew : ∀ q ∈ L.flatMap (·.2.2) ++ Fx, q ≠ g ∧ w'.heap[q]? = w.heap[q]? := by
    intro q hq
    have hlt : q < w.heap.size := by
      rcases List.mem_append.1 hq with hq | hq
      · exact h.lt q (List.mem_append_right _ hq)
      · exact hx.lt q hq
    have hne : some q ≠ sl.ownBlock := by
      intro he
      have hm : q ∈ sl.ownBlock.toList := by rw [← he]; simp
      rcases List.mem_append.1 hq with hq | hq
      · exact (List.nodup_append.1 h.nodup).2.2 q hm q hq rfl
      · exact (hF q hq).2 (List.mem_append_left _ hm)
    refine ⟨fun he => ?_, hgrow.block q hlt hne⟩
    rcases hat with hat | hat
    · exact hne (by rw [hat, he])
    · omega
  have hL : ∀ c ∈ L, OV true w' c.1 c.2.1 c.2.2 := fun c hc => (h.each c hc).at_ fun q hq => (hnew q (List.mem_append_left _ (List.mem_flatMap.2 ⟨c, hc, hq⟩))).2
  refine ⟨by simpa using hown, fun c hc => ?_, ?_, ?_⟩
  · rcases List.mem_append.1 hc with hc | hc
    · exact hL c hc
    · rw [List.mem_singleton.1 hc]
      exact hx.at_ fun q hq => (hnew q (List.mem_append_right _ hq)).2
  · have hd : (L.flatMap (·.2.2) ++ Fx).Nodup := by
      refine List.nodup_append.2 ⟨(List.nodup_append.1 h.nodup).2.1, hnd, fun a ha b hb he => (hF b hb).2 (List.mem_append_right _ (he ▸ ha))⟩
    simp only [Value.ownBlock, Option.toList_some, List.flatMap_append, List.flatMap_cons, List.flatMap_nil, List.append_nil, List.singleton_append, List.nodup_cons]
    exact ⟨fun hm => (hnew g hm).1 rfl, hd⟩
  · intro q hq
    simp only [Value.ownBlock, Option.toList_some, List.flatMap_append, List.flatMap_cons, List.flatMap_nil, List.append_nil, List.singleton_append, List.mem_cons] at hq
    rcases hq with rfl | hq
    · rcases hat with hat | hat
      · exact h.from_ _ (List.mem_append_left _ (by rw [hat]; simp))
      · omega
    · rcases List.mem_append.1 hq with hq | hq
      · exact h.from_ _ (List.mem_append_right _ hq)
      · exact (hF _ hq).1

/-- A block ahead of B stands, whatever the row's append turned. -/
theorem QL.box {w1 w2 : World} {B bx : Nat} {o : Obj} {L : List (V × List Value × List Nat)} {sl : Value} {blk : Obj} (hpl : QL w1 B L sl) (h : w1.heap[bx]? = some blk) (hg : (w1.alloc o).grownBy w2 sl.ownBlock) (hB : bx < B) : w2.heap[bx]? = some blk := by
  have hlt := block_lt h
  rw [hg.block bx (by simp; omega) (fun he => ?_), heap_alloc_old _ _ hlt, h]
  have := hpl.from_ bx (List.mem_append_left _ (by rw [← he]; simp))
  omega
/-- The same of fields. -/
structure QD (w : World) (B : Nat) (D : List (ByteArray × V × List Value × List Nat)) (sd : Value) : Prop where
  row : w.ownsRow 0 72 6 sd D.length (D.flatMap fun c => .string c.1 :: c.2.2.1)
  each : ∀ c ∈ D, OV true w c.2.1 c.2.2.1 c.2.2.2
  nodup : (sd.ownBlock.toList ++ D.flatMap (·.2.2.2)).Nodup
  from_ : ∀ g ∈ sd.ownBlock.toList ++ D.flatMap (·.2.2.2), B ≤ g
theorem QD.lt {w : World} {B : Nat} {D : List (ByteArray × V × List Value × List Nat)} {sd : Value} (h : QD w B D sd) : ∀ g ∈ sd.ownBlock.toList ++ D.flatMap (·.2.2.2), g < w.heap.size := by
  intro g hg
  rcases List.mem_append.1 hg with hg | hg
  · exact ownsRow_lt h.row hg
  · obtain ⟨c, hc, hg⟩ := List.mem_flatMap.1 hg
    exact (h.each c hc).lt g hg
theorem QD.at_ {w w1 : World} {B : Nat} {D : List (ByteArray × V × List Value × List Nat)} {sd : Value} (h : QD w B D sd) (hb : ∀ g ∈ sd.ownBlock.toList ++ D.flatMap (·.2.2.2), w1.heap[g]? = w.heap[g]?) : QD w1 B D sd :=
  ⟨ownsRow_at h.row fun g hg => hb g (by simp [hg]), fun c hc => (h.each c hc).at_ fun g hg => hb g (List.mem_append_right _ (List.mem_flatMap.2 ⟨c, hc, hg⟩)), h.nodup, h.from_⟩
theorem QD.grow {w w1 : World} {B : Nat} {D : List (ByteArray × V × List Value × List Nat)} {sd : Value} (h : QD w B D sd) (hb : Below w.heap.size w w1) : QD w1 B D sd :=
  h.at_ fun g hg => hb.block g (h.lt g hg)
theorem QD.only {S : Nat → Prop} {w w1 : World} {B : Nat} {D : List (ByteArray × V × List Value × List Nat)} {sd : Value} (h : QD w B D sd) (hb : Only S w w1) (hS : ∀ g, S g → g < B) : QD w1 B D sd :=
  h.at_ fun g hg => hb.block g (h.lt g hg) fun hs => absurd (hS g hs) (by have := h.from_ g hg; omega)
theorem QD.snoc {w w' : World} {B H : Nat} {D : List (ByteArray × V × List Value × List Nat)} {sd : Value} {nm : ByteArray} {x : V} {cx : List Value} {Fx : List Nat} {g n cap : Nat} (h : QD w B D sd) (hx : OV true w x cx Fx) (hnd : Fx.Nodup)
    (hF : ∀ g ∈ Fx, B ≤ g ∧ g ∉ sd.ownBlock.toList ++ D.flatMap (·.2.2.2)) (hown : w'.ownsRow 0 72 6 (.slice (some ⟨g, 0, none⟩) n cap) (D.length + 1) ((D.flatMap fun c => .string c.1 :: c.2.2.1) ++ .string nm :: cx)) (hgrow : w.grownBy w' sd.ownBlock)
    (hat : sd.ownBlock = some g ∨ g = H) (hH : H = w.heap.size) (hB : B ≤ w.heap.size) : QD w' B (D ++ [(nm, x, cx, Fx)]) (.slice (some ⟨g, 0, none⟩) n cap) := by
  have hnew : ∀ q ∈ D.flatMap (·.2.2.2) ++ Fx, q ≠ g ∧ w'.heap[q]? = w.heap[q]? := by
    intro q hq
    have hlt : q < w.heap.size := by
      rcases List.mem_append.1 hq with hq | hq
      · exact h.lt q (List.mem_append_right _ hq)
      · exact hx.lt q hq
    have hne : some q ≠ sd.ownBlock := by
      intro he
      have hm : q ∈ sd.ownBlock.toList := by rw [← he]; simp
      rcases List.mem_append.1 hq with hq | hq
      · exact (List.nodup_append.1 h.nodup).2.2 q hm q hq rfl
      · exact (hF q hq).2 (List.mem_append_left _ hm)
    refine ⟨fun he => ?_, hgrow.block q hlt hne⟩
    rcases hat with hat | hat
    · exact hne (by rw [hat, he])
    · omega
  have hL : ∀ c ∈ D, OV true w' c.2.1 c.2.2.1 c.2.2.2 := fun c hc => (h.each c hc).at_ fun q hq => (hnew q (List.mem_append_left _ (List.mem_flatMap.2 ⟨c, hc, hq⟩))).2
  refine ⟨by simpa using hown, fun c hc => ?_, ?_, ?_⟩
  · rcases List.mem_append.1 hc with hc | hc
    · exact hL c hc
    · rw [List.mem_singleton.1 hc]
      exact hx.at_ fun q hq => (hnew q (List.mem_append_right _ hq)).2
  · have hd : (D.flatMap (·.2.2.2) ++ Fx).Nodup := by
      refine List.nodup_append.2 ⟨(List.nodup_append.1 h.nodup).2.1, hnd, fun a ha b hb he => (hF b hb).2 (List.mem_append_right _ (he ▸ ha))⟩
    simp only [Value.ownBlock, Option.toList_some, List.flatMap_append, List.flatMap_cons, List.flatMap_nil, List.append_nil, List.singleton_append, List.nodup_cons]
    exact ⟨fun hm => (hnew g hm).1 rfl, hd⟩
  · intro q hq
    simp only [Value.ownBlock, Option.toList_some, List.flatMap_append, List.flatMap_cons, List.flatMap_nil, List.append_nil, List.singleton_append, List.mem_cons] at hq
    rcases hq with rfl | hq
    · rcases hat with hat | hat
      · exact h.from_ _ (List.mem_append_left _ (by rw [hat]; simp))
      · omega
    · rcases List.mem_append.1 hq with hq | hq
      · exact h.from_ _ (List.mem_append_right _ hq)
      · exact (hF _ hq).1

theorem QD.box {w1 w2 : World} {B bx : Nat} {o : Obj} {D : List (ByteArray × V × List Value × List Nat)} {sd : Value} {blk : Obj} (hpl : QD w1 B D sd) (h : w1.heap[bx]? = some blk) (hg : (w1.alloc o).grownBy w2 sd.ownBlock) (hB : bx < B) : w2.heap[bx]? = some blk := by
  have hlt := block_lt h
  rw [hg.block bx (by simp; omega) (fun he => ?_), heap_alloc_old _ _ hlt, h]
  have := hpl.from_ bx (List.mem_append_left _ (by rw [← he]; simp))
  omega
/-- One round of a copying loop: the element's copy made, appended, the row stored into the box. -/
theorem QL.round {wr W3 w1 w2 : World} {B bx q g cap : Nat} {o : Obj} {c : Array Value} {L : List (V × List Value × List Nat)} {sl : Value} {x : V} {cx : List Value} {F : List Nat} (hbx : bx < B) (hB : B ≤ wr.heap.size)
    (hb3 : Below wr.heap.size wr W3) (hb1 : Below W3.heap.size W3 w1) (hpl : QL wr B L sl) (h0 : wr.heap[bx]? = some (.cells c 25 (0, 0)))
    (hov : OV true w1 x cx F) (hnd : F.Nodup) (hfr : ∀ g ∈ F, W3.heap.size ≤ g)
    (hown : w2.ownsRow 0 25 5 (.slice (some ⟨g, 0, none⟩) (L.length + 1) cap) (L.length + 1) (L.flatMap (·.2.1) ++ cx)) (hgrow : (w1.alloc o).grownBy w2 sl.ownBlock) (hat : sl.ownBlock = some g ∨ g = w1.heap.size + 1) :
    QL (w2.setCell ⟨bx, q, none⟩ (.slice (some ⟨g, 0, none⟩) (L.length + 1) cap)) B (L ++ [(x, cx, F)]) (.slice (some ⟨g, 0, none⟩) (L.length + 1) cap) ∧
      (w2.setCell ⟨bx, q, none⟩ (.slice (some ⟨g, 0, none⟩) (L.length + 1) cap)).heap[bx]? = some (.cells (c.setIfInBounds q (.slice (some ⟨g, 0, none⟩) (L.length + 1) cap)) 25 (0, 0)) ∧
      Only (fun k => k = bx ∨ some k = sl.ownBlock) wr (w2.setCell ⟨bx, q, none⟩ (.slice (some ⟨g, 0, none⟩) (L.length + 1) cap)) := by
  have hw1 : Below wr.heap.size wr w1 := below2 hb3 hb1
  have hpl1 := hpl.grow hw1
  have hsz : B ≤ w1.heap.size := by have := hw1.size; omega
  have hbx1 := (hw1.block bx (by omega)).trans h0
  have hnew := QL.snoc (w := w1.alloc o) (hpl1.grow (below_alloc1 _ _)) (hov.grow (below_alloc1 _ _)) hnd (fun g hg => ⟨by have := hfr g hg; have := hb3.size; omega, fun hm => by have := hpl.lt g hm; have := hfr g hg; have := hb3.size; omega⟩) hown hgrow (hat.imp id (fun h => h)) (by simp) (by simp; omega)
  have honly := only_set w2 bx q (.slice (some ⟨g, 0, none⟩) (L.length + 1) cap)
  refine ⟨hnew.only honly (fun k hk => by omega), setCell_block (hpl1.box hbx1 hgrow (by omega)) q _, ?_⟩
  have h12 : Only (fun k => some k = sl.ownBlock) wr w2 := (Only.of_below (below2 hw1 (below_alloc1 w1 o))).trans (Only.of_grown hgrow) (fun k _ hk => hk)
  have h13 : Only (fun k => k = bx ∨ some k = sl.ownBlock) wr w2 := h12.mono fun k _ hk => .inr hk
  exact h13.trans honly fun k _ hk => .inl hk
theorem QD.round {wr W3 w1 w2 : World} {B bx q g cap : Nat} {o : Obj} {c : Array Value} {L : List (ByteArray × V × List Value × List Nat)} {sl : Value} {nm : ByteArray} {x : V} {cx : List Value} {F : List Nat} (hbx : bx < B) (hB : B ≤ wr.heap.size)
    (hb3 : Below wr.heap.size wr W3) (hb1 : Below W3.heap.size W3 w1) (hpl : QD wr B L sl) (h0 : wr.heap[bx]? = some (.cells c 25 (0, 0)))
    (hov : OV true w1 x cx F) (hnd : F.Nodup) (hfr : ∀ g ∈ F, W3.heap.size ≤ g)
    (hown : w2.ownsRow 0 72 6 (.slice (some ⟨g, 0, none⟩) (L.length + 1) cap) (L.length + 1) ((L.flatMap fun c => .string c.1 :: c.2.2.1) ++ .string nm :: cx)) (hgrow : (w1.alloc o).grownBy w2 sl.ownBlock) (hat : sl.ownBlock = some g ∨ g = w1.heap.size + 1) :
    QD (w2.setCell ⟨bx, q, none⟩ (.slice (some ⟨g, 0, none⟩) (L.length + 1) cap)) B (L ++ [(nm, x, cx, F)]) (.slice (some ⟨g, 0, none⟩) (L.length + 1) cap) ∧
      (w2.setCell ⟨bx, q, none⟩ (.slice (some ⟨g, 0, none⟩) (L.length + 1) cap)).heap[bx]? = some (.cells (c.setIfInBounds q (.slice (some ⟨g, 0, none⟩) (L.length + 1) cap)) 25 (0, 0)) ∧
      Only (fun k => k = bx ∨ some k = sl.ownBlock) wr (w2.setCell ⟨bx, q, none⟩ (.slice (some ⟨g, 0, none⟩) (L.length + 1) cap)) := by
  have hw1 : Below wr.heap.size wr w1 := below2 hb3 hb1
  have hpl1 := hpl.grow hw1
  have hsz : B ≤ w1.heap.size := by have := hw1.size; omega
  have hbx1 := (hw1.block bx (by omega)).trans h0
  have hnew := QD.snoc (w := w1.alloc o) (hpl1.grow (below_alloc1 _ _)) (hov.grow (below_alloc1 _ _)) hnd (fun g hg => ⟨by have := hfr g hg; have := hb3.size; omega, fun hm => by have := hpl.lt g hm; have := hfr g hg; have := hb3.size; omega⟩) hown hgrow (hat.imp id (fun h => h)) (by simp) (by simp; omega)
  have honly := only_set w2 bx q (.slice (some ⟨g, 0, none⟩) (L.length + 1) cap)
  refine ⟨hnew.only honly (fun k hk => by omega), setCell_block (hpl1.box hbx1 hgrow (by omega)) q _, ?_⟩
  have h12 : Only (fun k => some k = sl.ownBlock) wr w2 := (Only.of_below (below2 hw1 (below_alloc1 w1 o))).trans (Only.of_grown hgrow) (fun k _ hk => hk)
  have h13 : Only (fun k => k = bx ∨ some k = sl.ownBlock) wr w2 := h12.mono fun k _ hk => .inr hk
  exact h13.trans honly fun k _ hk => .inl hk
theorem QD.weak {w : World} {B B' : Nat} {D : List (ByteArray × V × List Value × List Nat)} {sd : Value} (h : QD w B D sd) (hB : B' ≤ B) : QD w B' D sd := ⟨h.row, h.each, h.nodup, fun g hg => Nat.le_trans hB (h.from_ g hg)⟩
theorem QL.weak {w : World} {B B' : Nat} {L : List (V × List Value × List Nat)} {sl : Value} (h : QL w B L sl) (hB : B' ≤ B) : QL w B' L sl := ⟨h.row, h.each, h.nodup, fun g hg => Nat.le_trans hB (h.from_ g hg)⟩

theorem ownsRow_back {w : World} {base e sz : Nat} {g n c : Nat} {xs : List Value} (h : w.ownsRow base e sz (.slice (some ⟨g, 0, none⟩) n c) n xs) : base ≤ g ∧ g < w.heap.size := by
  rcases h.2 with ⟨h1, _⟩ | ⟨g', cap, cur, h1, h2, h3, _⟩
  · cases h1
  · injection h1 with h1
    injection h1 with h1
    injection h1 with h1
    subst h1
    exact ⟨h2, block_lt h3⟩
/-- A full row whose last element is the mark, seen without it. -/
theorem row_marked {w : World} {e sz : Nat} {g n : Nat} {xs : List Value} (h : w.ownsRow 0 e sz (.slice (some ⟨g, 0, none⟩) (n + 1) (n + 1)) (n + 1) (xs ++ mark e)) (hx : xs.length = n * sz) : RowO true w e sz (.slice (some ⟨g, 0, none⟩) n (n + 1)) n xs := by
  rcases h.2 with ⟨h1, _⟩ | ⟨g', cap, cur, h1, h2, h3, h4, h5, h6, h7⟩
  · cases h1
  · injection h1 with h1 h1'  h1''
    injection h1 with h1
    injection h1 with h1
    subst h1 h1''
    have hcur : cur.toList = xs ++ mark e := by
      rw [← h7, List.take_of_length_le (by rw [Array.length_toList, h6]; exact Nat.le_refl _)]
    refine ⟨⟨hx, .inr ⟨g, n + 1, cur, rfl, h2, h3, by omega, h5, h6, ?_⟩⟩, fun _ => ⟨g, rfl, ?_⟩⟩
    · rw [hcur, ← hx, List.take_left]
    · rw [h3, ← hcur]
theorem flat_len {α : Type} (f : α → List Value) (sz : Nat) : ∀ (L : List α), (∀ c ∈ L, (f c).length = sz) → (L.flatMap f).length = L.length * sz
  | [], _ => by simp
  | c :: L, h => by
    rw [List.flatMap_cons, List.length_append, h c (by simp), flat_len f sz L (fun x hx => h x (by simp [hx])), List.length_cons, Nat.succ_mul]
    omega

/-- 'append' within the capacity, at a step of a region that draws its order. -/
theorem step_append_fits {P : Program} {w : World} {ops : Array Oper} {o : Oper} {a : Act} {K : Act → World → Prop} {Q : Exit → Act → World → Prop} {E : Prop} (hgd : o.guard = none) (s x : Operand) (t : TypeId)
    (ho : o.op = .call { callee := .builtin .append, args := #[s, x], argTypes := #[t, t] })
    (base : Nat) (e : TypeId) (i : TypeInfo) (size : Nat) (ht : P.underlying t = some (.slice e)) (hi : P.info? e = some i) (hsize : i.size = size)
    (g n cap : Nat) (xs : List Value) (hs : a.eval s = .slice (some ⟨g, 0, none⟩) n cap) (hown : w.ownsRow base e size (.slice (some ⟨g, 0, none⟩) n cap) n xs)
    (ad : Addr) (m c : Nat) (news : List Value) (hx : a.eval x = .slice (some ad) m c) (hl : news.length = m * size) (hnews : ∀ j u, news[j]? = some u → w.cell? (ad.add j) = some u) (h1 : ∀ u ∈ news, u.oneCell' = true)
    (hroom : n + m ≤ cap)
    (h : ∀ w', w'.ownsRow base e size (.slice (some ⟨g, 0, none⟩) (n + m) cap) (n + m) (xs ++ news) → w.grownBy w' (some g) → K (a.put o.dst (.slice (some ⟨g, 0, none⟩) (n + m) cap)) w') :
    if Region.wanted o (yielded ops a.tmps) = true then Oper.wp P o a w K Q else E := by
  have hw : Region.wanted o (yielded ops a.tmps) = true := by simp [Region.wanted, hgd]
  rw [if_pos hw]
  obtain ⟨w', hr, h2, h3⟩ := run_append_fits (P := P) w base t o.type e i size ht hi hsize g n cap xs hown ad m c news hl hnews h1 hroom
  unfold Oper.wp execOp
  simp only [ho, resolve, invoke, builtin, Sem.run_bind, Sem.run_pure, Result.andThen_ok, List.map_toArray, List.map_cons, List.map_nil, hs, hx, hr]
  exact h w' h2 h3
end Go.Proofs.YthfejpldhemakaaDoor
