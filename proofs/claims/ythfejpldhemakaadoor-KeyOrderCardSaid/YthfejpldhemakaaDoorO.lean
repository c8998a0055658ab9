import Derived.Test.YthfejpldhemakaaDoorV
import Derived.Laws.OwnMore
import Derived.Maps.AppendAt
namespace Go.Proofs.YthfejpldhemakaaDoor
open Go.RowKit Go.Sort

/-- All that was there and is none of S stands. -/
structure Only (S : Nat → Prop) (w w' : World) : Prop where
  os : w'.os = w.os
  tape : w'.tape = w.tape
  output : w'.output = w.output
  size : w.heap.size ≤ w'.heap.size
  block : ∀ k, k < w.heap.size → ¬ S k → w'.heap[k]? = w.heap[k]?
theorem Only.refl (S : Nat → Prop) (w : World) : Only S w w := ⟨rfl, rfl, rfl, Nat.le_refl _, fun _ _ _ => rfl⟩
theorem Only.of_below {S : Nat → Prop} {w w' : World} (h : Below w.heap.size w w') : Only S w w' := ⟨h.os, h.tape, h.output, h.size, fun k hk _ => h.block k hk⟩
theorem Only.trans {S T : Nat → Prop} {a b c : World} (h : Only S a b) (k : Only T b c) (hT : ∀ g, g < a.heap.size → T g → S g) : Only S a c :=
  ⟨k.os.trans h.os, k.tape.trans h.tape, k.output.trans h.output, Nat.le_trans h.size k.size, fun g hg hs => (k.block g (Nat.lt_of_lt_of_le hg h.size) (fun ht => hs (hT g hg ht))).trans (h.block g hg hs)⟩
theorem Only.mono {S T : Nat → Prop} {a b : World} (h : Only S a b) (hS : ∀ g, g < a.heap.size → S g → T g) : Only T a b :=
  ⟨h.os, h.tape, h.output, h.size, fun g hg hs => h.block g hg (fun hh => hs (hS g hg hh))⟩
/-- Nothing below B is in S: below B all stands. -/
theorem Only.below {S : Nat → Prop} {B : Nat} {w w' : World} (h : Only S w w') (hS : ∀ g, S g → B ≤ g) (hB : B ≤ w.heap.size) : Below B w w' :=
  ⟨h.os, h.tape, h.output, h.size, fun k hk => h.block k (Nat.lt_of_lt_of_le hk hB) (fun hs => absurd (hS k hs) (by omega))⟩
theorem Only.below0 {S : Nat → Prop} {w w' : World} (h : Only S w w') (hS : ∀ g, g < w.heap.size → ¬ S g) : Below w.heap.size w w' :=
  ⟨h.os, h.tape, h.output, h.size, fun k hk => h.block k hk (hS k hk)⟩
theorem Only.of_grown {w w' : World} {row : Option Nat} (h : w.grownBy w' row) : Only (fun g => some g = row) w w' := ⟨h.os, h.tape, h.output, h.size, fun k hk hs => h.block k hk hs⟩
theorem Only.grown {w w' : World} {row : Option Nat} (h : Only (fun g => some g = row) w w') : w.grownBy w' row := ⟨h.os, h.tape, h.output, h.size, fun k hk hs => h.block k hk hs⟩

/-- The mark behind a row of values, of fields. -/
def mark (e : Nat) : List Value :=
  if e = 25 then [.int .i64 (-7), .int .i64 0, .string ByteArray.empty, .slice none 0 0, .slice none 0 0]
  else [.string ⟨#[109, 97, 114, 107]⟩, .int .i64 0, .int .i64 0, .string ByteArray.empty, .slice none 0 0, .slice none 0 0]
/-- A row of the call's own; m: with just the mark behind it. -/
def RowO (m : Bool) (w : World) (e sz : Nat) (v : Value) (n : Nat) (xs : List Value) : Prop :=
  w.ownsRow 0 e sz v n xs ∧ (m = true → ∃ g, v = .slice (some ⟨g, 0, none⟩) n (n + 1) ∧ w.heap[g]? = some (.cells (xs ++ mark e).toArray e (0, 0)))
theorem ownsRow_at {w w1 : World} {base e sz : Nat} {v : Value} {n : Nat} {xs : List Value} (h : w.ownsRow base e sz v n xs) (hb : ∀ g, v.ownBlock = some g → w1.heap[g]? = w.heap[g]?) : w1.ownsRow base e sz v n xs := by
  obtain ⟨h1, h2⟩ := h
  refine ⟨h1, ?_⟩
  rcases h2 with h2 | ⟨g, cap, cur, rfl, hg, hh, r⟩
  · exact .inl h2
  · exact .inr ⟨g, cap, cur, rfl, hg, (hb g rfl).trans hh, r⟩
theorem RowO.at_ {m : Bool} {w w1 : World} {e sz : Nat} {v : Value} {n : Nat} {xs : List Value} (h : RowO m w e sz v n xs) (hb : ∀ g, v.ownBlock = some g → w1.heap[g]? = w.heap[g]?) : RowO m w1 e sz v n xs :=
  ⟨ownsRow_at h.1 hb, fun hm => by
    obtain ⟨g, e1, e2⟩ := h.2 hm
    exact ⟨g, e1, (hb g (by rw [e1]; rfl)).trans e2⟩⟩
theorem RowO.plain {m : Bool} {w : World} {e sz : Nat} {v : Value} {n : Nat} {xs : List Value} (h : RowO m w e sz v n xs) : RowO false w e sz v n xs := ⟨h.1, fun h => by cases h⟩
theorem ownsRow_slice {w : World} {base e sz : Nat} {v : Value} {n : Nat} {xs : List Value} (h : w.ownsRow base e sz v n xs) : ∃ A c, v = .slice A n c ∧ n ≤ c := by
  rcases h.2 with ⟨rfl, rfl⟩ | ⟨g, cap, cur, rfl, _, _, h3, _⟩
  · exact ⟨none, 0, rfl, Nat.le_refl _⟩
  · exact ⟨_, cap, rfl, h3⟩
theorem ownsRow_lt {w : World} {base e sz : Nat} {v : Value} {n : Nat} {xs : List Value} (h : w.ownsRow base e sz v n xs) {g : Nat} (hg : g ∈ v.ownBlock.toList) : g < w.heap.size :=
  (h.lt g (by simpa using hg)).2
/-- A row's cells, by place. -/
theorem ownsRow_cells {w : World} {base e sz : Nat} {A : Option Addr} {n c : Nat} {xs : List Value} (h : w.ownsRow base e sz (.slice A n c) n xs) (p : Nat) (cs : List Value) (hcs : cs ≠ []) (hp : (xs.drop p).take cs.length = cs) : CellsAt w A p cs := by
  have hx : ∀ i u, cs[i]? = some u → xs[p + i]? = some u := by
    intro i u hu
    rw [← hp] at hu
    rw [List.getElem?_take] at hu
    split at hu
    · rwa [List.getElem?_drop] at hu
    · cases hu
  rcases h.2 with ⟨h1, rfl⟩ | ⟨g, cap, cur, h1, _⟩
  · exfalso
    have := h.1
    simp at this
    subst this
    simp at hp
    exact hcs hp
  · injection h1 with h1 h2 h3
    subst h1
    refine ⟨g, 0, rfl, fun i u hu => ?_⟩
    have := h.cells (g := g) rfl (p + i) u (hx i u hu)
    have ha : (⟨g, 0, none⟩ : Addr).add (p + i) = ⟨g, 0 + p + i, none⟩ := by unfold Addr.add; split <;> simp_all
    rwa [ha] at this

/-- A value in memory of its own: its five cells, its blocks. -/
inductive OV (m : Bool) (w : World) : V → List Value → List Nat → Prop
  | mk {k i : Int} {t : ByteArray} {sl sd : Value} (L : List (V × List Value × List Nat)) (D : List (ByteArray × V × List Value × List Nat))
    (hk : Rng k) (hi : Rng i) (ht : t.size ≤ 140737488355328) (hl : L.length * 80 ≤ 140737488355328) (hd : D.length * 96 ≤ 140737488355328)
    (hn : ∀ c ∈ D, c.1.size ≤ 140737488355328)
    (hol : RowO m w 25 5 sl L.length (L.flatMap (·.2.1)))
    (hod : RowO m w 72 6 sd D.length (D.flatMap fun c => .string c.1 :: c.2.2.1))
    (rl : ∀ c ∈ L, OV m w c.1 c.2.1 c.2.2) (rd : ∀ c ∈ D, OV m w c.2.1 c.2.2.1 c.2.2.2) :
    OV m w (.mk k i t (L.map (·.1)) (D.map fun c => (c.1, c.2.1))) [.int .i64 k, .int .i64 i, .string t, sl, sd]
      (sl.ownBlock.toList ++ L.flatMap (·.2.2) ++ (sd.ownBlock.toList ++ D.flatMap (·.2.2.2)))

theorem OV.at_ {m : Bool} {w w1 : World} {v : V} {cs : List Value} {F : List Nat} (h : OV m w v cs F) : (∀ g ∈ F, w1.heap[g]? = w.heap[g]?) → OV m w1 v cs F := by
  induction h with
  | mk L D hk hi ht hl hd hn hol hod _ _ ihl ihd =>
    intro hb
    refine .mk L D hk hi ht hl hd hn (hol.at_ fun g hg => hb g ?_) (hod.at_ fun g hg => hb g ?_) (fun c hc => ihl c hc fun g hg => hb g ?_) (fun c hc => ihd c hc fun g hg => hb g ?_)
    · simp [hg]
    · simp [hg]
    · simp only [List.mem_append, List.mem_flatMap]
      exact .inl (.inr ⟨c, hc, hg⟩)
    · simp only [List.mem_append, List.mem_flatMap]
      exact .inr (.inr ⟨c, hc, hg⟩)
theorem OV.lt {m : Bool} {w : World} {v : V} {cs : List Value} {F : List Nat} (h : OV m w v cs F) : ∀ g ∈ F, g < w.heap.size := by
  induction h with
  | mk L D hk hi ht hl hd hn hol hod _ _ ihl ihd =>
    intro g hg
    simp only [List.mem_append, List.mem_flatMap] at hg
    rcases hg with (hg | ⟨c, hc, hg⟩) | (hg | ⟨c, hc, hg⟩)
    · exact ownsRow_lt hol.1 hg
    · exact ihl c hc g hg
    · exact ownsRow_lt hod.1 hg
    · exact ihd c hc g hg
theorem OV.len {m : Bool} {w : World} {v : V} {cs : List Value} {F : List Nat} (h : OV m w v cs F) : cs.length = 5 := by cases h; rfl
theorem OV.grow {m : Bool} {w w1 : World} {v : V} {cs : List Value} {F : List Nat} (h : OV m w v cs F) (hb : Below w.heap.size w w1) : OV m w1 v cs F :=
  h.at_ fun g hg => hb.block g (h.lt g hg)
theorem OV.plain {m : Bool} {w : World} {v : V} {cs : List Value} {F : List Nat} (h : OV m w v cs F) : OV false w v cs F := by
  induction h with
  | mk L D hk hi ht hl hd hn hol hod _ _ ihl ihd => exact .mk L D hk hi ht hl hd hn hol.plain hod.plain ihl ihd

/-- In a flat row of parts of one size, the j-th part. -/
theorem flat_part {α : Type} (f : α → List Value) (sz : Nat) : ∀ (L : List α), (∀ c ∈ L, (f c).length = sz) → ∀ j (h : j < L.length), ((L.flatMap f).drop (j * sz)).take sz = f L[j]
  | [], _, j, h => absurd h (by simp)
  | c :: L, hs, 0, h => by
    have := hs c (by simp)
    simp only [List.flatMap_cons, Nat.zero_mul, List.drop_zero, List.getElem_cons_zero]
    rw [← this, List.take_left]
  | c :: L, hs, j + 1, h => by
    have := hs c (by simp)
    simp only [List.flatMap_cons, List.getElem_cons_succ]
    rw [show (j + 1) * sz = (f c).length + j * sz by rw [this, Nat.succ_mul]; omega, List.drop_append]
    simp only [Nat.add_sub_cancel_left, Nat.le_add_right, List.drop_eq_nil_of_le, List.nil_append]
    exact flat_part f sz L (fun x hx => hs x (by simp [hx])) j (by simpa using h)

theorem OV.rv {m : Bool} {w : World} {v : V} {cs : List Value} {F : List Nat} (h : OV m w v cs F) : RV w v cs := by
  induction h with
  | mk L D hk hi ht hl hd hn hol hod rl rd ihl ihd =>
    rename_i k i t sl sd
    obtain ⟨A, c, rfl, hc⟩ := ownsRow_slice hol.1
    obtain ⟨A', c', rfl, hc'⟩ := ownsRow_slice hod.1
    have e1 : L.length = (L.map (·.1)).length := by simp
    have e2 : D.length = (D.map fun c => (c.1, c.2.1)).length := by simp
    rw [e1, e2]
    refine RV.mk' hk hi ht ⟨by simpa using hl, by simpa using hc, fun j => (L.getD j default).2.1, ?_, ?_⟩ ⟨by simpa using hd, by simpa using hc', ?_, fun j => (D.getD j default).2.2.1, ?_, ?_⟩
    · intro j hj
      have hj : j < L.length := by simpa using hj
      have hp := flat_part (fun c : V × List Value × List Nat => c.2.1) 5 L (fun c hc => (rl c hc).len) j hj
      have h5 := (rl L[j] (List.getElem_mem hj)).len
      simp only [List.getD_eq_getElem?_getD, List.getElem?_eq_getElem hj, Option.getD_some]
      exact ownsRow_cells hol.1 _ _ (by intro h; rw [h] at h5; simp at h5) (by rw [h5]; exact hp)
    · intro j hj
      have hj : j < L.length := by simpa using hj
      simp only [List.getD_eq_getElem?_getD, List.getElem?_eq_getElem hj, Option.getD_some, List.getElem_map]
      exact ihl _ (List.getElem_mem hj)
    · intro j hj
      have hj : j < D.length := by simpa using hj
      simp only [List.getElem_map]
      exact hn _ (List.getElem_mem hj)
    · intro j hj
      have hj : j < D.length := by simpa using hj
      have hp := flat_part (fun c : ByteArray × V × List Value × List Nat => Value.string c.1 :: c.2.2.1) 6 D (fun c hc => by simp [(rd c hc).len]) j hj
      have h5 := (rd D[j] (List.getElem_mem hj)).len
      simp only [List.getD_eq_getElem?_getD, List.getElem?_eq_getElem hj, Option.getD_some, List.getElem_map]
      exact ownsRow_cells hod.1 _ _ (by simp) (by simp only [List.length_cons, h5]; exact hp)
    · intro j hj
      have hj : j < D.length := by simpa using hj
      simp only [List.getD_eq_getElem?_getD, List.getElem?_eq_getElem hj, Option.getD_some, List.getElem_map]
      exact ihd _ (List.getElem_mem hj)

theorem setCell_block {w : World} {b : Nat} {c : Array Value} {e : TypeId} {fr : Nat × Nat} (h : w.heap[b]? = some (.cells c e fr)) (j : Nat) (v : Value) : (w.setCell ⟨b, j, none⟩ v).heap[b]? = some (.cells (c.setIfInBounds j v) e fr) := by
  simp [World.setCell, Array.getElem?_modify, h]
theorem cell_at {w : World} {b : Nat} {c : Array Value} {e : TypeId} {fr : Nat × Nat} (h : w.heap[b]? = some (.cells c e fr)) (j : Nat) (v : Value) (hv : c[j]? = some v) : w.cell? ⟨b, j, none⟩ = some v := by
  simp only [World.cell?, h]
  exact hv
theorem free_at {w : World} {b : Nat} {c : Array Value} {e : TypeId} (h : w.heap[b]? = some (.cells c e (0, 0))) (j : Nat) : w.frozen? ⟨b, j, none⟩ = false := by
  simp [World.frozen?, h]
theorem only_set (w : World) (b j : Nat) (v : Value) : Only (· = b) w (w.setCell ⟨b, j, none⟩ v) :=
  ⟨rfl, rfl, rfl, by simp [World.setCell], fun k _ hk => Below.heap_setCell w ⟨b, j, none⟩ v k hk⟩
theorem block_lt {w : World} {b : Nat} {o : Obj} (h : w.heap[b]? = some o) : b < w.heap.size := (Array.getElem?_eq_some_iff.1 h).1

theorem drewN_below2 {B : Nat} {w w' : World} (h : Below B w w') (n : Nat) : Below B w (w'.drewN n) := ⟨h.os, h.tape, h.output, h.size, h.block⟩
theorem heap2_first (w : World) (a b : Obj) (n : Nat) : (((w.alloc a).alloc b).drewN n).heap[w.heap.size]? = some a := by
  show ((w.alloc a).alloc b).heap[w.heap.size]? = some a
  rw [heap_alloc_old _ _ (by simp), heap_alloc_new]
theorem heap2_second (w : World) (a b : Obj) (n : Nat) : (((w.alloc a).alloc b).drewN n).heap[w.heap.size + 1]? = some b := by
  show ((w.alloc a).alloc b).heap[w.heap.size + 1]? = some b
  have := heap_alloc_new (w.alloc a) b
  simpa using this
/-- A row of values that is being built: its elements, each with its cells and blocks; all blocks from B on, none twice. -/
structure PL (w : World) (B : Nat) (L : List (V × List Value × List Nat)) (sl : Value) : Prop where
  row : w.ownsRow 0 25 5 sl L.length (L.flatMap (·.2.1))
  each : ∀ c ∈ L, OV false w c.1 c.2.1 c.2.2
  nodup : (sl.ownBlock.toList ++ L.flatMap (·.2.2)).Nodup
  from_ : ∀ g ∈ sl.ownBlock.toList ++ L.flatMap (·.2.2), B ≤ g
theorem PL.lt {w : World} {B : Nat} {L : List (V × List Value × List Nat)} {sl : Value} (h : PL w B L sl) : ∀ g ∈ sl.ownBlock.toList ++ L.flatMap (·.2.2), g < w.heap.size := by
  intro g hg
  rcases List.mem_append.1 hg with hg | hg
  · exact ownsRow_lt h.row hg
  · obtain ⟨c, hc, hg⟩ := List.mem_flatMap.1 hg
    exact (h.each c hc).lt g hg
theorem PL.nil (w : World) (B : Nat) : PL w B [] (.slice none 0 0) := ⟨⟨rfl, .inl ⟨rfl, rfl⟩⟩, fun c hc => absurd hc (by simp), by simp [Value.ownBlock], by simp [Value.ownBlock]⟩
theorem PL.at_ {w w1 : World} {B : Nat} {L : List (V × List Value × List Nat)} {sl : Value} (h : PL w B L sl) (hb : ∀ g ∈ sl.ownBlock.toList ++ L.flatMap (·.2.2), w1.heap[g]? = w.heap[g]?) : PL w1 B L sl :=
  ⟨ownsRow_at h.row fun g hg => hb g (by simp [hg]), fun c hc => (h.each c hc).at_ fun g hg => hb g (List.mem_append_right _ (List.mem_flatMap.2 ⟨c, hc, hg⟩)), h.nodup, h.from_⟩
theorem PL.grow {w w1 : World} {B : Nat} {L : List (V × List Value × List Nat)} {sl : Value} (h : PL w B L sl) (hb : Below w.heap.size w w1) : PL w1 B L sl :=
  h.at_ fun g hg => hb.block g (h.lt g hg)
theorem PL.only {S : Nat → Prop} {w w1 : World} {B : Nat} {L : List (V × List Value × List Nat)} {sl : Value} (h : PL w B L sl) (hb : Only S w w1) (hS : ∀ g, S g → g < B) : PL w1 B L sl :=
  h.at_ fun g hg => hb.block g (h.lt g hg) fun hs => absurd (hS g hs) (by have := h.from_ g hg; omega)
theorem PL.snoc {w w' : World} {B H : Nat} {L : List (V × List Value × List Nat)} {sl : Value} {x : V} {cx : List Value} {Fx : List Nat} {g n cap : Nat} (h : PL w B L sl) (hx : OV false w x cx Fx) (hnd : Fx.Nodup)
    (hF : ∀ g ∈ Fx, B ≤ g ∧ g ∉ sl.ownBlock.toList ++ L.flatMap (·.2.2)) (hown : w'.ownsRow 0 25 5 (.slice (some ⟨g, 0, none⟩) n cap) (L.length + 1) (L.flatMap (·.2.1) ++ cx)) (hgrow : w.grownBy w' sl.ownBlock)
    (hat : sl.ownBlock = some g ∨ g = H) (hH : H = w.heap.size) (hB : B ≤ w.heap.size) : PL w' B (L ++ [(x, cx, Fx)]) (.slice (some ⟨g, 0, none⟩) n cap) := by
  have hnew : ∀ q ∈ L.flatMap (·.2.2) ++ Fx, q ≠ g ∧ w'.heap[q]? = w.heap[q]? := by
    intro q hq
    have hlt : q < w.heap.size := by
      rcases List.mem_append.1 hq with hq | hq
      · exact h.lt q (List.mem_append_right _ hq)
      · exact hx.lt q hq
    have hne : some q ≠ sl.ownBlock := by
      intro he
      have hm : q ∈ sl.ownBlock.toList := by rw [← he]; simp
      rcases List.mem_append.1 hq with hq | hq
      · exact (List.nodup_append.1 h.nodup).2.2 q hm q hq rfl
      · exact (hF q hq).2 (List.mem_append_left _ hm)
    refine ⟨fun he => ?_, hgrow.block q hlt hne⟩
    rcases hat with hat | hat
    · exact hne (by rw [hat, he])
    · omega
  have hL : ∀ c ∈ L, OV false w' c.1 c.2.1 c.2.2 := fun c hc => (h.each c hc).at_ fun q hq => (hnew q (List.mem_append_left _ (List.mem_flatMap.2 ⟨c, hc, hq⟩))).2
  refine ⟨by simpa using hown, fun c hc => ?_, ?_, ?_⟩
  · rcases List.mem_append.1 hc with hc | hc
    · exact hL c hc
    · rw [List.mem_singleton.1 hc]
      exact hx.at_ fun q hq => (hnew q (List.mem_append_right _ hq)).2
  · have hd : (L.flatMap (·.2.2) ++ Fx).Nodup := by
      refine List.nodup_append.2 ⟨(List.nodup_append.1 h.nodup).2.1, hnd, fun a ha b hb he => (hF b hb).2 (List.mem_append_right _ (he ▸ ha))⟩
    simp only [Value.ownBlock, Option.toList_some, List.flatMap_append, List.flatMap_cons, List.flatMap_nil, List.append_nil, List.singleton_append, List.nodup_cons]
    exact ⟨fun hm => (hnew g hm).1 rfl, hd⟩
  · intro q hq
    simp only [Value.ownBlock, Option.toList_some, List.flatMap_append, List.flatMap_cons, List.flatMap_nil, List.append_nil, List.singleton_append, List.mem_cons] at hq
    rcases hq with rfl | hq
    · rcases hat with hat | hat
      · exact h.from_ _ (List.mem_append_left _ (by rw [hat]; simp))
      · omega
    · rcases List.mem_append.1 hq with hq | hq
      · exact h.from_ _ (List.mem_append_right _ hq)
      · exact (hF _ hq).1

/-- A block ahead of B stands, whatever the row's append turned. -/
theorem PL.box {w1 w2 : World} {B bx : Nat} {o : Obj} {L : List (V × List Value × List Nat)} {sl : Value} {blk : Obj} (hpl : PL w1 B L sl) (h : w1.heap[bx]? = some blk) (hg : (w1.alloc o).grownBy w2 sl.ownBlock) (hB : bx < B) : w2.heap[bx]? = some blk := by
  have hlt := block_lt h
  rw [hg.block bx (by simp; omega) (fun he => ?_), heap_alloc_old _ _ hlt, h]
  have := hpl.from_ bx (List.mem_append_left _ (by rw [← he]; simp))
  omega
/-- The same of fields. -/
structure PD (w : World) (B : Nat) (D : List (ByteArray × V × List Value × List Nat)) (sd : Value) : Prop where
  row : w.ownsRow 0 72 6 sd D.length (D.flatMap fun c => .string c.1 :: c.2.2.1)
  each : ∀ c ∈ D, OV false w c.2.1 c.2.2.1 c.2.2.2
  nodup : (sd.ownBlock.toList ++ D.flatMap (·.2.2.2)).Nodup
  from_ : ∀ g ∈ sd.ownBlock.toList ++ D.flatMap (·.2.2.2), B ≤ g
theorem PD.lt {w : World} {B : Nat} {D : List (ByteArray × V × List Value × List Nat)} {sd : Value} (h : PD w B D sd) : ∀ g ∈ sd.ownBlock.toList ++ D.flatMap (·.2.2.2), g < w.heap.size := by
  intro g hg
  rcases List.mem_append.1 hg with hg | hg
  · exact ownsRow_lt h.row hg
  · obtain ⟨c, hc, hg⟩ := List.mem_flatMap.1 hg
    exact (h.each c hc).lt g hg
theorem PD.nil (w : World) (B : Nat) : PD w B [] (.slice none 0 0) := ⟨⟨rfl, .inl ⟨rfl, rfl⟩⟩, fun c hc => absurd hc (by simp), by simp [Value.ownBlock], by simp [Value.ownBlock]⟩
theorem PD.at_ {w w1 : World} {B : Nat} {D : List (ByteArray × V × List Value × List Nat)} {sd : Value} (h : PD w B D sd) (hb : ∀ g ∈ sd.ownBlock.toList ++ D.flatMap (·.2.2.2), w1.heap[g]? = w.heap[g]?) : PD w1 B D sd :=
  ⟨ownsRow_at h.row fun g hg => hb g (by simp [hg]), fun c hc => (h.each c hc).at_ fun g hg => hb g (List.mem_append_right _ (List.mem_flatMap.2 ⟨c, hc, hg⟩)), h.nodup, h.from_⟩
theorem PD.grow {w w1 : World} {B : Nat} {D : List (ByteArray × V × List Value × List Nat)} {sd : Value} (h : PD w B D sd) (hb : Below w.heap.size w w1) : PD w1 B D sd :=
  h.at_ fun g hg => hb.block g (h.lt g hg)
theorem PD.only {S : Nat → Prop} {w w1 : World} {B : Nat} {D : List (ByteArray × V × List Value × List Nat)} {sd : Value} (h : PD w B D sd) (hb : Only S w w1) (hS : ∀ g, S g → g < B) : PD w1 B D sd :=
  h.at_ fun g hg => hb.block g (h.lt g hg) fun hs => absurd (hS g hs) (by have := h.from_ g hg; omega)
theorem PD.snoc {w w' : World} {B H : Nat} {D : List (ByteArray × V × List Value × List Nat)} {sd : Value} {nm : ByteArray} {x : V} {cx : List Value} {Fx : List Nat} {g n cap : Nat} (h : PD w B D sd) (hx : OV false w x cx Fx) (hnd : Fx.Nodup)
    (hF : ∀ g ∈ Fx, B ≤ g ∧ g ∉ sd.ownBlock.toList ++ D.flatMap (·.2.2.2)) (hown : w'.ownsRow 0 72 6 (.slice (some ⟨g, 0, none⟩) n cap) (D.length + 1) ((D.flatMap fun c => .string c.1 :: c.2.2.1) ++ .string nm :: cx)) (hgrow : w.grownBy w' sd.ownBlock)
    (hat : sd.ownBlock = some g ∨ g = H) (hH : H = w.heap.size) (hB : B ≤ w.heap.size) : PD w' B (D ++ [(nm, x, cx, Fx)]) (.slice (some ⟨g, 0, none⟩) n cap) := by
  have hnew : ∀ q ∈ D.flatMap (·.2.2.2) ++ Fx, q ≠ g ∧ w'.heap[q]? = w.heap[q]? := by
    intro q hq
    have hlt : q < w.heap.size := by
      rcases List.mem_append.1 hq with hq | hq
      · exact h.lt q (List.mem_append_right _ hq)
      · exact hx.lt q hq
    have hne : some q ≠ sd.ownBlock := by
      intro he
      have hm : q ∈ sd.ownBlock.toList := by rw [← he]; simp
      rcases List.mem_append.1 hq with hq | hq
      · exact (List.nodup_append.1 h.nodup).2.2 q hm q hq rfl
      · exact (hF q hq).2 (List.mem_append_left _ hm)
    refine ⟨fun he => ?_, hgrow.block q hlt hne⟩
    rcases hat with hat | hat
    · exact hne (by rw [hat, he])
    · omega
  have hL : ∀ c ∈ D, OV false w' c.2.1 c.2.2.1 c.2.2.2 := fun c hc => (h.each c hc).at_ fun q hq => (hnew q (List.mem_append_left _ (List.mem_flatMap.2 ⟨c, hc, hq⟩))).2
  refine ⟨by simpa using hown, fun c hc => ?_, ?_, ?_⟩
  · rcases List.mem_append.1 hc with hc | hc
    · exact hL c hc
    · rw [List.mem_singleton.1 hc]
      exact hx.at_ fun q hq => (hnew q (List.mem_append_right _ hq)).2
  · have hd : (D.flatMap (·.2.2.2) ++ Fx).Nodup := by
      refine List.nodup_append.2 ⟨(List.nodup_append.1 h.nodup).2.1, hnd, fun a ha b hb he => (hF b hb).2 (List.mem_append_right _ (he ▸ ha))⟩
    simp only [Value.ownBlock, Option.toList_some, List.flatMap_append, List.flatMap_cons, List.flatMap_nil, List.append_nil, List.singleton_append, List.nodup_cons]
    exact ⟨fun hm => (hnew g hm).1 rfl, hd⟩
  · intro q hq
    simp only [Value.ownBlock, Option.toList_some, List.flatMap_append, List.flatMap_cons, List.flatMap_nil, List.append_nil, List.singleton_append, List.mem_cons] at hq
    rcases hq with rfl | hq
    · rcases hat with hat | hat
      · exact h.from_ _ (List.mem_append_left _ (by rw [hat]; simp))
      · omega
    · rcases List.mem_append.1 hq with hq | hq
      · exact h.from_ _ (List.mem_append_right _ hq)
      · exact (hF _ hq).1

theorem PD.box {w1 w2 : World} {B bx : Nat} {o : Obj} {D : List (ByteArray × V × List Value × List Nat)} {sd : Value} {blk : Obj} (hpl : PD w1 B D sd) (h : w1.heap[bx]? = some blk) (hg : (w1.alloc o).grownBy w2 sd.ownBlock) (hB : bx < B) : w2.heap[bx]? = some blk := by
  have hlt := block_lt h
  rw [hg.block bx (by simp; omega) (fun he => ?_), heap_alloc_old _ _ hlt, h]
  have := hpl.from_ bx (List.mem_append_left _ (by rw [← he]; simp))
  omega
/-- The two rows of a value, its blocks apart: the value. -/
theorem OV.of_rows {w : World} {B : Nat} {k i : Int} {t : ByteArray} {L : List (V × List Value × List Nat)} {D : List (ByteArray × V × List Value × List Nat)} {sl sd : Value} (hk : Rng k) (hi : Rng i) (ht : t.size ≤ 140737488355328)
    (hl : L.length * 80 ≤ 140737488355328) (hd : D.length * 96 ≤ 140737488355328) (hn : ∀ c ∈ D, c.1.size ≤ 140737488355328) (hL : PL w B L sl) (hD : PD w B D sd)
    (hapart : ∀ g ∈ sl.ownBlock.toList ++ L.flatMap (·.2.2), g ∉ sd.ownBlock.toList ++ D.flatMap (·.2.2.2)) :
    ∃ F, OV false w (.mk k i t (L.map (·.1)) (D.map fun c => (c.1, c.2.1))) [.int .i64 k, .int .i64 i, .string t, sl, sd] F ∧ F.Nodup ∧ ∀ g ∈ F, B ≤ g := by
  refine ⟨_, .mk L D hk hi ht hl hd hn ⟨hL.row, fun h => by cases h⟩ ⟨hD.row, fun h => by cases h⟩ hL.each hD.each, ?_, ?_⟩
  · exact List.nodup_append.2 ⟨hL.nodup, hD.nodup, fun a ha b hb he => hapart a ha (he ▸ hb)⟩
  · intro g hg
    rcases List.mem_append.1 hg with hg | hg
    · exact hL.from_ g hg
    · exact hD.from_ g hg

/-- One round of a copying loop: the element's copy made, appended, the row stored into the box. -/
theorem PL.round {wr W3 w1 w2 : World} {B bx q g cap : Nat} {o : Obj} {c : Array Value} {L : List (V × List Value × List Nat)} {sl : Value} {x : V} {cx : List Value} {F : List Nat} (hbx : bx < B) (hB : B ≤ wr.heap.size)
    (hb3 : Below wr.heap.size wr W3) (hb1 : Below W3.heap.size W3 w1) (hpl : PL wr B L sl) (h0 : wr.heap[bx]? = some (.cells c 25 (0, 0)))
    (hov : OV false w1 x cx F) (hnd : F.Nodup) (hfr : ∀ g ∈ F, W3.heap.size ≤ g)
    (hown : w2.ownsRow 0 25 5 (.slice (some ⟨g, 0, none⟩) (L.length + 1) cap) (L.length + 1) (L.flatMap (·.2.1) ++ cx)) (hgrow : (w1.alloc o).grownBy w2 sl.ownBlock) (hat : sl.ownBlock = some g ∨ g = w1.heap.size + 1) :
    PL (w2.setCell ⟨bx, q, none⟩ (.slice (some ⟨g, 0, none⟩) (L.length + 1) cap)) B (L ++ [(x, cx, F)]) (.slice (some ⟨g, 0, none⟩) (L.length + 1) cap) ∧
      (w2.setCell ⟨bx, q, none⟩ (.slice (some ⟨g, 0, none⟩) (L.length + 1) cap)).heap[bx]? = some (.cells (c.setIfInBounds q (.slice (some ⟨g, 0, none⟩) (L.length + 1) cap)) 25 (0, 0)) ∧
      Only (fun k => k = bx ∨ B ≤ k) wr (w2.setCell ⟨bx, q, none⟩ (.slice (some ⟨g, 0, none⟩) (L.length + 1) cap)) := by
  have hw1 : Below wr.heap.size wr w1 := below2 hb3 hb1
  have hpl1 := hpl.grow hw1
  have hsz : B ≤ w1.heap.size := by have := hw1.size; omega
  have hbx1 := (hw1.block bx (by omega)).trans h0
  have hnew := PL.snoc (w := w1.alloc o) (hpl1.grow (below_alloc1 _ _)) (hov.grow (below_alloc1 _ _)) hnd (fun g hg => ⟨by have := hfr g hg; have := hb3.size; omega, fun hm => by have := hpl.lt g hm; have := hfr g hg; have := hb3.size; omega⟩) hown hgrow (hat.imp id (fun h => h)) (by simp) (by simp; omega)
  have honly := only_set w2 bx q (.slice (some ⟨g, 0, none⟩) (L.length + 1) cap)
  refine ⟨hnew.only honly (fun k hk => by omega), setCell_block (hpl1.box hbx1 hgrow (by omega)) q _, ?_⟩
  have h12 : Only (fun k => some k = sl.ownBlock) wr w2 := (Only.of_below (below2 hw1 (below_alloc1 w1 o))).trans (Only.of_grown hgrow) (fun k _ hk => hk)
  have h13 : Only (fun k => k = bx ∨ B ≤ k) wr w2 := h12.mono fun k _ hk => .inr (hpl.from_ k (List.mem_append_left _ (by rw [← hk]; simp)))
  exact h13.trans honly fun k _ hk => .inl hk
theorem PD.round {wr W3 w1 w2 : World} {B bx q g cap : Nat} {o : Obj} {c : Array Value} {L : List (ByteArray × V × List Value × List Nat)} {sl : Value} {nm : ByteArray} {x : V} {cx : List Value} {F : List Nat} (hbx : bx < B) (hB : B ≤ wr.heap.size)
    (hb3 : Below wr.heap.size wr W3) (hb1 : Below W3.heap.size W3 w1) (hpl : PD wr B L sl) (h0 : wr.heap[bx]? = some (.cells c 25 (0, 0)))
    (hov : OV false w1 x cx F) (hnd : F.Nodup) (hfr : ∀ g ∈ F, W3.heap.size ≤ g)
    (hown : w2.ownsRow 0 72 6 (.slice (some ⟨g, 0, none⟩) (L.length + 1) cap) (L.length + 1) ((L.flatMap fun c => .string c.1 :: c.2.2.1) ++ .string nm :: cx)) (hgrow : (w1.alloc o).grownBy w2 sl.ownBlock) (hat : sl.ownBlock = some g ∨ g = w1.heap.size + 1) :
    PD (w2.setCell ⟨bx, q, none⟩ (.slice (some ⟨g, 0, none⟩) (L.length + 1) cap)) B (L ++ [(nm, x, cx, F)]) (.slice (some ⟨g, 0, none⟩) (L.length + 1) cap) ∧
      (w2.setCell ⟨bx, q, none⟩ (.slice (some ⟨g, 0, none⟩) (L.length + 1) cap)).heap[bx]? = some (.cells (c.setIfInBounds q (.slice (some ⟨g, 0, none⟩) (L.length + 1) cap)) 25 (0, 0)) ∧
      Only (fun k => k = bx ∨ B ≤ k) wr (w2.setCell ⟨bx, q, none⟩ (.slice (some ⟨g, 0, none⟩) (L.length + 1) cap)) := by
  have hw1 : Below wr.heap.size wr w1 := below2 hb3 hb1
  have hpl1 := hpl.grow hw1
  have hsz : B ≤ w1.heap.size := by have := hw1.size; omega
  have hbx1 := (hw1.block bx (by omega)).trans h0
  have hnew := PD.snoc (w := w1.alloc o) (hpl1.grow (below_alloc1 _ _)) (hov.grow (below_alloc1 _ _)) hnd (fun g hg => ⟨by have := hfr g hg; have := hb3.size; omega, fun hm => by have := hpl.lt g hm; have := hfr g hg; have := hb3.size; omega⟩) hown hgrow (hat.imp id (fun h => h)) (by simp) (by simp; omega)
  have honly := only_set w2 bx q (.slice (some ⟨g, 0, none⟩) (L.length + 1) cap)
  refine ⟨hnew.only honly (fun k hk => by omega), setCell_block (hpl1.box hbx1 hgrow (by omega)) q _, ?_⟩
  have h12 : Only (fun k => some k = sl.ownBlock) wr w2 := (Only.of_below (below2 hw1 (below_alloc1 w1 o))).trans (Only.of_grown hgrow) (fun k _ hk => hk)
  have h13 : Only (fun k => k = bx ∨ B ≤ k) wr w2 := h12.mono fun k _ hk => .inr (hpl.from_ k (List.mem_append_left _ (by rw [← hk]; simp)))
  exact h13.trans honly fun k _ hk => .inl hk
theorem PD.weak {w : World} {B B' : Nat} {D : List (ByteArray × V × List Value × List Nat)} {sd : Value} (h : PD w B D sd) (hB : B' ≤ B) : PD w B' D sd := ⟨h.row, h.each, h.nodup, fun g hg => Nat.le_trans hB (h.from_ g hg)⟩
theorem PL.weak {w : World} {B B' : Nat} {L : List (V × List Value × List Nat)} {sl : Value} (h : PL w B L sl) (hB : B' ≤ B) : PL w B' L sl := ⟨h.row, h.each, h.nodup, fun g hg => Nat.le_trans hB (h.from_ g hg)⟩
/-- Five stores into a block. -/
def set5 (w : World) (b : Nat) (v0 v1 v2 v3 v4 : Value) : World := ((((w.setCell ⟨b, 0, none⟩ v0).setCell ⟨b, 1, none⟩ v1).setCell ⟨b, 2, none⟩ v2).setCell ⟨b, 3, none⟩ v3).setCell ⟨b, 4, none⟩ v4
theorem set5_only (w : World) (b : Nat) (v0 v1 v2 v3 v4 : Value) : Only (· = b) w (set5 w b v0 v1 v2 v3 v4) := by
  unfold set5
  exact ((((only_set w b 0 v0).trans (only_set _ b 1 v1) (fun _ _ h => h)).trans (only_set _ b 2 v2) (fun _ _ h => h)).trans (only_set _ b 3 v3) (fun _ _ h => h)).trans (only_set _ b 4 v4) (fun _ _ h => h)
theorem set5_block {w : World} {b : Nat} {a0 a1 a2 a3 a4 : Value} {e : TypeId} {fr : Nat × Nat} (h : w.heap[b]? = some (.cells #[a0, a1, a2, a3, a4] e fr)) (v0 v1 v2 v3 v4 : Value) : (set5 w b v0 v1 v2 v3 v4).heap[b]? = some (.cells #[v0, v1, v2, v3, v4] e fr) := by
  unfold set5
  exact setCell_block (setCell_block (setCell_block (setCell_block (setCell_block h 0 _) 1 _) 2 _) 3 _) 4 _

/-- What a call answers that makes a value: it, in new memory of its own. -/
def Made (w : World) (v : V) (e : Ending) (w' : World) : Prop :=
  ∃ cs F, e = .returned (.agg cs.toArray) ∧ OV false w' v cs F ∧ F.Nodup ∧ (∀ g ∈ F, w.heap.size ≤ g) ∧ Below w.heap.size w w'
end Go.Proofs.YthfejpldhemakaaDoor
