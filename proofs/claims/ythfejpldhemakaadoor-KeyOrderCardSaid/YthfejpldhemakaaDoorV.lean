import Derived.WalkKit
import Derived.Lib.Hide
import Derived.Lib.QuietBelow
namespace Go.Proofs.YthfejpldhemakaaDoor
open Go.RowKit Go.Sort
/-- A value of the documents, as data. -/
inductive V where
  | mk (k i : Int) (t : ByteArray) (l : List V) (d : List (ByteArray × V))
instance : DecidableEq ByteArray := fun a b => decidable_of_iff (a.data = b.data) ⟨ByteArray.ext, fun h => h ▸ rfl⟩
instance : Inhabited V := ⟨.mk 0 0 ByteArray.empty [] []⟩
namespace V
def k : V → Int | .mk k _ _ _ _ => k
def i : V → Int | .mk _ i _ _ _ => i
def t : V → ByteArray | .mk _ _ t _ _ => t
def l : V → List V | .mk _ _ _ l _ => l
def d : V → List (ByteArray × V) | .mk _ _ _ _ d => d
theorem ind {motive : V → Prop} (h : ∀ k i t l d, (∀ x ∈ l, motive x) → (∀ p ∈ d, motive p.2) → motive (.mk k i t l d)) : ∀ v, motive v
  | .mk k i t l d => h k i t l d (fun x _ => ind h x) (fun p _ => ind h p.2)
decreasing_by
  · have := List.sizeOf_lt_of_mem ‹x ∈ l›
    simp
    omega
  · have := List.sizeOf_lt_of_mem ‹p ∈ d›
    obtain ⟨n, x⟩ := p
    simp at this ⊢
    omega
end V

theorem ret_int {k : IntKind} {a b : Int} (h : a = b) : Ending.returned (.int k a) = .returned (.int k b) := by rw [h]
theorem ret_bool {a b : Bool} (h : a = b) : Ending.returned (.bool a) = .returned (.bool b) := by rw [h]

/-- The cells cs lie at place p of the row that begins at A. -/
def CellsAt (w : World) (A : Option Addr) (p : Nat) (cs : List Value) : Prop :=
  ∃ b off, A = some ⟨b, off, none⟩ ∧ ∀ i u, cs[i]? = some u → w.cell? ⟨b, off + p + i, none⟩ = some u

def Rng (i : Int) : Prop := -9223372036854775808 ≤ i ∧ i ≤ 9223372036854775807

/-- A value's five cells, and all that lies in memory behind them. -/
inductive RV (w : World) : V → List Value → Prop
  | mk {k i : Int} {t : ByteArray} {l : List V} {d : List (ByteArray × V)} {A A' : Option Addr} {c c' : Nat} (C C' : Nat → List Value)
    (hk : Rng k) (hi : Rng i) (ht : t.size ≤ 140737488355328) (hl : l.length * 80 ≤ 140737488355328) (hd : d.length * 96 ≤ 140737488355328) (hc : l.length ≤ c) (hc' : d.length ≤ c')
    (hn : ∀ j (h : j < d.length), d[j].1.size ≤ 140737488355328)
    (hA : ∀ j, j < l.length → CellsAt w A (j * 5) (C j))
    (hA' : ∀ j (h : j < d.length), CellsAt w A' (j * 6) (.string d[j].1 :: C' j))
    (rl : ∀ j (h : j < l.length), RV w l[j] (C j))
    (rd : ∀ j (h : j < d.length), RV w d[j].2 (C' j)) :
    RV w (.mk k i t l d) [.int .i64 k, .int .i64 i, .string t, .slice A l.length c, .slice A' d.length c']

theorem CellsAt.grow {w w1 : World} {A : Option Addr} {p : Nat} {cs : List Value} (hb : Below w.heap.size w w1) (h : CellsAt w A p cs) : CellsAt w1 A p cs := by
  obtain ⟨b, off, e, hc⟩ := h
  exact ⟨b, off, e, fun i u hu => (hb.cell (World.block_lt_of_cell? w _ (hc i u hu))).trans (hc i u hu)⟩

theorem RV.grow {w w1 : World} (hb : Below w.heap.size w w1) {v : V} {cs : List Value} (h : RV w v cs) : RV w1 v cs := by
  induction h with
  | mk C C' hk hi ht hl hd hc hc' hn hA hA' _ _ ihl ihd =>
    exact .mk C C' hk hi ht hl hd hc hc' hn (fun j hj => (hA j hj).grow hb) (fun j hj => (hA' j hj).grow hb) ihl ihd

/-- A field's six cells, spelled as the walk spells them. -/
theorem field_cells {w : World} {b p : Nat} {n : ByteArray} {c0 c1 c2 c3 c4 : Value} (h : ∀ i u, (Value.string n :: [c0, c1, c2, c3, c4])[i]? = some u → w.cell? ⟨b, p + i, none⟩ = some u) :
    w.cell? ⟨b, p, none⟩ = some (.string n) ∧ w.cell? ⟨b, p + 1, none⟩ = some c0 ∧ w.cell? ⟨b, p + 1 + 1, none⟩ = some c1 ∧ w.cell? ⟨b, p + 1 + 2, none⟩ = some c2 ∧ w.cell? ⟨b, p + 1 + 3, none⟩ = some c3 ∧ w.cell? ⟨b, p + 1 + 4, none⟩ = some c4 :=
  ⟨h 0 _ rfl, h 1 _ rfl, h 2 _ rfl, h 3 _ rfl, h 4 _ rfl, h 5 _ rfl⟩
theorem value_cells {w : World} {b p : Nat} {c0 c1 c2 c3 c4 : Value} (h : ∀ i u, [c0, c1, c2, c3, c4][i]? = some u → w.cell? ⟨b, p + i, none⟩ = some u) :
    w.cell? ⟨b, p, none⟩ = some c0 ∧ w.cell? ⟨b, p + 1, none⟩ = some c1 ∧ w.cell? ⟨b, p + 2, none⟩ = some c2 ∧ w.cell? ⟨b, p + 3, none⟩ = some c3 ∧ w.cell? ⟨b, p + 4, none⟩ = some c4 :=
  ⟨h 0 _ rfl, h 1 _ rfl, h 2 _ rfl, h 3 _ rfl, h 4 _ rfl⟩

/-- A callee that leaves the world, met in a world of the class. -/
theorem regrown_same {P : Program} {f : FuncId} {args : Array Value} {w : World} {d : Nat} {os : Array Obj} {v : Value}
    (h : Calls P f args (grow (redrawn w d) os) fun e w' => e = .returned v ∧ grow (redrawn w d) os = w') : Calls P f args (grow (redrawn w d) os) fun e w'' => e = .returned v ∧ ∃ p : Regrown, w'' = grow (redrawn w p.d) p.os :=
  h.mono fun _ _ ⟨he, hb⟩ => ⟨he, ⟨⟨d, os⟩, hb.symm⟩⟩
theorem below_then {B : Nat} {w w1 w2 : World} (h : Below B w w1) (k : Below w1.heap.size w1 w2) (hB : B ≤ w1.heap.size) : Below B w w2 :=
  h.trans ⟨k.os, k.tape, k.output, k.size, fun i hi => k.block i (Nat.lt_of_lt_of_le hi hB)⟩
theorem cell_grow {w w1 : World} (hb : Below w.heap.size w w1) {a : Addr} {v : Value} (h : w.cell? a = some v) : w1.cell? a = some v := (hb.cell (World.block_lt_of_cell? w a h)).trans h
theorem cell_alloc1 {w : World} {a : Addr} {v : Value} (h : w.cell? a = some v) : ∀ o, (w.alloc o).cell? a = some v := fun o =>
  (((Below.refl w.heap.size w).alloc (Nat.le_refl _) o).cell (World.block_lt_of_cell? w a h)).trans h
theorem cell_alloc2 {w : World} {a : Addr} {v : Value} (h : w.cell? a = some v) : ∀ o o', ((w.alloc o).alloc o').cell? a = some v := fun o => cell_alloc1 (cell_alloc1 h o)
theorem below_alloc1 (w : World) (o : Obj) : Below w.heap.size w (w.alloc o) := (Below.refl _ _).alloc (Nat.le_refl _) _
theorem below_alloc2 (w : World) (o o' : Obj) : Below w.heap.size w ((w.alloc o).alloc o') := (below_alloc1 w o).alloc (by simp) _
/-- Two 'Below's in line, each from its own world's size on. -/
theorem below2 {w w1 w2 : World} (h : Below w.heap.size w w1) (k : Below w1.heap.size w1 w2) : Below w.heap.size w w2 := below_then h k h.size

theorem box_cell {w : World} {c : Array Value} {e : TypeId} {f : Nat × Nat} (i : Nat) (v : Value) (h : c[i]? = some v) : (w.alloc (.cells c e f)).cell? ⟨w.heap.size, i, none⟩ = some v := by
  have hh := heap_alloc_new w (.cells c e f)
  simp only [World.cell?, hh]
  exact h

theorem RV.shape {w : World} {v : V} {cs : List Value} (h : RV w v cs) :
    ∃ A c A' c', cs = [.int .i64 v.k, .int .i64 v.i, .string v.t, .slice A v.l.length c, .slice A' v.d.length c'] := by
  cases h with
  | mk => exact ⟨_, _, _, _, rfl⟩

/-- A list's elements, as a slice at A has them. -/
def RL (w : World) (l : List V) (A : Option Addr) (c : Nat) : Prop :=
  l.length * 80 ≤ 140737488355328 ∧ l.length ≤ c ∧ ∃ C : Nat → List Value, (∀ j, j < l.length → CellsAt w A (j * 5) (C j)) ∧ ∀ j (h : j < l.length), RV w l[j] (C j)
/-- A document's fields, as a slice at A has them. -/
def RD (w : World) (d : List (ByteArray × V)) (A : Option Addr) (c : Nat) : Prop :=
  d.length * 96 ≤ 140737488355328 ∧ d.length ≤ c ∧ (∀ j (h : j < d.length), d[j].1.size ≤ 140737488355328) ∧ ∃ C : Nat → List Value, (∀ j (h : j < d.length), CellsAt w A (j * 6) (.string d[j].1 :: C j)) ∧ ∀ j (h : j < d.length), RV w d[j].2 (C j)

theorem RV.inv {w : World} {k i : Int} {t : ByteArray} {l : List V} {d : List (ByteArray × V)} {cs : List Value} (h : RV w (.mk k i t l d) cs) :
    ∃ A c A' c', cs = [.int .i64 k, .int .i64 i, .string t, .slice A l.length c, .slice A' d.length c'] ∧ Rng k ∧ Rng i ∧ t.size ≤ 140737488355328 ∧ RL w l A c ∧ RD w d A' c' := by
  cases h with
  | mk C C' hk hi ht hl hd hc hc' hn hA hA' rl rd => exact ⟨_, _, _, _, rfl, hk, hi, ht, ⟨hl, hc, C, hA, rl⟩, ⟨hd, hc', hn, C', hA', rd⟩⟩
theorem RV.mk' {w : World} {k i : Int} {t : ByteArray} {l : List V} {d : List (ByteArray × V)} {A A' : Option Addr} {c c' : Nat} (hk : Rng k) (hi : Rng i) (ht : t.size ≤ 140737488355328) (hl : RL w l A c) (hd : RD w d A' c') :
    RV w (.mk k i t l d) [.int .i64 k, .int .i64 i, .string t, .slice A l.length c, .slice A' d.length c'] := by
  obtain ⟨h1, h2, C, h3, h4⟩ := hl
  obtain ⟨g1, g2, g5, C', g3, g4⟩ := hd
  exact .mk C C' hk hi ht h1 g1 h2 g2 g5 h3 g3 h4 g4
theorem RL.grow {w w1 : World} (hb : Below w.heap.size w w1) {l : List V} {A : Option Addr} {c : Nat} (h : RL w l A c) : RL w1 l A c := by
  obtain ⟨h1, h2, C, h3, h4⟩ := h
  exact ⟨h1, h2, C, fun j hj => (h3 j hj).grow hb, fun j hj => (h4 j hj).grow hb⟩
theorem RD.grow {w w1 : World} (hb : Below w.heap.size w w1) {d : List (ByteArray × V)} {A : Option Addr} {c : Nat} (h : RD w d A c) : RD w1 d A c := by
  obtain ⟨h1, h2, h5, C, h3, h4⟩ := h
  exact ⟨h1, h2, h5, C, fun j hj => (h3 j hj).grow hb, fun j hj => (h4 j hj).grow hb⟩
theorem CellsAt.up {B : Nat} {w w1 : World} {A : Option Addr} {p : Nat} {cs : List Value} (hB : B = w.heap.size) (hb : Below B w w1) (h : CellsAt w A p cs) : CellsAt w1 A p cs := h.grow (hB ▸ hb)
theorem RD.up {w w1 : World} (hb : Below w.heap.size w w1) {d : List (ByteArray × V)} {A : Option Addr} {c : Nat} (h : RD w d A c) : RD w1 d A c := h.grow hb
theorem RL.nil {w : World} {A : Option Addr} {c : Nat} : RL w [] A c := ⟨by simp, by simp, fun _ => [], fun j hj => absurd hj (by simp), fun j hj => absurd hj (by simp)⟩
theorem RD.nil {w : World} {A : Option Addr} {c : Nat} : RD w [] A c := ⟨by simp, by simp, fun j hj => absurd hj (by simp), fun _ => [], fun j hj => absurd hj (by simp), fun j hj => absurd hj (by simp)⟩

/-- An element: its address, its value, its five cells spelled as the walk spells them. -/
theorem RL.get {w : World} {l : List V} {A : Option Addr} {c : Nat} (h : RL w l A c) (j : Nat) (hj : j < l.length) :
    ∃ b off a0 n0 a1 n1, A = some ⟨b, off, none⟩ ∧ RV w l[j] [.int .i64 l[j].k, .int .i64 l[j].i, .string l[j].t, .slice a0 l[j].l.length n0, .slice a1 l[j].d.length n1] ∧
      w.cell? ⟨b, off + j * 5, none⟩ = some (.int .i64 l[j].k) ∧ w.cell? ⟨b, off + j * 5 + 1, none⟩ = some (.int .i64 l[j].i) ∧ w.cell? ⟨b, off + j * 5 + 2, none⟩ = some (.string l[j].t) ∧
      w.cell? ⟨b, off + j * 5 + 3, none⟩ = some (.slice a0 l[j].l.length n0) ∧ w.cell? ⟨b, off + j * 5 + 4, none⟩ = some (.slice a1 l[j].d.length n1) := by
  obtain ⟨_, _, C, h3, h4⟩ := h
  obtain ⟨b, off, e, hc⟩ := h3 j hj
  have hr := h4 j hj
  obtain ⟨a0, n0, a1, n1, hs⟩ := hr.shape
  rw [hs] at hc hr
  exact ⟨b, off, a0, n0, a1, n1, e, hr, value_cells hc⟩
theorem RD.get {w : World} {d : List (ByteArray × V)} {A : Option Addr} {c : Nat} (h : RD w d A c) (j : Nat) (hj : j < d.length) :
    ∃ b off a0 n0 a1 n1, A = some ⟨b, off, none⟩ ∧ d[j].1.size ≤ 140737488355328 ∧ RV w d[j].2 [.int .i64 d[j].2.k, .int .i64 d[j].2.i, .string d[j].2.t, .slice a0 d[j].2.l.length n0, .slice a1 d[j].2.d.length n1] ∧
      w.cell? ⟨b, off + j * 6, none⟩ = some (.string d[j].1) ∧ w.cell? ⟨b, off + j * 6 + 1, none⟩ = some (.int .i64 d[j].2.k) ∧ w.cell? ⟨b, off + j * 6 + 1 + 1, none⟩ = some (.int .i64 d[j].2.i) ∧ w.cell? ⟨b, off + j * 6 + 1 + 2, none⟩ = some (.string d[j].2.t) ∧
      w.cell? ⟨b, off + j * 6 + 1 + 3, none⟩ = some (.slice a0 d[j].2.l.length n0) ∧ w.cell? ⟨b, off + j * 6 + 1 + 4, none⟩ = some (.slice a1 d[j].2.d.length n1) := by
  obtain ⟨_, _, hn, C, h3, h4⟩ := h
  obtain ⟨b, off, e, hc⟩ := h3 j hj
  have hr := h4 j hj
  obtain ⟨a0, n0, a1, n1, hs⟩ := hr.shape
  rw [hs] at hc hr
  exact ⟨b, off, a0, n0, a1, n1, e, hn j hj, hr, field_cells hc⟩
end Go.Proofs.YthfejpldhemakaaDoor
