import Derived.Test.YthfejpldhemakaaDoorSq
import Derived.Test.YthfejpldhemakaaDoorWi
import Derived.Test.YthfejpldhemakaaDoorGf
namespace Go.Proofs.YthfejpldhemakaaDoor
open Go.RowKit Go.Sort
theorem ownsRow_set {w : World} {e sz g n c : Nat} {xs : List Value} (h : w.ownsRow 0 e sz (.slice (some ⟨g, 0, none⟩) n c) n xs) (p : Nat) (v : Value) : (w.setCell ⟨g, p, none⟩ v).ownsRow 0 e sz (.slice (some ⟨g, 0, none⟩) n c) n (xs.set p v) := by
  obtain ⟨hl, h3⟩ := h
  refine ⟨by simpa using hl, ?_⟩
  rcases h3 with ⟨h3, _⟩ | ⟨g', cap, cur, h3, h4, h5, h6, h7, h8, h9⟩
  · cases h3
  · injection h3 with h3 h3' h3''
    injection h3 with h3
    injection h3 with h3
    subst h3 h3''
    refine .inr ⟨g, c, _, rfl, h4, setCell_block h5 p v, h6, h7, by simpa using h8, ?_⟩
    rw [Array.toList_setIfInBounds, List.take_set, h9]
theorem flatten_set (sz : Nat) : ∀ (C : List (List Value)), (∀ c ∈ C, c.length = sz) → ∀ (j : Nat) (hj : j < C.length) (i : Nat) (v : Value), i < sz → C.flatten.set (j * sz + i) v = (C.set j (C[j].set i v)).flatten
  | [], _, j, hj, _, _, _ => absurd hj (by simp)
  | c :: C, hs, 0, _, i, v, hi => by
    have := hs c (by simp)
    simp only [List.flatten_cons, Nat.zero_mul, Nat.zero_add, List.set_cons_zero, List.getElem_cons_zero]
    rw [List.set_append_left _ _ (by omega)]
  | c :: C, hs, j + 1, hj, i, v, hi => by
    have hc := hs c (by simp)
    simp only [List.flatten_cons, List.set_cons_succ, List.getElem_cons_succ]
    rw [List.set_append_right _ _ (by rw [hc, Nat.succ_mul]; omega)]
    have : (j + 1) * sz + i - c.length = j * sz + i := by rw [hc, Nat.succ_mul]; omega
    rw [this, flatten_set sz C (fun x hx => hs x (by simp [hx])) j (by simpa using hj) i v hi]
theorem flat_five (x : V) (c0 c1 c2 c3 c4 : Value) (F : List Nat) : ∀ (D : List (ByteArray × V × List Value × List Nat)), (∀ c ∈ D, c.2.2.1.length = 5) → ∀ (j : Nat) (hj : j < D.length),
    ((((((D.flatMap fun c => Value.string c.1 :: c.2.2.1).set (j * 6 + 1) c0).set (j * 6 + 2) c1).set (j * 6 + 3) c2).set (j * 6 + 4) c3).set (j * 6 + 5) c4) = (D.set j (D[j].1, x, [c0, c1, c2, c3, c4], F)).flatMap fun c => Value.string c.1 :: c.2.2.1
  | [], _, j, hj => absurd hj (by simp)
  | (n, y, cs, G) :: D, hs, 0, _ => by
    have h5 := hs (n, y, cs, G) (by simp)
    simp only at h5
    match cs, h5 with
    | [d0, d1, d2, d3, d4], _ => rfl
  | (n, y, cs, G) :: D, hs, j + 1, hj => by
    have h5 := hs (n, y, cs, G) (by simp)
    simp only at h5
    have ih := flat_five x c0 c1 c2 c3 c4 F D (fun c hc => hs c (by simp [hc])) j (by simpa using hj)
    have hl : (Value.string n :: cs).length = 6 := by simp [h5]
    have hs1 : ∀ (r : List Value) (q : Nat) (v : Value), ((Value.string n :: cs) ++ r).set ((j + 1) * 6 + q) v = (Value.string n :: cs) ++ r.set (j * 6 + q) v := fun r q v => by
      rw [List.set_append_right _ _ (by rw [hl]; omega), hl]
      congr 2
      omega
    simp only [List.flatMap_cons, List.set_cons_succ, List.getElem_cons_succ]
    rw [hs1, hs1, hs1, hs1, hs1, ih]
/-- Five stores over a field's value: the row with that field's value replaced. -/
theorem field_replaced {w : World} {g n c j : Nat} {D : List (ByteArray × V × List Value × List Nat)} (hD : ∀ c ∈ D, c.2.2.1.length = 5) (h : w.ownsRow 0 72 6 (.slice (some ⟨g, 0, none⟩) n c) n (D.flatMap fun c => .string c.1 :: c.2.2.1)) (hj : j < D.length) (x : V) (c0 c1 c2 c3 c4 : Value) (F : List Nat) :
    (((((w.setCell ⟨g, j * 6 + 1, none⟩ c0).setCell ⟨g, j * 6 + 2, none⟩ c1).setCell ⟨g, j * 6 + 3, none⟩ c2).setCell ⟨g, j * 6 + 4, none⟩ c3).setCell ⟨g, j * 6 + 5, none⟩ c4).ownsRow 0 72 6 (.slice (some ⟨g, 0, none⟩) n c) n ((D.set j (D[j].1, x, [c0, c1, c2, c3, c4], F)).flatMap fun c => .string c.1 :: c.2.2.1) := by
  have h5 := ownsRow_set (ownsRow_set (ownsRow_set (ownsRow_set (ownsRow_set h (j * 6 + 1) c0) (j * 6 + 2) c1) (j * 6 + 3) c2) (j * 6 + 4) c3) (j * 6 + 5) c4
  rw [flat_five x c0 c1 c2 c3 c4 F D hD j hj] at h5
  exact h5
end Go.Proofs.YthfejpldhemakaaDoor
