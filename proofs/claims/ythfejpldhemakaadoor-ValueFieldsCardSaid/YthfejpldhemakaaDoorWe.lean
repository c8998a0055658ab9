import Derived.Test.YthfejpldhemakaaDoorWd
namespace Go.Proofs.YthfejpldhemakaaDoor
open Go.RowKit Go.Sort
theorem posD_none {nm : ByteArray} : ∀ {d : List (ByteArray × V)} {i : Nat}, posD nm d i = -1 → d.filter (fun c => notNm nm c.1) = d
  | [], _, _ => rfl
  | (n, y) :: d, i, h => by
    rw [posD] at h
    by_cases he : n = nm
    · rw [if_pos he] at h; omega
    · rw [if_neg he] at h
      rw [List.filter_cons, if_pos (by simp [notNm, he]), posD_none h]
theorem posD_first {nm : ByteArray} : ∀ {d : List (ByteArray × V)} {i j : Nat}, posD nm d i = ((i + j : Nat) : Int) → j < d.length → (d.take j).filter (fun c => notNm nm c.1) = d.take j ∧ ∀ h : j < d.length, d[j].1 = nm
  | [], _, _, _, h => by simp at h
  | (n, y) :: d, i, 0, h, _ => by
    rw [posD] at h
    by_cases he : n = nm
    · exact ⟨rfl, fun _ => he⟩
    · rw [if_neg he] at h
      rcases posD_cases nm y d (i + 1) with ⟨h1, _⟩ | ⟨j', _, h1, _⟩ <;> omega
  | (n, y) :: d, i, j + 1, h, hl => by
    rw [posD] at h
    by_cases he : n = nm
    · rw [if_pos he] at h; omega
    · rw [if_neg he] at h
      obtain ⟨h1, h2⟩ := posD_first (d := d) (i := i + 1) (j := j) (by rw [h]; congr 1; omega) (by simpa using hl)
      refine ⟨?_, fun _ => by simpa using h2 (by simpa using hl)⟩
      rw [List.take_succ_cons, List.filter_cons, if_pos (by simp [notNm, he]), h1]
/-- What a row is while it is sieved in place: its head the fields that stay, its tail as it was. -/
def Sieving (nm : ByteArray) (D : List (ByteArray × V × List Value × List Nat)) (w : World) (g n c j : Nat) : Prop :=
  ∃ ys, w.ownsRow 0 72 6 (.slice (some ⟨g, 0, none⟩) n c) n ys ∧ ys.take ((sieve nm D j).length * 6) = flatD (sieve nm D j) ∧ ∀ p, j * 6 ≤ p → ys[p]? = (flatD D)[p]?
theorem flatD_len {D : List (ByteArray × V × List Value × List Nat)} (h5 : ∀ c ∈ D, c.2.2.1.length = 5) : (flatD D).length = D.length * 6 := by
  induction D with
  | nil => rfl
  | cons c D ih =>
    have := ih (fun x hx => h5 x (by simp [hx]))
    have h := h5 c (by simp)
    simp only [flatD, List.flatMap_cons, List.length_append, List.length_cons, h] at this ⊢
    omega
/-- Six stores in line. -/
def set6 (w : World) (g o : Nat) (c0 c1 c2 c3 c4 c5 : Value) : World := (((((w.setCell ⟨g, o, none⟩ c0).setCell ⟨g, o + 1, none⟩ c1).setCell ⟨g, o + 2, none⟩ c2).setCell ⟨g, o + 3, none⟩ c3).setCell ⟨g, o + 4, none⟩ c4).setCell ⟨g, o + 5, none⟩ c5
theorem take_set_six {xs ys : List Value} {o : Nat} {c0 c1 c2 c3 c4 c5 : Value} (ho : o + 6 ≤ xs.length) (h : xs.take o = ys) :
    ((((((xs.set o c0).set (o + 1) c1).set (o + 2) c2).set (o + 3) c3).set (o + 4) c4).set (o + 5) c5).take (o + 6) = ys ++ [c0, c1, c2, c3, c4, c5] := by
  subst h
  apply List.ext_getElem?
  intro p
  by_cases h1 : p < o
  · rw [List.getElem?_take_of_lt (by omega), List.getElem?_append_left (by rw [List.length_take]; omega), List.getElem?_take_of_lt h1]
    repeat rw [List.getElem?_set_ne (by omega)]
  · rw [List.getElem?_append_right (by rw [List.length_take]; omega), List.length_take, Nat.min_eq_left (by omega)]
    by_cases h2 : p < o + 6
    · rw [List.getElem?_take_of_lt h2]
      obtain h | h | h | h | h | h : p = o ∨ p = o + 1 ∨ p = o + 2 ∨ p = o + 3 ∨ p = o + 4 ∨ p = o + 5 := by omega
      all_goals
        subst h
        simp [List.getElem?_set]
        try omega
    · rw [List.getElem?_eq_none (by simp; omega), List.getElem?_eq_none (by simp; omega)]
theorem Sieving.step {nm : ByteArray} {D : List (ByteArray × V × List Value × List Nat)} {w : World} {g n c j : Nat} (h : Sieving nm D w g n c j) (hn : n = D.length) (hj : j < D.length) (hne : ¬ D[j].1 = nm) (hlt : (sieve nm D j).length < j) {c0 c1 c2 c3 c4 c5 : Value}
    (hc : Value.string D[j].1 :: D[j].2.2.1 = [c0, c1, c2, c3, c4, c5]) : Sieving nm D (set6 w g ((sieve nm D j).length * 6) c0 c1 c2 c3 c4 c5) g n c (j + 1) := by
  obtain ⟨ys, h1, h2, h3⟩ := h
  have hl := h1.1
  have o := ownsRow_set (ownsRow_set (ownsRow_set (ownsRow_set (ownsRow_set (ownsRow_set h1 ((sieve nm D j).length * 6) c0) ((sieve nm D j).length * 6 + 1) c1) ((sieve nm D j).length * 6 + 2) c2) ((sieve nm D j).length * 6 + 3) c3) ((sieve nm D j).length * 6 + 4) c4) ((sieve nm D j).length * 6 + 5) c5
  refine ⟨_, o, ?_, ?_⟩
  · rw [sieve_yes hj hne, List.length_append, show ((sieve nm D j).length + [D[j]].length) * 6 = (sieve nm D j).length * 6 + 6 by simp; omega, take_set_six (by omega) h2]
    simp [flatD, hc]
  · intro p hp
    repeat rw [List.getElem?_set_ne (by omega)]
    exact h3 p (by omega)
theorem Sieving.skip {nm : ByteArray} {D : List (ByteArray × V × List Value × List Nat)} {w : World} {g n c j : Nat} (h : Sieving nm D w g n c j) (hj : j < D.length) (he : D[j].1 = nm) : Sieving nm D w g n c (j + 1) := by
  obtain ⟨ys, h1, h2, h3⟩ := h
  exact ⟨ys, h1, by rw [sieve_no hj he]; exact h2, fun p hp => h3 p (by omega)⟩
theorem Sieving.at_ {nm : ByteArray} {D : List (ByteArray × V × List Value × List Nat)} {w w1 : World} {g n c j : Nat} (h : Sieving nm D w g n c j) (hb : w1.heap[g]? = w.heap[g]?) : Sieving nm D w1 g n c j := by
  obtain ⟨ys, h1, h2⟩ := h
  exact ⟨ys, ownsRow_at h1 (fun q hq => by have hq : g = q := Option.some.inj hq; subst hq; exact hb), h2⟩
theorem Sieving.lt {nm : ByteArray} {D : List (ByteArray × V × List Value × List Nat)} {w : World} {g n c j : Nat} (h : Sieving nm D w g n c j) : g < w.heap.size := by
  obtain ⟨ys, h1, _⟩ := h
  exact (ownsRow_back h1).2
/-- The cells of field j, which the sieving has not come to. -/
theorem Sieving.field {nm : ByteArray} {D : List (ByteArray × V × List Value × List Nat)} {w : World} {g n c j : Nat} (h : Sieving nm D w g n c j) (hj : j < D.length) (h5 : ∀ c ∈ D, c.2.2.1.length = 5) {c0 c1 c2 c3 c4 c5 : Value} (hc : Value.string D[j].1 :: D[j].2.2.1 = [c0, c1, c2, c3, c4, c5]) :
    w.cell? ⟨g, j * 6, none⟩ = some c0 ∧ w.cell? ⟨g, j * 6 + 1, none⟩ = some c1 ∧ w.cell? ⟨g, j * 6 + 1 + 1, none⟩ = some c2 ∧ w.cell? ⟨g, j * 6 + 1 + 2, none⟩ = some c3 ∧ w.cell? ⟨g, j * 6 + 1 + 3, none⟩ = some c4 ∧ w.cell? ⟨g, j * 6 + 1 + 4, none⟩ = some c5 := by
  obtain ⟨ys, h1, _, h3⟩ := h
  have hf : ∀ i (hi : i < 6) u, [c0, c1, c2, c3, c4, c5][i]? = some u → w.cell? ⟨g, j * 6 + i, none⟩ = some u := by
    intro i hi u hu
    have h6 := (h3 (j * 6 + i) (by omega)).trans (flatD_at h5 hj hi)
    rw [hc] at h6
    have := h1.cells (g := g) rfl (j * 6 + i) u (h6.trans hu)
    have ha : (⟨g, 0, none⟩ : Addr).add (j * 6 + i) = ⟨g, j * 6 + i, none⟩ := by unfold Addr.add; split <;> simp_all
    rwa [ha] at this
  exact ⟨hf 0 (by omega) _ rfl, hf 1 (by omega) _ rfl, hf 2 (by omega) _ rfl, hf 3 (by omega) _ rfl, hf 4 (by omega) _ rfl, hf 5 (by omega) _ rfl⟩
/-- The cells there are, and none is frozen. -/
theorem Sieving.there {nm : ByteArray} {D : List (ByteArray × V × List Value × List Nat)} {w : World} {g n c j : Nat} (h : Sieving nm D w g n c j) (p : Nat) (hp : p < n * 6) : (w.cell? ⟨g, p, none⟩).isSome = true ∧ w.frozen? ⟨g, p, none⟩ = false := by
  obtain ⟨ys, h1, _⟩ := h
  refine ⟨?_, ownsRow_free h1 p⟩
  have hl := h1.1
  have := h1.cells (g := g) rfl p ys[p] (List.getElem?_eq_getElem (by omega))
  have ha : (⟨g, 0, none⟩ : Addr).add p = ⟨g, p, none⟩ := by unfold Addr.add; split <;> simp_all
  rw [ha] at this
  rw [this]
  rfl
end Go.Proofs.YthfejpldhemakaaDoor
