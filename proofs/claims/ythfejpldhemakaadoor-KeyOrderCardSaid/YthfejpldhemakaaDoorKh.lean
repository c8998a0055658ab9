import Derived.Test.YthfejpldhemakaaDoorKg
import Derived.Test.YthfejpldhemakaaDoorKc
namespace Go.Proofs.YthfejpldhemakaaDoor
open Go.RowKit Go.Sort Go.Lib
theorem xor_255 (c : UInt8) : bits BinOp.xor IntKind.u8 (c.toNat : Int) 255 = ((255 - c : UInt8).toNat : Int) := by
  have h : ∀ n : Fin 256, bits BinOp.xor IntKind.u8 (n.val : Int) 255 = ((255 - UInt8.ofNat n.val : UInt8).toNat : Int) := by decide +kernel
  have := h ⟨c.toNat, c.toNat_lt⟩
  simpa using this
def turnB (b : Bool) (xs : List UInt8) : List UInt8 := if b then xs.map (255 - ·) else xs
theorem turnB_len (b : Bool) (xs : List UInt8) : (turnB b xs).length = xs.length := by cases b <;> simp [turnB]
def rowsB : List V → List Bool → List UInt8
  | x :: l, b :: d => turnB b (encV x) ++ rowsB l d
  | _, _ => []
def firstW : List V → Int
  | [] => 0
  | x :: l => if rightV x ≠ 0 then rightV x else firstW l
/-- A row's key: its fault, or 0, and its bytes. -/
def keyV (l : List V) (d : List Bool) : Int × List UInt8 :=
  if l.length < 1 ∨ 4 < l.length ∨ d.length ≠ l.length then (1, [])
  else if firstW l ≠ 0 then (firstW l, [])
  else if 1000 < (rowsB l d).length then (30, []) else (0, rowsB l d)
theorem rowsB_step : ∀ {l : List V} {d : List Bool} {j : Nat} (hj : j < l.length) (hd : j < d.length), rowsB (l.take (j + 1)) (d.take (j + 1)) = rowsB (l.take j) (d.take j) ++ turnB d[j] (encV l[j])
  | x :: l, b :: d, 0, _, _ => by simp [rowsB]
  | x :: l, b :: d, j + 1, hj, hd => by
    have := rowsB_step (l := l) (d := d) (j := j) (by simpa using hj) (by simpa using hd)
    simp only [List.take_succ_cons, rowsB, this, List.append_assoc, List.getElem_cons_succ]
theorem firstW_drop {l : List V} {j : Nat} (hj : j < l.length) : firstW (l.drop j) = if rightV l[j] ≠ 0 then rightV l[j] else firstW (l.drop (j + 1)) := by
  rw [List.drop_eq_getElem_cons hj, firstW]
/-- What a slice of bools reads as. -/
def RB (w : World) (A : Option Addr) (d : List Bool) : Prop := d.length ≤ 140737488355328 ∧ ∀ j (h : j < d.length), CellsAt w A j [.bool d[j]]
theorem RB.grow {w w1 : World} {A : Option Addr} {d : List Bool} (h : RB w A d) (hb : Below w.heap.size w w1) : RB w1 A d := ⟨h.1, fun j hj => (h.2 j hj).grow hb⟩
theorem RB.get {w : World} {A : Option Addr} {d : List Bool} (h : RB w A d) {j : Nat} (hj : j < d.length) : ∃ b off, A = some ⟨b, off, none⟩ ∧ w.cell? ⟨b, off + j, none⟩ = some (.bool d[j]) := by
  obtain ⟨b, off, e, hc⟩ := h.2 j hj
  exact ⟨b, off, e, hc 0 _ rfl⟩
theorem shape_check (v : V) : ∀ (deep : Int) (w : World) (cs : List Value), RV w v cs → checkV v deep = 0 → Shape v := by
  induction v using V.ind with
  | h k i t l d ihl ihd =>
    intro deep w cs hv h
    obtain ⟨A, c, A', c', rfl, hk, hi, ht, hA, hD⟩ := hv.inv
    rw [checkV] at h
    split at h
    · cases h
    · split at h
      · cases h
      · rename_i hw
        split at h
        · rename_i h1 h2
          exact absurd h h2
        · rename_i h2
          have h2 : checkL l (deep + 1) = 0 := Decidable.not_not.1 h2
          have hl : ∀ x ∈ l, Shape x := by
            intro x hx
            obtain ⟨j, hj, rfl⟩ := List.getElem_of_mem hx
            obtain ⟨_, _, _, _, _, _, _, hr, _⟩ := hA.get j hj
            refine ihl _ (List.getElem_mem hj) (deep + 1) w _ hr ?_
            have : ∀ (l : List V) (h : checkL l (deep + 1) = 0), ∀ x ∈ l, checkV x (deep + 1) = 0 := by
              intro l
              induction l with
              | nil => intro _ x hx; cases hx
              | cons y l ih =>
                intro h x hx
                rw [checkL] at h
                split at h
                · rename_i h3; exact absurd h h3
                · rename_i h3
                  rcases List.mem_cons.1 hx with rfl | hx
                  · exact Decidable.not_not.1 h3
                  · exact ih h x hx
            exact this l h2 _ (List.getElem_mem hj)
          have hd : ∀ p ∈ d, Shape p.2 := by
            intro p hp
            obtain ⟨j, hj, rfl⟩ := List.getElem_of_mem hp
            obtain ⟨_, _, _, _, _, _, _, _, hr, _⟩ := hD.get j hj
            refine ihd _ (List.getElem_mem hj) (deep + 1) w _ hr ?_
            have : ∀ (d : List (ByteArray × V)) (seen : List ByteArray) (h : checkD seen d (deep + 1) = 0), ∀ p ∈ d, checkV p.2 (deep + 1) = 0 := by
              intro d
              induction d with
              | nil => intro _ _ p hp; cases hp
              | cons q d ih =>
                obtain ⟨n, y⟩ := q
                intro seen h p hp
                rw [checkD] at h
                split at h
                · cases h
                · split at h
                  · rename_i h3; exact absurd h h3
                  · rename_i h3
                    rcases List.mem_cons.1 hp with rfl | hp
                    · exact Decidable.not_not.1 h3
                    · exact ih _ h p hp
            exact this d [] h _ (List.getElem_mem hj)
          simp only [WrongP, not_or, not_and, ne_eq, Decidable.not_not] at hw
          obtain ⟨hw1, hw2, hw3, hw4, hw5, hw6, hw7, hw8⟩ := hw
          by_cases e3 : k = 3 ∨ k = 10
          · obtain rfl : t = ByteArray.empty := empty_of (hw3 (by omega))
            obtain rfl : d = [] := List.eq_nil_of_length_eq_zero (by have := hw4 (by omega); omega)
            obtain rfl : l = [] := List.eq_nil_of_length_eq_zero (by have := hw5 (by omega); omega)
            exact .num e3 hi
          · by_cases e9 : k = 9
            · subst e9
              obtain rfl : t = ByteArray.empty := empty_of (hw3 (by omega))
              obtain rfl : d = [] := List.eq_nil_of_length_eq_zero (by have := hw4 (by omega); omega)
              obtain rfl : l = [] := List.eq_nil_of_length_eq_zero (by have := hw5 (by omega); omega)
              have : i = 0 ∨ i = 1 := by
                by_cases h0 : i = 0
                · exact .inl h0
                · exact .inr (hw8 rfl h0)
              exact .flag (by omega) (by omega)
            · obtain rfl : i = 0 := hw2 (by omega)
              by_cases e4 : k = 4 ∨ k = 7
              · obtain rfl : d = [] := List.eq_nil_of_length_eq_zero (by have := hw4 (by omega); omega)
                obtain rfl : l = [] := List.eq_nil_of_length_eq_zero (by have := hw5 (by omega); omega)
                exact .text e4
              · by_cases e8 : k = 8
                · subst e8
                  obtain rfl : d = [] := List.eq_nil_of_length_eq_zero (by have := hw4 (by omega); omega)
                  obtain rfl : l = [] := List.eq_nil_of_length_eq_zero (by have := hw5 (by omega); omega)
                  exact .id (hw7 rfl)
                · obtain rfl : t = ByteArray.empty := empty_of (hw3 (by omega))
                  by_cases e6 : k = 6
                  · subst e6
                    obtain rfl : d = [] := List.eq_nil_of_length_eq_zero (by have := hw4 (by omega); omega)
                    exact .list hl
                  · obtain rfl : l = [] := List.eq_nil_of_length_eq_zero (by have := hw5 e6; omega)
                    by_cases e5 : k = 5
                    · subst e5
                      exact .doc hd
                    · obtain rfl : d = [] := List.eq_nil_of_length_eq_zero (by have := hw4 e5; omega)
                      exact .other (by omega) (by omega) (by omega) (by omega) e5 e6 (by omega) e8 e9 (by omega)
theorem shape_right {v : V} {w : World} {cs : List Value} (hv : RV w v cs) (h : rightV v = 0) : Shape v ∧ sizeV v ≤ 65536 := by
  unfold rightV at h
  split at h
  · exact ⟨shape_check v 1 w cs hv h, by assumption⟩
  · cases h
end Go.Proofs.YthfejpldhemakaaDoor
