import Derived.Test.YthfejpldhemakaaDoorWh
namespace Go.Proofs.YthfejpldhemakaaDoor
open Go.RowKit Go.Sort
def zeroV : V := .mk 0 0 ByteArray.empty [] []
def withD (nm : ByteArray) (x : V) : List (ByteArray × V) → List (ByteArray × V)
  | [] => [(nm, x)]
  | (n, y) :: d => if n = nm then (n, x) :: d else (n, y) :: withD nm x d
def withV (v : V) (nm : ByteArray) (x : V) : V := if v.k = 5 then .mk v.k v.i v.t v.l (withD nm x v.d) else zeroV
def withoutV (v : V) (nm : ByteArray) : V := if v.k = 5 then .mk v.k v.i v.t v.l (v.d.filter fun p => decide (¬ p.1 = nm)) else zeroV
theorem posD_cases (nm : ByteArray) (x : V) : ∀ (d : List (ByteArray × V)) (i : Nat), (posD nm d i = -1 ∧ withD nm x d = d ++ [(nm, x)]) ∨ ∃ (j : Nat) (h : j < d.length), posD nm d i = ((i + j : Nat) : Int) ∧ d[j].1 = nm ∧ withD nm x d = d.set j (d[j].1, x)
  | [], _ => .inl ⟨rfl, rfl⟩
  | (n, y) :: d, i => by
    by_cases h : n = nm
    · exact .inr ⟨0, by simp, by rw [posD, if_pos h]; simp, by simpa using h, by rw [withD, if_pos h]; rfl⟩
    · rcases posD_cases nm x d (i + 1) with ⟨h1, h2⟩ | ⟨j, hj, h1, h2, h3⟩
      · exact .inl ⟨by rw [posD, if_neg h, h1], by rw [withD, if_neg h, h2]; rfl⟩
      · exact .inr ⟨j + 1, by simpa using hj, by rw [posD, if_neg h, h1]; congr 1; omega, by simpa using h2, by rw [withD, if_neg h, h3]; rfl⟩
theorem OV.zero (w : World) : OV false w zeroV [.int .i64 0, .int .i64 0, .string ByteArray.empty, .slice none 0 0, .slice none 0 0] [] :=
  .mk (m := false) (w := w) [] [] (by unfold Rng; omega) (by unfold Rng; omega) (by simp) (by simp) (by simp) (by simp) ⟨⟨rfl, .inl ⟨rfl, rfl⟩⟩, fun h => by cases h⟩ ⟨⟨rfl, .inl ⟨rfl, rfl⟩⟩, fun h => by cases h⟩ (by simp) (by simp)
end Go.Proofs.YthfejpldhemakaaDoor
