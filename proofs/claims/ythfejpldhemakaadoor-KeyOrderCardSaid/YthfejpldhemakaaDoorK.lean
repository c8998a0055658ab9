import Derived.Test.YthfejpldhemakaaDoorW
import Derived.Test.YthfejpldhemakaaDoorS
import Derived.Maps.OwnSet
import Derived.Maps.Keyed
namespace Go.Proofs.YthfejpldhemakaaDoor
open Go.RowKit Go.Sort Go.Maps
instance (n : ByteArray) (l : List ByteArray) : Decidable (n ∈ l) := decidable_of_iff (l.any (fun x => decide (x = n)) = true) (by simp)
/-- May a name be, by itself? -/
def nameOk (s : ByteArray) : Bool := decide (0 < s.size) && decide (s.size ≤ 100) && Lib.validD s.data.toList && decide (Lib.indexByte s.data.toList 0 < 0)
/-- The names met so far, as the map has them. -/
def M (seen : List ByteArray) : DataW Unit := setOf (.agg []) (seen.map fun n => Lit.string n.data.toList)
theorem has_M (seen : List ByteArray) (n : ByteArray) : has (M seen) (.string n.data.toList) = decide (n ∈ seen) := by
  unfold M
  rw [has_setOf]
  · rw [List.any_map]
    rw [Bool.eq_iff_iff, decide_eq_true_iff]
    simp only [List.any_eq_true, Function.comp]
    constructor
    · rintro ⟨x, hx, he⟩
      have : x = n := by
        apply ByteArray.ext
        apply Array.toList_inj.1
        simpa [Lit.sameKey] using he
      exact this ▸ hx
    · intro h
      exact ⟨n, h, by simp [Lit.sameKey]⟩
  · intro x hx
    obtain ⟨y, _, rfl⟩ := List.mem_map.1 hx
    trivial
theorem M_snoc (seen : List ByteArray) (n : ByteArray) : M (seen ++ [n]) = (M seen).put (.string n.data.toList) (.agg []) := by
  unfold M
  rw [List.map_append, List.map_cons, List.map_nil, setOf_snoc]
mutual
/-- What is wrong first. -/
def checkV : V → Int → Int
  | .mk k i t l d, deep =>
    if (k = 5 ∨ k = 6) ∧ 20 < deep then 12
    else if WrongP k i t l.length d.length then 10
    else if checkL l (deep + 1) ≠ 0 then checkL l (deep + 1)
    else checkD [] d (deep + 1)
def checkL : List V → Int → Int
  | [], _ => 0
  | x :: l, deep => if checkV x deep ≠ 0 then checkV x deep else checkL l deep
def checkD : List ByteArray → List (ByteArray × V) → Int → Int
  | _, [], _ => 0
  | seen, (n, x) :: d, deep => if n ∈ seen ∨ nameOk n = false then 11 else if checkV x deep ≠ 0 then checkV x deep else checkD (seen ++ [n]) d deep
end
set_option maxHeartbeats 400000 in
theorem name_c (s : ByteArray) (w : World) (hT : Tabs w) (hs : s.size ≤ 140737488355328) :
    Calls Tryd.prog 92 #[.string s] w fun e w' => e = .returned (.bool (nameOk s)) ∧ Below w.heap.size w w' := by
  by_cases h0 : s.size = 0
  · obtain rfl := empty_of h0
    have H := Lib.hid (show nameOk ByteArray.empty = false by simp [nameOk])
    clear h0
    go_enter Tryd.func92, Tryd.ntmps92
    go_wp2_with fail
    go_ret
    exact ⟨ret_bool H.out.symm, Below.refl _ _⟩
  have hn := toList_nil h0
  by_cases h1 : s.size ≤ 100
  case neg =>
    have H := Lib.hid (show nameOk s = false by simp [nameOk, h1])
    have h2 : (100 : Int) < s.size := by omega
    clear h1 h0
    go_enter Tryd.func92, Tryd.ntmps92
    go_wp2_with fail
    go_ret
    exact ⟨ret_bool H.out.symm, Below.refl _ _⟩
  obtain ⟨q, hq⟩ : ∃ q, Lib.validD s.data.toList = q := ⟨_, rfl⟩
  have hv := valid_c s w (by omega) hT
  rw [hq] at hv
  obtain ⟨z, hz⟩ : ∃ z, Lib.indexByte s.data.toList 0 = z := ⟨_, rfl⟩
  have hi := fun w => idxb_c s 0 w
  rw [show (0 : Int).toNat.toUInt8 = 0 from rfl, hz] at hi
  have H := Lib.hid (show nameOk s = (q && decide (z < 0)) by unfold nameOk; rw [hq, hz, decide_eq_true (show 0 < s.size by omega), decide_eq_true h1]; simp)
  clear hq hz h0
  go_enter Tryd.func92, Tryd.ntmps92
  go_wp2_with fail
  refine hv.mono ?_
  rintro e w1 ⟨rfl, hb⟩
  cases q
  · go_wp2_with fail
    go_ret
    exact ⟨ret_bool (by rw [H.out]; rfl), hb⟩
  · go_wp2_with fail
    refine (hi _).mono ?_
    rintro e w2 ⟨rfl, rfl⟩
    go_wp2_with fail
    go_ret
    exact ⟨ret_bool (by rw [H.out]; simp [hn]), hb⟩
end Go.Proofs.YthfejpldhemakaaDoor
