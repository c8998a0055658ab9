import Derived.Test.YthfejpldhemakaaDoorShelf
import Derived.Test.YthfejpldhemakaaDoorV
import Derived.Lib.LaidTab
import Derived.WalkSmall
namespace Go.Proofs.YthfejpldhemakaaDoor
open Go.RowKit Go.Sort
/-- The library's tables, as its initialisers lay them. -/
structure Tabs (w : World) : Prop where
  utf : Lib.Utf8Tabs 1 2 w
  pow : Lib.TabIs Tryd.prog w "internal/strconv.uint64pow10" .u64 Lib.pow10Tab
theorem Tabs.grow {w w1 : World} (hb : Below w.heap.size w w1) (h : Tabs w) : Tabs w1 := by
  refine ⟨Utf8Tabs_below h.utf hb, ?_⟩
  have hp := h.pow
  have hg : Tryd.prog.globalNamed "internal/strconv.uint64pow10" = some 3 := by kernel_rfl
  refine var?_below hb hg ?_ hp
  unfold Lib.TabIs World.var? at hp
  rw [hg] at hp
  rcases Nat.lt_or_ge 3 w.heap.size with h3 | h3
  · exact h3
  · simp [Array.getElem?_eq_none h3] at hp
theorem drewN_below (w : World) (k : Nat) : Below w.heap.size w (w.drewN k) := ⟨rfl, rfl, rfl, Nat.le_refl _, fun _ _ => rfl⟩
theorem grow_below (w : World) (k : Nat) (os : Array Obj) : Below w.heap.size w (Sort.grow (w.drewN k) os) :=
  ⟨rfl, rfl, rfl, by simp [Sort.grow, World.drewN], fun i hi => by simp [Sort.grow, World.drewN, Array.getElem?_append, hi]⟩
theorem strcmp_c (a b : ByteArray) (w : World) :
    Calls Tryd.prog 66 #[.string a, .string b] w fun e w' => e = .returned (.int .i64 (Lib.compareBytes a.data.toList b.data.toList)) ∧ w = w' :=
  (Tryd.strings_Compare a b w).mono fun _ _ ⟨h, h'⟩ => ⟨h, h'.symm⟩
theorem valid_c (s : ByteArray) (w : World) (hs : s.size ≤ 9223372036854775807) (hT : Tabs w) :
    Calls Tryd.prog 125 #[.string s] w fun e w' => e = .returned (.bool (Lib.validD s.data.toList)) ∧ Below w.heap.size w w' :=
  Any.utf8_ValidString Tryd.laysValid s w hs hT.utf
theorem idxb_c (s : ByteArray) (c : Int) (w : World) :
    Calls Tryd.prog 126 #[.string s, .int .u8 c] w fun e w' => e = .returned (.int .i64 (Lib.indexByte s.data.toList c.toNat.toUInt8)) ∧ w = w' :=
  (Tryd.strings_IndexByte s c w).mono fun _ _ ⟨h, h'⟩ => ⟨h, h'.symm⟩
theorem itoa_c (n : Int) (h0 : -9223372036854775808 ≤ n) (h1 : n ≤ 9223372036854775807) (w : World) (hT : Tabs w) :
    Calls Tryd.prog 94 #[.int .i64 n] w fun e w' => e = .returned (.string ⟨(Lib.itoa n).toArray⟩) ∧ Below w.heap.size w w' :=
  (Tryd.strconv_Itoa n h0 h1 w hT.pow).mono fun _ _ ⟨h, k, os, h'⟩ => ⟨h, by subst h'; exact grow_below _ _ _⟩
end Go.Proofs.YthfejpldhemakaaDoor
