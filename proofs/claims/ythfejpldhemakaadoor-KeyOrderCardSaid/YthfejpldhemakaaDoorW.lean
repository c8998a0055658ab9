import Derived.Test.YthfejpldhemakaaDoorT
import Derived.Test.YthfejpldhemakaaDoorO
import Derived.WalkSpells
import Derived.WalkLawsBesides
import Derived.KernelRfl
import Derived.BigQuiet
namespace Go.Proofs.YthfejpldhemakaaDoor
open Go.RowKit Go.Sort
/-- Is a value, by itself, one that may not be? -/
def WrongP (k i : Int) (t : ByteArray) (ln dn : Nat) : Prop :=
  ¬ (1 ≤ k ∧ k ≤ 11) ∨ (¬ (k = 3 ∨ k = 9 ∨ k = 10) ∧ i ≠ 0) ∨ (¬ (k = 4 ∨ k = 7 ∨ k = 8) ∧ t.size ≠ 0) ∨ (k ≠ 5 ∧ 0 < dn) ∨ (k ≠ 6 ∧ 0 < ln) ∨ (k = 4 ∧ Lib.validD t.data.toList = false) ∨ (k = 8 ∧ t.size ≠ 12) ∨ (k = 9 ∧ i ≠ 0 ∧ i ≠ 1)
instance (k i : Int) (t : ByteArray) (ln dn : Nat) : Decidable (WrongP k i t ln dn) := by unfold WrongP; infer_instance
theorem size_toList (t : ByteArray) : t.toList.length = t.size := by rw [ByteArray.toList_eq]; rfl
theorem toList_ne {t : ByteArray} (h : t.size ≠ 0) : t.toList.isEmpty = false := by
  cases he : t.toList with
  | nil => have := size_toList t; rw [he] at this; simp at this; omega
  | cons => rfl
theorem toList_nil {t : ByteArray} (h : t.size ≠ 0) : ¬ t.toList = [] := by
  intro he
  have := size_toList t
  rw [he] at this
  simp at this
  omega
theorem empty_of {t : ByteArray} (h : t.size = 0) : t = ByteArray.empty := by
  apply ByteArray.ext
  apply Array.eq_empty_of_size_eq_zero
  exact h

set_option maxHeartbeats 1000000 in
theorem wrong_1 (i : Int) (t : ByteArray) (l : List V) (d : List (ByteArray × V)) (A A' : Option Addr) (c c' : Nat) (w : World) :
    Calls Tryd.prog 91 #[.agg #[.int .i64 1, .int .i64 i, .string t, .slice A l.length c, .slice A' d.length c']] w fun e w' => e = .returned (.bool (decide (WrongP 1 i t l.length d.length))) ∧ Below w.heap.size w w' := by
  obtain ⟨r, hr⟩ : ∃ r, decide (WrongP 1 i t l.length d.length) = r := ⟨_, rfl⟩
  rw [hr]
  obtain ⟨nl, hnl⟩ : ∃ n, l.length = n := ⟨_, rfl⟩
  obtain ⟨nd, hnd⟩ : ∃ n, d.length = n := ⟨_, rfl⟩
  rw [hnl, hnd]
  rw [hnl, hnd] at hr
  clear hnl hnd
  have HR := Lib.hid hr
  clear hr
  by_cases hi : i = 0
  case neg =>
    have hib : (i != 0) = true := by simpa using hi
    obtain rfl : r = true := by rw [← HR.out]; simp [WrongP, hi]
    clear HR 
    go_enter Tryd.func91, Tryd.ntmps91
    go_wp2_with fail
    go_ret
    exact ⟨by first | rfl | (apply ret_bool; simp; omega), below_alloc2 _ _ _⟩
  subst hi
  by_cases ht : t.size = 0
  case neg =>
    have htc := toList_nil ht
    obtain rfl : r = true := by rw [← HR.out]; simp [WrongP, ht]
    clear HR ht
    go_enter Tryd.func91, Tryd.ntmps91
    go_wp2_with fail
    go_ret
    exact ⟨by first | rfl | (apply ret_bool; simp; omega), below_alloc2 _ _ _⟩
  obtain rfl := empty_of ht
  clear ht
  by_cases hd : nd = 0
  case neg =>
    have hdp : 0 < nd := by omega
    obtain rfl : r = true := by rw [← HR.out]; simp [WrongP, hdp]
    clear HR hd
    go_enter Tryd.func91, Tryd.ntmps91
    go_wp2_with fail
    go_ret
    exact ⟨by first | rfl | (apply ret_bool; simp; omega), below_alloc2 _ _ _⟩
  subst hd
  by_cases hl : nl = 0
  case neg =>
    have hlp : 0 < nl := by omega
    obtain rfl : r = true := by rw [← HR.out]; simp [WrongP, hlp]
    clear HR hl
    go_enter Tryd.func91, Tryd.ntmps91
    go_wp2_with fail
    go_ret
    exact ⟨by first | rfl | (apply ret_bool; simp; omega), below_alloc2 _ _ _⟩
  subst hl
  obtain rfl : r = false := by rw [← HR.out]; simp [WrongP]
  clear HR
  go_enter Tryd.func91, Tryd.ntmps91
  go_wp2_with fail
  go_ret
  exact ⟨by first | rfl | (apply ret_bool; simp; omega), below_alloc2 _ _ _⟩
set_option maxHeartbeats 1000000 in
theorem wrong_2 (i : Int) (t : ByteArray) (l : List V) (d : List (ByteArray × V)) (A A' : Option Addr) (c c' : Nat) (w : World) :
    Calls Tryd.prog 91 #[.agg #[.int .i64 2, .int .i64 i, .string t, .slice A l.length c, .slice A' d.length c']] w fun e w' => e = .returned (.bool (decide (WrongP 2 i t l.length d.length))) ∧ Below w.heap.size w w' := by
  obtain ⟨r, hr⟩ : ∃ r, decide (WrongP 2 i t l.length d.length) = r := ⟨_, rfl⟩
  rw [hr]
  obtain ⟨nl, hnl⟩ : ∃ n, l.length = n := ⟨_, rfl⟩
  obtain ⟨nd, hnd⟩ : ∃ n, d.length = n := ⟨_, rfl⟩
  rw [hnl, hnd]
  rw [hnl, hnd] at hr
  clear hnl hnd
  have HR := Lib.hid hr
  clear hr
  by_cases hi : i = 0
  case neg =>
    have hib : (i != 0) = true := by simpa using hi
    obtain rfl : r = true := by rw [← HR.out]; simp [WrongP, hi]
    clear HR 
    go_enter Tryd.func91, Tryd.ntmps91
    go_wp2_with fail
    go_ret
    exact ⟨by first | rfl | (apply ret_bool; simp; omega), below_alloc2 _ _ _⟩
  subst hi
  by_cases ht : t.size = 0
  case neg =>
    have htc := toList_nil ht
    obtain rfl : r = true := by rw [← HR.out]; simp [WrongP, ht]
    clear HR ht
    go_enter Tryd.func91, Tryd.ntmps91
    go_wp2_with fail
    go_ret
    exact ⟨by first | rfl | (apply ret_bool; simp; omega), below_alloc2 _ _ _⟩
  obtain rfl := empty_of ht
  clear ht
  by_cases hd : nd = 0
  case neg =>
    have hdp : 0 < nd := by omega
    obtain rfl : r = true := by rw [← HR.out]; simp [WrongP, hdp]
    clear HR hd
    go_enter Tryd.func91, Tryd.ntmps91
    go_wp2_with fail
    go_ret
    exact ⟨by first | rfl | (apply ret_bool; simp; omega), below_alloc2 _ _ _⟩
  subst hd
  by_cases hl : nl = 0
  case neg =>
    have hlp : 0 < nl := by omega
    obtain rfl : r = true := by rw [← HR.out]; simp [WrongP, hlp]
    clear HR hl
    go_enter Tryd.func91, Tryd.ntmps91
    go_wp2_with fail
    go_ret
    exact ⟨by first | rfl | (apply ret_bool; simp; omega), below_alloc2 _ _ _⟩
  subst hl
  obtain rfl : r = false := by rw [← HR.out]; simp [WrongP]
  clear HR
  go_enter Tryd.func91, Tryd.ntmps91
  go_wp2_with fail
  go_ret
  exact ⟨by first | rfl | (apply ret_bool; simp; omega), below_alloc2 _ _ _⟩
set_option maxHeartbeats 1000000 in
theorem wrong_11 (i : Int) (t : ByteArray) (l : List V) (d : List (ByteArray × V)) (A A' : Option Addr) (c c' : Nat) (w : World) :
    Calls Tryd.prog 91 #[.agg #[.int .i64 11, .int .i64 i, .string t, .slice A l.length c, .slice A' d.length c']] w fun e w' => e = .returned (.bool (decide (WrongP 11 i t l.length d.length))) ∧ Below w.heap.size w w' := by
  obtain ⟨r, hr⟩ : ∃ r, decide (WrongP 11 i t l.length d.length) = r := ⟨_, rfl⟩
  rw [hr]
  obtain ⟨nl, hnl⟩ : ∃ n, l.length = n := ⟨_, rfl⟩
  obtain ⟨nd, hnd⟩ : ∃ n, d.length = n := ⟨_, rfl⟩
  rw [hnl, hnd]
  rw [hnl, hnd] at hr
  clear hnl hnd
  have HR := Lib.hid hr
  clear hr
  by_cases hi : i = 0
  case neg =>
    have hib : (i != 0) = true := by simpa using hi
    obtain rfl : r = true := by rw [← HR.out]; simp [WrongP, hi]
    clear HR 
    go_enter Tryd.func91, Tryd.ntmps91
    go_wp2_with fail
    go_ret
    exact ⟨by first | rfl | (apply ret_bool; simp; omega), below_alloc2 _ _ _⟩
  subst hi
  by_cases ht : t.size = 0
  case neg =>
    have htc := toList_nil ht
    obtain rfl : r = true := by rw [← HR.out]; simp [WrongP, ht]
    clear HR ht
    go_enter Tryd.func91, Tryd.ntmps91
    go_wp2_with fail
    go_ret
    exact ⟨by first | rfl | (apply ret_bool; simp; omega), below_alloc2 _ _ _⟩
  obtain rfl := empty_of ht
  clear ht
  by_cases hd : nd = 0
  case neg =>
    have hdp : 0 < nd := by omega
    obtain rfl : r = true := by rw [← HR.out]; simp [WrongP, hdp]
    clear HR hd
    go_enter Tryd.func91, Tryd.ntmps91
    go_wp2_with fail
    go_ret
    exact ⟨by first | rfl | (apply ret_bool; simp; omega), below_alloc2 _ _ _⟩
  subst hd
  by_cases hl : nl = 0
  case neg =>
    have hlp : 0 < nl := by omega
    obtain rfl : r = true := by rw [← HR.out]; simp [WrongP, hlp]
    clear HR hl
    go_enter Tryd.func91, Tryd.ntmps91
    go_wp2_with fail
    go_ret
    exact ⟨by first | rfl | (apply ret_bool; simp; omega), below_alloc2 _ _ _⟩
  subst hl
  obtain rfl : r = false := by rw [← HR.out]; simp [WrongP]
  clear HR
  go_enter Tryd.func91, Tryd.ntmps91
  go_wp2_with fail
  go_ret
  exact ⟨by first | rfl | (apply ret_bool; simp; omega), below_alloc2 _ _ _⟩
set_option maxHeartbeats 1000000 in
theorem wrong_3 (i : Int) (t : ByteArray) (l : List V) (d : List (ByteArray × V)) (A A' : Option Addr) (c c' : Nat) (w : World) :
    Calls Tryd.prog 91 #[.agg #[.int .i64 3, .int .i64 i, .string t, .slice A l.length c, .slice A' d.length c']] w fun e w' => e = .returned (.bool (decide (WrongP 3 i t l.length d.length))) ∧ Below w.heap.size w w' := by
  obtain ⟨r, hr⟩ : ∃ r, decide (WrongP 3 i t l.length d.length) = r := ⟨_, rfl⟩
  rw [hr]
  obtain ⟨nl, hnl⟩ : ∃ n, l.length = n := ⟨_, rfl⟩
  obtain ⟨nd, hnd⟩ : ∃ n, d.length = n := ⟨_, rfl⟩
  rw [hnl, hnd]
  rw [hnl, hnd] at hr
  clear hnl hnd
  have HR := Lib.hid hr
  clear hr
  by_cases ht : t.size = 0
  case neg =>
    have htc := toList_nil ht
    obtain rfl : r = true := by rw [← HR.out]; simp [WrongP, ht]
    clear HR ht
    go_enter Tryd.func91, Tryd.ntmps91
    go_wp2_with fail
    go_ret
    exact ⟨by first | rfl | (apply ret_bool; simp; omega), below_alloc2 _ _ _⟩
  obtain rfl := empty_of ht
  clear ht
  by_cases hd : nd = 0
  case neg =>
    have hdp : 0 < nd := by omega
    obtain rfl : r = true := by rw [← HR.out]; simp [WrongP, hdp]
    clear HR hd
    go_enter Tryd.func91, Tryd.ntmps91
    go_wp2_with fail
    go_ret
    exact ⟨by first | rfl | (apply ret_bool; simp; omega), below_alloc2 _ _ _⟩
  subst hd
  by_cases hl : nl = 0
  case neg =>
    have hlp : 0 < nl := by omega
    obtain rfl : r = true := by rw [← HR.out]; simp [WrongP, hlp]
    clear HR hl
    go_enter Tryd.func91, Tryd.ntmps91
    go_wp2_with fail
    go_ret
    exact ⟨by first | rfl | (apply ret_bool; simp; omega), below_alloc2 _ _ _⟩
  subst hl
  obtain rfl : r = false := by rw [← HR.out]; simp [WrongP]
  clear HR
  go_enter Tryd.func91, Tryd.ntmps91
  go_wp2_with fail
  go_ret
  exact ⟨by first | rfl | (apply ret_bool; simp; omega), below_alloc2 _ _ _⟩
set_option maxHeartbeats 1000000 in
theorem wrong_10 (i : Int) (t : ByteArray) (l : List V) (d : List (ByteArray × V)) (A A' : Option Addr) (c c' : Nat) (w : World) :
    Calls Tryd.prog 91 #[.agg #[.int .i64 10, .int .i64 i, .string t, .slice A l.length c, .slice A' d.length c']] w fun e w' => e = .returned (.bool (decide (WrongP 10 i t l.length d.length))) ∧ Below w.heap.size w w' := by
  obtain ⟨r, hr⟩ : ∃ r, decide (WrongP 10 i t l.length d.length) = r := ⟨_, rfl⟩
  rw [hr]
  obtain ⟨nl, hnl⟩ : ∃ n, l.length = n := ⟨_, rfl⟩
  obtain ⟨nd, hnd⟩ : ∃ n, d.length = n := ⟨_, rfl⟩
  rw [hnl, hnd]
  rw [hnl, hnd] at hr
  clear hnl hnd
  have HR := Lib.hid hr
  clear hr
  by_cases ht : t.size = 0
  case neg =>
    have htc := toList_nil ht
    obtain rfl : r = true := by rw [← HR.out]; simp [WrongP, ht]
    clear HR ht
    go_enter Tryd.func91, Tryd.ntmps91
    go_wp2_with fail
    go_ret
    exact ⟨by first | rfl | (apply ret_bool; simp; omega), below_alloc2 _ _ _⟩
  obtain rfl := empty_of ht
  clear ht
  by_cases hd : nd = 0
  case neg =>
    have hdp : 0 < nd := by omega
    obtain rfl : r = true := by rw [← HR.out]; simp [WrongP, hdp]
    clear HR hd
    go_enter Tryd.func91, Tryd.ntmps91
    go_wp2_with fail
    go_ret
    exact ⟨by first | rfl | (apply ret_bool; simp; omega), below_alloc2 _ _ _⟩
  subst hd
  by_cases hl : nl = 0
  case neg =>
    have hlp : 0 < nl := by omega
    obtain rfl : r = true := by rw [← HR.out]; simp [WrongP, hlp]
    clear HR hl
    go_enter Tryd.func91, Tryd.ntmps91
    go_wp2_with fail
    go_ret
    exact ⟨by first | rfl | (apply ret_bool; simp; omega), below_alloc2 _ _ _⟩
  subst hl
  obtain rfl : r = false := by rw [← HR.out]; simp [WrongP]
  clear HR
  go_enter Tryd.func91, Tryd.ntmps91
  go_wp2_with fail
  go_ret
  exact ⟨by first | rfl | (apply ret_bool; simp; omega), below_alloc2 _ _ _⟩
set_option maxHeartbeats 1000000 in
theorem wrong_9 (i : Int) (t : ByteArray) (l : List V) (d : List (ByteArray × V)) (A A' : Option Addr) (c c' : Nat) (w : World) :
    Calls Tryd.prog 91 #[.agg #[.int .i64 9, .int .i64 i, .string t, .slice A l.length c, .slice A' d.length c']] w fun e w' => e = .returned (.bool (decide (WrongP 9 i t l.length d.length))) ∧ Below w.heap.size w w' := by
  obtain ⟨r, hr⟩ : ∃ r, decide (WrongP 9 i t l.length d.length) = r := ⟨_, rfl⟩
  rw [hr]
  obtain ⟨nl, hnl⟩ : ∃ n, l.length = n := ⟨_, rfl⟩
  obtain ⟨nd, hnd⟩ : ∃ n, d.length = n := ⟨_, rfl⟩
  rw [hnl, hnd]
  rw [hnl, hnd] at hr
  clear hnl hnd
  have HR := Lib.hid hr
  clear hr
  by_cases h9 : i = 0 ∨ i = 1
  case neg =>
    have hi0 : i ≠ 0 := by omega
    have hi1 : i ≠ 1 := by omega
    have hib : (i != 0) = true := by simpa using hi0
    have hib1 : (i != 1) = true := by simpa using hi1
    obtain rfl : r = true := by rw [← HR.out]; simp [WrongP, hi0, hi1]
    clear HR h9
    go_enter Tryd.func91, Tryd.ntmps91
    go_wp2_with fail
    go_ret
    exact ⟨by first | rfl | (apply ret_bool; simp; omega), below_alloc2 _ _ _⟩
  rcases h9 with rfl | rfl
  all_goals
    by_cases ht : t.size = 0
    case neg =>
      have htc := toList_nil ht
      obtain rfl : r = true := by rw [← HR.out]; simp [WrongP, ht]
      clear HR ht
      go_enter Tryd.func91, Tryd.ntmps91
      go_wp2_with fail
      go_ret
      exact ⟨by first | rfl | (apply ret_bool; simp; omega), below_alloc2 _ _ _⟩
    obtain rfl := empty_of ht
    clear ht
    by_cases hd : nd = 0
    case neg =>
      have hdp : 0 < nd := by omega
      obtain rfl : r = true := by rw [← HR.out]; simp [WrongP, hdp]
      clear HR hd
      go_enter Tryd.func91, Tryd.ntmps91
      go_wp2_with fail
      go_ret
      exact ⟨by first | rfl | (apply ret_bool; simp; omega), below_alloc2 _ _ _⟩
    subst hd
    by_cases hl : nl = 0
    case neg =>
      have hlp : 0 < nl := by omega
      obtain rfl : r = true := by rw [← HR.out]; simp [WrongP, hlp]
      clear HR hl
      go_enter Tryd.func91, Tryd.ntmps91
      go_wp2_with fail
      go_ret
      exact ⟨by first | rfl | (apply ret_bool; simp; omega), below_alloc2 _ _ _⟩
    subst hl
    obtain rfl : r = false := by rw [← HR.out]; simp [WrongP]
    clear HR
    go_enter Tryd.func91, Tryd.ntmps91
    go_wp2_with fail
    go_ret
    exact ⟨by first | rfl | (apply ret_bool; simp; omega), below_alloc2 _ _ _⟩
set_option maxHeartbeats 1000000 in
theorem wrong_7 (i : Int) (t : ByteArray) (l : List V) (d : List (ByteArray × V)) (A A' : Option Addr) (c c' : Nat) (w : World) :
    Calls Tryd.prog 91 #[.agg #[.int .i64 7, .int .i64 i, .string t, .slice A l.length c, .slice A' d.length c']] w fun e w' => e = .returned (.bool (decide (WrongP 7 i t l.length d.length))) ∧ Below w.heap.size w w' := by
  obtain ⟨r, hr⟩ : ∃ r, decide (WrongP 7 i t l.length d.length) = r := ⟨_, rfl⟩
  rw [hr]
  obtain ⟨nl, hnl⟩ : ∃ n, l.length = n := ⟨_, rfl⟩
  obtain ⟨nd, hnd⟩ : ∃ n, d.length = n := ⟨_, rfl⟩
  rw [hnl, hnd]
  rw [hnl, hnd] at hr
  clear hnl hnd
  have HR := Lib.hid hr
  clear hr
  by_cases hi : i = 0
  case neg =>
    have hib : (i != 0) = true := by simpa using hi
    obtain rfl : r = true := by rw [← HR.out]; simp [WrongP, hi]
    clear HR 
    go_enter Tryd.func91, Tryd.ntmps91
    go_wp2_with fail
    go_ret
    exact ⟨by first | rfl | (apply ret_bool; simp; omega), below_alloc2 _ _ _⟩
  subst hi
  by_cases hd : nd = 0
  case neg =>
    have hdp : 0 < nd := by omega
    obtain rfl : r = true := by rw [← HR.out]; simp [WrongP, hdp]
    clear HR hd
    go_enter Tryd.func91, Tryd.ntmps91
    go_wp2_with fail
    go_ret
    exact ⟨by first | rfl | (apply ret_bool; simp; omega), below_alloc2 _ _ _⟩
  subst hd
  by_cases hl : nl = 0
  case neg =>
    have hlp : 0 < nl := by omega
    obtain rfl : r = true := by rw [← HR.out]; simp [WrongP, hlp]
    clear HR hl
    go_enter Tryd.func91, Tryd.ntmps91
    go_wp2_with fail
    go_ret
    exact ⟨by first | rfl | (apply ret_bool; simp; omega), below_alloc2 _ _ _⟩
  subst hl
  obtain rfl : r = false := by rw [← HR.out]; simp [WrongP]
  clear HR
  go_enter Tryd.func91, Tryd.ntmps91
  go_wp2_with fail
  go_ret
  exact ⟨by first | rfl | (apply ret_bool; simp; omega), below_alloc2 _ _ _⟩
set_option maxHeartbeats 1000000 in
theorem wrong_8 (i : Int) (t : ByteArray) (l : List V) (d : List (ByteArray × V)) (A A' : Option Addr) (c c' : Nat) (w : World) :
    Calls Tryd.prog 91 #[.agg #[.int .i64 8, .int .i64 i, .string t, .slice A l.length c, .slice A' d.length c']] w fun e w' => e = .returned (.bool (decide (WrongP 8 i t l.length d.length))) ∧ Below w.heap.size w w' := by
  obtain ⟨r, hr⟩ : ∃ r, decide (WrongP 8 i t l.length d.length) = r := ⟨_, rfl⟩
  rw [hr]
  obtain ⟨nl, hnl⟩ : ∃ n, l.length = n := ⟨_, rfl⟩
  obtain ⟨nd, hnd⟩ : ∃ n, d.length = n := ⟨_, rfl⟩
  rw [hnl, hnd]
  rw [hnl, hnd] at hr
  clear hnl hnd
  have HR := Lib.hid hr
  clear hr
  by_cases h8 : t.size = 12
  case neg =>
    have h8b : ((t.size : Int) == 12) = false := by simp; omega
    have h8c : ((t.size : Int) != 12) = true := by simp; omega
    obtain rfl : r = true := by rw [← HR.out]; simp [WrongP, h8]
    clear HR h8
    go_enter Tryd.func91, Tryd.ntmps91
    go_wp2_with fail
    go_ret
    exact ⟨by first | rfl | (apply ret_bool; simp; omega), below_alloc2 _ _ _⟩
  have h8b : ((t.size : Int) == 12) = true := by simp; omega
  have h8c : ((t.size : Int) != 12) = false := by simp; omega
  have H8 := Lib.hid h8
  clear h8
  by_cases hi : i = 0
  case neg =>
    have hib : (i != 0) = true := by simpa using hi
    obtain rfl : r = true := by rw [← HR.out]; simp [WrongP, H8.out, hi]
    clear HR 
    go_enter Tryd.func91, Tryd.ntmps91
    go_wp2_with fail
    go_ret
    exact ⟨by first | rfl | (apply ret_bool; simp; omega), below_alloc2 _ _ _⟩
  subst hi
  by_cases hd : nd = 0
  case neg =>
    have hdp : 0 < nd := by omega
    obtain rfl : r = true := by rw [← HR.out]; simp [WrongP, H8.out, hdp]
    clear HR hd
    go_enter Tryd.func91, Tryd.ntmps91
    go_wp2_with fail
    go_ret
    exact ⟨by first | rfl | (apply ret_bool; simp; omega), below_alloc2 _ _ _⟩
  subst hd
  by_cases hl : nl = 0
  case neg =>
    have hlp : 0 < nl := by omega
    obtain rfl : r = true := by rw [← HR.out]; simp [WrongP, H8.out, hlp]
    clear HR hl
    go_enter Tryd.func91, Tryd.ntmps91
    go_wp2_with fail
    go_ret
    exact ⟨by first | rfl | (apply ret_bool; simp; omega), below_alloc2 _ _ _⟩
  subst hl
  obtain rfl : r = false := by rw [← HR.out]; simp [WrongP, H8.out]
  clear HR
  go_enter Tryd.func91, Tryd.ntmps91
  go_wp2_with fail
  go_ret
  exact ⟨by first | rfl | (apply ret_bool; simp; omega), below_alloc2 _ _ _⟩
set_option maxHeartbeats 1000000 in
theorem wrong_5 (i : Int) (t : ByteArray) (l : List V) (d : List (ByteArray × V)) (A A' : Option Addr) (c c' : Nat) (w : World) :
    Calls Tryd.prog 91 #[.agg #[.int .i64 5, .int .i64 i, .string t, .slice A l.length c, .slice A' d.length c']] w fun e w' => e = .returned (.bool (decide (WrongP 5 i t l.length d.length))) ∧ Below w.heap.size w w' := by
  obtain ⟨r, hr⟩ : ∃ r, decide (WrongP 5 i t l.length d.length) = r := ⟨_, rfl⟩
  rw [hr]
  obtain ⟨nl, hnl⟩ : ∃ n, l.length = n := ⟨_, rfl⟩
  obtain ⟨nd, hnd⟩ : ∃ n, d.length = n := ⟨_, rfl⟩
  rw [hnl, hnd]
  rw [hnl, hnd] at hr
  clear hnl hnd
  have HR := Lib.hid hr
  clear hr
  by_cases hi : i = 0
  case neg =>
    have hib : (i != 0) = true := by simpa using hi
    obtain rfl : r = true := by rw [← HR.out]; simp [WrongP, hi]
    clear HR 
    go_enter Tryd.func91, Tryd.ntmps91
    go_wp2_with fail
    go_ret
    exact ⟨by first | rfl | (apply ret_bool; simp; omega), below_alloc2 _ _ _⟩
  subst hi
  by_cases ht : t.size = 0
  case neg =>
    have htc := toList_nil ht
    obtain rfl : r = true := by rw [← HR.out]; simp [WrongP, ht]
    clear HR ht
    go_enter Tryd.func91, Tryd.ntmps91
    go_wp2_with fail
    go_ret
    exact ⟨by first | rfl | (apply ret_bool; simp; omega), below_alloc2 _ _ _⟩
  obtain rfl := empty_of ht
  clear ht
  by_cases hl : nl = 0
  case neg =>
    have hlp : 0 < nl := by omega
    obtain rfl : r = true := by rw [← HR.out]; simp [WrongP, hlp]
    clear HR hl
    go_enter Tryd.func91, Tryd.ntmps91
    go_wp2_with fail
    go_ret
    exact ⟨by first | rfl | (apply ret_bool; simp; omega), below_alloc2 _ _ _⟩
  subst hl
  obtain rfl : r = false := by rw [← HR.out]; simp [WrongP]
  clear HR
  go_enter Tryd.func91, Tryd.ntmps91
  go_wp2_with fail
  go_ret
  exact ⟨by first | rfl | (apply ret_bool; simp; omega), below_alloc2 _ _ _⟩
set_option maxHeartbeats 1000000 in
theorem wrong_6 (i : Int) (t : ByteArray) (l : List V) (d : List (ByteArray × V)) (A A' : Option Addr) (c c' : Nat) (w : World) :
    Calls Tryd.prog 91 #[.agg #[.int .i64 6, .int .i64 i, .string t, .slice A l.length c, .slice A' d.length c']] w fun e w' => e = .returned (.bool (decide (WrongP 6 i t l.length d.length))) ∧ Below w.heap.size w w' := by
  obtain ⟨r, hr⟩ : ∃ r, decide (WrongP 6 i t l.length d.length) = r := ⟨_, rfl⟩
  rw [hr]
  obtain ⟨nl, hnl⟩ : ∃ n, l.length = n := ⟨_, rfl⟩
  obtain ⟨nd, hnd⟩ : ∃ n, d.length = n := ⟨_, rfl⟩
  rw [hnl, hnd]
  rw [hnl, hnd] at hr
  clear hnl hnd
  have HR := Lib.hid hr
  clear hr
  by_cases hi : i = 0
  case neg =>
    have hib : (i != 0) = true := by simpa using hi
    obtain rfl : r = true := by rw [← HR.out]; simp [WrongP, hi]
    clear HR 
    go_enter Tryd.func91, Tryd.ntmps91
    go_wp2_with fail
    go_ret
    exact ⟨by first | rfl | (apply ret_bool; simp; omega), below_alloc2 _ _ _⟩
  subst hi
  by_cases ht : t.size = 0
  case neg =>
    have htc := toList_nil ht
    obtain rfl : r = true := by rw [← HR.out]; simp [WrongP, ht]
    clear HR ht
    go_enter Tryd.func91, Tryd.ntmps91
    go_wp2_with fail
    go_ret
    exact ⟨by first | rfl | (apply ret_bool; simp; omega), below_alloc2 _ _ _⟩
  obtain rfl := empty_of ht
  clear ht
  by_cases hd : nd = 0
  case neg =>
    have hdp : 0 < nd := by omega
    obtain rfl : r = true := by rw [← HR.out]; simp [WrongP, hdp]
    clear HR hd
    go_enter Tryd.func91, Tryd.ntmps91
    go_wp2_with fail
    go_ret
    exact ⟨by first | rfl | (apply ret_bool; simp; omega), below_alloc2 _ _ _⟩
  subst hd
  obtain rfl : r = false := by rw [← HR.out]; simp [WrongP]
  clear HR
  go_enter Tryd.func91, Tryd.ntmps91
  go_wp2_with fail
  go_ret
  exact ⟨by first | rfl | (apply ret_bool; simp; omega), below_alloc2 _ _ _⟩
set_option maxHeartbeats 1000000 in
theorem wrong_4 (i : Int) (t : ByteArray) (l : List V) (d : List (ByteArray × V)) (A A' : Option Addr) (c c' : Nat) (w : World) (hT : Tabs w) (hs : t.size ≤ 140737488355328) :
    Calls Tryd.prog 91 #[.agg #[.int .i64 4, .int .i64 i, .string t, .slice A l.length c, .slice A' d.length c']] w fun e w' => e = .returned (.bool (decide (WrongP 4 i t l.length d.length))) ∧ Below w.heap.size w w' := by
  obtain ⟨r, hr⟩ : ∃ r, decide (WrongP 4 i t l.length d.length) = r := ⟨_, rfl⟩
  rw [hr]
  obtain ⟨nl, hnl⟩ : ∃ n, l.length = n := ⟨_, rfl⟩
  obtain ⟨nd, hnd⟩ : ∃ n, d.length = n := ⟨_, rfl⟩
  rw [hnl, hnd]
  rw [hnl, hnd] at hr
  clear hnl hnd
  obtain ⟨q, hq⟩ : ∃ q, Lib.validD t.data.toList = q := ⟨_, rfl⟩
  have hv := fun w h => valid_c t w (by omega) h
  rw [hq] at hv
  have HR := Lib.hid hr
  have HQ := Lib.hid hq
  clear hr hq
  go_enter Tryd.func91, Tryd.ntmps91
  go_wp2_with fail
  generalize hW0 : World.alloc (w.alloc _) _ = W0
  have hb0 : Below w.heap.size w W0 := by rw [← hW0]; exact below_alloc2 _ _ _
  have hk0 : W0.heap[w.heap.size + 1]? = some (.cells #[.int .i64 4, .int .i64 i, .string t, .slice A nl c, .slice A' nd c'] 25 (0, 0)) := by rw [← hW0]; exact heap2_second _ _ _ 0
  have H0 := Lib.hid hk0
  clear hk0 hW0
  refine (hv W0 (hT.grow hb0)).mono ?_
  rintro e w1 ⟨rfl, hb1⟩
  have hk1 := (hb1.block _ (block_lt H0.out)).trans H0.out
  have c0 := cell_at hk1 0 _ rfl
  have c1 := cell_at hk1 1 _ rfl
  have c2 := cell_at hk1 2 _ rfl
  have c3 := cell_at hk1 3 _ rfl
  have c4 := cell_at hk1 4 _ rfl
  have g2 := free_at hk1 2
  have hend : ∀ v, Below w.heap.size w (w1.setCell ⟨w.heap.size + 1, 2, none⟩ v) := fun v => (below2 hb0 hb1).setCell (by simp) v
  clear hk1
  cases q
  case false =>
    obtain rfl : r = true := by rw [← HR.out]; simp [WrongP, HQ.out]
    clear HR HQ
    go_wp2_with fail
    go_ret
    exact ⟨rfl, hend _⟩
  case true =>
    by_cases hi : i = 0
    case neg =>
      have hib : (i != 0) = true := by simpa using hi
      obtain rfl : r = true := by rw [← HR.out]; simp [WrongP, hi]
      clear HR HQ
      go_wp2_with fail
      go_ret
      exact ⟨rfl, hend _⟩
    subst hi
    by_cases hd : nd = 0
    case neg =>
      have hdp : 0 < nd := by omega
      obtain rfl : r = true := by rw [← HR.out]; simp [WrongP, hdp]
      clear HR HQ hd
      go_wp2_with fail
      go_ret
      exact ⟨rfl, hend _⟩
    subst hd
    by_cases hl : nl = 0
    case neg =>
      have hlp : 0 < nl := by omega
      obtain rfl : r = true := by rw [← HR.out]; simp [WrongP, hlp]
      clear HR HQ hl
      go_wp2_with fail
      go_ret
      exact ⟨by first | rfl | (apply ret_bool; simp; omega), hend _⟩
    subst hl
    obtain rfl : r = false := by rw [← HR.out]; simp [WrongP, HQ.out]
    clear HR HQ
    go_wp2_with fail
    go_ret
    exact ⟨rfl, hend _⟩
set_option maxHeartbeats 1000000 in
theorem wrong_c (k i : Int) (t : ByteArray) (l : List V) (d : List (ByteArray × V)) (A A' : Option Addr) (c c' : Nat) (w : World) (hT : Tabs w) (hs : t.size ≤ 140737488355328) :
    Calls Tryd.prog 91 #[.agg #[.int .i64 k, .int .i64 i, .string t, .slice A l.length c, .slice A' d.length c']] w fun e w' => e = .returned (.bool (decide (WrongP k i t l.length d.length))) ∧ Below w.heap.size w w' := by
  by_cases h : 1 ≤ k ∧ k ≤ 11
  · by_cases h1 : k = 1
    · subst h1; exact wrong_1 i t l d A A' c c' w
    by_cases h1 : k = 2
    · subst h1; exact wrong_2 i t l d A A' c c' w
    by_cases h1 : k = 3
    · subst h1; exact wrong_3 i t l d A A' c c' w
    by_cases h1 : k = 4
    · subst h1; exact wrong_4 i t l d A A' c c' w hT hs
    by_cases h1 : k = 5
    · subst h1; exact wrong_5 i t l d A A' c c' w
    by_cases h1 : k = 6
    · subst h1; exact wrong_6 i t l d A A' c c' w
    by_cases h1 : k = 7
    · subst h1; exact wrong_7 i t l d A A' c c' w
    by_cases h1 : k = 8
    · subst h1; exact wrong_8 i t l d A A' c c' w
    by_cases h1 : k = 9
    · subst h1; exact wrong_9 i t l d A A' c c' w
    by_cases h1 : k = 10
    · subst h1; exact wrong_10 i t l d A A' c c' w
    obtain rfl : k = 11 := by omega
    exact wrong_11 i t l d A A' c c' w
  · have hr : decide (WrongP k i t l.length d.length) = true := by simp [WrongP, h]
    rw [hr]
    have e1 : (k == 1) = false := by simp; omega
    have e2 : (k == 2) = false := by simp; omega
    have e3 : (k == 3) = false := by simp; omega
    have e4 : (k == 4) = false := by simp; omega
    have e5 : (k == 5) = false := by simp; omega
    have e6 : (k == 6) = false := by simp; omega
    have e7 : (k == 7) = false := by simp; omega
    have e8 : (k == 8) = false := by simp; omega
    have e9 : (k == 9) = false := by simp; omega
    have e10 : (k == 10) = false := by simp; omega
    have e11 : (k == 11) = false := by simp; omega
    clear h hr
    go_enter Tryd.func91, Tryd.ntmps91
    go_wp2_with fail
    go_ret
    exact ⟨rfl, below_alloc2 _ _ _⟩
end Go.Proofs.YthfejpldhemakaaDoor
