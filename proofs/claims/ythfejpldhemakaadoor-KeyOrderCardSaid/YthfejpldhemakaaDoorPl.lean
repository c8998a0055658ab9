import Derived.Test.YthfejpldhemakaaDoorW
namespace Go.Proofs.YthfejpldhemakaaDoor
open Go.RowKit Go.Sort
set_option maxHeartbeats 1000000 in
theorem plain_1 (i : Int) (t : ByteArray) (nl nd : Nat) (A A' : Option Addr) (c c' : Nat) (w : World) (hT : Tabs w) (hs : t.size ≤ 140737488355328) :
    Calls Tryd.prog 95 #[.agg #[.int .i64 1, .int .i64 i, .string t, .slice A nl c, .slice A' nd c']] w fun e w' => e = .returned (.bool (!decide (WrongP 1 i t nl nd))) ∧ Below w.heap.size w w' := by
  obtain ⟨r, hr⟩ : ∃ r, decide (WrongP 1 i t nl nd) = r := ⟨_, rfl⟩
  rw [hr]
  obtain ⟨q, hq⟩ : ∃ q, Lib.validD t.data.toList = q := ⟨_, rfl⟩
  have hv := fun w h => valid_c t w (by omega) h
  rw [hq] at hv
  have HR := Lib.hid hr
  have HQ := Lib.hid hq
  clear hr hq
  by_cases hi : i = 0
  case neg =>
    have hib : (i != 0) = true := by simpa using hi
    obtain rfl : r = true := by rw [← HR.out]; simp [WrongP, hi]
    clear HR HQ 
    go_enter Tryd.func95, Tryd.ntmps95
    go_wp2_with fail
    go_ret
    exact ⟨by first | rfl | (apply ret_bool; simp) | (apply ret_bool; simp; omega), below_alloc1 _ _⟩
  subst hi
  by_cases ht : t.size = 0
  case neg =>
    have htc := toList_nil ht
    obtain rfl : r = true := by rw [← HR.out]; simp [WrongP, ht]
    clear HR HQ ht
    go_enter Tryd.func95, Tryd.ntmps95
    go_wp2_with fail
    go_ret
    exact ⟨by first | rfl | (apply ret_bool; simp) | (apply ret_bool; simp; omega), below_alloc1 _ _⟩
  obtain rfl := empty_of ht
  clear ht
  by_cases hd : nd = 0
  case neg =>
    have hdp : 0 < nd := by omega
    obtain rfl : r = true := by rw [← HR.out]; simp [WrongP, hdp]
    clear HR HQ hd
    go_enter Tryd.func95, Tryd.ntmps95
    go_wp2_with fail
    go_ret
    exact ⟨by first | rfl | (apply ret_bool; simp) | (apply ret_bool; simp; omega), below_alloc1 _ _⟩
  subst hd
  by_cases hl : nl = 0
  case neg =>
    have hlp : 0 < nl := by omega
    obtain rfl : r = true := by rw [← HR.out]; simp [WrongP, hlp]
    clear HR HQ hl
    go_enter Tryd.func95, Tryd.ntmps95
    go_wp2_with fail
    go_ret
    exact ⟨by first | rfl | (apply ret_bool; simp) | (apply ret_bool; simp; omega), below_alloc1 _ _⟩
  subst hl
  obtain rfl : r = false := by rw [← HR.out]; simp [WrongP]
  clear HR HQ 
  have B := Lib.hid (heap_alloc_new w (.cells #[.int .i64 1, .int .i64 0, .string ByteArray.empty, .slice A 0 c, .slice A' 0 c'] 25))
  go_enter Tryd.func95, Tryd.ntmps95
  go_wp2_with fail
  refine (hv _ (hT.grow (below_alloc1 _ _))).mono ?_
  rintro e w1 ⟨rfl, hb1⟩
  have x0 := cell_grow hb1 (cell_at B.out 0 _ rfl)
  have x1 := cell_grow hb1 (cell_at B.out 1 _ rfl)
  have x2 := cell_grow hb1 (cell_at B.out 2 _ rfl)
  have x3 := cell_grow hb1 (cell_at B.out 3 _ rfl)
  have x4 := cell_grow hb1 (cell_at B.out 4 _ rfl)
  go_wp2_with fail
  go_ret
  exact ⟨by first | rfl | (apply ret_bool; simp) | (apply ret_bool; simp; omega), below2 (below_alloc1 _ _) hb1⟩
set_option maxHeartbeats 1000000 in
theorem plain_2 (i : Int) (t : ByteArray) (nl nd : Nat) (A A' : Option Addr) (c c' : Nat) (w : World) (hT : Tabs w) (hs : t.size ≤ 140737488355328) :
    Calls Tryd.prog 95 #[.agg #[.int .i64 2, .int .i64 i, .string t, .slice A nl c, .slice A' nd c']] w fun e w' => e = .returned (.bool (!decide (WrongP 2 i t nl nd))) ∧ Below w.heap.size w w' := by
  obtain ⟨r, hr⟩ : ∃ r, decide (WrongP 2 i t nl nd) = r := ⟨_, rfl⟩
  rw [hr]
  obtain ⟨q, hq⟩ : ∃ q, Lib.validD t.data.toList = q := ⟨_, rfl⟩
  have hv := fun w h => valid_c t w (by omega) h
  rw [hq] at hv
  have HR := Lib.hid hr
  have HQ := Lib.hid hq
  clear hr hq
  by_cases hi : i = 0
  case neg =>
    have hib : (i != 0) = true := by simpa using hi
    obtain rfl : r = true := by rw [← HR.out]; simp [WrongP, hi]
    clear HR HQ 
    go_enter Tryd.func95, Tryd.ntmps95
    go_wp2_with fail
    go_ret
    exact ⟨by first | rfl | (apply ret_bool; simp) | (apply ret_bool; simp; omega), below_alloc1 _ _⟩
  subst hi
  by_cases ht : t.size = 0
  case neg =>
    have htc := toList_nil ht
    obtain rfl : r = true := by rw [← HR.out]; simp [WrongP, ht]
    clear HR HQ ht
    go_enter Tryd.func95, Tryd.ntmps95
    go_wp2_with fail
    go_ret
    exact ⟨by first | rfl | (apply ret_bool; simp) | (apply ret_bool; simp; omega), below_alloc1 _ _⟩
  obtain rfl := empty_of ht
  clear ht
  by_cases hd : nd = 0
  case neg =>
    have hdp : 0 < nd := by omega
    obtain rfl : r = true := by rw [← HR.out]; simp [WrongP, hdp]
    clear HR HQ hd
    go_enter Tryd.func95, Tryd.ntmps95
    go_wp2_with fail
    go_ret
    exact ⟨by first | rfl | (apply ret_bool; simp) | (apply ret_bool; simp; omega), below_alloc1 _ _⟩
  subst hd
  by_cases hl : nl = 0
  case neg =>
    have hlp : 0 < nl := by omega
    obtain rfl : r = true := by rw [← HR.out]; simp [WrongP, hlp]
    clear HR HQ hl
    go_enter Tryd.func95, Tryd.ntmps95
    go_wp2_with fail
    go_ret
    exact ⟨by first | rfl | (apply ret_bool; simp) | (apply ret_bool; simp; omega), below_alloc1 _ _⟩
  subst hl
  obtain rfl : r = false := by rw [← HR.out]; simp [WrongP]
  clear HR HQ 
  have B := Lib.hid (heap_alloc_new w (.cells #[.int .i64 2, .int .i64 0, .string ByteArray.empty, .slice A 0 c, .slice A' 0 c'] 25))
  go_enter Tryd.func95, Tryd.ntmps95
  go_wp2_with fail
  refine (hv _ (hT.grow (below_alloc1 _ _))).mono ?_
  rintro e w1 ⟨rfl, hb1⟩
  have x0 := cell_grow hb1 (cell_at B.out 0 _ rfl)
  have x1 := cell_grow hb1 (cell_at B.out 1 _ rfl)
  have x2 := cell_grow hb1 (cell_at B.out 2 _ rfl)
  have x3 := cell_grow hb1 (cell_at B.out 3 _ rfl)
  have x4 := cell_grow hb1 (cell_at B.out 4 _ rfl)
  go_wp2_with fail
  go_ret
  exact ⟨by first | rfl | (apply ret_bool; simp) | (apply ret_bool; simp; omega), below2 (below_alloc1 _ _) hb1⟩
set_option maxHeartbeats 1000000 in
theorem plain_3 (i : Int) (t : ByteArray) (nl nd : Nat) (A A' : Option Addr) (c c' : Nat) (w : World) (hT : Tabs w) (hs : t.size ≤ 140737488355328) :
    Calls Tryd.prog 95 #[.agg #[.int .i64 3, .int .i64 i, .string t, .slice A nl c, .slice A' nd c']] w fun e w' => e = .returned (.bool (!decide (WrongP 3 i t nl nd))) ∧ Below w.heap.size w w' := by
  obtain ⟨r, hr⟩ : ∃ r, decide (WrongP 3 i t nl nd) = r := ⟨_, rfl⟩
  rw [hr]
  obtain ⟨q, hq⟩ : ∃ q, Lib.validD t.data.toList = q := ⟨_, rfl⟩
  have hv := fun w h => valid_c t w (by omega) h
  rw [hq] at hv
  have HR := Lib.hid hr
  have HQ := Lib.hid hq
  clear hr hq
  by_cases ht : t.size = 0
  case neg =>
    have htc := toList_nil ht
    obtain rfl : r = true := by rw [← HR.out]; simp [WrongP, ht]
    clear HR HQ ht
    go_enter Tryd.func95, Tryd.ntmps95
    go_wp2_with fail
    go_ret
    exact ⟨by first | rfl | (apply ret_bool; simp) | (apply ret_bool; simp; omega), below_alloc1 _ _⟩
  obtain rfl := empty_of ht
  clear ht
  by_cases hd : nd = 0
  case neg =>
    have hdp : 0 < nd := by omega
    obtain rfl : r = true := by rw [← HR.out]; simp [WrongP, hdp]
    clear HR HQ hd
    go_enter Tryd.func95, Tryd.ntmps95
    go_wp2_with fail
    go_ret
    exact ⟨by first | rfl | (apply ret_bool; simp) | (apply ret_bool; simp; omega), below_alloc1 _ _⟩
  subst hd
  by_cases hl : nl = 0
  case neg =>
    have hlp : 0 < nl := by omega
    obtain rfl : r = true := by rw [← HR.out]; simp [WrongP, hlp]
    clear HR HQ hl
    go_enter Tryd.func95, Tryd.ntmps95
    go_wp2_with fail
    go_ret
    exact ⟨by first | rfl | (apply ret_bool; simp) | (apply ret_bool; simp; omega), below_alloc1 _ _⟩
  subst hl
  obtain rfl : r = false := by rw [← HR.out]; simp [WrongP]
  clear HR HQ 
  have B := Lib.hid (heap_alloc_new w (.cells #[.int .i64 3, .int .i64 i, .string ByteArray.empty, .slice A 0 c, .slice A' 0 c'] 25))
  go_enter Tryd.func95, Tryd.ntmps95
  go_wp2_with fail
  refine (hv _ (hT.grow (below_alloc1 _ _))).mono ?_
  rintro e w1 ⟨rfl, hb1⟩
  have x0 := cell_grow hb1 (cell_at B.out 0 _ rfl)
  have x1 := cell_grow hb1 (cell_at B.out 1 _ rfl)
  have x2 := cell_grow hb1 (cell_at B.out 2 _ rfl)
  have x3 := cell_grow hb1 (cell_at B.out 3 _ rfl)
  have x4 := cell_grow hb1 (cell_at B.out 4 _ rfl)
  go_wp2_with fail
  go_ret
  exact ⟨by first | rfl | (apply ret_bool; simp) | (apply ret_bool; simp; omega), below2 (below_alloc1 _ _) hb1⟩
set_option maxHeartbeats 1000000 in
theorem plain_4 (i : Int) (t : ByteArray) (nl nd : Nat) (A A' : Option Addr) (c c' : Nat) (w : World) (hT : Tabs w) (hs : t.size ≤ 140737488355328) :
    Calls Tryd.prog 95 #[.agg #[.int .i64 4, .int .i64 i, .string t, .slice A nl c, .slice A' nd c']] w fun e w' => e = .returned (.bool (!decide (WrongP 4 i t nl nd))) ∧ Below w.heap.size w w' := by
  obtain ⟨r, hr⟩ : ∃ r, decide (WrongP 4 i t nl nd) = r := ⟨_, rfl⟩
  rw [hr]
  obtain ⟨q, hq⟩ : ∃ q, Lib.validD t.data.toList = q := ⟨_, rfl⟩
  have hv := fun w h => valid_c t w (by omega) h
  rw [hq] at hv
  have HR := Lib.hid hr
  have HQ := Lib.hid hq
  clear hr hq
  by_cases hi : i = 0
  case neg =>
    have hib : (i != 0) = true := by simpa using hi
    obtain rfl : r = true := by rw [← HR.out]; simp [WrongP, hi]
    clear HR HQ 
    go_enter Tryd.func95, Tryd.ntmps95
    go_wp2_with fail
    go_ret
    exact ⟨by first | rfl | (apply ret_bool; simp) | (apply ret_bool; simp; omega), below_alloc1 _ _⟩
  subst hi
  by_cases hd : nd = 0
  case neg =>
    have hdp : 0 < nd := by omega
    obtain rfl : r = true := by rw [← HR.out]; simp [WrongP, hdp]
    clear HR HQ hd
    go_enter Tryd.func95, Tryd.ntmps95
    go_wp2_with fail
    go_ret
    exact ⟨by first | rfl | (apply ret_bool; simp) | (apply ret_bool; simp; omega), below_alloc1 _ _⟩
  subst hd
  by_cases hl : nl = 0
  case neg =>
    have hlp : 0 < nl := by omega
    obtain rfl : r = true := by rw [← HR.out]; simp [WrongP, hlp]
    clear HR HQ hl
    go_enter Tryd.func95, Tryd.ntmps95
    go_wp2_with fail
    go_ret
    exact ⟨by first | rfl | (apply ret_bool; simp) | (apply ret_bool; simp; omega), below_alloc1 _ _⟩
  subst hl
  cases q
  case false =>
    obtain rfl : r = true := by rw [← HR.out]; simp [WrongP, HQ.out]
    clear HR HQ 
    have B := Lib.hid (heap_alloc_new w (.cells #[.int .i64 4, .int .i64 0, .string t, .slice A 0 c, .slice A' 0 c'] 25))
    go_enter Tryd.func95, Tryd.ntmps95
    go_wp2_with fail
    refine (hv _ (hT.grow (below_alloc1 _ _))).mono ?_
    rintro e w1 ⟨rfl, hb1⟩
    have x0 := cell_grow hb1 (cell_at B.out 0 _ rfl)
    have x1 := cell_grow hb1 (cell_at B.out 1 _ rfl)
    have x2 := cell_grow hb1 (cell_at B.out 2 _ rfl)
    have x3 := cell_grow hb1 (cell_at B.out 3 _ rfl)
    have x4 := cell_grow hb1 (cell_at B.out 4 _ rfl)
    go_wp2_with fail
    go_ret
    exact ⟨by first | rfl | (apply ret_bool; simp) | (apply ret_bool; simp; omega), below2 (below_alloc1 _ _) hb1⟩
  case true =>
    obtain rfl : r = false := by rw [← HR.out]; simp [WrongP, HQ.out]
    clear HR HQ 
    have B := Lib.hid (heap_alloc_new w (.cells #[.int .i64 4, .int .i64 0, .string t, .slice A 0 c, .slice A' 0 c'] 25))
    go_enter Tryd.func95, Tryd.ntmps95
    go_wp2_with fail
    refine (hv _ (hT.grow (below_alloc1 _ _))).mono ?_
    rintro e w1 ⟨rfl, hb1⟩
    have x0 := cell_grow hb1 (cell_at B.out 0 _ rfl)
    have x1 := cell_grow hb1 (cell_at B.out 1 _ rfl)
    have x2 := cell_grow hb1 (cell_at B.out 2 _ rfl)
    have x3 := cell_grow hb1 (cell_at B.out 3 _ rfl)
    have x4 := cell_grow hb1 (cell_at B.out 4 _ rfl)
    go_wp2_with fail
    go_ret
    exact ⟨by first | rfl | (apply ret_bool; simp) | (apply ret_bool; simp; omega), below2 (below_alloc1 _ _) hb1⟩
set_option maxHeartbeats 1000000 in
theorem plain_5 (i : Int) (t : ByteArray) (nl nd : Nat) (A A' : Option Addr) (c c' : Nat) (w : World) (hT : Tabs w) (hs : t.size ≤ 140737488355328) :
    Calls Tryd.prog 95 #[.agg #[.int .i64 5, .int .i64 i, .string t, .slice A nl c, .slice A' nd c']] w fun e w' => e = .returned (.bool (!decide (WrongP 5 i t nl nd))) ∧ Below w.heap.size w w' := by
  obtain ⟨r, hr⟩ : ∃ r, decide (WrongP 5 i t nl nd) = r := ⟨_, rfl⟩
  rw [hr]
  obtain ⟨q, hq⟩ : ∃ q, Lib.validD t.data.toList = q := ⟨_, rfl⟩
  have hv := fun w h => valid_c t w (by omega) h
  rw [hq] at hv
  have HR := Lib.hid hr
  have HQ := Lib.hid hq
  clear hr hq
  by_cases hi : i = 0
  case neg =>
    have hib : (i != 0) = true := by simpa using hi
    obtain rfl : r = true := by rw [← HR.out]; simp [WrongP, hi]
    clear HR HQ 
    go_enter Tryd.func95, Tryd.ntmps95
    go_wp2_with fail
    go_ret
    exact ⟨by first | rfl | (apply ret_bool; simp) | (apply ret_bool; simp; omega), below_alloc1 _ _⟩
  subst hi
  by_cases ht : t.size = 0
  case neg =>
    have htc := toList_nil ht
    obtain rfl : r = true := by rw [← HR.out]; simp [WrongP, ht]
    clear HR HQ ht
    go_enter Tryd.func95, Tryd.ntmps95
    go_wp2_with fail
    go_ret
    exact ⟨by first | rfl | (apply ret_bool; simp) | (apply ret_bool; simp; omega), below_alloc1 _ _⟩
  obtain rfl := empty_of ht
  clear ht
  by_cases hl : nl = 0
  case neg =>
    have hlp : 0 < nl := by omega
    obtain rfl : r = true := by rw [← HR.out]; simp [WrongP, hlp]
    clear HR HQ hl
    go_enter Tryd.func95, Tryd.ntmps95
    go_wp2_with fail
    go_ret
    exact ⟨by first | rfl | (apply ret_bool; simp) | (apply ret_bool; simp; omega), below_alloc1 _ _⟩
  subst hl
  obtain rfl : r = false := by rw [← HR.out]; simp [WrongP]
  clear HR HQ 
  have B := Lib.hid (heap_alloc_new w (.cells #[.int .i64 5, .int .i64 0, .string ByteArray.empty, .slice A 0 c, .slice A' nd c'] 25))
  go_enter Tryd.func95, Tryd.ntmps95
  go_wp2_with fail
  refine (hv _ (hT.grow (below_alloc1 _ _))).mono ?_
  rintro e w1 ⟨rfl, hb1⟩
  have x0 := cell_grow hb1 (cell_at B.out 0 _ rfl)
  have x1 := cell_grow hb1 (cell_at B.out 1 _ rfl)
  have x2 := cell_grow hb1 (cell_at B.out 2 _ rfl)
  have x3 := cell_grow hb1 (cell_at B.out 3 _ rfl)
  have x4 := cell_grow hb1 (cell_at B.out 4 _ rfl)
  go_wp2_with fail
  go_ret
  exact ⟨by first | rfl | (apply ret_bool; simp) | (apply ret_bool; simp; omega), below2 (below_alloc1 _ _) hb1⟩
set_option maxHeartbeats 1000000 in
theorem plain_6 (i : Int) (t : ByteArray) (nl nd : Nat) (A A' : Option Addr) (c c' : Nat) (w : World) (hT : Tabs w) (hs : t.size ≤ 140737488355328) :
    Calls Tryd.prog 95 #[.agg #[.int .i64 6, .int .i64 i, .string t, .slice A nl c, .slice A' nd c']] w fun e w' => e = .returned (.bool (!decide (WrongP 6 i t nl nd))) ∧ Below w.heap.size w w' := by
  obtain ⟨r, hr⟩ : ∃ r, decide (WrongP 6 i t nl nd) = r := ⟨_, rfl⟩
  rw [hr]
  obtain ⟨q, hq⟩ : ∃ q, Lib.validD t.data.toList = q := ⟨_, rfl⟩
  have hv := fun w h => valid_c t w (by omega) h
  rw [hq] at hv
  have HR := Lib.hid hr
  have HQ := Lib.hid hq
  clear hr hq
  by_cases hi : i = 0
  case neg =>
    have hib : (i != 0) = true := by simpa using hi
    obtain rfl : r = true := by rw [← HR.out]; simp [WrongP, hi]
    clear HR HQ 
    go_enter Tryd.func95, Tryd.ntmps95
    go_wp2_with fail
    go_ret
    exact ⟨by first | rfl | (apply ret_bool; simp) | (apply ret_bool; simp; omega), below_alloc1 _ _⟩
  subst hi
  by_cases ht : t.size = 0
  case neg =>
    have htc := toList_nil ht
    obtain rfl : r = true := by rw [← HR.out]; simp [WrongP, ht]
    clear HR HQ ht
    go_enter Tryd.func95, Tryd.ntmps95
    go_wp2_with fail
    go_ret
    exact ⟨by first | rfl | (apply ret_bool; simp) | (apply ret_bool; simp; omega), below_alloc1 _ _⟩
  obtain rfl := empty_of ht
  clear ht
  by_cases hd : nd = 0
  case neg =>
    have hdp : 0 < nd := by omega
    obtain rfl : r = true := by rw [← HR.out]; simp [WrongP, hdp]
    clear HR HQ hd
    go_enter Tryd.func95, Tryd.ntmps95
    go_wp2_with fail
    go_ret
    exact ⟨by first | rfl | (apply ret_bool; simp) | (apply ret_bool; simp; omega), below_alloc1 _ _⟩
  subst hd
  obtain rfl : r = false := by rw [← HR.out]; simp [WrongP]
  clear HR HQ 
  have B := Lib.hid (heap_alloc_new w (.cells #[.int .i64 6, .int .i64 0, .string ByteArray.empty, .slice A nl c, .slice A' 0 c'] 25))
  go_enter Tryd.func95, Tryd.ntmps95
  go_wp2_with fail
  refine (hv _ (hT.grow (below_alloc1 _ _))).mono ?_
  rintro e w1 ⟨rfl, hb1⟩
  have x0 := cell_grow hb1 (cell_at B.out 0 _ rfl)
  have x1 := cell_grow hb1 (cell_at B.out 1 _ rfl)
  have x2 := cell_grow hb1 (cell_at B.out 2 _ rfl)
  have x3 := cell_grow hb1 (cell_at B.out 3 _ rfl)
  have x4 := cell_grow hb1 (cell_at B.out 4 _ rfl)
  go_wp2_with fail
  go_ret
  exact ⟨by first | rfl | (apply ret_bool; simp) | (apply ret_bool; simp; omega), below2 (below_alloc1 _ _) hb1⟩
set_option maxHeartbeats 1000000 in
theorem plain_7 (i : Int) (t : ByteArray) (nl nd : Nat) (A A' : Option Addr) (c c' : Nat) (w : World) (hT : Tabs w) (hs : t.size ≤ 140737488355328) :
    Calls Tryd.prog 95 #[.agg #[.int .i64 7, .int .i64 i, .string t, .slice A nl c, .slice A' nd c']] w fun e w' => e = .returned (.bool (!decide (WrongP 7 i t nl nd))) ∧ Below w.heap.size w w' := by
  obtain ⟨r, hr⟩ : ∃ r, decide (WrongP 7 i t nl nd) = r := ⟨_, rfl⟩
  rw [hr]
  obtain ⟨q, hq⟩ : ∃ q, Lib.validD t.data.toList = q := ⟨_, rfl⟩
  have hv := fun w h => valid_c t w (by omega) h
  rw [hq] at hv
  have HR := Lib.hid hr
  have HQ := Lib.hid hq
  clear hr hq
  by_cases hi : i = 0
  case neg =>
    have hib : (i != 0) = true := by simpa using hi
    obtain rfl : r = true := by rw [← HR.out]; simp [WrongP, hi]
    clear HR HQ 
    go_enter Tryd.func95, Tryd.ntmps95
    go_wp2_with fail
    go_ret
    exact ⟨by first | rfl | (apply ret_bool; simp) | (apply ret_bool; simp; omega), below_alloc1 _ _⟩
  subst hi
  by_cases hd : nd = 0
  case neg =>
    have hdp : 0 < nd := by omega
    obtain rfl : r = true := by rw [← HR.out]; simp [WrongP, hdp]
    clear HR HQ hd
    go_enter Tryd.func95, Tryd.ntmps95
    go_wp2_with fail
    go_ret
    exact ⟨by first | rfl | (apply ret_bool; simp) | (apply ret_bool; simp; omega), below_alloc1 _ _⟩
  subst hd
  by_cases hl : nl = 0
  case neg =>
    have hlp : 0 < nl := by omega
    obtain rfl : r = true := by rw [← HR.out]; simp [WrongP, hlp]
    clear HR HQ hl
    go_enter Tryd.func95, Tryd.ntmps95
    go_wp2_with fail
    go_ret
    exact ⟨by first | rfl | (apply ret_bool; simp) | (apply ret_bool; simp; omega), below_alloc1 _ _⟩
  subst hl
  obtain rfl : r = false := by rw [← HR.out]; simp [WrongP]
  clear HR HQ 
  have B := Lib.hid (heap_alloc_new w (.cells #[.int .i64 7, .int .i64 0, .string t, .slice A 0 c, .slice A' 0 c'] 25))
  go_enter Tryd.func95, Tryd.ntmps95
  go_wp2_with fail
  refine (hv _ (hT.grow (below_alloc1 _ _))).mono ?_
  rintro e w1 ⟨rfl, hb1⟩
  have x0 := cell_grow hb1 (cell_at B.out 0 _ rfl)
  have x1 := cell_grow hb1 (cell_at B.out 1 _ rfl)
  have x2 := cell_grow hb1 (cell_at B.out 2 _ rfl)
  have x3 := cell_grow hb1 (cell_at B.out 3 _ rfl)
  have x4 := cell_grow hb1 (cell_at B.out 4 _ rfl)
  go_wp2_with fail
  go_ret
  exact ⟨by first | rfl | (apply ret_bool; simp) | (apply ret_bool; simp; omega), below2 (below_alloc1 _ _) hb1⟩
set_option maxHeartbeats 1000000 in
theorem plain_8 (i : Int) (t : ByteArray) (nl nd : Nat) (A A' : Option Addr) (c c' : Nat) (w : World) (hT : Tabs w) (hs : t.size ≤ 140737488355328) :
    Calls Tryd.prog 95 #[.agg #[.int .i64 8, .int .i64 i, .string t, .slice A nl c, .slice A' nd c']] w fun e w' => e = .returned (.bool (!decide (WrongP 8 i t nl nd))) ∧ Below w.heap.size w w' := by
  obtain ⟨r, hr⟩ : ∃ r, decide (WrongP 8 i t nl nd) = r := ⟨_, rfl⟩
  rw [hr]
  obtain ⟨q, hq⟩ : ∃ q, Lib.validD t.data.toList = q := ⟨_, rfl⟩
  have hv := fun w h => valid_c t w (by omega) h
  rw [hq] at hv
  have HR := Lib.hid hr
  have HQ := Lib.hid hq
  clear hr hq
  by_cases hi : i = 0
  case neg =>
    have hib : (i != 0) = true := by simpa using hi
    obtain rfl : r = true := by rw [← HR.out]; simp [WrongP, hi]
    clear HR HQ 
    go_enter Tryd.func95, Tryd.ntmps95
    go_wp2_with fail
    go_ret
    exact ⟨by first | rfl | (apply ret_bool; simp) | (apply ret_bool; simp; omega), below_alloc1 _ _⟩
  subst hi
  by_cases hd : nd = 0
  case neg =>
    have hdp : 0 < nd := by omega
    obtain rfl : r = true := by rw [← HR.out]; simp [WrongP, hdp]
    clear HR HQ hd
    go_enter Tryd.func95, Tryd.ntmps95
    go_wp2_with fail
    go_ret
    exact ⟨by first | rfl | (apply ret_bool; simp) | (apply ret_bool; simp; omega), below_alloc1 _ _⟩
  subst hd
  by_cases hl : nl = 0
  case neg =>
    have hlp : 0 < nl := by omega
    obtain rfl : r = true := by rw [← HR.out]; simp [WrongP, hlp]
    clear HR HQ hl
    go_enter Tryd.func95, Tryd.ntmps95
    go_wp2_with fail
    go_ret
    exact ⟨by first | rfl | (apply ret_bool; simp) | (apply ret_bool; simp; omega), below_alloc1 _ _⟩
  subst hl
  by_cases h8 : t.size = 12
  case neg =>
    have h8b : ((t.size : Int) == 12) = false := by simp; omega
    have h8c : ((t.size : Int) != 12) = true := by simp; omega
    obtain rfl : r = true := by rw [← HR.out]; simp [WrongP, h8]
    clear HR HQ h8
    have B := Lib.hid (heap_alloc_new w (.cells #[.int .i64 8, .int .i64 0, .string t, .slice A 0 c, .slice A' 0 c'] 25))
    go_enter Tryd.func95, Tryd.ntmps95
    go_wp2_with fail
    refine (hv _ (hT.grow (below_alloc1 _ _))).mono ?_
    rintro e w1 ⟨rfl, hb1⟩
    have x0 := cell_grow hb1 (cell_at B.out 0 _ rfl)
    have x1 := cell_grow hb1 (cell_at B.out 1 _ rfl)
    have x2 := cell_grow hb1 (cell_at B.out 2 _ rfl)
    have x3 := cell_grow hb1 (cell_at B.out 3 _ rfl)
    have x4 := cell_grow hb1 (cell_at B.out 4 _ rfl)
    go_wp2_with fail
    go_ret
    exact ⟨by first | rfl | (apply ret_bool; simp) | (apply ret_bool; simp; omega), below2 (below_alloc1 _ _) hb1⟩
  have h8b : ((t.size : Int) == 12) = true := by simp; omega
  have h8c : ((t.size : Int) != 12) = false := by simp; omega
  have H8 := Lib.hid h8
  clear h8
  obtain rfl : r = false := by rw [← HR.out]; simp [WrongP, H8.out]
  clear HR HQ 
  have B := Lib.hid (heap_alloc_new w (.cells #[.int .i64 8, .int .i64 0, .string t, .slice A 0 c, .slice A' 0 c'] 25))
  go_enter Tryd.func95, Tryd.ntmps95
  go_wp2_with fail
  refine (hv _ (hT.grow (below_alloc1 _ _))).mono ?_
  rintro e w1 ⟨rfl, hb1⟩
  have x0 := cell_grow hb1 (cell_at B.out 0 _ rfl)
  have x1 := cell_grow hb1 (cell_at B.out 1 _ rfl)
  have x2 := cell_grow hb1 (cell_at B.out 2 _ rfl)
  have x3 := cell_grow hb1 (cell_at B.out 3 _ rfl)
  have x4 := cell_grow hb1 (cell_at B.out 4 _ rfl)
  go_wp2_with fail
  go_ret
  exact ⟨by first | rfl | (apply ret_bool; simp) | (apply ret_bool; simp; omega), below2 (below_alloc1 _ _) hb1⟩
set_option maxHeartbeats 1000000 in
theorem plain_9 (i : Int) (t : ByteArray) (nl nd : Nat) (A A' : Option Addr) (c c' : Nat) (w : World) (hT : Tabs w) (hs : t.size ≤ 140737488355328) :
    Calls Tryd.prog 95 #[.agg #[.int .i64 9, .int .i64 i, .string t, .slice A nl c, .slice A' nd c']] w fun e w' => e = .returned (.bool (!decide (WrongP 9 i t nl nd))) ∧ Below w.heap.size w w' := by
  obtain ⟨r, hr⟩ : ∃ r, decide (WrongP 9 i t nl nd) = r := ⟨_, rfl⟩
  rw [hr]
  obtain ⟨q, hq⟩ : ∃ q, Lib.validD t.data.toList = q := ⟨_, rfl⟩
  have hv := fun w h => valid_c t w (by omega) h
  rw [hq] at hv
  have HR := Lib.hid hr
  have HQ := Lib.hid hq
  clear hr hq
  by_cases ht : t.size = 0
  case neg =>
    have htc := toList_nil ht
    obtain rfl : r = true := by rw [← HR.out]; simp [WrongP, ht]
    clear HR HQ ht
    go_enter Tryd.func95, Tryd.ntmps95
    go_wp2_with fail
    go_ret
    exact ⟨by first | rfl | (apply ret_bool; simp) | (apply ret_bool; simp; omega), below_alloc1 _ _⟩
  obtain rfl := empty_of ht
  clear ht
  by_cases hd : nd = 0
  case neg =>
    have hdp : 0 < nd := by omega
    obtain rfl : r = true := by rw [← HR.out]; simp [WrongP, hdp]
    clear HR HQ hd
    go_enter Tryd.func95, Tryd.ntmps95
    go_wp2_with fail
    go_ret
    exact ⟨by first | rfl | (apply ret_bool; simp) | (apply ret_bool; simp; omega), below_alloc1 _ _⟩
  subst hd
  by_cases hl : nl = 0
  case neg =>
    have hlp : 0 < nl := by omega
    obtain rfl : r = true := by rw [← HR.out]; simp [WrongP, hlp]
    clear HR HQ hl
    go_enter Tryd.func95, Tryd.ntmps95
    go_wp2_with fail
    go_ret
    exact ⟨by first | rfl | (apply ret_bool; simp) | (apply ret_bool; simp; omega), below_alloc1 _ _⟩
  subst hl
  by_cases h9 : i = 0 ∨ i = 1
  case neg =>
    have hi0 : i ≠ 0 := by omega
    have hi1 : i ≠ 1 := by omega
    have hib : (i != 0) = true := by simpa using hi0
    have hib1 : (i != 1) = true := by simpa using hi1
    obtain rfl : r = true := by rw [← HR.out]; simp [WrongP, hi0, hi1]
    clear HR HQ h9 hi0 hi1
    have B := Lib.hid (heap_alloc_new w (.cells #[.int .i64 9, .int .i64 i, .string ByteArray.empty, .slice A 0 c, .slice A' 0 c'] 25))
    go_enter Tryd.func95, Tryd.ntmps95
    go_wp2_with fail
    refine (hv _ (hT.grow (below_alloc1 _ _))).mono ?_
    rintro e w1 ⟨rfl, hb1⟩
    have x0 := cell_grow hb1 (cell_at B.out 0 _ rfl)
    have x1 := cell_grow hb1 (cell_at B.out 1 _ rfl)
    have x2 := cell_grow hb1 (cell_at B.out 2 _ rfl)
    have x3 := cell_grow hb1 (cell_at B.out 3 _ rfl)
    have x4 := cell_grow hb1 (cell_at B.out 4 _ rfl)
    go_wp2_with fail
    go_ret
    exact ⟨by first | rfl | (apply ret_bool; simp) | (apply ret_bool; simp; omega), below2 (below_alloc1 _ _) hb1⟩
  rcases h9 with rfl | rfl
  ·
    obtain rfl : r = false := by rw [← HR.out]; simp [WrongP]
    clear HR HQ 
    have B := Lib.hid (heap_alloc_new w (.cells #[.int .i64 9, .int .i64 0, .string ByteArray.empty, .slice A 0 c, .slice A' 0 c'] 25))
    go_enter Tryd.func95, Tryd.ntmps95
    go_wp2_with fail
    refine (hv _ (hT.grow (below_alloc1 _ _))).mono ?_
    rintro e w1 ⟨rfl, hb1⟩
    have x0 := cell_grow hb1 (cell_at B.out 0 _ rfl)
    have x1 := cell_grow hb1 (cell_at B.out 1 _ rfl)
    have x2 := cell_grow hb1 (cell_at B.out 2 _ rfl)
    have x3 := cell_grow hb1 (cell_at B.out 3 _ rfl)
    have x4 := cell_grow hb1 (cell_at B.out 4 _ rfl)
    go_wp2_with fail
    go_ret
    exact ⟨by first | rfl | (apply ret_bool; simp) | (apply ret_bool; simp; omega), below2 (below_alloc1 _ _) hb1⟩
  ·
    obtain rfl : r = false := by rw [← HR.out]; simp [WrongP]
    clear HR HQ 
    have B := Lib.hid (heap_alloc_new w (.cells #[.int .i64 9, .int .i64 1, .string ByteArray.empty, .slice A 0 c, .slice A' 0 c'] 25))
    go_enter Tryd.func95, Tryd.ntmps95
    go_wp2_with fail
    refine (hv _ (hT.grow (below_alloc1 _ _))).mono ?_
    rintro e w1 ⟨rfl, hb1⟩
    have x0 := cell_grow hb1 (cell_at B.out 0 _ rfl)
    have x1 := cell_grow hb1 (cell_at B.out 1 _ rfl)
    have x2 := cell_grow hb1 (cell_at B.out 2 _ rfl)
    have x3 := cell_grow hb1 (cell_at B.out 3 _ rfl)
    have x4 := cell_grow hb1 (cell_at B.out 4 _ rfl)
    go_wp2_with fail
    go_ret
    exact ⟨by first | rfl | (apply ret_bool; simp) | (apply ret_bool; simp; omega), below2 (below_alloc1 _ _) hb1⟩
set_option maxHeartbeats 1000000 in
theorem plain_10 (i : Int) (t : ByteArray) (nl nd : Nat) (A A' : Option Addr) (c c' : Nat) (w : World) (hT : Tabs w) (hs : t.size ≤ 140737488355328) :
    Calls Tryd.prog 95 #[.agg #[.int .i64 10, .int .i64 i, .string t, .slice A nl c, .slice A' nd c']] w fun e w' => e = .returned (.bool (!decide (WrongP 10 i t nl nd))) ∧ Below w.heap.size w w' := by
  obtain ⟨r, hr⟩ : ∃ r, decide (WrongP 10 i t nl nd) = r := ⟨_, rfl⟩
  rw [hr]
  obtain ⟨q, hq⟩ : ∃ q, Lib.validD t.data.toList = q := ⟨_, rfl⟩
  have hv := fun w h => valid_c t w (by omega) h
  rw [hq] at hv
  have HR := Lib.hid hr
  have HQ := Lib.hid hq
  clear hr hq
  by_cases ht : t.size = 0
  case neg =>
    have htc := toList_nil ht
    obtain rfl : r = true := by rw [← HR.out]; simp [WrongP, ht]
    clear HR HQ ht
    go_enter Tryd.func95, Tryd.ntmps95
    go_wp2_with fail
    go_ret
    exact ⟨by first | rfl | (apply ret_bool; simp) | (apply ret_bool; simp; omega), below_alloc1 _ _⟩
  obtain rfl := empty_of ht
  clear ht
  by_cases hd : nd = 0
  case neg =>
    have hdp : 0 < nd := by omega
    obtain rfl : r = true := by rw [← HR.out]; simp [WrongP, hdp]
    clear HR HQ hd
    go_enter Tryd.func95, Tryd.ntmps95
    go_wp2_with fail
    go_ret
    exact ⟨by first | rfl | (apply ret_bool; simp) | (apply ret_bool; simp; omega), below_alloc1 _ _⟩
  subst hd
  by_cases hl : nl = 0
  case neg =>
    have hlp : 0 < nl := by omega
    obtain rfl : r = true := by rw [← HR.out]; simp [WrongP, hlp]
    clear HR HQ hl
    go_enter Tryd.func95, Tryd.ntmps95
    go_wp2_with fail
    go_ret
    exact ⟨by first | rfl | (apply ret_bool; simp) | (apply ret_bool; simp; omega), below_alloc1 _ _⟩
  subst hl
  obtain rfl : r = false := by rw [← HR.out]; simp [WrongP]
  clear HR HQ 
  have B := Lib.hid (heap_alloc_new w (.cells #[.int .i64 10, .int .i64 i, .string ByteArray.empty, .slice A 0 c, .slice A' 0 c'] 25))
  go_enter Tryd.func95, Tryd.ntmps95
  go_wp2_with fail
  refine (hv _ (hT.grow (below_alloc1 _ _))).mono ?_
  rintro e w1 ⟨rfl, hb1⟩
  have x0 := cell_grow hb1 (cell_at B.out 0 _ rfl)
  have x1 := cell_grow hb1 (cell_at B.out 1 _ rfl)
  have x2 := cell_grow hb1 (cell_at B.out 2 _ rfl)
  have x3 := cell_grow hb1 (cell_at B.out 3 _ rfl)
  have x4 := cell_grow hb1 (cell_at B.out 4 _ rfl)
  go_wp2_with fail
  go_ret
  exact ⟨by first | rfl | (apply ret_bool; simp) | (apply ret_bool; simp; omega), below2 (below_alloc1 _ _) hb1⟩
set_option maxHeartbeats 1000000 in
theorem plain_11 (i : Int) (t : ByteArray) (nl nd : Nat) (A A' : Option Addr) (c c' : Nat) (w : World) (hT : Tabs w) (hs : t.size ≤ 140737488355328) :
    Calls Tryd.prog 95 #[.agg #[.int .i64 11, .int .i64 i, .string t, .slice A nl c, .slice A' nd c']] w fun e w' => e = .returned (.bool (!decide (WrongP 11 i t nl nd))) ∧ Below w.heap.size w w' := by
  obtain ⟨r, hr⟩ : ∃ r, decide (WrongP 11 i t nl nd) = r := ⟨_, rfl⟩
  rw [hr]
  obtain ⟨q, hq⟩ : ∃ q, Lib.validD t.data.toList = q := ⟨_, rfl⟩
  have hv := fun w h => valid_c t w (by omega) h
  rw [hq] at hv
  have HR := Lib.hid hr
  have HQ := Lib.hid hq
  clear hr hq
  by_cases hi : i = 0
  case neg =>
    have hib : (i != 0) = true := by simpa using hi
    obtain rfl : r = true := by rw [← HR.out]; simp [WrongP, hi]
    clear HR HQ 
    go_enter Tryd.func95, Tryd.ntmps95
    go_wp2_with fail
    go_ret
    exact ⟨by first | rfl | (apply ret_bool; simp) | (apply ret_bool; simp; omega), below_alloc1 _ _⟩
  subst hi
  by_cases ht : t.size = 0
  case neg =>
    have htc := toList_nil ht
    obtain rfl : r = true := by rw [← HR.out]; simp [WrongP, ht]
    clear HR HQ ht
    go_enter Tryd.func95, Tryd.ntmps95
    go_wp2_with fail
    go_ret
    exact ⟨by first | rfl | (apply ret_bool; simp) | (apply ret_bool; simp; omega), below_alloc1 _ _⟩
  obtain rfl := empty_of ht
  clear ht
  by_cases hd : nd = 0
  case neg =>
    have hdp : 0 < nd := by omega
    obtain rfl : r = true := by rw [← HR.out]; simp [WrongP, hdp]
    clear HR HQ hd
    go_enter Tryd.func95, Tryd.ntmps95
    go_wp2_with fail
    go_ret
    exact ⟨by first | rfl | (apply ret_bool; simp) | (apply ret_bool; simp; omega), below_alloc1 _ _⟩
  subst hd
  by_cases hl : nl = 0
  case neg =>
    have hlp : 0 < nl := by omega
    obtain rfl : r = true := by rw [← HR.out]; simp [WrongP, hlp]
    clear HR HQ hl
    go_enter Tryd.func95, Tryd.ntmps95
    go_wp2_with fail
    go_ret
    exact ⟨by first | rfl | (apply ret_bool; simp) | (apply ret_bool; simp; omega), below_alloc1 _ _⟩
  subst hl
  obtain rfl : r = false := by rw [← HR.out]; simp [WrongP]
  clear HR HQ 
  have B := Lib.hid (heap_alloc_new w (.cells #[.int .i64 11, .int .i64 0, .string ByteArray.empty, .slice A 0 c, .slice A' 0 c'] 25))
  go_enter Tryd.func95, Tryd.ntmps95
  go_wp2_with fail
  refine (hv _ (hT.grow (below_alloc1 _ _))).mono ?_
  rintro e w1 ⟨rfl, hb1⟩
  have x0 := cell_grow hb1 (cell_at B.out 0 _ rfl)
  have x1 := cell_grow hb1 (cell_at B.out 1 _ rfl)
  have x2 := cell_grow hb1 (cell_at B.out 2 _ rfl)
  have x3 := cell_grow hb1 (cell_at B.out 3 _ rfl)
  have x4 := cell_grow hb1 (cell_at B.out 4 _ rfl)
  go_wp2_with fail
  go_ret
  exact ⟨by first | rfl | (apply ret_bool; simp) | (apply ret_bool; simp; omega), below2 (below_alloc1 _ _) hb1⟩
set_option maxHeartbeats 1000000 in
theorem plain_c (k i : Int) (t : ByteArray) (nl nd : Nat) (A A' : Option Addr) (c c' : Nat) (w : World) (hT : Tabs w) (hs : t.size ≤ 140737488355328) :
    Calls Tryd.prog 95 #[.agg #[.int .i64 k, .int .i64 i, .string t, .slice A nl c, .slice A' nd c']] w fun e w' => e = .returned (.bool (!decide (WrongP k i t nl nd))) ∧ Below w.heap.size w w' := by
  by_cases h : 1 ≤ k ∧ k ≤ 11
  · by_cases h1 : k = 1
    · subst h1; exact plain_1 i t nl nd A A' c c' w hT hs
    by_cases h1 : k = 2
    · subst h1; exact plain_2 i t nl nd A A' c c' w hT hs
    by_cases h1 : k = 3
    · subst h1; exact plain_3 i t nl nd A A' c c' w hT hs
    by_cases h1 : k = 4
    · subst h1; exact plain_4 i t nl nd A A' c c' w hT hs
    by_cases h1 : k = 5
    · subst h1; exact plain_5 i t nl nd A A' c c' w hT hs
    by_cases h1 : k = 6
    · subst h1; exact plain_6 i t nl nd A A' c c' w hT hs
    by_cases h1 : k = 7
    · subst h1; exact plain_7 i t nl nd A A' c c' w hT hs
    by_cases h1 : k = 8
    · subst h1; exact plain_8 i t nl nd A A' c c' w hT hs
    by_cases h1 : k = 9
    · subst h1; exact plain_9 i t nl nd A A' c c' w hT hs
    by_cases h1 : k = 10
    · subst h1; exact plain_10 i t nl nd A A' c c' w hT hs
    obtain rfl : k = 11 := by omega
    exact plain_11 i t nl nd A A' c c' w hT hs
  · have hr : decide (WrongP k i t nl nd) = true := by simp [WrongP, h]
    rw [hr]
    by_cases h1 : k < 1
    all_goals
      clear hr
      go_enter Tryd.func95, Tryd.ntmps95
      go_wp2_with fail
      go_ret
      exact ⟨rfl, below_alloc1 _ _⟩
end Go.Proofs.YthfejpldhemakaaDoor
