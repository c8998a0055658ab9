import Derived.Test.YthfejpldhemakaaDoorE
namespace Go.Proofs.YthfejpldhemakaaDoor
open Go.RowKit Go.Sort
theorem with1_c (nm n : ByteArray) (c0 c1 c2 c3 c4 : Value) (b : Nat) (w : World) (hn : w.cell? ⟨b, 0, none⟩ = some (.string nm)) :
    Calls Tryd.prog 74 #[.agg #[.string n, c0, c1, c2, c3, c4], .pointer (some ⟨b, 0, none⟩)] w fun e w' => e = .returned (.bool (n.toList == nm.toList)) ∧ Below w.heap.size w w' := by
  have h1 := cell_alloc1 hn
  go_enter Tryd.func74, Tryd.ntmps74
  go_wp2_with fail
  go_ret
  exact ⟨rfl, below_alloc1 _ _⟩
/-- Where the first field of that name stands. -/
def posD (nm : ByteArray) : List (ByteArray × V) → Nat → Int
  | [], _ => -1
  | (n, _) :: d, i => if n = nm then i else posD nm d (i + 1)
theorem posD_step {nm : ByteArray} {d : List (ByteArray × V)} {j : Nat} (h : j < d.length) : posD nm (d.drop j) j = if d[j].1 = nm then (j : Int) else posD nm (d.drop (j + 1)) (j + 1) := by
  rw [List.drop_eq_getElem_cons h, posD]
theorem toList_beq (a b : ByteArray) : (a.toList == b.toList) = decide (a = b) := by
  by_cases h : a = b
  · rw [str_eq' h, decide_eq_true h]
  · rw [beq_eq_false_iff_ne.2 (list_ne h), decide_eq_false h]
set_option maxHeartbeats 400000 in
theorem index_c (d : List (ByteArray × V)) (nm : ByteArray) (A : Option Addr) (c b : Nat) (w : World) (hD : RD w d A c) (hn : w.cell? ⟨b, 0, none⟩ = some (.string nm)) :
    Calls Tryd.prog 73 #[.slice A d.length c, .func (.func 74) #[] #[.pointer (some ⟨b, 0, none⟩)]] w fun e w' => e = .returned (.int .i64 (posD nm d 0)) ∧ Below w.heap.size w w' := by
  have hd0 := hD.1
  go_enter Tryd.func73, Tryd.ntmps73
  go_wp2_with fail
  go_loopw [8] (fun i wr => ∃ j : Nat, j ≤ d.length ∧ i = .int .i64 j ∧ Hid (posD nm (d.drop j) j = posD nm d 0) ∧ Below w.heap.size w wr) (fun i _ => d.length - (intOf i).toNat)
  case atStart => exact ⟨0, by omega, rfl, Lib.hid rfl, Below.refl _ _⟩
  case round =>
    obtain ⟨j, hj, rfl, hrec, hb⟩ := hrel
    by_cases hlt : j < d.length
    · obtain ⟨b', off, a0, n0, a1, n1, rfl, _, _, f0, f1, f2, f3, f4, f5⟩ := (hD.grow hb).get j hlt
      have hcl := with1_c nm d[j].1 (.int .i64 d[j].2.k) (.int .i64 d[j].2.i) (.string d[j].2.t) (.slice a0 d[j].2.l.length n0) (.slice a1 d[j].2.d.length n1) b wr (cell_grow hb hn)
      have Hst := Lib.hid (posD_step (nm := nm) hlt)
      rw [toList_beq] at hcl
      by_cases he : d[j].1 = nm
      · have HE := Lib.hid he
        rw [decide_eq_true he] at hcl
        clear he hD
        go_wp2_with (go_at_call 74; refine hcl.mono ?_; rintro e w1 ⟨rfl, hb1⟩)
        go_ret
        exact ⟨ret_int (by rw [← hrec.out, Hst.out, if_pos HE.out]), below2 hb hb1⟩
      · have HE := Lib.hid he
        rw [decide_eq_false he] at hcl
        clear he hD
        go_wp2_with (go_at_call 74; refine hcl.mono ?_; rintro e w1 ⟨rfl, hb1⟩)
        go_roundw
        case rel => exact ⟨j + 1, by omega, by go_num, Lib.hid (by rw [← hrec.out, Hst.out, if_neg HE.out]), below2 hb hb1⟩
        case measure => simp [intOf]; omega
    · obtain rfl : j = d.length := by omega
      clear hD
      go_wp2_with fail
      go_ret
      exact ⟨ret_int (by rw [← hrec.out]; simp [posD]), hb⟩
end Go.Proofs.YthfejpldhemakaaDoor
