import Derived.Test.YthfejpldhemakaaDoorWr
import Derived.Test.YthfejpldhemakaaDoorWi
import Derived.Laws.IdiomCopy
namespace Go.Proofs.YthfejpldhemakaaDoor
open Go.RowKit Go.Sort
theorem without1_c (nm n : ByteArray) (c0 c1 c2 c3 c4 : Value) (b : Nat) (w : World) (hn : w.cell? ⟨b, 0, none⟩ = some (.string nm)) :
    Calls Tryd.prog 76 #[.agg #[.string n, c0, c1, c2, c3, c4], .pointer (some ⟨b, 0, none⟩)] w fun e w' => e = .returned (.bool (n.toList == nm.toList)) ∧ Below w.heap.size w w' := by
  have h1 := cell_alloc1 hn
  go_enter Tryd.func76, Tryd.ntmps76
  go_wp2_with fail
  go_ret
  exact ⟨rfl, below_alloc1 _ _⟩
set_option maxHeartbeats 400000 in
theorem index76_c (d : List (ByteArray × V)) (nm : ByteArray) (A : Option Addr) (c b : Nat) (w : World) (hD : RD w d A c) (hn : w.cell? ⟨b, 0, none⟩ = some (.string nm)) :
    Calls Tryd.prog 73 #[.slice A d.length c, .func (.func 76) #[] #[.pointer (some ⟨b, 0, none⟩)]] w fun e w' => e = .returned (.int .i64 (posD nm d 0)) ∧ Below w.heap.size w w' := by
  have hd0 := hD.1
  go_enter Tryd.func73, Tryd.ntmps73
  go_wp2_with fail
  go_loopw [8] (fun i wr => ∃ j : Nat, j ≤ d.length ∧ i = .int .i64 j ∧ Hid (posD nm (d.drop j) j = posD nm d 0) ∧ Below w.heap.size w wr) (fun i _ => d.length - (intOf i).toNat)
  case atStart => exact ⟨0, by omega, rfl, Lib.hid rfl, Below.refl _ _⟩
  case round =>
    obtain ⟨j, hj, rfl, hrec, hb⟩ := hrel
    by_cases hlt : j < d.length
    · obtain ⟨b', off, a0, n0, a1, n1, rfl, _, _, f0, f1, f2, f3, f4, f5⟩ := (hD.grow hb).get j hlt
      have hcl := without1_c nm d[j].1 (.int .i64 d[j].2.k) (.int .i64 d[j].2.i) (.string d[j].2.t) (.slice a0 d[j].2.l.length n0) (.slice a1 d[j].2.d.length n1) b wr (cell_grow hb hn)
      have Hst := Lib.hid (posD_step (nm := nm) hlt)
      rw [toList_beq] at hcl
      by_cases he : d[j].1 = nm
      · have HE := Lib.hid he
        rw [decide_eq_true he] at hcl
        clear he hD
        go_wp2_with (go_at_call 76; refine hcl.mono ?_; rintro e w1 ⟨rfl, hb1⟩)
        go_ret
        exact ⟨ret_int (by rw [← hrec.out, Hst.out, if_pos HE.out]), below2 hb hb1⟩
      · have HE := Lib.hid he
        rw [decide_eq_false he] at hcl
        clear he hD
        go_wp2_with (go_at_call 76; refine hcl.mono ?_; rintro e w1 ⟨rfl, hb1⟩)
        go_roundw
        case rel => exact ⟨j + 1, by omega, by go_num, Lib.hid (by rw [← hrec.out, Hst.out, if_neg HE.out]), below2 hb hb1⟩
        case measure => simp [intOf]; omega
    · obtain rfl : j = d.length := by omega
      clear hD
      go_wp2_with fail
      go_ret
      exact ⟨ret_int (by rw [← hrec.out]; simp [posD]), hb⟩
theorem ownsRow_short {w : World} {e sz g n n' c : Nat} {xs : List Value} (h : w.ownsRow 0 e sz (.slice (some ⟨g, 0, none⟩) n c) n xs) (hn : n' ≤ n) : w.ownsRow 0 e sz (.slice (some ⟨g, 0, none⟩) n' c) n' (xs.take (n' * sz)) := by
  obtain ⟨hl, h3⟩ := h
  have hle : n' * sz ≤ n * sz := Nat.mul_le_mul_right _ hn
  refine ⟨by rw [List.length_take]; omega, ?_⟩
  rcases h3 with ⟨h3, _⟩ | ⟨g', cap, cur, h3, h4, h5, h6, h7, h8, h9⟩
  · cases h3
  · injection h3 with h3 h3' h3''
    injection h3 with h3
    injection h3 with h3
    subst h3 h3''
    refine .inr ⟨g, c, cur, rfl, h4, h5, by omega, h7, h8, ?_⟩
    rw [← h9, List.take_take]
    congr 1
    omega
theorem setCells_row {e sz g n c : Nat} : ∀ (zs : List Value) (o : Nat) (w : World) (xs : List Value), w.ownsRow 0 e sz (.slice (some ⟨g, 0, none⟩) n c) n xs → ∃ ys, (w.setCells g o zs).ownsRow 0 e sz (.slice (some ⟨g, 0, none⟩) n c) n ys ∧ ∀ p, p < o → ys[p]? = xs[p]?
  | [], o, w, xs, h => ⟨xs, h, fun _ _ => rfl⟩
  | z :: zs, o, w, xs, h => by
    obtain ⟨ys, h1, h2⟩ := setCells_row zs (o + 1) _ _ (ownsRow_set h o z)
    refine ⟨ys, h1, fun p hp => ?_⟩
    rw [h2 p (by omega), List.getElem?_set_ne (by omega)]
theorem setCells_only : ∀ (zs : List Value) (o g : Nat) (w : World), Only (· = g) w (w.setCells g o zs)
  | [], _, _, w => Only.refl _ w
  | z :: zs, o, g, w => (only_set w g o z).trans (setCells_only zs (o + 1) g _) (fun _ _ h => h)
def zero6 : Array Value := #[.string ByteArray.empty, .int .i64 0, .int .i64 0, .string ByteArray.empty, .slice none 0 0, .slice none 0 0]
theorem zero72 (w : World) : (zeroValue 72).run Tryd.prog w = .ok (.agg zero6) w := by kernel_rfl
theorem clear72 (w : World) (ty : TypeId) (b o n c : Nat) (hn : 0 < n)
    (hc : ∀ j, j < n * 6 → (w.cell? ⟨b, o + j, none⟩).isSome = true) (hf : ∀ j, j < n * 6 → w.frozen? ⟨b, o + j, none⟩ = false) :
    (Builtin.clear_ #[23] ty #[.slice (some ⟨b, o, none⟩) n c]).run Tryd.prog w = .ok (.tuple #[]) (w.setCells b o (Builtin.zeroCells zero6 n).toList) := by
  have hlen : (Builtin.zeroCells zero6 n).toList.length = n * 6 := by
    have := size_zeroCells zero6 n
    rw [Array.length_toList, this]
    rfl
  have hst := run_storeCells_cells (P := Tryd.prog) b o (Builtin.zeroCells zero6 n).toList 0 w (by rw [hlen]; simpa using hc) (by rw [hlen]; simpa using hf) (by
    intro v hv
    unfold Builtin.zeroCells at hv
    rw [Array.toList_map] at hv
    obtain ⟨i, _, rfl⟩ := List.mem_map.1 hv
    have h6 : zero6.size = 6 := rfl
    have hlt : i % zero6.size < 6 := by rw [h6]; omega
    generalize i % zero6.size = q at hlt
    obtain h | h | h | h | h | h : q = 0 ∨ q = 1 ∨ q = 2 ∨ q = 3 ∨ q = 4 ∨ q = 5 := by omega
    all_goals
      subst h
      simp [zero6, Value.oneCell'])
  simp only [Nat.add_zero] at hst
  obtain ⟨m, rfl⟩ : ∃ m, n = m + 1 := ⟨n - 1, by omega⟩
  simp [Builtin.clear_, run_underlying Tryd.underlying23]
  rw [show (Value.agg #[.string ⟨#[]⟩, .int .i64 0, .int .i64 0, .string ⟨#[]⟩, .slice none 0 0, .slice none 0 0]).cells = zero6 from rfl, hst]
  rfl
end Go.Proofs.YthfejpldhemakaaDoor
