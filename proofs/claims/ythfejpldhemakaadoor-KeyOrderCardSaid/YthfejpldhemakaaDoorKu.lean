import Derived.Test.YthfejpldhemakaaDoorKi
import Derived.Deep.QuietTactic
import Derived.BigQuiet
namespace Go.Proofs.YthfejpldhemakaaDoor
open Go.RowKit Go.Sort Go.Lib
theorem make8 (w : World) : (Instr.makeSlice 42 (.int .i64 8) (.int .i64 8)).run Tryd.prog w = .ok (.slice (some ⟨w.heap.size, 0, none⟩) 8 8) (w.alloc (.cells #[.int .u8 0, .int .u8 0, .int .u8 0, .int .u8 0, .int .u8 0, .int .u8 0, .int .u8 0, .int .u8 0] 5)) := by kernel_rfl
theorem wrap_top (i : Int) (h : Rng i) : IntKind.u64.wrap (IntKind.u64.wrap i + 9223372036854775808) = (((i + 9223372036854775808).toNat : Nat) : Int) := by
  obtain ⟨h1, h2⟩ := h
  rw [IntKind.wrap_u64, IntKind.wrap_u64]
  omega
def shr8 (U j : Nat) : Nat := U / 256 ^ j
theorem shr8_succ (U j : Nat) : shr8 U j / 256 = shr8 U (j + 1) := by
  unfold shr8
  rw [Nat.div_div_eq_div_mul, Nat.pow_succ]
theorem shr8_lt (U j : Nat) (h : U < 18446744073709551616) : shr8 U j < 18446744073709551616 := Nat.lt_of_le_of_lt (Nat.div_le_self _ _) h
set_option maxRecDepth 100000 in
set_option maxHeartbeats 4000000 in
theorem number_c (i : Int) (hi : Rng i) (w : World) : Calls Tryd.prog 101 #[.int .i64 i] w (Put w (.slice none 0 0) (encN i)) := by
  have hmk := make8
  have hwr := wrap_top i hi
  obtain ⟨hi1, hi2⟩ := hi
  obtain ⟨U, hU⟩ : ∃ U, (i + 9223372036854775808).toNat = U := ⟨_, rfl⟩
  have hU2 : U < 18446744073709551616 := by omega
  rw [hU] at hwr
  have HU := Lib.hid (show encN i = be8 U by unfold encN; rw [hU])
  clear hU
  go_enter Tryd.func101, Tryd.ntmps101
  go_wp2_with fail
  have hb0 : BO (w.alloc (.cells #[.int .u8 0, .int .u8 0, .int .u8 0, .int .u8 0, .int .u8 0, .int .u8 0, .int .u8 0, .int .u8 0] 5)) (.slice (some ⟨w.heap.size, 0, none⟩) 8 8) (List.replicate 8 0) := by
    refine ⟨rfl, .inr ⟨w.heap.size, 8, _, rfl, by omega, heap_alloc_new w _, by simp, by unfold maxLen; omega, rfl, rfl⟩⟩
  have HB0 := Lib.hid hb0
  clear hb0 hwr hmk
  go_loopw [4, 5] (fun uu ii wr => ∃ (j X : Nat), j ≤ 8 ∧ ii = .int .i64 (7 - (j : Int)) ∧ X < 18446744073709551616 ∧ uu = .int .u64 (X : Int) ∧ X = shr8 U j ∧ Hid (BO wr (.slice (some ⟨w.heap.size, 0, none⟩) 8 8) (List.replicate (8 - j) 0 ++ (be8 U).drop (8 - j))) ∧ Only (· = w.heap.size) w wr) (fun _ ii _ => (RowKit.intOf ii + 1).toNat)
  case atStart => exact ⟨0, U, by omega, rfl, hU2, rfl, by simp [shr8], by simpa [be8] using HB0, Only.of_below (below_alloc1 w _)⟩
  case round =>
    obtain ⟨j, X, hj, rfl, hX, rfl, hXe, HB, hon⟩ := hrel
    have HX := Lib.hid hXe
    clear hXe HB0
    obtain rfl | rfl | rfl | rfl | rfl | rfl | rfl | rfl | rfl : j = 0 ∨ j = 1 ∨ j = 2 ∨ j = 3 ∨ j = 4 ∨ j = 5 ∨ j = 6 ∨ j = 7 ∨ j = 8 := by omega
    · have hc := HB.out.cell (k := 7) (by simp [be8])
      obtain ⟨z1, z2⟩ := hc
      go_wp2_with fail
      go_roundw
      case rel =>
        refine ⟨1, shr8 U 1, by omega, rfl, shr8_lt U _ hU2, ?_, rfl, Lib.hid ?_, hon.trans (only_set wr w.heap.size 7 _) (fun _ _ h => h)⟩
        · rw [← shr8_succ, ← HX.out]; rfl
        · have := HB.out.set 7 (UInt8.ofNat X)
          rw [UInt8.toNat_ofNat'] at this
          have e : (.int .u8 (((X % 2 ^ 8 : Nat)) : Int) : Value) = .int .u8 ((X : Int) % 256) := by congr 1
          rw [e] at this
          simpa [be8, HX.out, shr8, List.replicate] using this
      case measure => simp [RowKit.intOf]
    · have hc := HB.out.cell (k := 6) (by simp [be8])
      obtain ⟨z1, z2⟩ := hc
      go_wp2_with fail
      go_roundw
      case rel =>
        refine ⟨2, shr8 U 2, by omega, rfl, shr8_lt U _ hU2, ?_, rfl, Lib.hid ?_, hon.trans (only_set wr w.heap.size 6 _) (fun _ _ h => h)⟩
        · rw [← shr8_succ, ← HX.out]; rfl
        · have := HB.out.set 6 (UInt8.ofNat X)
          rw [UInt8.toNat_ofNat'] at this
          have e : (.int .u8 (((X % 2 ^ 8 : Nat)) : Int) : Value) = .int .u8 ((X : Int) % 256) := by congr 1
          rw [e] at this
          simpa [be8, HX.out, shr8, List.replicate] using this
      case measure => simp [RowKit.intOf]
    · have hc := HB.out.cell (k := 5) (by simp [be8])
      obtain ⟨z1, z2⟩ := hc
      go_wp2_with fail
      go_roundw
      case rel =>
        refine ⟨3, shr8 U 3, by omega, rfl, shr8_lt U _ hU2, ?_, rfl, Lib.hid ?_, hon.trans (only_set wr w.heap.size 5 _) (fun _ _ h => h)⟩
        · rw [← shr8_succ, ← HX.out]; rfl
        · have := HB.out.set 5 (UInt8.ofNat X)
          rw [UInt8.toNat_ofNat'] at this
          have e : (.int .u8 (((X % 2 ^ 8 : Nat)) : Int) : Value) = .int .u8 ((X : Int) % 256) := by congr 1
          rw [e] at this
          simpa [be8, HX.out, shr8, List.replicate] using this
      case measure => simp [RowKit.intOf]
    · have hc := HB.out.cell (k := 4) (by simp [be8])
      obtain ⟨z1, z2⟩ := hc
      go_wp2_with fail
      go_roundw
      case rel =>
        refine ⟨4, shr8 U 4, by omega, rfl, shr8_lt U _ hU2, ?_, rfl, Lib.hid ?_, hon.trans (only_set wr w.heap.size 4 _) (fun _ _ h => h)⟩
        · rw [← shr8_succ, ← HX.out]; rfl
        · have := HB.out.set 4 (UInt8.ofNat X)
          rw [UInt8.toNat_ofNat'] at this
          have e : (.int .u8 (((X % 2 ^ 8 : Nat)) : Int) : Value) = .int .u8 ((X : Int) % 256) := by congr 1
          rw [e] at this
          simpa [be8, HX.out, shr8, List.replicate] using this
      case measure => simp [RowKit.intOf]
    · have hc := HB.out.cell (k := 3) (by simp [be8])
      obtain ⟨z1, z2⟩ := hc
      go_wp2_with fail
      go_roundw
      case rel =>
        refine ⟨5, shr8 U 5, by omega, rfl, shr8_lt U _ hU2, ?_, rfl, Lib.hid ?_, hon.trans (only_set wr w.heap.size 3 _) (fun _ _ h => h)⟩
        · rw [← shr8_succ, ← HX.out]; rfl
        · have := HB.out.set 3 (UInt8.ofNat X)
          rw [UInt8.toNat_ofNat'] at this
          have e : (.int .u8 (((X % 2 ^ 8 : Nat)) : Int) : Value) = .int .u8 ((X : Int) % 256) := by congr 1
          rw [e] at this
          simpa [be8, HX.out, shr8, List.replicate] using this
      case measure => simp [RowKit.intOf]
    · have hc := HB.out.cell (k := 2) (by simp [be8])
      obtain ⟨z1, z2⟩ := hc
      go_wp2_with fail
      go_roundw
      case rel =>
        refine ⟨6, shr8 U 6, by omega, rfl, shr8_lt U _ hU2, ?_, rfl, Lib.hid ?_, hon.trans (only_set wr w.heap.size 2 _) (fun _ _ h => h)⟩
        · rw [← shr8_succ, ← HX.out]; rfl
        · have := HB.out.set 2 (UInt8.ofNat X)
          rw [UInt8.toNat_ofNat'] at this
          have e : (.int .u8 (((X % 2 ^ 8 : Nat)) : Int) : Value) = .int .u8 ((X : Int) % 256) := by congr 1
          rw [e] at this
          simpa [be8, HX.out, shr8, List.replicate] using this
      case measure => simp [RowKit.intOf]
    · have hc := HB.out.cell (k := 1) (by simp [be8])
      obtain ⟨z1, z2⟩ := hc
      go_wp2_with fail
      go_roundw
      case rel =>
        refine ⟨7, shr8 U 7, by omega, rfl, shr8_lt U _ hU2, ?_, rfl, Lib.hid ?_, hon.trans (only_set wr w.heap.size 1 _) (fun _ _ h => h)⟩
        · rw [← shr8_succ, ← HX.out]; rfl
        · have := HB.out.set 1 (UInt8.ofNat X)
          rw [UInt8.toNat_ofNat'] at this
          have e : (.int .u8 (((X % 2 ^ 8 : Nat)) : Int) : Value) = .int .u8 ((X : Int) % 256) := by congr 1
          rw [e] at this
          simpa [be8, HX.out, shr8, List.replicate] using this
      case measure => simp [RowKit.intOf]
    · have hc := HB.out.cell (k := 0) (by simp [be8])
      obtain ⟨z1, z2⟩ := hc
      go_wp2_with fail
      go_roundw
      case rel =>
        refine ⟨8, shr8 U 8, by omega, rfl, shr8_lt U _ hU2, ?_, rfl, Lib.hid ?_, hon.trans (only_set wr w.heap.size 0 _) (fun _ _ h => h)⟩
        · rw [← shr8_succ, ← HX.out]; rfl
        · have := HB.out.set 0 (UInt8.ofNat X)
          rw [UInt8.toNat_ofNat'] at this
          have e : (.int .u8 (((X % 2 ^ 8 : Nat)) : Int) : Value) = .int .u8 ((X : Int) % 256) := by congr 1
          rw [e] at this
          simpa [be8, HX.out, shr8, List.replicate] using this
      case measure => simp [RowKit.intOf]
    · go_wp2_with fail
      go_ret
      rw [HU.out]
      have hb := HB.out
      exact ⟨w.heap.size, 8, 8, rfl, rfl, by simpa [be8] using hb, ⟨⟨hon.os, hon.tape, hon.output, hon.size, fun k hk _ => hon.block k hk (by omega)⟩, fun g hg => .inr (by
        have hg : w.heap.size = g := Option.some.inj hg
        omega)⟩⟩
end Go.Proofs.YthfejpldhemakaaDoor

namespace Go.Proofs.YthfejpldhemakaaDoor
open Go.RowKit Go.Sort Go.Lib
set_option maxRecDepth 100000 in
set_option maxHeartbeats 1000000 in
theorem rtext_c (s : ByteArray) (w : World) (hlen : 2 * s.size + 2 ≤ 1099511627776) :
    Calls Tryd.prog 102 #[.string s] w (Put w (.slice none 0 0) (encT s.data.toList)) := by
  have hsz : s.data.toList.length = s.size := by simp
  have HB := Lib.hid hsz
  clear hsz
  go_enter Tryd.func102, Tryd.ntmps102
  go_wp2_with fail
  go_loopw [3, 4] (fun vv ix wr => ∃ (j : Nat), j ≤ s.size ∧ ix = .int .i64 j ∧ Hid (BO wr vv (encB (s.data.toList.take j)) ∧ Gr w wr (.slice none 0 0) vv)) (fun _ ix _ => s.size - (RowKit.intOf ix).toNat)
  case atStart => exact ⟨0, by omega, rfl, Lib.hid ⟨by simpa [encB] using BO.nil w, Gr.refl _ _⟩⟩
  case round =>
    obtain ⟨j, hj, rfl, H⟩ := hrel
    by_cases hlt : j < s.size
    · have hl := HB.out
      have hlt' : j < s.data.toList.length := by omega
      have hln := encB_len (s.data.toList.take j)
      rw [List.length_take, Nat.min_eq_left (by omega)] at hln
      obtain ⟨ys, hys⟩ : ∃ ys, encB (s.data.toList.take j) = ys := ⟨_, rfl⟩
      rw [hys] at H hln
      have hc : s.data.toList[j] = s[j] := by simp; rfl
      by_cases h0 : s[j] = 0
      · have HY := Lib.hid (show ys ++ [s[j]] ++ [255] = encB (s.data.toList.take (j + 1)) by rw [encB_yes hlt' (by rw [hc, h0]), ← hys, h0]; simp)
        have h0' : ((s[j].toNat : Int) == 0) = true := by rw [h0]; rfl
        clear hys hc h0
        go_wp2_with (first | (refine wpList_app (by rfl) _ _ (by rfl) u3 ys [s[j]] (by rfl) (H.out.1.grow (below_alloc1 _ _)) ⟨wr.heap.size, 0, none⟩ 1 (by rfl) (news1 (heap_alloc_new wr _) rfl) (by simp) (by simp; omega) (ys.length + 1) (by simp) ?_; intro g1 cap1 w2 hb2 hg2) | (refine wpList_app (by rfl) _ _ (by rfl) (.slice (some ⟨g1, 0, none⟩) (ys.length + 1) cap1) (ys ++ [s[j]]) [255] (by rfl) (hb2.grow (below_alloc1 _ _)) ⟨w2.heap.size, 0, none⟩ 1 (by rfl) (news1 (heap_alloc_new w2 _) rfl) (by simp) (by simp; omega) (ys.length + 1 + 1) (by simp) ?_; intro g3 cap3 w3 hb3 hg3))
        go_roundw
        case rel =>
          refine ⟨j + 1, by omega, by go_num, Lib.hid ⟨by rw [← HY.out]; exact hb3, ?_⟩⟩
          exact H.out.2.trans ((hg2.pre (below_alloc1 _ _)).trans (hg3.pre (below_alloc1 _ _)))
        case measure => simp [RowKit.intOf]; omega
      · have HY := Lib.hid (show ys ++ [s[j]] = encB (s.data.toList.take (j + 1)) by rw [encB_no hlt' (by rw [hc]; exact h0), ← hys, hc])
        have hne := u8_ne0 h0
        clear hys hc h0
        go_wp2_with (refine wpList_app (by rfl) _ _ (by rfl) u3 ys [s[j]] (by rfl) (H.out.1.grow (below_alloc1 _ _)) ⟨wr.heap.size, 0, none⟩ 1 (by rfl) (news1 (heap_alloc_new wr _) rfl) (by simp) (by simp; omega) (ys.length + 1) (by simp) ?_; intro g1 cap1 w2 hb2 hg2)
        go_roundw
        case rel =>
          refine ⟨j + 1, by omega, by go_num, Lib.hid ⟨by rw [← HY.out]; exact hb2, ?_⟩⟩
          exact H.out.2.trans (hg2.pre (below_alloc1 _ _))
        case measure => simp [RowKit.intOf]; omega
    · obtain rfl : j = s.size := by omega
      have hl := HB.out
      have hln := encB_len s.data.toList
      rw [List.take_of_length_le (by omega)] at H
      obtain ⟨ys, hys⟩ : ∃ ys, encB s.data.toList = ys := ⟨_, rfl⟩
      have hln2 : ys.length + 2 ≤ 1099511627776 := by rw [← hys]; omega
      rw [hys] at H
      have HY := Lib.hid (show ys ++ [0, 0] = encT s.data.toList by rw [encT_eq, ← hys])
      clear hys hl hln
      go_wp2_with (refine wpList_app (by rfl) _ _ (by rfl) u3 ys [0, 0] (by rfl) (H.out.1.grow (below_alloc1 _ _)) ⟨wr.heap.size, 0, none⟩ 2 (by rfl) (news2 (heap_alloc_new wr _) rfl rfl) (by simp) (by simp; omega) (ys.length + 2) (by simp) ?_; intro g1 cap1 w2 hb2 hg2)
      go_ret
      refine ⟨g1, cap1, ys.length + 2, by rw [← HY.out]; simp, rfl, by rw [← HY.out]; exact hb2, ?_⟩
      exact H.out.2.trans (hg2.pre (below_alloc1 _ _))
end Go.Proofs.YthfejpldhemakaaDoor

namespace Go.Proofs.YthfejpldhemakaaDoor
open Go.RowKit Go.Sort Go.Lib
theorem Gr.nil_below {w w' : World} {v : Value} (h : Gr w w' (.slice none 0 0) v) : Below w.heap.size w w' :=
  ⟨h.grown.os, h.grown.tape, h.grown.output, h.grown.size, fun k hk => h.grown.block k hk (by simp [Value.ownBlock])⟩
theorem Gr.fresh {w W w' : World} {u v : Value} (h : Gr W w' u v) (hb : Below w.heap.size w W) (hu : ∀ g, u.ownBlock = some g → w.heap.size ≤ g) : Gr w w' (.slice none 0 0) v :=
  ⟨⟨h.grown.os.trans hb.os, h.grown.tape.trans hb.tape, h.grown.output.trans hb.output, Nat.le_trans hb.size h.grown.size, fun k hk _ => (h.grown.block k (Nat.lt_of_lt_of_le hk hb.size) (fun he => by have := hu k he.symm; omega)).trans (hb.block k hk)⟩,
    fun g hg => .inr (h.from_ hb.size hu g hg)⟩
theorem BO_one (W : World) {c : Int} {b : UInt8} (hc : c = (b.toNat : Int)) : BO (W.alloc (.cells #[.int .u8 c] 5)) (.slice (some ⟨W.heap.size, 0, none⟩) 1 1) [b] := by
  subst hc
  exact ⟨rfl, .inr ⟨W.heap.size, 1, _, rfl, by omega, heap_alloc_new W _, by simp, by unfold maxLen; omega, rfl, rfl⟩⟩
theorem wpList_app2 {ops : Array Oper} {rest : List Oper} {o : Oper} {a : Act} {Q : Exit → Act → World → Prop} {w : World} (hgd : o.guard = none) (s x : Operand)
    (ho : o.op = .call { callee := .builtin .append, args := #[s, x], argTypes := #[42, 42] }) (v : Value) (xs ys : List UInt8) (hs : a.eval s = v) (hb : BO w v xs) (g : Nat) (c m : Nat) (hx : a.eval x = .slice (some ⟨g, 0, none⟩) m c) (hmm : m = ys.length)
    (hn : BO w (.slice (some ⟨g, 0, none⟩) m c) ys) (hm : 0 < ys.length) (hlen : xs.length + ys.length ≤ 140737488355328) (n : Nat) (hnn : n = xs.length + ys.length)
    (h : ∀ g cap w', BO w' (.slice (some ⟨g, 0, none⟩) n cap) (xs ++ ys) → Gr w w' v (.slice (some ⟨g, 0, none⟩) n cap) → wpList Tryd.prog ops Q rest (a.put o.dst (.slice (some ⟨g, 0, none⟩) n cap)) w') : wpList Tryd.prog ops Q (o :: rest) a w := by
  subst hmm
  exact wpList_app hgd s x ho v xs ys hs hb ⟨g, 0, none⟩ c hx hn.news hm hlen n hnn h
theorem put_done2 {w W w' : World} {u v : Value} {ys : List UInt8} (hb : BO w' v ys) (hg : Gr W w' u v) (hW : Below w.heap.size w W) (hu : ∀ g, u.ownBlock = some g → w.heap.size ≤ g) (hy : 0 < ys.length) : Put w (.slice none 0 0) ys (.returned v) w' :=
  put_done hb (hg.fresh hW hu) hy
theorem one_own (n g : Nat) (h : n ≤ g) : ∀ q, (Value.slice (some ⟨g, 0, none⟩) 1 1).ownBlock = some q → n ≤ q := fun q hq => by
  have hq : g = q := Option.some.inj hq
  omega
theorem heap_new2 (w : World) (o1 o2 o3 : Obj) : (((w.alloc o1).alloc o2).alloc o3).heap[w.heap.size + 1 + 1]? = some o3 := by
  have := heap_alloc_new ((w.alloc o1).alloc o2) o3
  simpa using this
theorem BO_two (w : World) (o : Obj) {c : Int} {b : UInt8} (hc : c = (b.toNat : Int)) : BO ((w.alloc o).alloc (.cells #[.int .u8 c] 5)) (.slice (some ⟨w.heap.size + 1, 0, none⟩) 1 1) [b] := by
  have := BO_one (w.alloc o) hc
  simpa using this
set_option maxRecDepth 100000 in
set_option maxHeartbeats 2000000 in
theorem rb_num (k i : Int) (hk : k = 3 ∨ k = 10) (hi : Rng i) (t : ByteArray) (A A' : Option Addr) (nl nd c c' : Nat) (w : World) :
    Calls Tryd.prog 79 #[.agg #[.int .i64 k, .int .i64 i, .string t, .slice A nl c, .slice A' nd c']] w (Put w (.slice none 0 0) (UInt8.ofNat k.toNat :: encN i)) := by
  have hnum := number_c i hi
  rcases hk with rfl | rfl
  · go_enter Tryd.func79, Tryd.ntmps79
    go_wp2_with fail
    generalize hW2 : World.alloc (World.alloc w _) _ = W2
    have hb2 : BO W2 (.slice (some ⟨w.heap.size + 1, 0, none⟩) 1 1) [3] := by rw [← hW2]; exact BO_two w _ rfl
    have d2 : Below w.heap.size w W2 := by rw [← hW2]; exact below_alloc2 _ _ _
    have hs2 : W2.heap.size = w.heap.size + 2 := by rw [← hW2]; simp
    have e1 : W2.heap[w.heap.size]? = some (.cells #[.int .i64 3, .int .i64 i, .string t, .slice A nl c, .slice A' nd c'] 25 (0, 0)) := by rw [← hW2]; exact heap2_first w _ _ 0
    have HW := Lib.hid (And.intro hb2 (And.intro d2 (And.intro hs2 e1)))
    clear hW2 hb2 d2 hs2 e1
    refine (hnum W2).mono ?_
    rintro e w3 ⟨g3, cap3, n3, hn3, rfl, hb3, hg3⟩
    have HN := Lib.hid hn3
    clear hn3
    go_wp2_with (refine wpList_app2 (by rfl) _ _ (by rfl) (.slice (some ⟨w.heap.size + 1, 0, none⟩) 1 1) [3] (encN i) (by rfl) (HW.out.1.grow hg3.nil_below) g3 cap3 n3 (by rfl) HN.out hb3 (by simp [encN_len]) (by simp [encN_len]) 9 (by simp [encN_len]) ?_; intro g4 cap4 w4 hb4 hg4)
    go_ret
    exact put_done2 hb4 hg4 (below2 HW.out.2.1 hg3.nil_below) (one_own _ _ (by omega)) (by simp)
  · go_enter Tryd.func79, Tryd.ntmps79
    go_wp2_with fail
    generalize hW2 : World.alloc (World.alloc w _) _ = W2
    have hb2 : BO W2 (.slice (some ⟨w.heap.size + 1, 0, none⟩) 1 1) [10] := by rw [← hW2]; exact BO_two w _ rfl
    have d2 : Below w.heap.size w W2 := by rw [← hW2]; exact below_alloc2 _ _ _
    have hs2 : W2.heap.size = w.heap.size + 2 := by rw [← hW2]; simp
    have e1 : W2.heap[w.heap.size]? = some (.cells #[.int .i64 10, .int .i64 i, .string t, .slice A nl c, .slice A' nd c'] 25 (0, 0)) := by rw [← hW2]; exact heap2_first w _ _ 0
    have HW := Lib.hid (And.intro hb2 (And.intro d2 (And.intro hs2 e1)))
    clear hW2 hb2 d2 hs2 e1
    refine (hnum W2).mono ?_
    rintro e w3 ⟨g3, cap3, n3, hn3, rfl, hb3, hg3⟩
    have HN := Lib.hid hn3
    clear hn3
    go_wp2_with (refine wpList_app2 (by rfl) _ _ (by rfl) (.slice (some ⟨w.heap.size + 1, 0, none⟩) 1 1) [10] (encN i) (by rfl) (HW.out.1.grow hg3.nil_below) g3 cap3 n3 (by rfl) HN.out hb3 (by simp [encN_len]) (by simp [encN_len]) 9 (by simp [encN_len]) ?_; intro g4 cap4 w4 hb4 hg4)
    go_ret
    exact put_done2 hb4 hg4 (below2 HW.out.2.1 hg3.nil_below) (one_own _ _ (by omega)) (by simp)
set_option maxRecDepth 100000 in
set_option maxHeartbeats 2000000 in
theorem rb_text (k i : Int) (hk : k = 4 ∨ k = 7) (t : ByteArray) (hlen : 2 * t.size + 2 ≤ 1099511627776) (A A' : Option Addr) (nl nd c c' : Nat) (w : World) :
    Calls Tryd.prog 79 #[.agg #[.int .i64 k, .int .i64 i, .string t, .slice A nl c, .slice A' nd c']] w (Put w (.slice none 0 0) (UInt8.ofNat k.toNat :: encT t.data.toList)) := by
  have htx := fun w => rtext_c t w hlen
  have hel := encT_len t.data.toList
  have hts : t.data.toList.length = t.size := by simp
  rw [hts] at hel
  obtain ⟨ys, hys⟩ : ∃ ys, encT t.data.toList = ys := ⟨_, rfl⟩
  have hpos : 0 < ys.length := by rw [← hys, encT_eq]; simp
  rw [hys] at hel htx ⊢
  clear hys hts
  rcases hk with rfl | rfl
  · go_enter Tryd.func79, Tryd.ntmps79
    go_wp2_with fail
    generalize hW2 : World.alloc (World.alloc w _) _ = W2
    have hb2 : BO W2 (.slice (some ⟨w.heap.size + 1, 0, none⟩) 1 1) [4] := by rw [← hW2]; exact BO_two w _ rfl
    have d2 : Below w.heap.size w W2 := by rw [← hW2]; exact below_alloc2 _ _ _
    have hs2 : W2.heap.size = w.heap.size + 2 := by rw [← hW2]; simp
    have e1 : W2.heap[w.heap.size]? = some (.cells #[.int .i64 4, .int .i64 i, .string t, .slice A nl c, .slice A' nd c'] 25 (0, 0)) := by rw [← hW2]; exact heap2_first w _ _ 0
    have HW := Lib.hid (And.intro hb2 (And.intro d2 (And.intro hs2 e1)))
    clear hW2 hb2 d2 hs2 e1
    refine (htx W2).mono ?_
    rintro e w3 ⟨g3, cap3, n3, hn3, rfl, hb3, hg3⟩
    have HN := Lib.hid hn3
    clear hn3
    go_wp2_with (refine wpList_app2 (by rfl) _ _ (by rfl) (.slice (some ⟨w.heap.size + 1, 0, none⟩) 1 1) [4] ys (by rfl) (HW.out.1.grow hg3.nil_below) g3 cap3 n3 (by rfl) HN.out hb3 hpos (by simp; omega) (1 + ys.length) (by simp) ?_; intro g4 cap4 w4 hb4 hg4)
    go_ret
    exact put_done2 hb4 hg4 (below2 HW.out.2.1 hg3.nil_below) (one_own _ _ (by omega)) (by simp)
  · go_enter Tryd.func79, Tryd.ntmps79
    go_wp2_with fail
    generalize hW2 : World.alloc (World.alloc w _) _ = W2
    have hb2 : BO W2 (.slice (some ⟨w.heap.size + 1, 0, none⟩) 1 1) [7] := by rw [← hW2]; exact BO_two w _ rfl
    have d2 : Below w.heap.size w W2 := by rw [← hW2]; exact below_alloc2 _ _ _
    have hs2 : W2.heap.size = w.heap.size + 2 := by rw [← hW2]; simp
    have e1 : W2.heap[w.heap.size]? = some (.cells #[.int .i64 7, .int .i64 i, .string t, .slice A nl c, .slice A' nd c'] 25 (0, 0)) := by rw [← hW2]; exact heap2_first w _ _ 0
    have HW := Lib.hid (And.intro hb2 (And.intro d2 (And.intro hs2 e1)))
    clear hW2 hb2 d2 hs2 e1
    refine (htx W2).mono ?_
    rintro e w3 ⟨g3, cap3, n3, hn3, rfl, hb3, hg3⟩
    have HN := Lib.hid hn3
    clear hn3
    go_wp2_with (refine wpList_app2 (by rfl) _ _ (by rfl) (.slice (some ⟨w.heap.size + 1, 0, none⟩) 1 1) [7] ys (by rfl) (HW.out.1.grow hg3.nil_below) g3 cap3 n3 (by rfl) HN.out hb3 hpos (by simp; omega) (1 + ys.length) (by simp) ?_; intro g4 cap4 w4 hb4 hg4)
    go_ret
    exact put_done2 hb4 hg4 (below2 HW.out.2.1 hg3.nil_below) (one_own _ _ (by omega)) (by simp)
set_option maxRecDepth 100000 in
set_option maxHeartbeats 2000000 in
theorem rb_flag (i : Int) (h0 : 0 ≤ i) (h1 : i ≤ 255) (t : ByteArray) (A A' : Option Addr) (nl nd c c' : Nat) (w : World) :
    Calls Tryd.prog 79 #[.agg #[.int .i64 9, .int .i64 i, .string t, .slice A nl c, .slice A' nd c']] w (Put w (.slice none 0 0) ([9, UInt8.ofNat i.toNat])) := by
  go_enter Tryd.func79, Tryd.ntmps79
  go_wp2_with (refine wpList_app (by rfl) _ _ (by rfl) (.slice (some ⟨w.heap.size + 1, 0, none⟩) 1 1) [9] [UInt8.ofNat i.toNat] (by rfl) ((BO_two w _ rfl).grow (below_alloc1 _ _)) ⟨w.heap.size + 1 + 1, 0, none⟩ 1 (by rfl) (news1 (heap_new2 w _ _ _) (by rw [UInt8.toNat_ofNat']; omega)) (by simp) (by simp) 2 (by simp) ?_; intro g4 cap4 w4 hb4 hg4)
  go_ret
  exact put_done2 hb4 hg4 (below_then (below_alloc2 _ _ _) (below_alloc1 _ _) (by simp <;> omega)) (one_own _ _ (by omega)) (by simp)
set_option maxRecDepth 100000 in
set_option maxHeartbeats 2000000 in
theorem rb_id (i : Int) (t : ByteArray) (ht : t.size = 12) (A A' : Option Addr) (nl nd c c' : Nat) (w : World) :
    Calls Tryd.prog 79 #[.agg #[.int .i64 8, .int .i64 i, .string t, .slice A nl c, .slice A' nd c']] w (Put w (.slice none 0 0) (8 :: t.data.toList)) := by
  have HT := Lib.hid ht
  clear ht
  go_enter Tryd.func79, Tryd.ntmps79
  go_wp2_with (refine wpList_appS (by rfl) _ _ (by rfl) (.slice (some ⟨w.heap.size + 1, 0, none⟩) 1 1) [8] (by rfl) (BO_two w _ rfl) t (by rfl) (by rw [HT.out]; omega) (by rw [HT.out]; simp) 13 (by rw [HT.out]; simp) ?_; intro g4 cap4 w4 hb4 hg4)
  go_ret
  exact put_done2 hb4 hg4 (below_alloc2 _ _ _) (one_own _ _ (by omega)) (by simp)
set_option maxRecDepth 100000 in
set_option maxHeartbeats 2000000 in
theorem rb_other (k i : Int) (h0 : 0 ≤ k) (h1 : k ≤ 255) (h3 : k ≠ 3) (h4 : k ≠ 4) (h5 : k ≠ 5) (h6 : k ≠ 6) (h7 : k ≠ 7) (h8 : k ≠ 8) (h9 : k ≠ 9) (h10 : k ≠ 10) (t : ByteArray) (A A' : Option Addr) (nl nd c c' : Nat) (w : World) :
    Calls Tryd.prog 79 #[.agg #[.int .i64 k, .int .i64 i, .string t, .slice A nl c, .slice A' nd c']] w (Put w (.slice none 0 0) ([UInt8.ofNat k.toNat])) := by
  have e3 : (k == 3) = false := by simpa using h3
  have e4 : (k == 4) = false := by simpa using h4
  have e5 : (k == 5) = false := by simpa using h5
  have e6 : (k == 6) = false := by simpa using h6
  have e7 : (k == 7) = false := by simpa using h7
  have e8 : (k == 8) = false := by simpa using h8
  have e9 : (k == 9) = false := by simpa using h9
  have e10 : (k == 10) = false := by simpa using h10
  clear h3 h4 h5 h6 h7 h8 h9 h10
  go_enter Tryd.func79, Tryd.ntmps79
  go_wp2_with fail
  go_ret
  exact put_done2 (BO_two w _ (b := UInt8.ofNat k.toNat) (by rw [UInt8.toNat_ofNat']; omega)) (Gr.refl _ _) (below_alloc2 _ _ _) (one_own _ _ (by omega)) (by simp)
end Go.Proofs.YthfejpldhemakaaDoor

namespace Go.Proofs.YthfejpldhemakaaDoor
open Go.RowKit Go.Sort Go.Lib
/-- What the reference's bytes is to do for a value. -/
def RbC (v : V) : Prop := ∀ (cs : List Value) (w : World), RV w v cs → 3 * sizeV v + 30 ≤ 1099511627776 → Calls Tryd.prog 79 #[.agg cs.toArray] w (Put w (.slice none 0 0) (encV v))
set_option maxRecDepth 100000 in
set_option maxHeartbeats 4000000 in
theorem rb_list (i : Int) (t : ByteArray) (l : List V) (ih : ∀ x ∈ l, Shape x ∧ RbC x) (A A' : Option Addr) (nd c c' : Nat) (w : World) (hA : RL w l A c) (hlen : 3 * (5 + sizeL l 0) + 30 ≤ 1099511627776) :
    Calls Tryd.prog 79 #[.agg #[.int .i64 6, .int .i64 i, .string t, .slice A l.length c, .slice A' nd c']] w (Put w (.slice none 0 0) (6 :: encL l)) := by
  have hl0 := hA.1
  have HA := Lib.hid (And.intro hA ih)
  clear hA ih
  go_enter Tryd.func79, Tryd.ntmps79
  go_wp2_with fail
  generalize hW2 : World.alloc (World.alloc w _) _ = W2
  have hb2 : BO W2 (.slice (some ⟨w.heap.size + 1, 0, none⟩) 1 1) [6] := by rw [← hW2]; exact BO_two w _ rfl
  have d2 : Below w.heap.size w W2 := by rw [← hW2]; exact below_alloc2 _ _ _
  have hs2 : W2.heap.size = w.heap.size + 2 := by rw [← hW2]; simp
  have e1 : W2.heap[w.heap.size]? = some (.cells #[.int .i64 6, .int .i64 i, .string t, .slice A l.length c, .slice A' nd c'] 25 (0, 0)) := by rw [← hW2]; exact heap2_first w _ _ 0
  have HW := Lib.hid (And.intro hb2 (And.intro d2 (And.intro hs2 e1)))
  clear hW2 hb2 d2 hs2 e1
  have HBX : Hid (∀ (u : World) (v : Value), Gr W2 u (.slice (some ⟨w.heap.size + 1, 0, none⟩) 1 1) v → Below w.heap.size w u ∧ u.cell? ⟨w.heap.size, 3, none⟩ = some (.slice A l.length c)) := Lib.hid fun u v hg =>
    ⟨HW.out.2.1.trans (hg.below HW.out.2.1.size (one_own _ _ (by omega))), cell_at ((hg.block (by have := HW.out.2.2.1; omega) (fun he => by
      have he : w.heap.size + 1 = w.heap.size := Option.some.inj he
      omega)).trans HW.out.2.2.2) 3 _ rfl⟩
  go_loopw [3, 4] (fun vv ix wr => ∃ (j : Nat), j ≤ l.length ∧ ix = .int .i64 j ∧ Hid (BO wr vv (6 :: encLp l j) ∧ Gr W2 wr (.slice (some ⟨w.heap.size + 1, 0, none⟩) 1 1) vv) ∧ (6 :: encLp l j).length + 3 * sizeL (l.drop j) j + 35 ≤ 1099511627776) (fun _ ix _ => l.length - (RowKit.intOf ix).toNat)
  case atStart => exact ⟨0, by omega, rfl, Lib.hid ⟨HW.out.1, Gr.refl _ _⟩, by simp [encLp]; omega⟩
  case round =>
    obtain ⟨j, hj, rfl, H, hbd⟩ := hrel
    obtain ⟨hbw, y3⟩ := HBX.out wr _ H.out.2
    by_cases hlt : j < l.length
    · obtain ⟨b, off, a0, n0, a1, n1, rfl, hrv, e0, e1, e2, e3, e4⟩ := HA.out.1.get j hlt
      obtain ⟨hsh, hrb⟩ := HA.out.2 l[j] (List.getElem_mem hlt)
      have hsl := shape_len hsh
      rw [sizeL_step hlt] at hbd
      obtain ⟨ys, hys⟩ : ∃ ys, 6 :: encLp l j = ys := ⟨_, rfl⟩
      rw [hys] at H hbd
      have HY := Lib.hid (show ys ++ [1] ++ encV l[j] = 6 :: encLp l (j + 1) by rw [encLp_step hlt, ← hys]; simp)
      clear hys
      have hpos : 0 < (encV l[j]).length := by
        generalize l[j] = q
        obtain ⟨k, i, t, l, d⟩ := q
        simp [encV]
      obtain ⟨zs, hzs⟩ : ∃ zs, encV l[j] = zs := ⟨_, rfl⟩
      have hcall := fun w' (h : Below w.heap.size w w') => hrb _ w' (hrv.grow h) (by omega)
      rw [hzs] at hcall hsl hpos HY
      have HCL := Lib.hid hcall
      have HEL : Hid (∀ u, Below w.heap.size w u → u.cell? ⟨b, off + j * 5, none⟩ = some (.int .i64 l[j].k) ∧ u.cell? ⟨b, off + j * 5 + 1, none⟩ = some (.int .i64 l[j].i) ∧ u.cell? ⟨b, off + j * 5 + 2, none⟩ = some (.string l[j].t) ∧ u.cell? ⟨b, off + j * 5 + 3, none⟩ = some (.slice a0 l[j].l.length n0) ∧ u.cell? ⟨b, off + j * 5 + 4, none⟩ = some (.slice a1 l[j].d.length n1)) := Lib.hid fun u hu => ⟨cell_grow hu e0, cell_grow hu e1, cell_grow hu e2, cell_grow hu e3, cell_grow hu e4⟩
      clear hrb hrv hsh hcall e0 e1 e2 e3 e4 hbw hzs
      go_wp2_with (refine wpList_app (by rfl) _ _ (by rfl) u3 ys [1] (by rfl) (H.out.1.grow (below_alloc1 _ _)) ⟨wr.heap.size, 0, none⟩ 1 (by rfl) (news1 (heap_alloc_new wr _) rfl) (by simp) (by simp; omega) (ys.length + 1) (by simp) ?_; intro g1 cap1 w2 hb2 hg2; have hgT := H.out.2.trans (hg2.pre (below_alloc1 _ _)); have ⟨hbw2, x3⟩ := HBX.out _ _ hgT; have ⟨f0, f1, f2, f3, f4⟩ := HEL.out _ hbw2; have HT := Lib.hid (And.intro hb2 (And.intro hgT hbw2)); clear hb2 hg2 hgT hbw2)
      refine (HCL.out w2 HT.out.2.2).mono ?_
      rintro e w3 ⟨g3, cap3, n3, hn3, rfl, hb3, hg3⟩
      have HN := Lib.hid (And.intro hn3 (And.intro hb3 hg3))
      clear hn3 hb3 hg3 x3 f0 f1 f2 f3 f4
      go_wp2_with (refine wpList_app2 (by rfl) _ _ (by rfl) (.slice (some ⟨g1, 0, none⟩) (ys.length + 1) cap1) (ys ++ [1]) zs (by rfl) (HT.out.1.grow HN.out.2.2.nil_below) g3 cap3 n3 (by rfl) HN.out.1 HN.out.2.1 hpos (by simp; omega) (ys.length + 1 + zs.length) (by simp <;> omega) ?_; intro g4 cap4 w4 hb4 hg4)
      go_roundw
      case rel =>
        refine ⟨j + 1, by omega, by go_num, Lib.hid ⟨by rw [← HY.out]; exact hb4, HT.out.2.1.trans (hg4.pre HN.out.2.2.nil_below)⟩, ?_⟩
        rw [← HY.out]
        simp only [List.length_append, List.length_cons, List.length_nil]
        omega
      case measure => simp [RowKit.intOf]; omega
    · obtain rfl : j = l.length := by omega
      have HY := Lib.hid (show (6 :: encLp l l.length) ++ [0] = 6 :: encL l by rw [encL_eq]; simp)
      obtain ⟨ys, hys⟩ : ∃ ys, 6 :: encLp l l.length = ys := ⟨_, rfl⟩
      rw [hys] at H hbd HY
      clear hys
      go_wp2_with (refine wpList_app (by rfl) _ _ (by rfl) u3 ys [0] (by rfl) (H.out.1.grow (below_alloc1 _ _)) ⟨wr.heap.size, 0, none⟩ 1 (by rfl) (news1 (heap_alloc_new wr _) rfl) (by simp) (by simp; omega) (ys.length + 1) (by simp) ?_; intro g1 cap1 w2 hb2 hg2)
      go_ret
      exact put_done2 (by rw [← HY.out]; exact hb2) (H.out.2.trans (hg2.pre (below_alloc1 _ _))) HW.out.2.1 (one_own _ _ (by omega)) (by simp)
set_option maxRecDepth 100000 in
set_option maxHeartbeats 4000000 in
theorem rb_doc (i : Int) (t : ByteArray) (l : List (ByteArray × V)) (ih : ∀ p ∈ l, Shape p.2 ∧ RbC p.2) (A A' : Option Addr) (nd c c' : Nat) (w : World) (hA : RD w l A c) (hlen : 3 * (5 + sizeD l) + 30 ≤ 1099511627776) :
    Calls Tryd.prog 79 #[.agg #[.int .i64 5, .int .i64 i, .string t, .slice A' nd c', .slice A l.length c]] w (Put w (.slice none 0 0) (5 :: encD l)) := by
  have hl0 := hA.1
  have HA := Lib.hid (And.intro hA ih)
  clear hA ih
  go_enter Tryd.func79, Tryd.ntmps79
  go_wp2_with fail
  generalize hW2 : World.alloc (World.alloc w _) _ = W2
  have hb2 : BO W2 (.slice (some ⟨w.heap.size + 1, 0, none⟩) 1 1) [5] := by rw [← hW2]; exact BO_two w _ rfl
  have d2 : Below w.heap.size w W2 := by rw [← hW2]; exact below_alloc2 _ _ _
  have hs2 : W2.heap.size = w.heap.size + 2 := by rw [← hW2]; simp
  have e1 : W2.heap[w.heap.size]? = some (.cells #[.int .i64 5, .int .i64 i, .string t, .slice A' nd c', .slice A l.length c] 25 (0, 0)) := by rw [← hW2]; exact heap2_first w _ _ 0
  have HW := Lib.hid (And.intro hb2 (And.intro d2 (And.intro hs2 e1)))
  clear hW2 hb2 d2 hs2 e1
  have HBX : Hid (∀ (u : World) (v : Value), Gr W2 u (.slice (some ⟨w.heap.size + 1, 0, none⟩) 1 1) v → Below w.heap.size w u ∧ u.cell? ⟨w.heap.size, 4, none⟩ = some (.slice A l.length c)) := Lib.hid fun u v hg =>
    ⟨HW.out.2.1.trans (hg.below HW.out.2.1.size (one_own _ _ (by omega))), cell_at ((hg.block (by have := HW.out.2.2.1; omega) (fun he => by
      have he : w.heap.size + 1 = w.heap.size := Option.some.inj he
      omega)).trans HW.out.2.2.2) 4 _ rfl⟩
  go_loopw [3, 5] (fun vv ix wr => ∃ (j : Nat), j ≤ l.length ∧ ix = .int .i64 j ∧ Hid (BO wr vv (5 :: encDp l j) ∧ Gr W2 wr (.slice (some ⟨w.heap.size + 1, 0, none⟩) 1 1) vv) ∧ (5 :: encDp l j).length + 3 * sizeD (l.drop j) + 35 ≤ 1099511627776) (fun _ ix _ => l.length - (RowKit.intOf ix).toNat)
  case atStart => exact ⟨0, by omega, rfl, Lib.hid ⟨HW.out.1, Gr.refl _ _⟩, by simp [encDp]; omega⟩
  case round =>
    obtain ⟨j, hj, rfl, H, hbd⟩ := hrel
    obtain ⟨hbw, y3⟩ := HBX.out wr _ H.out.2
    by_cases hlt : j < l.length
    · obtain ⟨b, off, a0, n0, a1, n1, rfl, hnm, hrv, e0, e1, e2, e3, e4, e5⟩ := HA.out.1.get j hlt
      obtain ⟨hsh, hrb⟩ := HA.out.2 l[j] (List.getElem_mem hlt)
      have hsl := shape_len hsh
      rw [sizeD_step hlt] at hbd
      obtain ⟨ys, hys⟩ : ∃ ys, 5 :: encDp l j = ys := ⟨_, rfl⟩
      rw [hys] at H hbd
      have HY := Lib.hid (show ys ++ [1] ++ encT l[j].1.data.toList ++ encV l[j].2 = 5 :: encDp l (j + 1) by rw [encDp_step hlt, ← hys]; simp)
      clear hys
      have hpos : 0 < (encV l[j].2).length := by
        generalize l[j].2 = q
        obtain ⟨k, i, t, l, d⟩ := q
        simp [encV]
      obtain ⟨zs, hzs⟩ : ∃ zs, encV l[j].2 = zs := ⟨_, rfl⟩
      have hcall := fun w' (h : Below w.heap.size w w') => hrb _ w' (hrv.grow h) (by omega)
      rw [hzs] at hcall hsl hpos HY
      have HCL := Lib.hid hcall
      have HEL : Hid (∀ u, Below w.heap.size w u → u.cell? ⟨b, off + j * 6, none⟩ = some (.string l[j].1) ∧ u.cell? ⟨b, off + j * 6 + 1, none⟩ = some (.int .i64 l[j].2.k) ∧ u.cell? ⟨b, off + j * 6 + 1 + 1, none⟩ = some (.int .i64 l[j].2.i) ∧ u.cell? ⟨b, off + j * 6 + 1 + 2, none⟩ = some (.string l[j].2.t) ∧ u.cell? ⟨b, off + j * 6 + 1 + 3, none⟩ = some (.slice a0 l[j].2.l.length n0) ∧ u.cell? ⟨b, off + j * 6 + 1 + 4, none⟩ = some (.slice a1 l[j].2.d.length n1)) := Lib.hid fun u hu => ⟨cell_grow hu e0, cell_grow hu e1, cell_grow hu e2, cell_grow hu e3, cell_grow hu e4, cell_grow hu e5⟩
      have htl := encT_len l[j].1.data.toList
      have hts : l[j].1.data.toList.length = l[j].1.size := by simp
      rw [hts] at htl
      have htx := fun w' => rtext_c l[j].1 w' (by omega)
      obtain ⟨ts, hts2⟩ : ∃ ts, encT l[j].1.data.toList = ts := ⟨_, rfl⟩
      have htp : 0 < ts.length := by rw [← hts2, encT_eq]; simp
      rw [hts2] at htl htx HY
      have HTX := Lib.hid htx
      clear htx hts hts2
      clear hrb hrv hsh hcall e0 e1 e2 e3 e4 e5 hbw hzs
      go_wp2_with (refine wpList_app (by rfl) _ _ (by rfl) u3 ys [1] (by rfl) (H.out.1.grow (below_alloc1 _ _)) ⟨wr.heap.size, 0, none⟩ 1 (by rfl) (news1 (heap_alloc_new wr _) rfl) (by simp) (by simp; omega) (ys.length + 1) (by simp) ?_; intro g1 cap1 w2 hb2 hg2; have hgT := H.out.2.trans (hg2.pre (below_alloc1 _ _)); have ⟨hbw2, x3⟩ := HBX.out _ _ hgT; have ⟨f0, f1, f2, f3, f4, f5⟩ := HEL.out _ hbw2; have HT := Lib.hid (And.intro hb2 (And.intro hgT hbw2)); clear hb2 hg2 hgT hbw2)
      refine (HTX.out w2).mono ?_
      rintro e w3 ⟨g3, cap3, n3, hn3, rfl, hb3, hg3⟩
      have HN := Lib.hid (And.intro hn3 (And.intro hb3 hg3))
      clear hn3 hb3 hg3 x3 f0 f1 f2 f3 f4 f5
      go_wp2_with (refine wpList_app2 (by rfl) _ _ (by rfl) (.slice (some ⟨g1, 0, none⟩) (ys.length + 1) cap1) (ys ++ [1]) ts (by rfl) (HT.out.1.grow HN.out.2.2.nil_below) g3 cap3 n3 (by rfl) HN.out.1 HN.out.2.1 htp (by simp; omega) (ys.length + 1 + ts.length) (by simp <;> omega) ?_; intro g4 cap4 w4 hb4 hg4; have hgT := HT.out.2.1.trans (hg4.pre HN.out.2.2.nil_below); have ⟨hbw4, x3⟩ := HBX.out _ _ hgT; have ⟨f0, f1, f2, f3, f4, f5⟩ := HEL.out _ hbw4; have HT4 := Lib.hid (And.intro hb4 (And.intro hgT hbw4)); clear hb4 hg4 hgT hbw4)
      refine (HCL.out w4 HT4.out.2.2).mono ?_
      rintro e w5 ⟨g5, cap5, n5, hn5, rfl, hb5, hg5⟩
      have HN5 := Lib.hid (And.intro hn5 (And.intro hb5 hg5))
      clear hn5 hb5 hg5 x3 f0 f1 f2 f3 f4 f5
      go_wp2_with (refine wpList_app2 (by rfl) _ _ (by rfl) (.slice (some ⟨g4, 0, none⟩) (ys.length + 1 + ts.length) cap4) (ys ++ [1] ++ ts) zs (by rfl) (HT4.out.1.grow HN5.out.2.2.nil_below) g5 cap5 n5 (by rfl) HN5.out.1 HN5.out.2.1 hpos (by simp; omega) (ys.length + 1 + ts.length + zs.length) (by simp <;> omega) ?_; intro g6 cap6 w6 hb6 hg6)
      go_roundw
      case rel =>
        refine ⟨j + 1, by omega, by go_num, Lib.hid ⟨by rw [← HY.out]; exact hb6, HT4.out.2.1.trans (hg6.pre HN5.out.2.2.nil_below)⟩, ?_⟩
        rw [← HY.out]
        simp only [List.length_append, List.length_cons, List.length_nil]
        omega
      case measure => simp [RowKit.intOf]; omega
    · obtain rfl : j = l.length := by omega
      have HY := Lib.hid (show (5 :: encDp l l.length) ++ [0] = 5 :: encD l by rw [encD_eq]; simp)
      obtain ⟨ys, hys⟩ : ∃ ys, 5 :: encDp l l.length = ys := ⟨_, rfl⟩
      rw [hys] at H hbd HY
      clear hys
      go_wp2_with (refine wpList_app (by rfl) _ _ (by rfl) u3 ys [0] (by rfl) (H.out.1.grow (below_alloc1 _ _)) ⟨wr.heap.size, 0, none⟩ 1 (by rfl) (news1 (heap_alloc_new wr _) rfl) (by simp) (by simp; omega) (ys.length + 1) (by simp) ?_; intro g1 cap1 w2 hb2 hg2)
      go_ret
      exact put_done2 (by rw [← HY.out]; exact hb2) (H.out.2.trans (hg2.pre (below_alloc1 _ _))) HW.out.2.1 (one_own _ _ (by omega)) (by simp)
theorem rb_c {v : V} (h : Shape v) : RbC v := by
  induction h with
  | num hk hi =>
    intro cs w hv hlen
    obtain ⟨A, c, A', c', rfl, _, _, _, _, _⟩ := hv.inv
    have := rb_num _ _ hk hi ByteArray.empty A A' 0 0 c c' w
    rcases hk with rfl | rfl <;> exact this
  | flag h0 h1 =>
    intro cs w hv hlen
    obtain ⟨A, c, A', c', rfl, _, _, _, _, _⟩ := hv.inv
    exact rb_flag _ h0 h1 ByteArray.empty A A' 0 0 c c' w
  | text hk =>
    rename_i k t
    intro cs w hv hlen
    obtain ⟨A, c, A', c', rfl, _, _, _, _, _⟩ := hv.inv
    have := rb_text _ 0 hk t (by rcases hk with rfl | rfl <;> simp [sizeV] at hlen <;> omega) A A' 0 0 c c' w
    rcases hk with rfl | rfl <;> exact this
  | id ht =>
    intro cs w hv hlen
    obtain ⟨A, c, A', c', rfl, _, _, _, _, _⟩ := hv.inv
    exact rb_id 0 _ ht A A' 0 0 c c' w
  | list hl ih =>
    intro cs w hv hlen
    obtain ⟨A, c, A', c', rfl, _, _, _, hA, _⟩ := hv.inv
    exact rb_list 0 ByteArray.empty _ (fun x hx => ⟨hl x hx, ih x hx⟩) A A' 0 c c' w hA (by simpa [sizeV] using hlen)
  | doc hd ih =>
    intro cs w hv hlen
    obtain ⟨A, c, A', c', rfl, _, _, _, _, hD⟩ := hv.inv
    exact rb_doc 0 ByteArray.empty _ (fun p hp => ⟨hd p hp, ih p hp⟩) A' A 0 c' c w hD (by simpa [sizeV] using hlen)
  | other h0 h1 h3 h4 h5 h6 h7 h8 h9 h10 =>
    rename_i k
    intro cs w hv hlen
    obtain ⟨A, c, A', c', rfl, _, _, _, _, _⟩ := hv.inv
    have := rb_other k 0 h0 h1 h3 h4 h5 h6 h7 h8 h9 h10 ByteArray.empty A A' 0 0 c c' w
    rw [show encV (.mk k 0 ByteArray.empty [] []) = [UInt8.ofNat k.toNat] by simp [encV, h3, h4, h5, h6, h7, h8, h9, h10]]
    exact this
end Go.Proofs.YthfejpldhemakaaDoor


namespace Go.Proofs.YthfejpldhemakaaDoor
open Go.RowKit Go.Sort Go.Lib
theorem sub_255 (c : UInt8) : 255 - (c.toNat : Int) = ((255 - c : UInt8).toNat : Int) := by
  have h : ∀ n : Fin 256, 255 - (n.val : Int) = ((255 - UInt8.ofNat n.val : UInt8).toNat : Int) := by decide +kernel
  have := h ⟨c.toNat, c.toNat_lt⟩
  simpa using this
theorem Put.own {w w' : World} {ys : List UInt8} {e : Ending} (h : Put w (.slice none 0 0) ys e w') : ∃ g cap n, n = ys.length ∧ e = .returned (.slice (some ⟨g, 0, none⟩) n cap) ∧ BO w' (.slice (some ⟨g, 0, none⟩) n cap) ys ∧ w.heap.size ≤ g ∧ Below w.heap.size w w' := by
  obtain ⟨g, cap, n, hn, he, hb, hg⟩ := h
  refine ⟨g, cap, n, hn, he, hb, ?_, hg.nil_below⟩
  rcases hg.row g rfl with h | h
  · cases h
  · exact h
set_option maxRecDepth 100000 in
set_option maxHeartbeats 1000000 in
theorem turned_c (g cap n : Nat) (xs : List UInt8) (hn : n = xs.length) (w : World) (hb : BO w (.slice (some ⟨g, 0, none⟩) n cap) xs) (hpos : 0 < xs.length) (hlen : xs.length ≤ 1099511627776) :
    Calls Tryd.prog 80 #[.slice (some ⟨g, 0, none⟩) n cap] w (Put w (.slice none 0 0) (xs.map (255 - ·))) := by
  have HN := Lib.hid hn
  have hnn : n ≤ 1099511627776 := by omega
  have hn0 : 0 < n := by omega
  have HB := Lib.hid hb
  clear hn hb
  go_enter Tryd.func80, Tryd.ntmps80
  go_wp2_with fail
  go_loopw [3, 4] (fun vv ix wr => ∃ (j : Nat), j ≤ n ∧ ix = .int .i64 j ∧ Hid (BO wr vv ((xs.take j).map (255 - ·)) ∧ Gr w wr (.slice none 0 0) vv)) (fun _ ix _ => n - (RowKit.intOf ix).toNat)
  case atStart => exact ⟨0, by omega, rfl, Lib.hid ⟨by simpa using BO.nil w, Gr.refl _ _⟩⟩
  case round =>
    obtain ⟨j, hj, rfl, H⟩ := hrel
    by_cases hlt : j < n
    · have hjx : j < xs.length := by have := HN.out; omega
      obtain ⟨hc, _⟩ := (HB.out.grow H.out.2.nil_below).cell hjx
      obtain ⟨c, hcc⟩ : ∃ c, xs[j] = c := ⟨_, rfl⟩
      rw [hcc] at hc
      have hc255 : (c.toNat : Int) ≤ 255 := by have := c.toNat_lt; omega
      obtain ⟨ys, hys⟩ : ∃ ys, (xs.take j).map (255 - ·) = ys := ⟨_, rfl⟩
      have hyl : ys.length = j := by rw [← hys, List.length_map, List.length_take]; omega
      rw [hys] at H
      have HY := Lib.hid (And.intro hyl (show ys ++ [255 - c] = (xs.take (j + 1)).map (255 - ·) by rw [List.take_succ_eq_append_getElem hjx, List.map_append, hys, hcc]; rfl))
      clear hys hcc hyl hjx
      go_wp2_with (refine wpList_app (by rfl) _ _ (by rfl) u3 ys [255 - c] (by rfl) (H.out.1.grow (below_alloc1 _ _)) ⟨wr.heap.size, 0, none⟩ 1 (by rfl) (news1 (heap_alloc_new wr _) (sub_255 c)) (by simp) (by rw [HY.out.1]; simp; omega) (ys.length + 1) (by simp) ?_; intro g1 cap1 w2 hb2 hg2)
      go_roundw
      case rel => exact ⟨j + 1, by omega, by go_num, Lib.hid ⟨by rw [← HY.out.2]; exact hb2, H.out.2.trans (hg2.pre (below_alloc1 _ _))⟩⟩
      case measure => simp [RowKit.intOf]; omega
    · obtain rfl : j = n := by omega
      have hjx : xs.length ≤ j := by have := HN.out; omega
      rw [List.take_of_length_le hjx] at H
      clear hjx
      go_wp2_with fail
      go_ret
      exact put_done H.out.1 H.out.2 (by simpa using hpos)
end Go.Proofs.YthfejpldhemakaaDoor

namespace Go.Proofs.YthfejpldhemakaaDoor
open Go.RowKit Go.Sort Go.Lib
/-- What a slice of bytes reads as. -/
def RY (w : World) (A : Option Addr) (xs : List UInt8) : Prop := xs.length ≤ 140737488355328 ∧ ∀ j (h : j < xs.length), CellsAt w A j [bv xs[j]]
theorem RY.grow {w w1 : World} {A : Option Addr} {xs : List UInt8} (h : RY w A xs) (hb : Below w.heap.size w w1) : RY w1 A xs := ⟨h.1, fun j hj => (h.2 j hj).grow hb⟩
theorem RY.get {w : World} {A : Option Addr} {xs : List UInt8} (h : RY w A xs) {j : Nat} (hj : j < xs.length) : ∃ b off, A = some ⟨b, off, none⟩ ∧ w.cell? ⟨b, off + j, none⟩ = some (.int .u8 (xs[j].toNat : Int)) := by
  obtain ⟨b, off, e, hc⟩ := h.2 j hj
  exact ⟨b, off, e, hc 0 _ rfl⟩
theorem BO.ry {w : World} {A : Option Addr} {n c : Nat} {xs : List UInt8} (h : BO w (.slice A n c) xs) (hl : xs.length ≤ 140737488355328) : RY w A xs := by
  refine ⟨hl, fun j hj => ?_⟩
  obtain ⟨g, cap, e, _⟩ := World.ownsRow.form h (by omega)
  injection e with e1 e2 e3
  subst e1
  obtain ⟨hc, _⟩ := h.cell hj
  refine ⟨g, 0, rfl, fun i u hu => ?_⟩
  match i, hu with
  | 0, hu =>
    simp at hu
    subst hu
    simpa [bv] using hc
set_option maxRecDepth 100000 in
set_option maxHeartbeats 1000000 in
theorem bsame_c (A A' : Option Addr) (c c' n m : Nat) (xs ys : List UInt8) (hn : n = xs.length) (hm : m = ys.length) (w : World) (hA : RY w A xs) (hA' : RY w A' ys) :
    Calls Tryd.prog 39 #[.slice A n c, .slice A' m c'] w fun e w' => e = .returned (.bool (decide (xs = ys))) ∧ Below w.heap.size w w' := by
  have hl := hA.1
  have hl' := hA'.1
  rw [← hn] at hl
  rw [← hm] at hl'
  have HR := Lib.hid (And.intro hA (And.intro hA' (And.intro hn hm)))
  clear hA hA' hn hm
  by_cases hnm : n = m
  case neg =>
    have h1 : ((n : Int) != (m : Int)) = true := by simp; omega
    have H := Lib.hid (show decide (xs = ys) = false from decide_eq_false (fun he => hnm (by rw [HR.out.2.2.1, HR.out.2.2.2, he])))
    clear hnm
    go_enter Tryd.func39, Tryd.ntmps39
    go_wp2_with fail
    go_ret
    exact ⟨ret_bool H.out.symm, Below.refl _ _⟩
  subst hnm
  have h1 : ((n : Int) != (n : Int)) = false := by simp
  go_enter Tryd.func39, Tryd.ntmps39
  go_wp2_with fail
  go_loopw [5] (fun ix wr => ∃ j : Nat, j ≤ n ∧ ix = .int .i64 j ∧ Hid (xs.take j = ys.take j) ∧ Below w.heap.size w wr) (fun ix _ => n - (RowKit.intOf ix).toNat)
  case atStart => exact ⟨0, by omega, rfl, Lib.hid rfl, Below.refl _ _⟩
  case round =>
    obtain ⟨j, hj, rfl, hrec, hb⟩ := hrel
    by_cases hlt : j < n
    · have hx : j < xs.length := by have := HR.out.2.2.1; omega
      have hy : j < ys.length := by have := HR.out.2.2.2; omega
      obtain ⟨b, off, rfl, f0⟩ := (HR.out.1.grow hb).get hx
      obtain ⟨b', off', rfl, g0⟩ := (HR.out.2.1.grow hb).get hy
      have hz : (j : Int) < (n : Int) := by omega
      by_cases he : xs[j] = ys[j]
      · have heq : ((xs[j].toNat : Int) != (ys[j].toNat : Int)) = false := by rw [he]; simp
        have HE := Lib.hid (show xs.take (j + 1) = ys.take (j + 1) by rw [List.take_succ_eq_append_getElem hx, List.take_succ_eq_append_getElem hy, hrec.out, he])
        clear he
        go_wp2_with fail
        go_quiet (fail)
        go_wp2_with fail
        go_roundw
        case rel => exact ⟨j + 1, by omega, by go_num, HE, hb.trans (drewN_below2 (Below.refl _ _) _)⟩
        case measure => simp [RowKit.intOf]; omega
      · have heq : ((xs[j].toNat : Int) != (ys[j].toNat : Int)) = true := by
          have := u8_ne he
          simpa [bne] using this
        have HE := Lib.hid (show decide (xs = ys) = false from decide_eq_false (fun h => he (by subst h; rfl)))
        clear he
        go_wp2_with fail
        go_quiet (fail)
        go_wp2_with fail
        go_ret
        exact ⟨ret_bool HE.out.symm, hb.trans (drewN_below2 (Below.refl _ _) _)⟩
    · obtain rfl : j = n := by omega
      go_wp2_with fail
      go_ret
      refine ⟨ret_bool (decide_eq_true ?_).symm, hb⟩
      have := hrec.out
      rwa [List.take_of_length_le (by have := HR.out.2.2.1; omega), List.take_of_length_le (by have := HR.out.2.2.2; omega)] at this
end Go.Proofs.YthfejpldhemakaaDoor
