import Derived.Test.YthfejpldhemakaaDoorKd
import Derived.Test.YthfejpldhemakaaDoorLn
import Derived.Laws.Bits64
namespace Go.Proofs.YthfejpldhemakaaDoor
open Go.RowKit Go.Sort Go.Lib
theorem xor_half (a : Nat) (h : a < 18446744073709551616) : a ^^^ 9223372036854775808 = (a + 9223372036854775808) % 18446744073709551616 := by
  have e1 := Nat.xor_div_two_pow (a := a) (b := 9223372036854775808) (n := 63)
  have e2 := Nat.xor_mod_two_pow (a := a) (b := 9223372036854775808) (n := 63)
  have p : (2 : Nat) ^ 63 = 9223372036854775808 := by decide
  rw [p] at e1 e2
  have c2 : 9223372036854775808 % 9223372036854775808 = 0 := by decide
  have c1 : 9223372036854775808 / 9223372036854775808 = 1 := by decide
  rw [c2, Nat.xor_zero] at e2
  rw [c1] at e1
  obtain h0 | h0 : a / 9223372036854775808 = 0 ∨ a / 9223372036854775808 = 1 := by omega
  · rw [h0] at e1
    have e1 : (a ^^^ 9223372036854775808) / 9223372036854775808 = 1 := e1
    omega
  · rw [h0] at e1
    have e1 : (a ^^^ 9223372036854775808) / 9223372036854775808 = 0 := e1
    omega
theorem xor_top (i : Int) (h : Rng i) : bits BinOp.xor IntKind.u64 (IntKind.u64.wrap i) 9223372036854775808 = (((i + 9223372036854775808).toNat : Nat) : Int) := by
  obtain ⟨h1, h2⟩ := h
  rw [IntKind.wrap_u64]
  obtain ⟨a, ha⟩ : ∃ a : Nat, i % 18446744073709551616 = (a : Int) := ⟨(i % 18446744073709551616).toNat, by omega⟩
  rw [ha]
  have := bits_xor_u64_nat a 9223372036854775808 (by omega) (by decide)
  rw [show ((9223372036854775808 : Nat) : Int) = 9223372036854775808 from rfl] at this
  rw [this, xor_half a (by omega)]
  omega
set_option maxRecDepth 100000 in
set_option maxHeartbeats 4000000 in
theorem put_num (k i : Int) (hk : k = 3 ∨ k = 10) (hi : Rng i) (t : ByteArray) (A A' : Option Addr) (nl nd c c' : Nat) (sl : Value) (xs : List UInt8) (w : World) (hb : BO w sl xs) (hlen : xs.length + 10 ≤ 1099511627776) :
    Calls Tryd.prog 78 #[sl, .agg #[.int .i64 k, .int .i64 i, .string t, .slice A nl c, .slice A' nd c']] w (Put w sl (xs ++ (UInt8.ofNat k.toNat :: encN i))) := by
  have hlt := fun g (hg : sl.ownBlock = some g) => hb.lt hg
  have hxor := xor_top i hi
  obtain ⟨hi1, hi2⟩ := hi
  obtain ⟨U, hU⟩ : ∃ U, (i + 9223372036854775808).toNat = U := ⟨_, rfl⟩
  have hU2 : U < 18446744073709551616 := by omega
  rw [hU] at hxor
  have HU := Lib.hid (show encN i = be8 U by unfold encN; rw [hU])
  clear hU
  have HB := Lib.hid (And.intro hb hlt)
  clear hb hlt
  rcases hk with rfl | rfl
  · go_enter Tryd.func78, Tryd.ntmps78
    have HK : Hid (∀ (o1 o2 : Obj) (w1 : World) (v' : Value), Gr ((w.alloc o1).alloc o2) w1 sl v' → w1.heap[w.heap.size]? = some o1) := Lib.hid fun o1 o2 w1 v' hg => (hg.block (by simp; omega) (fun he => by have := HB.out.2 _ he; omega)).trans (heap2_first w o1 o2 0)
    go_wp2_with (refine wpList_app (by rfl) _ _ (by rfl) sl xs [3] (by rfl) (HB.out.1.grow (below_alloc2 _ _ _)) ⟨w.heap.size + 1, 0, none⟩ 1 (by rfl) (news1 (heap_new1 w _ _) rfl) (by simp) (by simp; omega) (xs.length + 1) (by simp) ?_; intro g1 cap1 w1 hb1 hg1; have e3 := HK.out _ _ _ _ hg1; have x0 := cell_at e3 0 _ rfl; have x1 := cell_at e3 1 _ rfl; clear e3)
    go_loopw [0, 6] (fun vv ix wr => ∃ (j : Nat), j ≤ 8 ∧ ix = .int .i64 (56 - 8 * (j : Int)) ∧ Hid (BO wr vv (xs ++ 3 :: (be8 U).take j) ∧ Gr w wr sl vv)) (fun _ ix _ => (RowKit.intOf ix + 8).toNat)
    case atStart => exact ⟨0, by omega, rfl, Lib.hid ⟨hb1, hg1.pre (below_alloc2 _ _ _)⟩⟩
    case round =>
      obtain ⟨j, hj, rfl, H⟩ := hrel
      clear x0 x1 hb1 hg1 HK hxor
      obtain rfl | rfl | rfl | rfl | rfl | rfl | rfl | rfl | rfl : j = 0 ∨ j = 1 ∨ j = 2 ∨ j = 3 ∨ j = 4 ∨ j = 5 ∨ j = 6 ∨ j = 7 ∨ j = 8 := by omega
      · have hln : (xs ++ 3 :: (be8 U).take 0).length = xs.length + 1 := by simp [be8]
        go_wp2_with (refine wpList_app (by rfl) _ _ (by rfl) u0 (xs ++ 3 :: (be8 U).take 0) [UInt8.ofNat (U / 72057594037927936)] (by rfl) (H.out.1.grow (below_alloc1 _ _)) ⟨wr.heap.size, 0, none⟩ 1 (by rfl) (news1 (heap_alloc_new wr _) (by rw [UInt8.toNat_ofNat']; omega)) (by simp) (by rw [hln]; simp; omega) (xs.length + 2) (by rw [hln]; rfl) ?_; intro g3 cap3 w3 hb3 hg3)
        go_roundw
        case rel => exact ⟨1, by omega, rfl, Lib.hid ⟨by simpa [be8] using hb3, H.out.2.trans (hg3.pre (below_alloc1 _ _))⟩⟩
        case measure => simp [RowKit.intOf]
      · have hln : (xs ++ 3 :: (be8 U).take 1).length = xs.length + 2 := by simp [be8]
        go_wp2_with (refine wpList_app (by rfl) _ _ (by rfl) u0 (xs ++ 3 :: (be8 U).take 1) [UInt8.ofNat (U / 281474976710656)] (by rfl) (H.out.1.grow (below_alloc1 _ _)) ⟨wr.heap.size, 0, none⟩ 1 (by rfl) (news1 (heap_alloc_new wr _) (by rw [UInt8.toNat_ofNat']; omega)) (by simp) (by rw [hln]; simp; omega) (xs.length + 3) (by rw [hln]; rfl) ?_; intro g3 cap3 w3 hb3 hg3)
        go_roundw
        case rel => exact ⟨2, by omega, rfl, Lib.hid ⟨by simpa [be8] using hb3, H.out.2.trans (hg3.pre (below_alloc1 _ _))⟩⟩
        case measure => simp [RowKit.intOf]
      · have hln : (xs ++ 3 :: (be8 U).take 2).length = xs.length + 3 := by simp [be8]
        go_wp2_with (refine wpList_app (by rfl) _ _ (by rfl) u0 (xs ++ 3 :: (be8 U).take 2) [UInt8.ofNat (U / 1099511627776)] (by rfl) (H.out.1.grow (below_alloc1 _ _)) ⟨wr.heap.size, 0, none⟩ 1 (by rfl) (news1 (heap_alloc_new wr _) (by rw [UInt8.toNat_ofNat']; omega)) (by simp) (by rw [hln]; simp; omega) (xs.length + 4) (by rw [hln]; rfl) ?_; intro g3 cap3 w3 hb3 hg3)
        go_roundw
        case rel => exact ⟨3, by omega, rfl, Lib.hid ⟨by simpa [be8] using hb3, H.out.2.trans (hg3.pre (below_alloc1 _ _))⟩⟩
        case measure => simp [RowKit.intOf]
      · have hln : (xs ++ 3 :: (be8 U).take 3).length = xs.length + 4 := by simp [be8]
        go_wp2_with (refine wpList_app (by rfl) _ _ (by rfl) u0 (xs ++ 3 :: (be8 U).take 3) [UInt8.ofNat (U / 4294967296)] (by rfl) (H.out.1.grow (below_alloc1 _ _)) ⟨wr.heap.size, 0, none⟩ 1 (by rfl) (news1 (heap_alloc_new wr _) (by rw [UInt8.toNat_ofNat']; omega)) (by simp) (by rw [hln]; simp; omega) (xs.length + 5) (by rw [hln]; rfl) ?_; intro g3 cap3 w3 hb3 hg3)
        go_roundw
        case rel => exact ⟨4, by omega, rfl, Lib.hid ⟨by simpa [be8] using hb3, H.out.2.trans (hg3.pre (below_alloc1 _ _))⟩⟩
        case measure => simp [RowKit.intOf]
      · have hln : (xs ++ 3 :: (be8 U).take 4).length = xs.length + 5 := by simp [be8]
        go_wp2_with (refine wpList_app (by rfl) _ _ (by rfl) u0 (xs ++ 3 :: (be8 U).take 4) [UInt8.ofNat (U / 16777216)] (by rfl) (H.out.1.grow (below_alloc1 _ _)) ⟨wr.heap.size, 0, none⟩ 1 (by rfl) (news1 (heap_alloc_new wr _) (by rw [UInt8.toNat_ofNat']; omega)) (by simp) (by rw [hln]; simp; omega) (xs.length + 6) (by rw [hln]; rfl) ?_; intro g3 cap3 w3 hb3 hg3)
        go_roundw
        case rel => exact ⟨5, by omega, rfl, Lib.hid ⟨by simpa [be8] using hb3, H.out.2.trans (hg3.pre (below_alloc1 _ _))⟩⟩
        case measure => simp [RowKit.intOf]
      · have hln : (xs ++ 3 :: (be8 U).take 5).length = xs.length + 6 := by simp [be8]
        go_wp2_with (refine wpList_app (by rfl) _ _ (by rfl) u0 (xs ++ 3 :: (be8 U).take 5) [UInt8.ofNat (U / 65536)] (by rfl) (H.out.1.grow (below_alloc1 _ _)) ⟨wr.heap.size, 0, none⟩ 1 (by rfl) (news1 (heap_alloc_new wr _) (by rw [UInt8.toNat_ofNat']; omega)) (by simp) (by rw [hln]; simp; omega) (xs.length + 7) (by rw [hln]; rfl) ?_; intro g3 cap3 w3 hb3 hg3)
        go_roundw
        case rel => exact ⟨6, by omega, rfl, Lib.hid ⟨by simpa [be8] using hb3, H.out.2.trans (hg3.pre (below_alloc1 _ _))⟩⟩
        case measure => simp [RowKit.intOf]
      · have hln : (xs ++ 3 :: (be8 U).take 6).length = xs.length + 7 := by simp [be8]
        go_wp2_with (refine wpList_app (by rfl) _ _ (by rfl) u0 (xs ++ 3 :: (be8 U).take 6) [UInt8.ofNat (U / 256)] (by rfl) (H.out.1.grow (below_alloc1 _ _)) ⟨wr.heap.size, 0, none⟩ 1 (by rfl) (news1 (heap_alloc_new wr _) (by rw [UInt8.toNat_ofNat']; omega)) (by simp) (by rw [hln]; simp; omega) (xs.length + 8) (by rw [hln]; rfl) ?_; intro g3 cap3 w3 hb3 hg3)
        go_roundw
        case rel => exact ⟨7, by omega, rfl, Lib.hid ⟨by simpa [be8] using hb3, H.out.2.trans (hg3.pre (below_alloc1 _ _))⟩⟩
        case measure => simp [RowKit.intOf]
      · have hln : (xs ++ 3 :: (be8 U).take 7).length = xs.length + 8 := by simp [be8]
        go_wp2_with (refine wpList_app (by rfl) _ _ (by rfl) u0 (xs ++ 3 :: (be8 U).take 7) [UInt8.ofNat (U)] (by rfl) (H.out.1.grow (below_alloc1 _ _)) ⟨wr.heap.size, 0, none⟩ 1 (by rfl) (news1 (heap_alloc_new wr _) (by rw [UInt8.toNat_ofNat']; omega)) (by simp) (by rw [hln]; simp; omega) (xs.length + 9) (by rw [hln]; rfl) ?_; intro g3 cap3 w3 hb3 hg3)
        go_roundw
        case rel => exact ⟨8, by omega, rfl, Lib.hid ⟨by simpa [be8] using hb3, H.out.2.trans (hg3.pre (below_alloc1 _ _))⟩⟩
        case measure => simp [RowKit.intOf]
      · go_wp2_with fail
        go_ret
        have H1 := H.out
        rw [show (be8 U).take 8 = be8 U from rfl] at H1
        rw [HU.out]
        obtain ⟨A3, c3, rfl, _⟩ := H1.1.form
        rcases H1.1.2 with ⟨_, h0⟩ | ⟨g5, cap5, cur5, h5, _⟩
        · simp [be8] at h0
        · rw [h5] at H1 ⊢
          exact ⟨g5, cap5, _, rfl, rfl, H1.1, H1.2⟩
  · go_enter Tryd.func78, Tryd.ntmps78
    have HK : Hid (∀ (o1 o2 : Obj) (w1 : World) (v' : Value), Gr ((w.alloc o1).alloc o2) w1 sl v' → w1.heap[w.heap.size]? = some o1) := Lib.hid fun o1 o2 w1 v' hg => (hg.block (by simp; omega) (fun he => by have := HB.out.2 _ he; omega)).trans (heap2_first w o1 o2 0)
    go_wp2_with (refine wpList_app (by rfl) _ _ (by rfl) sl xs [10] (by rfl) (HB.out.1.grow (below_alloc2 _ _ _)) ⟨w.heap.size + 1, 0, none⟩ 1 (by rfl) (news1 (heap_new1 w _ _) rfl) (by simp) (by simp; omega) (xs.length + 1) (by simp) ?_; intro g1 cap1 w1 hb1 hg1; have e3 := HK.out _ _ _ _ hg1; have x0 := cell_at e3 0 _ rfl; have x1 := cell_at e3 1 _ rfl; clear e3)
    go_loopw [0, 6] (fun vv ix wr => ∃ (j : Nat), j ≤ 8 ∧ ix = .int .i64 (56 - 8 * (j : Int)) ∧ Hid (BO wr vv (xs ++ 10 :: (be8 U).take j) ∧ Gr w wr sl vv)) (fun _ ix _ => (RowKit.intOf ix + 8).toNat)
    case atStart => exact ⟨0, by omega, rfl, Lib.hid ⟨hb1, hg1.pre (below_alloc2 _ _ _)⟩⟩
    case round =>
      obtain ⟨j, hj, rfl, H⟩ := hrel
      clear x0 x1 hb1 hg1 HK hxor
      obtain rfl | rfl | rfl | rfl | rfl | rfl | rfl | rfl | rfl : j = 0 ∨ j = 1 ∨ j = 2 ∨ j = 3 ∨ j = 4 ∨ j = 5 ∨ j = 6 ∨ j = 7 ∨ j = 8 := by omega
      · have hln : (xs ++ 10 :: (be8 U).take 0).length = xs.length + 1 := by simp [be8]
        go_wp2_with (refine wpList_app (by rfl) _ _ (by rfl) u0 (xs ++ 10 :: (be8 U).take 0) [UInt8.ofNat (U / 72057594037927936)] (by rfl) (H.out.1.grow (below_alloc1 _ _)) ⟨wr.heap.size, 0, none⟩ 1 (by rfl) (news1 (heap_alloc_new wr _) (by rw [UInt8.toNat_ofNat']; omega)) (by simp) (by rw [hln]; simp; omega) (xs.length + 2) (by rw [hln]; rfl) ?_; intro g3 cap3 w3 hb3 hg3)
        go_roundw
        case rel => exact ⟨1, by omega, rfl, Lib.hid ⟨by simpa [be8] using hb3, H.out.2.trans (hg3.pre (below_alloc1 _ _))⟩⟩
        case measure => simp [RowKit.intOf]
      · have hln : (xs ++ 10 :: (be8 U).take 1).length = xs.length + 2 := by simp [be8]
        go_wp2_with (refine wpList_app (by rfl) _ _ (by rfl) u0 (xs ++ 10 :: (be8 U).take 1) [UInt8.ofNat (U / 281474976710656)] (by rfl) (H.out.1.grow (below_alloc1 _ _)) ⟨wr.heap.size, 0, none⟩ 1 (by rfl) (news1 (heap_alloc_new wr _) (by rw [UInt8.toNat_ofNat']; omega)) (by simp) (by rw [hln]; simp; omega) (xs.length + 3) (by rw [hln]; rfl) ?_; intro g3 cap3 w3 hb3 hg3)
        go_roundw
        case rel => exact ⟨2, by omega, rfl, Lib.hid ⟨by simpa [be8] using hb3, H.out.2.trans (hg3.pre (below_alloc1 _ _))⟩⟩
        case measure => simp [RowKit.intOf]
      · have hln : (xs ++ 10 :: (be8 U).take 2).length = xs.length + 3 := by simp [be8]
        go_wp2_with (refine wpList_app (by rfl) _ _ (by rfl) u0 (xs ++ 10 :: (be8 U).take 2) [UInt8.ofNat (U / 1099511627776)] (by rfl) (H.out.1.grow (below_alloc1 _ _)) ⟨wr.heap.size, 0, none⟩ 1 (by rfl) (news1 (heap_alloc_new wr _) (by rw [UInt8.toNat_ofNat']; omega)) (by simp) (by rw [hln]; simp; omega) (xs.length + 4) (by rw [hln]; rfl) ?_; intro g3 cap3 w3 hb3 hg3)
        go_roundw
        case rel => exact ⟨3, by omega, rfl, Lib.hid ⟨by simpa [be8] using hb3, H.out.2.trans (hg3.pre (below_alloc1 _ _))⟩⟩
        case measure => simp [RowKit.intOf]
      · have hln : (xs ++ 10 :: (be8 U).take 3).length = xs.length + 4 := by simp [be8]
        go_wp2_with (refine wpList_app (by rfl) _ _ (by rfl) u0 (xs ++ 10 :: (be8 U).take 3) [UInt8.ofNat (U / 4294967296)] (by rfl) (H.out.1.grow (below_alloc1 _ _)) ⟨wr.heap.size, 0, none⟩ 1 (by rfl) (news1 (heap_alloc_new wr _) (by rw [UInt8.toNat_ofNat']; omega)) (by simp) (by rw [hln]; simp; omega) (xs.length + 5) (by rw [hln]; rfl) ?_; intro g3 cap3 w3 hb3 hg3)
        go_roundw
        case rel => exact ⟨4, by omega, rfl, Lib.hid ⟨by simpa [be8] using hb3, H.out.2.trans (hg3.pre (below_alloc1 _ _))⟩⟩
        case measure => simp [RowKit.intOf]
      · have hln : (xs ++ 10 :: (be8 U).take 4).length = xs.length + 5 := by simp [be8]
        go_wp2_with (refine wpList_app (by rfl) _ _ (by rfl) u0 (xs ++ 10 :: (be8 U).take 4) [UInt8.ofNat (U / 16777216)] (by rfl) (H.out.1.grow (below_alloc1 _ _)) ⟨wr.heap.size, 0, none⟩ 1 (by rfl) (news1 (heap_alloc_new wr _) (by rw [UInt8.toNat_ofNat']; omega)) (by simp) (by rw [hln]; simp; omega) (xs.length + 6) (by rw [hln]; rfl) ?_; intro g3 cap3 w3 hb3 hg3)
        go_roundw
        case rel => exact ⟨5, by omega, rfl, Lib.hid ⟨by simpa [be8] using hb3, H.out.2.trans (hg3.pre (below_alloc1 _ _))⟩⟩
        case measure => simp [RowKit.intOf]
      · have hln : (xs ++ 10 :: (be8 U).take 5).length = xs.length + 6 := by simp [be8]
        go_wp2_with (refine wpList_app (by rfl) _ _ (by rfl) u0 (xs ++ 10 :: (be8 U).take 5) [UInt8.ofNat (U / 65536)] (by rfl) (H.out.1.grow (below_alloc1 _ _)) ⟨wr.heap.size, 0, none⟩ 1 (by rfl) (news1 (heap_alloc_new wr _) (by rw [UInt8.toNat_ofNat']; omega)) (by simp) (by rw [hln]; simp; omega) (xs.length + 7) (by rw [hln]; rfl) ?_; intro g3 cap3 w3 hb3 hg3)
        go_roundw
        case rel => exact ⟨6, by omega, rfl, Lib.hid ⟨by simpa [be8] using hb3, H.out.2.trans (hg3.pre (below_alloc1 _ _))⟩⟩
        case measure => simp [RowKit.intOf]
      · have hln : (xs ++ 10 :: (be8 U).take 6).length = xs.length + 7 := by simp [be8]
        go_wp2_with (refine wpList_app (by rfl) _ _ (by rfl) u0 (xs ++ 10 :: (be8 U).take 6) [UInt8.ofNat (U / 256)] (by rfl) (H.out.1.grow (below_alloc1 _ _)) ⟨wr.heap.size, 0, none⟩ 1 (by rfl) (news1 (heap_alloc_new wr _) (by rw [UInt8.toNat_ofNat']; omega)) (by simp) (by rw [hln]; simp; omega) (xs.length + 8) (by rw [hln]; rfl) ?_; intro g3 cap3 w3 hb3 hg3)
        go_roundw
        case rel => exact ⟨7, by omega, rfl, Lib.hid ⟨by simpa [be8] using hb3, H.out.2.trans (hg3.pre (below_alloc1 _ _))⟩⟩
        case measure => simp [RowKit.intOf]
      · have hln : (xs ++ 10 :: (be8 U).take 7).length = xs.length + 8 := by simp [be8]
        go_wp2_with (refine wpList_app (by rfl) _ _ (by rfl) u0 (xs ++ 10 :: (be8 U).take 7) [UInt8.ofNat (U)] (by rfl) (H.out.1.grow (below_alloc1 _ _)) ⟨wr.heap.size, 0, none⟩ 1 (by rfl) (news1 (heap_alloc_new wr _) (by rw [UInt8.toNat_ofNat']; omega)) (by simp) (by rw [hln]; simp; omega) (xs.length + 9) (by rw [hln]; rfl) ?_; intro g3 cap3 w3 hb3 hg3)
        go_roundw
        case rel => exact ⟨8, by omega, rfl, Lib.hid ⟨by simpa [be8] using hb3, H.out.2.trans (hg3.pre (below_alloc1 _ _))⟩⟩
        case measure => simp [RowKit.intOf]
      · go_wp2_with fail
        go_ret
        have H1 := H.out
        rw [show (be8 U).take 8 = be8 U from rfl] at H1
        rw [HU.out]
        obtain ⟨A3, c3, rfl, _⟩ := H1.1.form
        rcases H1.1.2 with ⟨_, h0⟩ | ⟨g5, cap5, cur5, h5, _⟩
        · simp [be8] at h0
        · rw [h5] at H1 ⊢
          exact ⟨g5, cap5, _, rfl, rfl, H1.1, H1.2⟩
end Go.Proofs.YthfejpldhemakaaDoor
