import Derived.Test.YthfejpldhemakaaDoorKe
namespace Go.Proofs.YthfejpldhemakaaDoor
open Go.RowKit Go.Sort Go.Lib
theorem BO.long {w : World} {v : Value} {xs : List UInt8} (h : BO w v xs) (hx : 0 < xs.length) : ∃ g cap, v = .slice (some ⟨g, 0, none⟩) xs.length cap := by
  obtain ⟨g, cap, e, _⟩ := World.ownsRow.form h hx
  exact ⟨g, cap, e⟩
theorem put_done {w w' : World} {sl v : Value} {ys : List UInt8} (hb : BO w' v ys) (hg : Gr w w' sl v) (hy : 0 < ys.length) : Put w sl ys (.returned v) w' := by
  obtain ⟨g, cap, rfl⟩ := hb.long hy
  exact ⟨g, cap, _, rfl, rfl, hb, hg⟩
set_option maxRecDepth 100000 in
set_option maxHeartbeats 1000000 in
theorem put_flag (i : Int) (h0 : 0 ≤ i) (h1 : i ≤ 255) (t : ByteArray) (A A' : Option Addr) (nl nd c c' : Nat) (sl : Value) (xs : List UInt8) (w : World) (hb : BO w sl xs) (hlen : xs.length + 10 ≤ 1099511627776) :
    Calls Tryd.prog 78 #[sl, .agg #[.int .i64 9, .int .i64 i, .string t, .slice A nl c, .slice A' nd c']] w (Put w sl (xs ++ [9, UInt8.ofNat i.toNat])) := by
  have hlt := fun g (hg : sl.ownBlock = some g) => hb.lt hg
  have HB := Lib.hid (And.intro hb hlt)
  clear hb hlt
  have HK : Hid (∀ (o1 o2 : Obj) (w1 : World) (v' : Value), Gr ((w.alloc o1).alloc o2) w1 sl v' → w1.heap[w.heap.size]? = some o1) := Lib.hid fun o1 o2 w1 v' hg => (hg.block (by simp; omega) (fun he => by have := HB.out.2 _ he; omega)).trans (heap2_first w o1 o2 0)
  go_enter Tryd.func78, Tryd.ntmps78
  go_wp2_with (first | (refine wpList_app (by rfl) _ _ (by rfl) sl xs [9] (by rfl) (HB.out.1.grow (below_alloc2 _ _ _)) ⟨w.heap.size + 1, 0, none⟩ 1 (by rfl) (news1 (heap_new1 w _ _) rfl) (by simp) (by simp; omega) (xs.length + 1) (by simp) ?_; intro g1 cap1 w1 hb1 hg1; have e3 := HK.out _ _ _ _ hg1; have x0 := cell_at e3 0 _ rfl; have x1 := cell_at e3 1 _ rfl; clear e3) | (refine wpList_app (by rfl) _ _ (by rfl) (.slice (some ⟨g1, 0, none⟩) (xs.length + 1) cap1) (xs ++ [9]) [UInt8.ofNat i.toNat] (by rfl) (hb1.grow (below_alloc1 _ _)) ⟨w1.heap.size, 0, none⟩ 1 (by rfl) (news1 (heap_alloc_new w1 _) (by rw [UInt8.toNat_ofNat']; omega)) (by simp) (by simp; omega) (xs.length + 1 + 1) (by simp) ?_; intro g3 cap3 w3 hb3 hg3))
  go_ret
  exact put_done (by simpa using hb3) ((hg1.pre (below_alloc2 _ _ _)).trans (hg3.pre (below_alloc1 _ _))) (by simp)
set_option maxRecDepth 100000 in
set_option maxHeartbeats 1000000 in
theorem put_text (k i : Int) (hk : k = 4 ∨ k = 7) (t : ByteArray) (A A' : Option Addr) (nl nd c c' : Nat) (sl : Value) (xs : List UInt8) (w : World) (hb : BO w sl xs) (hlen : xs.length + 2 * t.size + 10 ≤ 1099511627776) :
    Calls Tryd.prog 78 #[sl, .agg #[.int .i64 k, .int .i64 i, .string t, .slice A nl c, .slice A' nd c']] w (Put w sl (xs ++ (UInt8.ofNat k.toNat :: encT t.data.toList))) := by
  have hlt := fun g (hg : sl.ownBlock = some g) => hb.lt hg
  have HB := Lib.hid (And.intro hb hlt)
  clear hb hlt
  have HK : Hid (∀ (o1 o2 : Obj) (w1 : World) (v' : Value), Gr ((w.alloc o1).alloc o2) w1 sl v' → w1.heap[w.heap.size]? = some o1) := Lib.hid fun o1 o2 w1 v' hg => (hg.block (by simp; omega) (fun he => by have := HB.out.2 _ he; omega)).trans (heap2_first w o1 o2 0)
  have htx := text_c t
  rcases hk with rfl | rfl
  · go_enter Tryd.func78, Tryd.ntmps78
    go_wp2_with (refine wpList_app (by rfl) _ _ (by rfl) sl xs [4] (by rfl) (HB.out.1.grow (below_alloc2 _ _ _)) ⟨w.heap.size + 1, 0, none⟩ 1 (by rfl) (news1 (heap_new1 w _ _) rfl) (by simp) (by simp; omega) (xs.length + 1) (by simp) ?_; intro g1 cap1 w1 hb1 hg1; have e3 := HK.out _ _ _ _ hg1; have x0 := cell_at e3 0 _ rfl; have x2 := cell_at e3 2 _ rfl; clear e3)
    refine (htx _ (xs ++ [4]) w1 hb1 (by simp; omega)).mono ?_
    rintro e w2 ⟨g2, cap2, n, hn, rfl, hb2, hg2⟩
    have HN := Lib.hid hn
    clear hn
    go_wp2_with fail
    go_ret
    exact put_done (by rw [show xs ++ (UInt8.ofNat (4 : Int).toNat :: encT t.data.toList) = xs ++ [4] ++ encT t.data.toList by simp]; exact hb2) ((hg1.pre (below_alloc2 _ _ _)).trans hg2) (by simp; omega)
  · go_enter Tryd.func78, Tryd.ntmps78
    go_wp2_with (refine wpList_app (by rfl) _ _ (by rfl) sl xs [7] (by rfl) (HB.out.1.grow (below_alloc2 _ _ _)) ⟨w.heap.size + 1, 0, none⟩ 1 (by rfl) (news1 (heap_new1 w _ _) rfl) (by simp) (by simp; omega) (xs.length + 1) (by simp) ?_; intro g1 cap1 w1 hb1 hg1; have e3 := HK.out _ _ _ _ hg1; have x0 := cell_at e3 0 _ rfl; have x2 := cell_at e3 2 _ rfl; clear e3)
    refine (htx _ (xs ++ [7]) w1 hb1 (by simp; omega)).mono ?_
    rintro e w2 ⟨g2, cap2, n, hn, rfl, hb2, hg2⟩
    have HN := Lib.hid hn
    clear hn
    go_wp2_with fail
    go_ret
    exact put_done (by rw [show xs ++ (UInt8.ofNat (7 : Int).toNat :: encT t.data.toList) = xs ++ [7] ++ encT t.data.toList by simp]; exact hb2) ((hg1.pre (below_alloc2 _ _ _)).trans hg2) (by simp; omega)
set_option maxRecDepth 100000 in
set_option maxHeartbeats 1000000 in
theorem put_id (i : Int) (t : ByteArray) (ht : t.size = 12) (A A' : Option Addr) (nl nd c c' : Nat) (sl : Value) (xs : List UInt8) (w : World) (hb : BO w sl xs) (hlen : xs.length + 20 ≤ 1099511627776) :
    Calls Tryd.prog 78 #[sl, .agg #[.int .i64 8, .int .i64 i, .string t, .slice A nl c, .slice A' nd c']] w (Put w sl (xs ++ (8 :: t.data.toList))) := by
  have hlt := fun g (hg : sl.ownBlock = some g) => hb.lt hg
  have HB := Lib.hid (And.intro hb hlt)
  clear hb hlt
  have HK : Hid (∀ (o1 o2 : Obj) (w1 : World) (v' : Value), Gr ((w.alloc o1).alloc o2) w1 sl v' → w1.heap[w.heap.size]? = some o1) := Lib.hid fun o1 o2 w1 v' hg => (hg.block (by simp; omega) (fun he => by have := HB.out.2 _ he; omega)).trans (heap2_first w o1 o2 0)
  have HT := Lib.hid ht
  clear ht
  go_enter Tryd.func78, Tryd.ntmps78
  go_wp2_with (first | (refine wpList_app (by rfl) _ _ (by rfl) sl xs [8] (by rfl) (HB.out.1.grow (below_alloc2 _ _ _)) ⟨w.heap.size + 1, 0, none⟩ 1 (by rfl) (news1 (heap_new1 w _ _) rfl) (by simp) (by simp; omega) (xs.length + 1) (by simp) ?_; intro g1 cap1 w1 hb1 hg1; have e3 := HK.out _ _ _ _ hg1; have x0 := cell_at e3 0 _ rfl; have x2 := cell_at e3 2 _ rfl; clear e3) | (refine wpList_appS (by rfl) _ _ (by rfl) (.slice (some ⟨g1, 0, none⟩) (xs.length + 1) cap1) (xs ++ [8]) (by rfl) hb1 t (by rfl) (by rw [HT.out]; omega) (by rw [HT.out]; simp; omega) (xs.length + 1 + 12) (by rw [HT.out]; simp) ?_; intro g3 cap3 w3 hb3 hg3))
  go_ret
  exact put_done (by rw [show xs ++ (8 :: t.data.toList) = xs ++ [8] ++ t.data.toList by simp]; exact hb3) ((hg1.pre (below_alloc2 _ _ _)).trans hg3) (by simp; omega)
set_option maxRecDepth 100000 in
set_option maxHeartbeats 1000000 in
theorem put_other (k i : Int) (h0 : 0 ≤ k) (h1 : k ≤ 255) (h3 : k ≠ 3) (h4 : k ≠ 4) (h5 : k ≠ 5) (h6 : k ≠ 6) (h7 : k ≠ 7) (h8 : k ≠ 8) (h9 : k ≠ 9) (h10 : k ≠ 10) (t : ByteArray) (A A' : Option Addr) (nl nd c c' : Nat) (sl : Value) (xs : List UInt8) (w : World) (hb : BO w sl xs) (hlen : xs.length + 20 ≤ 1099511627776) :
    Calls Tryd.prog 78 #[sl, .agg #[.int .i64 k, .int .i64 i, .string t, .slice A nl c, .slice A' nd c']] w (Put w sl (xs ++ [UInt8.ofNat k.toNat])) := by
  have hlt := fun g (hg : sl.ownBlock = some g) => hb.lt hg
  have HB := Lib.hid (And.intro hb hlt)
  clear hb hlt
  have HK : Hid (∀ (o1 o2 : Obj) (w1 : World) (v' : Value), Gr ((w.alloc o1).alloc o2) w1 sl v' → w1.heap[w.heap.size]? = some o1) := Lib.hid fun o1 o2 w1 v' hg => (hg.block (by simp; omega) (fun he => by have := HB.out.2 _ he; omega)).trans (heap2_first w o1 o2 0)
  have e3 : (k == 3) = false := by simpa using h3
  have e4 : (k == 4) = false := by simpa using h4
  have e5 : (k == 5) = false := by simpa using h5
  have e6 : (k == 6) = false := by simpa using h6
  have e7 : (k == 7) = false := by simpa using h7
  have e8 : (k == 8) = false := by simpa using h8
  have e9 : (k == 9) = false := by simpa using h9
  have e10 : (k == 10) = false := by simpa using h10
  clear h3 h4 h5 h6 h7 h8 h9 h10
  go_enter Tryd.func78, Tryd.ntmps78
  go_wp2_with (refine wpList_app (by rfl) _ _ (by rfl) sl xs [UInt8.ofNat k.toNat] (by rfl) (HB.out.1.grow (below_alloc2 _ _ _)) ⟨w.heap.size + 1, 0, none⟩ 1 (by rfl) (news1 (heap_new1 w _ _) (by rw [UInt8.toNat_ofNat']; omega)) (by simp) (by simp; omega) (xs.length + 1) (by simp) ?_; intro g1 cap1 w1 hb1 hg1; have e3 := HK.out _ _ _ _ hg1; have x0 := cell_at e3 0 _ rfl; clear e3)
  go_ret
  exact put_done hb1 (hg1.pre (below_alloc2 _ _ _)) (by simp)
end Go.Proofs.YthfejpldhemakaaDoor
