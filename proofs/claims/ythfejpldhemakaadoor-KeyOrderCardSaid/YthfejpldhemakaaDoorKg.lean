import Derived.Test.YthfejpldhemakaaDoorKf
import Derived.Test.YthfejpldhemakaaDoorS
import Derived.Deep.RegionHeld3
namespace Go.Proofs.YthfejpldhemakaaDoor
open Go.RowKit Go.Sort Go.Lib
theorem shape_len {v : V} (h : Shape v) : (encV v).length ≤ 3 * sizeV v + 3 := by
  induction h with
  | num hk hi => rcases hk with rfl | rfl <;> simp [encV, sizeV, encN_len]
  | flag h0 h1 => simp [encV, sizeV]
  | text hk =>
    rename_i k t
    have := encT_len t.data.toList
    have e : t.data.toList.length = t.size := by simp
    rcases hk with rfl | rfl <;> simp [encV, sizeV] <;> omega
  | id ht => simp [encV, sizeV]; omega
  | list hl ih =>
    rename_i l
    have : ∀ (l : List V) (i : Nat), (∀ x ∈ l, (encV x).length ≤ 3 * sizeV x + 3) → (encL l).length ≤ 3 * sizeL l i + 1 := by
      intro l
      induction l with
      | nil => intro i _; simp [encL]
      | cons x l ih2 =>
        intro i hx
        have h1 := hx x (by simp)
        have h2 := ih2 (i + 1) (fun y hy => hx y (by simp [hy]))
        simp only [encL, sizeL, List.length_cons, List.length_append]
        omega
    have h1 := this l 0 ih
    simp [encV, sizeV]
    omega
  | doc hd ih =>
    rename_i d
    have : ∀ (d : List (ByteArray × V)), (∀ p ∈ d, (encV p.2).length ≤ 3 * sizeV p.2 + 3) → (encD d).length ≤ 3 * sizeD d + 1 := by
      intro d
      induction d with
      | nil => intro _; simp [encD]
      | cons p d ih2 =>
        obtain ⟨n, x⟩ := p
        intro hx
        have h1 := hx (n, x) (by simp)
        have h2 := ih2 (fun y hy => hx y (by simp [hy]))
        have h3 := encT_len n.data.toList
        have e : n.data.toList.length = n.size := by simp
        simp only [encD, sizeD, List.length_cons, List.length_append] at h1 ⊢
        omega
    have h1 := this d ih
    simp [encV, sizeV]
    omega
  | other h0 h1 h3 h4 h5 h6 h7 h8 h9 h10 => simp [encV, sizeV, h3, h4, h5, h6, h7, h8, h9, h10]
/-- The first j elements' bytes. -/
def encLp (l : List V) (j : Nat) : List UInt8 := (l.take j).flatMap fun x => 1 :: encV x
def encDp (d : List (ByteArray × V)) (j : Nat) : List UInt8 := (d.take j).flatMap fun p => 1 :: (encT p.1.data.toList ++ encV p.2)
theorem encL_eq : ∀ (l : List V), encL l = encLp l l.length ++ [0]
  | [] => rfl
  | x :: l => by
    rw [encL, encL_eq l]
    simp [encLp]
theorem encD_eq : ∀ (d : List (ByteArray × V)), encD d = encDp d d.length ++ [0]
  | [] => rfl
  | (n, x) :: d => by
    rw [encD, encD_eq d]
    simp [encDp]
theorem encLp_step {l : List V} {j : Nat} (hj : j < l.length) : encLp l (j + 1) = encLp l j ++ (1 :: encV l[j]) := by
  unfold encLp
  rw [List.take_succ_eq_append_getElem hj, List.flatMap_append]
  simp
theorem encDp_step {d : List (ByteArray × V)} {j : Nat} (hj : j < d.length) : encDp d (j + 1) = encDp d j ++ (1 :: (encT d[j].1.data.toList ++ encV d[j].2)) := by
  unfold encDp
  rw [List.take_succ_eq_append_getElem hj, List.flatMap_append]
  simp
theorem shape_inv {k i : Int} {t : ByteArray} {l : List V} {d : List (ByteArray × V)} (h : Shape (.mk k i t l d)) : (∀ x ∈ l, Shape x) ∧ ∀ p ∈ d, Shape p.2 := by
  cases h with
  | num => exact ⟨by simp, by simp⟩
  | flag => exact ⟨by simp, by simp⟩
  | text => exact ⟨by simp, by simp⟩
  | id => exact ⟨by simp, by simp⟩
  | list hl => exact ⟨hl, by simp⟩
  | doc hd => exact ⟨by simp, hd⟩
  | other => exact ⟨by simp, by simp⟩
/-- What put is to do for a value. -/
def PutC (v : V) : Prop := ∀ (cs : List Value) (W w : World) (sl : Value) (xs : List UInt8), RV W v cs → Below W.heap.size W w → BO w sl xs → (∀ g, sl.ownBlock = some g → W.heap.size ≤ g) → xs.length + 3 * sizeV v + 25 ≤ 1099511627776 →
  Calls Tryd.prog 78 #[sl, .agg cs.toArray] w (Put w sl (xs ++ encV v))
set_option maxRecDepth 100000 in
set_option maxHeartbeats 2000000 in
theorem put_list (i : Int) (t : ByteArray) (l : List V) (ih : ∀ x ∈ l, Shape x ∧ PutC x) (A A' : Option Addr) (nd c c' : Nat) (W w : World) (sl : Value) (xs : List UInt8) (hA : RL W l A c) (hW : Below W.heap.size W w) (hb : BO w sl xs) (hf : ∀ g, sl.ownBlock = some g → W.heap.size ≤ g) (hlen : xs.length + 3 * (5 + sizeL l 0) + 25 ≤ 1099511627776) :
    Calls Tryd.prog 78 #[sl, .agg #[.int .i64 6, .int .i64 i, .string t, .slice A l.length c, .slice A' nd c']] w (Put w sl (xs ++ (6 :: encL l))) := by
  have hlt := fun g (hg : sl.ownBlock = some g) => hb.lt hg
  have HB := Lib.hid (And.intro hb hlt)
  clear hb hlt
  have HK : Hid (∀ (o1 o2 : Obj) (w1 : World) (v' : Value), Gr ((w.alloc o1).alloc o2) w1 sl v' → w1.heap[w.heap.size]? = some o1) := Lib.hid fun o1 o2 w1 v' hg => (hg.block (by simp; omega) (fun he => by have := HB.out.2 _ he; omega)).trans (heap2_first w o1 o2 0)
  have hl0 := hA.1
  have HA := Lib.hid (And.intro hA (And.intro hW (And.intro hf ih)))
  clear hA hW hf ih
  go_enter Tryd.func78, Tryd.ntmps78
  go_wp2_with (refine wpList_app (by rfl) _ _ (by rfl) sl xs [6] (by rfl) (HB.out.1.grow (below_alloc2 _ _ _)) ⟨w.heap.size + 1, 0, none⟩ 1 (by rfl) (news1 (heap_new1 w _ _) rfl) (by simp) (by simp; omega) (xs.length + 1) (by simp) ?_; intro g1 cap1 w1 hb1 hg1; have e3 := HK.out _ _ _ _ hg1; have x0 := cell_at e3 0 _ rfl; have x3 := cell_at e3 3 _ rfl; clear e3)
  clear x0 x3 HK
  go_loopw [0, 63] (fun vv ix wr => ∃ (j : Nat), j ≤ l.length ∧ ix = .int .i64 j ∧ Hid (BO wr vv (xs ++ (6 :: encLp l j)) ∧ Gr w wr sl vv) ∧ (xs ++ (6 :: encLp l j)).length + 3 * sizeL (l.drop j) j + 35 ≤ 1099511627776) (fun _ ix _ => l.length - (RowKit.intOf ix).toNat)
  case atStart => exact ⟨0, by omega, rfl, Lib.hid ⟨hb1, hg1.pre (below_alloc2 _ _ _)⟩, by simp [encLp]; omega⟩
  case round =>
    obtain ⟨j, hj, rfl, H, hbd⟩ := hrel
    clear hb1 hg1
    have hWr : Below W.heap.size W wr := HA.out.2.1.trans (H.out.2.below HA.out.2.1.size HA.out.2.2.1)
    by_cases hlt : j < l.length
    · obtain ⟨b, off, a0, n0, a1, n1, rfl, hrv, f0, f1, f2, f3, f4⟩ := HA.out.1.get j hlt
      have f0 := cell_grow hWr f0
      have f1 := cell_grow hWr f1
      have f2 := cell_grow hWr f2
      have f3 := cell_grow hWr f3
      have f4 := cell_grow hWr f4
      obtain ⟨hsh, hput⟩ := HA.out.2.2.2 l[j] (List.getElem_mem hlt)
      have hsl := shape_len hsh
      rw [sizeL_step hlt] at hbd
      obtain ⟨ys, hys⟩ : ∃ ys, xs ++ (6 :: encLp l j) = ys := ⟨_, rfl⟩
      rw [hys] at H hbd
      have HY := Lib.hid (show ys ++ [1] ++ encV l[j] = xs ++ (6 :: encLp l (j + 1)) by rw [encLp_step hlt, ← hys]; simp)
      clear hys
      have HP := Lib.hid (And.intro hput (And.intro hrv (And.intro hWr hsl)))
      clear hput hrv hWr hsl hsh
      go_wp2_with fail
      generalize hW4 : World.alloc wr _ = W4
      have d4 : Below wr.heap.size wr W4 := by rw [← hW4]; exact below_alloc1 _ _
      have hs4 : W4.heap.size = wr.heap.size + 1 := by rw [← hW4]; simp
      have e8 : W4.heap[wr.heap.size]? = some (.cells #[.int .i64 l[j].k, .int .i64 l[j].i, .string l[j].t, .slice a0 l[j].l.length n0, .slice a1 l[j].d.length n1] 25 (0, 0)) := by rw [← hW4, heap_alloc_new]
      have HG : Hid (∀ (u : World) (v : Value), Gr W4 u u0 v → u.cell? ⟨wr.heap.size, 0, none⟩ = some (.int .i64 l[j].k) ∧ u.cell? ⟨wr.heap.size, 1, none⟩ = some (.int .i64 l[j].i) ∧ u.cell? ⟨wr.heap.size, 2, none⟩ = some (.string l[j].t) ∧ u.cell? ⟨wr.heap.size, 3, none⟩ = some (.slice a0 l[j].l.length n0) ∧ u.cell? ⟨wr.heap.size, 4, none⟩ = some (.slice a1 l[j].d.length n1)) := Lib.hid fun u v hg => by
        have e := (hg.block (q := wr.heap.size) (by omega) (fun he => by have := H.out.1.lt he; omega)).trans e8
        exact ⟨cell_at e 0 _ rfl, cell_at e 1 _ rfl, cell_at e 2 _ rfl, cell_at e 3 _ rfl, cell_at e 4 _ rfl⟩
      have HD := Lib.hid (And.intro d4 (And.intro (H.out.1.grow d4) hs4))
      have HS0 : Hid (W4.drew.cell? ⟨wr.heap.size, 0, none⟩ = some (.int .i64 l[j].k) ∧ W4.drew.cell? ⟨wr.heap.size, 1, none⟩ = some (.int .i64 l[j].i) ∧ W4.drew.cell? ⟨wr.heap.size, 2, none⟩ = some (.string l[j].t) ∧ W4.drew.cell? ⟨wr.heap.size, 3, none⟩ = some (.slice a0 l[j].l.length n0) ∧ W4.drew.cell? ⟨wr.heap.size, 4, none⟩ = some (.slice a1 l[j].d.length n1)) := Lib.hid (HG.out W4.drew u0 ((Gr.refl W4 u0).post (Below.refl _ _).drew))
      have HSA : Hid (∀ o, (W4.alloc o).drew.cell? ⟨wr.heap.size, 0, none⟩ = some (.int .i64 l[j].k) ∧ (W4.alloc o).drew.cell? ⟨wr.heap.size, 1, none⟩ = some (.int .i64 l[j].i) ∧ (W4.alloc o).drew.cell? ⟨wr.heap.size, 2, none⟩ = some (.string l[j].t) ∧ (W4.alloc o).drew.cell? ⟨wr.heap.size, 3, none⟩ = some (.slice a0 l[j].l.length n0) ∧ (W4.alloc o).drew.cell? ⟨wr.heap.size, 4, none⟩ = some (.slice a1 l[j].d.length n1)) := Lib.hid fun o => (HG.out _ u0 ((Gr.refl W4 u0).post (below_alloc1 W4 o).drew))
      clear hW4 e8 d4 hs4 f0 f1 f2 f3 f4
      go_region_held3 (fun u => u.cell? ⟨wr.heap.size, 0, none⟩ = some (.int .i64 l[j].k) ∧ u.cell? ⟨wr.heap.size, 1, none⟩ = some (.int .i64 l[j].i) ∧ u.cell? ⟨wr.heap.size, 2, none⟩ = some (.string l[j].t) ∧ u.cell? ⟨wr.heap.size, 3, none⟩ = some (.slice a0 l[j].l.length n0) ∧ u.cell? ⟨wr.heap.size, 4, none⟩ = some (.slice a1 l[j].d.length n1))
        (first | with_reducible exact HS0.out | with_reducible exact HSA.out _ | with_reducible exact hS1 | with_reducible exact hS2)
        (first | ((refine step_app (by rfl) _ _ (by rfl) u0 ys [1] (by rfl) (HD.out.2.1.grow (below_alloc1 _ _).drew) ⟨W4.heap.size, 0, none⟩ 1 (by rfl) (news1 (w := World.drew _) (heap_alloc_new W4 _) rfl) (by simp) (by simp; omega) (ys.length + 1) (by simp) ?_; intro g1 cap1 w1 hb1 hg1; have hgA := hg1.pre (below_alloc1 W4 _).drew; have hS1 := HG.out _ _ hgA; have H1 := Lib.hid (And.intro hb1 hgA); clear hb1 hg1 hgA)) | ((go_at_call 78; refine (HP.out.1 _ W w1 _ (ys ++ [1]) HP.out.2.1 (HP.out.2.2.1.trans ((H1.out.2.pre HD.out.1).below HP.out.2.2.1.size (H.out.2.from_ HA.out.2.1.size HA.out.2.2.1))) H1.out.1 ((H1.out.2.pre HD.out.1).from_ HP.out.2.2.1.size (H.out.2.from_ HA.out.2.1.size HA.out.2.2.1)) (by simp; omega)).mono ?_; rintro e w2 ⟨g2, cap2, n2, hn2, rfl, hb2, hg2⟩; have hgB := H1.out.2.trans hg2; have hS2 := HG.out _ _ hgB; have H2 := Lib.hid (And.intro hn2 (And.intro hb2 hgB)); clear hn2 hb2 hg2 hgB)))
      go_wp2_with fail
      go_roundw
      case rel =>
        obtain ⟨hn2, hb2, hgB⟩ := H2.out
        refine ⟨j + 1, by omega, by go_num, Lib.hid ⟨by rw [← HY.out]; exact hb2, H.out.2.trans (hgB.pre HD.out.1)⟩, ?_⟩
        rw [← HY.out]
        have := HP.out.2.2.2
        simp only [List.length_append, List.length_cons, List.length_nil]
        omega
      case measure => simp [RowKit.intOf]; omega
    · obtain rfl : j = l.length := by omega
      have HY := Lib.hid (show xs ++ (6 :: encLp l l.length) ++ [0] = xs ++ (6 :: encL l) by rw [encL_eq]; simp)
      obtain ⟨ys, hys⟩ : ∃ ys, xs ++ (6 :: encLp l l.length) = ys := ⟨_, rfl⟩
      rw [hys] at H hbd HY
      clear hys
      go_wp2_with (refine wpList_app (by rfl) _ _ (by rfl) u0 ys [0] (by rfl) (H.out.1.grow (below_alloc1 _ _)) ⟨wr.heap.size, 0, none⟩ 1 (by rfl) (news1 (heap_alloc_new wr _) rfl) (by simp) (by simp; omega) (ys.length + 1) (by simp) ?_; intro g1 cap1 w2 hb2 hg2)
      go_ret
      exact put_done (by rw [← HY.out]; exact hb2) (H.out.2.trans (hg2.pre (below_alloc1 _ _))) (by simp; omega)
set_option maxRecDepth 100000 in
set_option maxHeartbeats 2000000 in
theorem put_doc (i : Int) (t : ByteArray) (l : List (ByteArray × V)) (ih : ∀ p ∈ l, Shape p.2 ∧ PutC p.2) (A A' : Option Addr) (nd c c' : Nat) (W w : World) (sl : Value) (xs : List UInt8) (hA : RD W l A c) (hW : Below W.heap.size W w) (hb : BO w sl xs) (hf : ∀ g, sl.ownBlock = some g → W.heap.size ≤ g) (hlen : xs.length + 3 * (5 + sizeD l) + 25 ≤ 1099511627776) :
    Calls Tryd.prog 78 #[sl, .agg #[.int .i64 5, .int .i64 i, .string t, .slice A' nd c', .slice A l.length c]] w (Put w sl (xs ++ (5 :: encD l))) := by
  have hlt := fun g (hg : sl.ownBlock = some g) => hb.lt hg
  have HB := Lib.hid (And.intro hb hlt)
  clear hb hlt
  have HK : Hid (∀ (o1 o2 : Obj) (w1 : World) (v' : Value), Gr ((w.alloc o1).alloc o2) w1 sl v' → w1.heap[w.heap.size]? = some o1) := Lib.hid fun o1 o2 w1 v' hg => (hg.block (by simp; omega) (fun he => by have := HB.out.2 _ he; omega)).trans (heap2_first w o1 o2 0)
  have hl0 := hA.1
  have HA := Lib.hid (And.intro hA (And.intro hW (And.intro hf ih)))
  clear hA hW hf ih
  go_enter Tryd.func78, Tryd.ntmps78
  go_wp2_with (refine wpList_app (by rfl) _ _ (by rfl) sl xs [5] (by rfl) (HB.out.1.grow (below_alloc2 _ _ _)) ⟨w.heap.size + 1, 0, none⟩ 1 (by rfl) (news1 (heap_new1 w _ _) rfl) (by simp) (by simp; omega) (xs.length + 1) (by simp) ?_; intro g1 cap1 w1 hb1 hg1; have e3 := HK.out _ _ _ _ hg1; have x0 := cell_at e3 0 _ rfl; have x4 := cell_at e3 4 _ rfl; clear e3)
  clear x0 x4 HK
  go_loopw [0, 81] (fun vv ix wr => ∃ (j : Nat), j ≤ l.length ∧ ix = .int .i64 j ∧ Hid (BO wr vv (xs ++ (5 :: encDp l j)) ∧ Gr w wr sl vv) ∧ (xs ++ (5 :: encDp l j)).length + 3 * sizeD (l.drop j) + 35 ≤ 1099511627776) (fun _ ix _ => l.length - (RowKit.intOf ix).toNat)
  case atStart => exact ⟨0, by omega, rfl, Lib.hid ⟨hb1, hg1.pre (below_alloc2 _ _ _)⟩, by simp [encDp]; omega⟩
  case round =>
    obtain ⟨j, hj, rfl, H, hbd⟩ := hrel
    clear hb1 hg1
    have hWr : Below W.heap.size W wr := HA.out.2.1.trans (H.out.2.below HA.out.2.1.size HA.out.2.2.1)
    by_cases hlt : j < l.length
    · obtain ⟨b, off, a0, n0, a1, n1, rfl, hnm, hrv, f0, f1, f2, f3, f4, f5⟩ := HA.out.1.get j hlt
      have f0 := cell_grow hWr f0
      have f1 := cell_grow hWr f1
      have f2 := cell_grow hWr f2
      have f3 := cell_grow hWr f3
      have f4 := cell_grow hWr f4
      have f5 := cell_grow hWr f5
      obtain ⟨hsh, hput⟩ := HA.out.2.2.2 l[j] (List.getElem_mem hlt)
      have hsl := shape_len hsh
      have htl := encT_len l[j].1.data.toList
      have hts : l[j].1.data.toList.length = l[j].1.size := by simp
      rw [hts] at htl
      have HT := Lib.hid htl
      clear htl hts
      rw [sizeD_step hlt] at hbd
      obtain ⟨ys, hys⟩ : ∃ ys, xs ++ (5 :: encDp l j) = ys := ⟨_, rfl⟩
      rw [hys] at H hbd
      have HY := Lib.hid (show ys ++ [1] ++ encT l[j].1.data.toList ++ encV l[j].2 = xs ++ (5 :: encDp l (j + 1)) by rw [encDp_step hlt, ← hys]; simp)
      clear hys
      have HP := Lib.hid (And.intro hput (And.intro hrv (And.intro hWr hsl)))
      clear hput hrv hWr hsl hsh
      go_wp2_with fail
      generalize hW4 : World.alloc wr _ = W4
      have d4 : Below wr.heap.size wr W4 := by rw [← hW4]; exact below_alloc1 _ _
      have hs4 : W4.heap.size = wr.heap.size + 1 := by rw [← hW4]; simp
      have e8 : W4.heap[wr.heap.size]? = some (.cells #[.string l[j].1, .int .i64 l[j].2.k, .int .i64 l[j].2.i, .string l[j].2.t, .slice a0 l[j].2.l.length n0, .slice a1 l[j].2.d.length n1] 72 (0, 0)) := by rw [← hW4, heap_alloc_new]
      have HG : Hid (∀ (u : World) (v : Value), Gr W4 u u0 v → u.cell? ⟨wr.heap.size, 0, none⟩ = some (.string l[j].1) ∧ u.cell? ⟨wr.heap.size, 1, none⟩ = some (.int .i64 l[j].2.k) ∧ u.cell? ⟨wr.heap.size, 2, none⟩ = some (.int .i64 l[j].2.i) ∧ u.cell? ⟨wr.heap.size, 3, none⟩ = some (.string l[j].2.t) ∧ u.cell? ⟨wr.heap.size, 4, none⟩ = some (.slice a0 l[j].2.l.length n0) ∧ u.cell? ⟨wr.heap.size, 5, none⟩ = some (.slice a1 l[j].2.d.length n1)) := Lib.hid fun u v hg => by
        have e := (hg.block (q := wr.heap.size) (by omega) (fun he => by have := H.out.1.lt he; omega)).trans e8
        exact ⟨cell_at e 0 _ rfl, cell_at e 1 _ rfl, cell_at e 2 _ rfl, cell_at e 3 _ rfl, cell_at e 4 _ rfl, cell_at e 5 _ rfl⟩
      have HD := Lib.hid (And.intro d4 (And.intro (H.out.1.grow d4) hs4))
      have HS0 : Hid (W4.drew.cell? ⟨wr.heap.size, 0, none⟩ = some (.string l[j].1) ∧ W4.drew.cell? ⟨wr.heap.size, 1, none⟩ = some (.int .i64 l[j].2.k) ∧ W4.drew.cell? ⟨wr.heap.size, 2, none⟩ = some (.int .i64 l[j].2.i) ∧ W4.drew.cell? ⟨wr.heap.size, 3, none⟩ = some (.string l[j].2.t) ∧ W4.drew.cell? ⟨wr.heap.size, 4, none⟩ = some (.slice a0 l[j].2.l.length n0) ∧ W4.drew.cell? ⟨wr.heap.size, 5, none⟩ = some (.slice a1 l[j].2.d.length n1)) := Lib.hid (HG.out W4.drew u0 ((Gr.refl W4 u0).post (Below.refl _ _).drew))
      have HSA : Hid (∀ o, (W4.alloc o).drew.cell? ⟨wr.heap.size, 0, none⟩ = some (.string l[j].1) ∧ (W4.alloc o).drew.cell? ⟨wr.heap.size, 1, none⟩ = some (.int .i64 l[j].2.k) ∧ (W4.alloc o).drew.cell? ⟨wr.heap.size, 2, none⟩ = some (.int .i64 l[j].2.i) ∧ (W4.alloc o).drew.cell? ⟨wr.heap.size, 3, none⟩ = some (.string l[j].2.t) ∧ (W4.alloc o).drew.cell? ⟨wr.heap.size, 4, none⟩ = some (.slice a0 l[j].2.l.length n0) ∧ (W4.alloc o).drew.cell? ⟨wr.heap.size, 5, none⟩ = some (.slice a1 l[j].2.d.length n1)) := Lib.hid fun o => (HG.out _ u0 ((Gr.refl W4 u0).post (below_alloc1 W4 o).drew))
      clear hW4 e8 d4 hs4 f0 f1 f2 f3 f4 f5
      go_region_held3 (fun u => u.cell? ⟨wr.heap.size, 0, none⟩ = some (.string l[j].1) ∧ u.cell? ⟨wr.heap.size, 1, none⟩ = some (.int .i64 l[j].2.k) ∧ u.cell? ⟨wr.heap.size, 2, none⟩ = some (.int .i64 l[j].2.i) ∧ u.cell? ⟨wr.heap.size, 3, none⟩ = some (.string l[j].2.t) ∧ u.cell? ⟨wr.heap.size, 4, none⟩ = some (.slice a0 l[j].2.l.length n0) ∧ u.cell? ⟨wr.heap.size, 5, none⟩ = some (.slice a1 l[j].2.d.length n1))
        (first | with_reducible exact HS0.out | with_reducible exact HSA.out _ | with_reducible exact hS1 | with_reducible exact hS2 | with_reducible exact hS3)
        (first | ((refine step_app (by rfl) _ _ (by rfl) u0 ys [1] (by rfl) (HD.out.2.1.grow (below_alloc1 _ _).drew) ⟨W4.heap.size, 0, none⟩ 1 (by rfl) (news1 (w := World.drew _) (heap_alloc_new W4 _) rfl) (by simp) (by simp; omega) (ys.length + 1) (by simp) ?_; intro g1 cap1 w1 hb1 hg1; have hgA := hg1.pre (below_alloc1 W4 _).drew; have hS1 := HG.out _ _ hgA; have H1 := Lib.hid (And.intro hb1 hgA); clear hb1 hg1 hgA)) | ((go_at_call 100; refine (text_c l[j].1 _ (ys ++ [1]) w1 H1.out.1 (by simp; omega)).mono ?_; rintro e w2 ⟨g2, cap2, n2, hn2, rfl, hb2, hg2⟩; have hgB := H1.out.2.trans hg2; have hS2 := HG.out _ _ hgB; have H2 := Lib.hid (And.intro hn2 (And.intro hb2 hgB)); clear hn2 hb2 hg2 hgB)) | ((go_at_call 78; refine (HP.out.1 _ W w2 _ (ys ++ [1] ++ encT l[j].1.data.toList) HP.out.2.1 (HP.out.2.2.1.trans ((H2.out.2.2.pre HD.out.1).below HP.out.2.2.1.size (H.out.2.from_ HA.out.2.1.size HA.out.2.2.1))) H2.out.2.1 ((H2.out.2.2.pre HD.out.1).from_ HP.out.2.2.1.size (H.out.2.from_ HA.out.2.1.size HA.out.2.2.1)) (by have := HT.out; simp only [List.length_append, List.length_cons, List.length_nil]; omega)).mono ?_; rintro e w3 ⟨g3, cap3, n3, hn3, rfl, hb3, hg3⟩; have hgC := H2.out.2.2.trans hg3; have hS3 := HG.out _ _ hgC; have H3 := Lib.hid (And.intro hn3 (And.intro hb3 hgC)); clear hn3 hb3 hg3 hgC)))
      go_wp2_with fail
      go_roundw
      case rel =>
        obtain ⟨hn2, hb2, hgB⟩ := H3.out
        have htl := HT.out
        refine ⟨j + 1, by omega, by go_num, Lib.hid ⟨by rw [← HY.out]; exact hb2, H.out.2.trans (hgB.pre HD.out.1)⟩, ?_⟩
        rw [← HY.out]
        have := HP.out.2.2.2
        simp only [List.length_append, List.length_cons, List.length_nil]
        omega
      case measure => simp [RowKit.intOf]; omega
    · obtain rfl : j = l.length := by omega
      have HY := Lib.hid (show xs ++ (5 :: encDp l l.length) ++ [0] = xs ++ (5 :: encD l) by rw [encD_eq]; simp)
      obtain ⟨ys, hys⟩ : ∃ ys, xs ++ (5 :: encDp l l.length) = ys := ⟨_, rfl⟩
      rw [hys] at H hbd HY
      clear hys
      go_wp2_with (refine wpList_app (by rfl) _ _ (by rfl) u0 ys [0] (by rfl) (H.out.1.grow (below_alloc1 _ _)) ⟨wr.heap.size, 0, none⟩ 1 (by rfl) (news1 (heap_alloc_new wr _) rfl) (by simp) (by simp; omega) (ys.length + 1) (by simp) ?_; intro g1 cap1 w2 hb2 hg2)
      go_ret
      exact put_done (by rw [← HY.out]; exact hb2) (H.out.2.trans (hg2.pre (below_alloc1 _ _))) (by simp; omega)
theorem put_c {v : V} (h : Shape v) : PutC v := by
  induction h with
  | num hk hi =>
    intro cs W w sl xs hv hW hb hf hlen
    obtain ⟨A, c, A', c', rfl, _, _, _, _, _⟩ := hv.inv
    have := put_num _ _ hk hi ByteArray.empty A A' 0 0 c c' sl xs w hb (by rcases hk with rfl | rfl <;> simp [sizeV] at hlen <;> omega)
    rcases hk with rfl | rfl <;> exact this
  | flag h0 h1 =>
    intro cs W w sl xs hv hW hb hf hlen
    obtain ⟨A, c, A', c', rfl, _, _, _, _, _⟩ := hv.inv
    exact put_flag _ h0 h1 ByteArray.empty A A' 0 0 c c' sl xs w hb (by simp [sizeV] at hlen; omega)
  | text hk =>
    rename_i k t
    intro cs W w sl xs hv hW hb hf hlen
    obtain ⟨A, c, A', c', rfl, _, _, _, _, _⟩ := hv.inv
    have := put_text _ 0 hk t A A' 0 0 c c' sl xs w hb (by rcases hk with rfl | rfl <;> simp [sizeV] at hlen <;> omega)
    rcases hk with rfl | rfl <;> exact this
  | id ht =>
    intro cs W w sl xs hv hW hb hf hlen
    obtain ⟨A, c, A', c', rfl, _, _, _, _, _⟩ := hv.inv
    exact put_id 0 _ ht A A' 0 0 c c' sl xs w hb (by simp [sizeV] at hlen; omega)
  | list hl ih =>
    intro cs W w sl xs hv hW hb hf hlen
    obtain ⟨A, c, A', c', rfl, _, _, _, hA, _⟩ := hv.inv
    exact put_list 0 ByteArray.empty _ (fun x hx => ⟨hl x hx, ih x hx⟩) A A' 0 c c' W w sl xs hA hW hb hf (by simpa [sizeV] using hlen)
  | doc hd ih =>
    intro cs W w sl xs hv hW hb hf hlen
    obtain ⟨A, c, A', c', rfl, _, _, _, _, hD⟩ := hv.inv
    exact put_doc 0 ByteArray.empty _ (fun p hp => ⟨hd p hp, ih p hp⟩) A' A 0 c' c W w sl xs hD hW hb hf (by simpa [sizeV] using hlen)
  | other h0 h1 h3 h4 h5 h6 h7 h8 h9 h10 =>
    rename_i k
    intro cs W w sl xs hv hW hb hf hlen
    obtain ⟨A, c, A', c', rfl, _, _, _, _, _⟩ := hv.inv
    have := put_other k 0 h0 h1 h3 h4 h5 h6 h7 h8 h9 h10 ByteArray.empty A A' 0 0 c c' sl xs w hb (by omega)
    rw [show encV (.mk k 0 ByteArray.empty [] []) = [UInt8.ofNat k.toNat] by simp [encV, h3, h4, h5, h6, h7, h8, h9, h10]]
    exact this
end Go.Proofs.YthfejpldhemakaaDoor
