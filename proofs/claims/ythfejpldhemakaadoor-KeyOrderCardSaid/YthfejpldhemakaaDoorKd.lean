import Derived.Test.YthfejpldhemakaaDoorKb
import Derived.Laws.IdiomStrings
namespace Go.Proofs.YthfejpldhemakaaDoor
open Go.RowKit Go.Sort Go.Lib
/-- A text's bytes, without its end. -/
def encB (s : List UInt8) : List UInt8 := s.flatMap fun c => if c = 0 then [0, 255] else [c]
theorem encT_eq (s : List UInt8) : encT s = encB s ++ [0, 0] := by
  induction s with
  | nil => rfl
  | cons c s ih =>
    by_cases h : c = 0
    · simp [encT, encB, h, ih]
    · simp [encT, encB, h, ih]
theorem encB_len (s : List UInt8) : (encB s).length ≤ 2 * s.length := by
  have := encT_len s
  rw [encT_eq] at this
  simp at this
  omega
theorem encB_yes {s : List UInt8} {j : Nat} (hj : j < s.length) (h : s[j] = 0) : encB (s.take (j + 1)) = encB (s.take j) ++ [0, 255] := by
  rw [List.take_succ_eq_append_getElem hj]
  simp [encB, h]
theorem encB_no {s : List UInt8} {j : Nat} (hj : j < s.length) (h : ¬ s[j] = 0) : encB (s.take (j + 1)) = encB (s.take j) ++ [s[j]] := by
  rw [List.take_succ_eq_append_getElem hj, encB, List.flatMap_append, List.flatMap_cons, if_neg h]
  rfl
/-- What a call answers that puts bytes behind those of sl. -/
def Put (w : World) (sl : Value) (ys : List UInt8) (e : Ending) (w' : World) : Prop :=
  ∃ g cap n, n = ys.length ∧ e = .returned (.slice (some ⟨g, 0, none⟩) n cap) ∧ BO w' (.slice (some ⟨g, 0, none⟩) n cap) ys ∧ Gr w w' sl (.slice (some ⟨g, 0, none⟩) n cap)
theorem u8_eq {a b : UInt8} (h : a = b) : ((a.toNat : Int) == (b.toNat : Int)) = true := by subst h; simp
theorem u8_ne {a b : UInt8} (h : ¬ a = b) : ((a.toNat : Int) == (b.toNat : Int)) = false := by
  rw [beq_eq_false_iff_ne]
  intro he
  apply h
  apply UInt8.toNat_inj.1
  omega
theorem u8_ne0 {a : UInt8} (h : ¬ a = 0) : ((a.toNat : Int) == 0) = false := u8_ne (b := 0) h
set_option maxRecDepth 100000 in
set_option maxHeartbeats 1000000 in
theorem text_c (s : ByteArray) (sl : Value) (xs : List UInt8) (w : World) (hb : BO w sl xs) (hlen : xs.length + 2 * s.size + 2 ≤ 1099511627776) :
    Calls Tryd.prog 100 #[sl, .string s] w (Put w sl (xs ++ encT s.data.toList)) := by
  have hcv := fun w => run_bytes_of_string (P := Tryd.prog) w 9 42 5 s Tryd.underlying9 Tryd.underlying42 Tryd.underlying5
  have hlt := fun g (hg : sl.ownBlock = some g) => hb.lt hg
  have hsz : s.data.toList.length = s.size := by simp
  have HB := Lib.hid (And.intro hb (And.intro hlt hsz))
  clear hb hlt hsz
  go_enter Tryd.func100, Tryd.ntmps100
  go_wp2_with fail
  generalize grownCap w s.size 0 5 = cap0
  generalize hW1 : World.drew _ = W1
  have hb1 : Below w.heap.size w W1 := by rw [← hW1]; exact (below_alloc1 w _).drew
  have hs1 : w.heap.size < W1.heap.size := by rw [← hW1]; simp [World.drew]
  have e1 : W1.heap[w.heap.size]? = some (.cells (bytesRow s cap0) 5 ((bytesRow s cap0).size, (bytesRow s cap0).size + 1)) := by
    rw [← hW1]
    exact heap_alloc_new w _
  have HE := Lib.hid (And.intro e1 hs1)
  clear hW1 e1 hs1 hcv
  go_loopw [0, 10] (fun vv ix wr => ∃ (j : Nat), j ≤ s.size ∧ ix = .int .i64 j ∧ Hid (BO wr vv (xs ++ encB (s.data.toList.take j)) ∧ Gr W1 wr sl vv)) (fun _ ix _ => s.size - (RowKit.intOf ix).toNat)
  case atStart => exact ⟨0, by omega, rfl, Lib.hid ⟨by simpa [encB] using HB.out.1.grow hb1, Gr.refl _ _⟩⟩
  case round =>
    obtain ⟨j, hj, rfl, H⟩ := hrel
    by_cases hlt : j < s.size
    · have hl := HB.out.2.2
      have hlt' : j < s.data.toList.length := by omega
      have hcell : wr.cell? ⟨w.heap.size, j, none⟩ = some (.int .u8 (s.data.toList[j].toNat : Int)) := by
        refine cell_at ((H.out.2.block HE.out.2 (fun he => by have := HB.out.2.1 _ he; omega)).trans HE.out.1) j _ ?_
        have := bytesRow_at s cap0 j (by simpa using hlt')
        simpa using this
      have hln := encB_len (s.data.toList.take j)
      rw [List.length_take, Nat.min_eq_left (by omega)] at hln
      have hln2 : (xs ++ encB (s.data.toList.take j)).length + 2 ≤ 1099511627776 := by rw [List.length_append]; omega
      obtain ⟨c, hc⟩ : ∃ c, s.data.toList[j] = c := ⟨_, rfl⟩
      rw [hc] at hcell
      obtain ⟨ys, hys⟩ : ∃ ys, xs ++ encB (s.data.toList.take j) = ys := ⟨_, rfl⟩
      rw [hys] at H hln2
      by_cases h0 : c = 0
      · subst h0
        have HY := Lib.hid (show ys ++ [0] ++ [255] = xs ++ encB (s.data.toList.take (j + 1)) by rw [encB_yes hlt' hc, ← hys]; simp)
        clear hys hc hl hlt' hln
        go_wp2_with (first | (refine wpList_app (by rfl) _ _ (by rfl) u0 ys [0] (by rfl) (H.out.1.grow (below_alloc1 _ _)) ⟨wr.heap.size, 0, none⟩ 1 (by rfl) (news1 (heap_alloc_new wr _) rfl) (by simp) (by simp; omega) (ys.length + 1) (by simp) ?_; intro g1 cap1 w2 hb2 hg2) | (refine wpList_app (by rfl) _ _ (by rfl) (.slice (some ⟨g1, 0, none⟩) (ys.length + 1) cap1) (ys ++ [0]) [255] (by rfl) (hb2.grow (below_alloc1 _ _)) ⟨w2.heap.size, 0, none⟩ 1 (by rfl) (news1 (heap_alloc_new w2 _) rfl) (by simp) (by simp; omega) (ys.length + 1 + 1) (by simp) ?_; intro g3 cap3 w3 hb3 hg3))
        go_roundw
        case rel =>
          refine ⟨j + 1, by omega, by go_num, Lib.hid ⟨by rw [← HY.out]; exact hb3, ?_⟩⟩
          exact H.out.2.trans ((hg2.pre (below_alloc1 _ _)).trans (hg3.pre (below_alloc1 _ _)))
        case measure => simp [RowKit.intOf]; omega
      · have HY := Lib.hid (show ys ++ [c] = xs ++ encB (s.data.toList.take (j + 1)) by rw [encB_no hlt' (by rw [hc]; exact h0), ← hys, hc]; simp)
        have hne := u8_ne0 h0
        clear hys hc hl hlt' hln h0
        go_wp2_with (refine wpList_app (by rfl) _ _ (by rfl) u0 ys [c] (by rfl) (H.out.1.grow (below_alloc1 _ _)) ⟨wr.heap.size, 0, none⟩ 1 (by rfl) (news1 (heap_alloc_new wr _) rfl) (by simp) (by simp; omega) (ys.length + 1) (by simp) ?_; intro g1 cap1 w2 hb2 hg2)
        go_roundw
        case rel =>
          refine ⟨j + 1, by omega, by go_num, Lib.hid ⟨by rw [← HY.out]; exact hb2, ?_⟩⟩
          exact H.out.2.trans (hg2.pre (below_alloc1 _ _))
        case measure => simp [RowKit.intOf]; omega
    · obtain rfl : j = s.size := by omega
      have hl := HB.out.2.2
      have hln := encB_len s.data.toList
      rw [List.take_of_length_le (by omega)] at H
      obtain ⟨ys, hys⟩ : ∃ ys, xs ++ encB s.data.toList = ys := ⟨_, rfl⟩
      have hln2 : ys.length + 2 ≤ 1099511627776 := by rw [← hys, List.length_append]; omega
      rw [hys] at H
      have HY := Lib.hid (show ys ++ [0, 0] = xs ++ encT s.data.toList by rw [encT_eq, ← hys]; simp)
      clear hys hl hln
      go_wp2_with (refine wpList_app (by rfl) _ _ (by rfl) u0 ys [0, 0] (by rfl) (H.out.1.grow (below_alloc1 _ _)) ⟨wr.heap.size, 0, none⟩ 2 (by rfl) (news2 (heap_alloc_new wr _) rfl rfl) (by simp) (by simp; omega) (ys.length + 2) (by simp) ?_; intro g1 cap1 w2 hb2 hg2)
      go_ret
      refine ⟨g1, cap1, ys.length + 2, by rw [← HY.out]; simp, rfl, by rw [← HY.out]; exact hb2, ?_⟩
      exact (H.out.2.trans (hg2.pre (below_alloc1 _ _))).pre hb1
end Go.Proofs.YthfejpldhemakaaDoor
