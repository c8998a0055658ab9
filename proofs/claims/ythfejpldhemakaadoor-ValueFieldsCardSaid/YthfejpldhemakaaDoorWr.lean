import Derived.Test.YthfejpldhemakaaDoorWo
import Derived.Test.YthfejpldhemakaaDoorL4
namespace Go.Proofs.YthfejpldhemakaaDoor
open Go.RowKit Go.Sort
theorem boxes2 {w W : World} {c0 c1 : Array Value} {e0 e1 : TypeId} (hW : (w.alloc (.cells c0 e0)).alloc (.cells c1 e1) = W) :
    W.heap[w.heap.size]? = some (.cells c0 e0 (0, 0)) ∧ W.heap[w.heap.size + 1]? = some (.cells c1 e1 (0, 0)) ∧ Below w.heap.size w W ∧ W.heap.size = w.heap.size + 2 := by
  subst hW
  refine ⟨?_, ?_, below_alloc2 w _ _, by simp⟩
  · rw [heap_alloc_old _ _ (by simp), heap_alloc_new]
  · have := heap_alloc_new (w.alloc (.cells c0 e0)) (.cells c1 e1)
    simpa using this
def notNm (nm : ByteArray) (n : ByteArray) : Bool := decide (¬ n = nm)
theorem withoutV_doc (i : Int) (t : ByteArray) (l : List V) (d : List (ByteArray × V)) (nm : ByteArray) : withoutV (.mk 5 i t l d) nm = .mk 5 i t l (d.filter fun c => notNm nm c.1) := by
  rw [withoutV, if_pos (by rfl)]
  rfl
/-- The rows of the first j fields that are not of that name. -/
abbrev sieve (nm : ByteArray) (D : List (ByteArray × V × List Value × List Nat)) (j : Nat) : List (ByteArray × V × List Value × List Nat) := (D.take j).filter fun c => notNm nm c.1
theorem sieve_yes {nm : ByteArray} {D : List (ByteArray × V × List Value × List Nat)} {j : Nat} (hj : j < D.length) (h : ¬ D[j].1 = nm) : sieve nm D (j + 1) = sieve nm D j ++ [D[j]] := by
  unfold sieve
  rw [List.take_succ_eq_append_getElem hj, List.filter_append, List.filter_cons, if_pos (by simp [notNm, h])]
  rfl
theorem sieve_no {nm : ByteArray} {D : List (ByteArray × V × List Value × List Nat)} {j : Nat} (hj : j < D.length) (h : D[j].1 = nm) : sieve nm D (j + 1) = sieve nm D j := by
  unfold sieve
  rw [List.take_succ_eq_append_getElem hj, List.filter_append, List.filter_cons, if_neg (by simp [notNm, h])]
  simp
theorem sieve_len (nm : ByteArray) (D : List (ByteArray × V × List Value × List Nat)) (j : Nat) : (sieve nm D j).length ≤ j := by
  have := List.length_filter_le (fun c : ByteArray × V × List Value × List Nat => notNm nm c.1) (D.take j)
  have h2 := List.length_take_le j D
  exact Nat.le_trans this h2
set_option maxRecDepth 100000 in
set_option maxHeartbeats 1000000 in
theorem rwithout_c (v : V) (nm : ByteArray) (cv : List Value) (w : World) (hv : RV w v cv) :
    Calls Tryd.prog 34 #[.agg cv.toArray, .string nm] w (Made w (withoutV v nm)) := by
  obtain ⟨k, i, t, l, d⟩ := v
  obtain ⟨p0, q0, p1, q1, rfl, hk, hi, ht, hA, hD⟩ := hv.inv
  by_cases h5 : k = 5
  case neg =>
    have H := Lib.hid (show withoutV (.mk k i t l d) nm = zeroV by rw [withoutV, if_neg (by simpa [V.k] using h5)])
    have hb : (k == 5) = false := by simpa using h5
    clear h5
    go_enter Tryd.func34, Tryd.ntmps34
    go_wp2_with fail
    refine bodyPost_ret (v := .agg #[.int .i64 0, .int .i64 0, .string ⟨#[]⟩, .slice none 0 0, .slice none 0 0]) (by simp [results, Tryd.results34, go_sem]) rfl ?_
    rw [H.out]
    exact ⟨_, [], rfl, OV.zero _, by simp, by simp, below_alloc2 w _ _⟩
  subst h5
  have HW := Lib.hid (withoutV_doc i t l d nm)
  have hd0 : d.length * 96 ≤ 140737488355328 := hD.1
  go_enter Tryd.func34, Tryd.ntmps34
  go_wp2_with fail
  generalize hW0 : World.alloc (World.alloc w _) _ = W0
  obtain ⟨e0, e1, b0, hs0⟩ := boxes2 hW0
  clear hW0
  refine (rclone_c _ _ W0 (hv.grow b0)).mono ?_
  rintro e w1 ⟨cs1, F1, rfl, ho1, hn1, hF1, d1⟩
  obtain ⟨r0, u0, r1, u1, rfl⟩ := ho1.rv.shape
  simp only [V.k, V.i, V.t, V.l, V.d] at ho1 ⊢
  have E2 := Lib.hid e1
  obtain ⟨x0, x1, x2, x3, x4⟩ := ((Box.of e0).grow d1).grow (below_alloc1 w1 (.cells #[.int .i64 5, .int .i64 i, .string t, .slice r0 l.length u0, .slice r1 d.length u1] 25))
  clear e0 e1 x3 x4
  go_wp2_with fail
  clear x0 x1 x2
  generalize hW3 : World.alloc (World.alloc w1 _) _ = W3
  obtain ⟨e5, e6, d3, hs3⟩ := boxes2 hW3
  clear hW3
  have o3 := ho1.grow d3
  obtain ⟨D, hDm, h5c, hrow, hfil⟩ := o3.filtered hn1
  have hFb : ∀ q ∈ F1, w.heap.size + 2 ≤ q ∧ q < w1.heap.size := fun q hq => by have := hF1 q hq; have := ho1.lt q hq; omega
  have b3 := below2 b0 (below2 d1 d3)
  have e4 := ((below2 d1 d3).block _ (block_lt E2.out)).trans E2.out
  have hDl : D.length = d.length := by rw [hDm]; simp
  have hDn : ∀ j (h : j < d.length) (h' : j < D.length), D[j].1 = d[j].1 := fun j h h' => by subst hDm; simp
  have z1 := d1.size
  have HO := Lib.hid (And.intro o3 (And.intro hFb (And.intro h5c (And.intro hDm (And.intro hfil (And.intro hDl (And.intro hDn hrow)))))))
  have HE := Lib.hid (And.intro e4 (And.intro e5 e6))
  have x54 := cell_at e5 4 _ rfl
  obtain ⟨i1, hi1, hy0, hy1, hy2⟩ := info_parts info72
  clear o3 hFb h5c hDm hfil hDl hDn e4 e5 e6 ho1 hF1 hv hA hD hrow
  go_loopw [7] (fun ix wr => ∃ (j : Nat) (sd : Value), j ≤ d.length ∧ ix = .int .i64 j ∧ Hid (wr.ownsRow 0 72 6 sd (sieve nm D j).length (flatD (sieve nm D j)) ∧ (∀ g, some g = sd.ownBlock → W3.heap.size ≤ g) ∧ wr.heap[w1.heap.size + 1]? = some (.cells #[.int .i64 5, .int .i64 i, .string t, .slice r0 l.length u0, sd] 25 (0, 0))) ∧ Only (fun k => k = w1.heap.size + 1 ∨ W3.heap.size ≤ k) W3 wr) (fun ix _ => d.length - (intOf ix).toNat)
  case atStart => exact ⟨0, _, by omega, rfl, Lib.hid ⟨⟨rfl, .inl ⟨rfl, rfl⟩⟩, by simp [Value.ownBlock], HE.out.2.2⟩, Only.refl _ _⟩
  case round =>
    obtain ⟨j, sd, hj, rfl, H, ho⟩ := hrel
    have y54 := ho.cell x54 (by show ¬ (w1.heap.size = w1.heap.size + 1 ∨ W3.heap.size ≤ w1.heap.size); omega)
    have y64 := cell_at H.out.2.2 4 _ rfl
    by_cases hlt : j < d.length
    · obtain ⟨g, a0, n0, a1, n1, rfl, f0, f1, f2, f3, f4, f5, _⟩ := HO.out.1.field hlt
      have hgb := HO.out.2.1 g (HO.out.1.ownD rfl)
      have hgS : ¬ (g = w1.heap.size + 1 ∨ W3.heap.size ≤ g) := by omega
      have hlD : j < D.length := by rw [HO.out.2.2.2.2.2.1]; exact hlt
      have HCE := Lib.hid (row_cells HO.out.2.2.2.2.2.2.2 HO.out.2.2.1 hlD f0 f1 f2 f3 f4 f5)
      have f0 := ho.cell f0 hgS
      have f1 := ho.cell f1 hgS
      have f2 := ho.cell f2 hgS
      have f3 := ho.cell f3 hgS
      have f4 := ho.cell f4 hgS
      have f5 := ho.cell f5 hgS
      clear hgb hgS
      by_cases he : d[j].1 = nm
      · have heq := str_eq he
        have Hs := Lib.hid (sieve_no (nm := nm) hlD (by rw [HO.out.2.2.2.2.2.2.1 j hlt hlD]; exact he))
        clear he
        go_wp2_with fail
        go_roundw
        case rel => exact ⟨j + 1, sd, by omega, by go_num, by rw [Hs.out]; exact H, ho⟩
        case measure => simp [intOf]; omega
      · have heq := str_ne he
        have Hs := Lib.hid (sieve_yes (nm := nm) hlD (by rw [HO.out.2.2.2.2.2.2.1 j hlt hlD]; exact he))
        clear he
        have hsl := sieve_len nm D j
        have hlen : (sieve nm D j).length * 96 + 96 ≤ 140737488355328 := by omega
        have y64a := cell_alloc1 y64
        go_wp2_with fail
        have HK : Hid (∀ (o : Obj) (w2 : World), (wr.alloc o).grownBy w2 sd.ownBlock → w2.heap[w1.heap.size + 1]? = some (.cells #[.int .i64 5, .int .i64 i, .string t, .slice r0 l.length u0, sd] 25 (0, 0))) := Lib.hid fun o w2 hg => (hg.block _ (by have := block_lt H.out.2.2; simp; omega) (fun he => by have := H.out.2.1 _ he; omega)).trans ((heap_alloc_old _ _ (block_lt H.out.2.2)).trans H.out.2.2)
        go_region_law (refine step_append_lies _ (by rfl) _ _ 23 (by rfl) 0 72 i1 _ 6 96 Tryd.underlying23 hi1 hy0 hy1 hy2 rfl (by omega) sd (sieve nm D j).length (flatD (sieve nm D j)) (by rfl) ((H.out.1.alloc _).drew) ⟨wr.heap.size, 0, none⟩ 1 1 [.string d[j].1, .int .i64 d[j].2.k, .int .i64 d[j].2.i, .string d[j].2.t, .slice a0 d[j].2.l.length n0, .slice a1 d[j].2.d.length n1] (by rfl) (by rfl) (World.news_of_block (w := World.drew _) (heap_alloc_new wr _)) (by simp [Value.oneCell']) (by omega) (by simp [maxLen]; omega) (by omega) (by omega) (wr.heap.size + 1) (by simp) ?_; intro g2 cap w2 hown2 hgrow2' hat hlt2; have hgrow2 := grownBy_undrew hgrow2'; have hbx2 := HK.out _ _ hgrow2; have cb2 := cell_at hbx2 4 _ rfl; have fb2 := free_at hbx2 4; have HB2 := Lib.hid hbx2; clear hbx2)
        all_goals
          go_wp2_with fail
          go_roundw
          case rel =>
            have hg2 : W3.heap.size ≤ g2 := by
              rcases hat with hat | hat
              · exact H.out.2.1 _ hat.symm
              · have := ho.size; omega
            have hset := only_set w2 (w1.heap.size + 1) 4 (.slice (some ⟨g2, 0, none⟩) ((sieve nm D j).length + 1) cap)
            refine ⟨j + 1, .slice (some ⟨g2, 0, none⟩) ((sieve nm D j).length + 1) cap, by omega, by go_num, Lib.hid ⟨?_, ?_, ?_⟩, ?_⟩
            · rw [Hs.out]
              have := ownsRow_at (w1 := w2.setCell ⟨w1.heap.size + 1, 4, none⟩ (.slice (some ⟨g2, 0, none⟩) ((sieve nm D j).length + 1) cap)) hown2 (fun q hq => by
                have hq : g2 = q := Option.some.inj hq
                subst hq
                exact hset.block _ hlt2 (by omega))
              simpa [flatD, HCE.out] using this
            · intro q hq
              have hq : q = g2 := Option.some.inj hq
              omega
            · exact setCell_block HB2.out 4 _
            · exact ho.trans (((Only.of_below (S := fun k => k = w1.heap.size + 1 ∨ W3.heap.size ≤ k) (below_alloc1 wr _)).trans (Only.of_grown hgrow2) (fun q _ hq => .inr (H.out.2.1 q hq))).trans hset (fun q _ hq => .inl hq)) (fun q _ hq => hq)
          case measure => simp [intOf]; omega
    · obtain rfl : j = d.length := by omega
      obtain ⟨A6, u6, rfl, _⟩ := ownsRow_slice H.out.1
      have ne4 : w.heap.size + 1 ≠ w1.heap.size + 1 := by omega
      have e6 := H.out.2.2
      have e4 := (ho.block (w.heap.size + 1) (by omega) (by omega)).trans HE.out.1
      have s0 := cell_at e6 0 _ rfl
      have s1 := cell_at e6 1 _ rfl
      have s2 := cell_at e6 2 _ rfl
      have s3 := cell_at e6 3 _ rfl
      have s4 := cell_at e6 4 _ rfl
      have c0 := cell_at e4 0 _ rfl
      have c1 := cell_at e4 1 _ rfl
      have c2 := cell_at e4 2 _ rfl
      have c3 := cell_at e4 3 _ rfl
      have c4 := cell_at e4 4 _ rfl
      have cf0 := free_at e4 0
      have cf1 := free_at e4 1
      have cf2 := free_at e4 2
      have cf3 := free_at e4 3
      have cf4 := free_at e4 4
      clear e6 e4
      go_wp2_with fail
      refine bodyPost_ret (v := .agg #[.int .i64 5, .int .i64 i, .string t, .slice r0 l.length u0, .slice A6 (sieve nm D d.length).length u6]) (by simp [results, Tryd.results34, go_sem, c0, c1, c2, c3, c4]) rfl ?_
      rw [HW.out]
      have hsv : sieve nm D d.length = D.filter fun c => notNm nm c.1 := by unfold sieve; rw [List.take_of_length_le (by rw [HO.out.2.2.2.2.2.1]; exact Nat.le_refl _)]
      have hfl : (d.filter fun c => notNm nm c.1).length = (sieve nm D d.length).length := by
        rw [hsv]
        conv => lhs; rw [HO.out.2.2.2.1]
        rw [List.filter_map]
        simp [Function.comp_def]
      obtain ⟨F', hov', hn', hsub⟩ := HO.out.2.2.2.2.1 wr (.slice A6 (sieve nm D d.length).length u6) (notNm nm) (fun q hq _ => ho.block q (by have := HO.out.2.1 q hq; omega) (by have := HO.out.2.1 q hq; omega)) (fun q hq hF => by have := H.out.2.1 q hq; have := HO.out.2.1 q hF; omega) (by rw [hfl, ← hsv]; exact H.out.1)
      have hb3 : Below w.heap.size w wr := b3.trans (ho.below (fun q hq => by omega) b3.size)
      exact made_ret (w := w) (b := w.heap.size + 1) hov' hn' (fun q hq => by
        rcases hsub q hq with hq | hq
        · have := HO.out.2.1 q hq; omega
        · have := H.out.2.1 q hq; omega) hb3 (by omega)
end Go.Proofs.YthfejpldhemakaaDoor
