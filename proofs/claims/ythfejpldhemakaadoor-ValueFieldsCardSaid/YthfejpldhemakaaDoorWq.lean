import Derived.Test.YthfejpldhemakaaDoorWg
namespace Go.Proofs.YthfejpldhemakaaDoor
open Go.RowKit Go.Sort
theorem boxes3 {w W : World} {c0 c1 c2 : Array Value} {e0 e1 e2 : TypeId} (hW : ((w.alloc (.cells c0 e0)).alloc (.cells c1 e1)).alloc (.cells c2 e2) = W) :
    W.heap[w.heap.size]? = some (.cells c0 e0 (0, 0)) ∧ W.heap[w.heap.size + 1]? = some (.cells c1 e1 (0, 0)) ∧ W.heap[w.heap.size + 1 + 1]? = some (.cells c2 e2 (0, 0)) ∧ Below w.heap.size w W ∧ W.heap.size = w.heap.size + 3 := by
  subst hW
  refine ⟨?_, ?_, ?_, (below_alloc2 w _ _).alloc (by simp <;> omega) _, by simp⟩
  · rw [heap_alloc_old _ _ (by simp <;> omega), heap_alloc_old _ _ (by simp), heap_alloc_new]
  · rw [heap_alloc_old _ _ (by simp)]
    have := heap_alloc_new (w.alloc (.cells c0 e0)) (.cells c1 e1)
    simpa using this
  · have := heap_alloc_new ((w.alloc (.cells c0 e0)).alloc (.cells c1 e1)) (.cells c2 e2)
    simpa using this
set_option maxRecDepth 100000 in
set_option maxHeartbeats 1000000 in
theorem without_c (v : V) (nm : ByteArray) (cv : List Value) (w : World) (hv : RV w v cv) :
    Calls Tryd.prog 31 #[.agg cv.toArray, .string nm] w (Made w (withoutV v nm)) := by
  obtain ⟨k, i, t, l, d⟩ := v
  obtain ⟨p0, q0, p1, q1, rfl, hk, hi, ht, hA, hD⟩ := hv.inv
  by_cases h5 : k = 5
  case neg =>
    have H := Lib.hid (show withoutV (.mk k i t l d) nm = zeroV by rw [withoutV, if_neg (by simpa [V.k] using h5)])
    have hb : (k == 5) = false := by simpa using h5
    clear h5
    go_enter Tryd.func31, Tryd.ntmps31
    go_wp2_with fail
    refine bodyPost_ret (v := .agg #[.int .i64 0, .int .i64 0, .string ⟨#[]⟩, .slice none 0 0, .slice none 0 0]) (by simp [results, Tryd.results31, go_sem]) rfl ?_
    rw [H.out]
    exact ⟨_, [], rfl, OV.zero _, by simp, by simp, (below_alloc2 w _ _).alloc (by simp <;> omega) _⟩
  subst h5
  have HW := Lib.hid (withoutV_doc i t l d nm)
  go_enter Tryd.func31, Tryd.ntmps31
  go_wp2_with fail
  generalize hW0 : World.alloc (World.alloc (World.alloc w _) _) _ = W0
  obtain ⟨_, e1, e2, b0, hs0⟩ := boxes3 hW0
  clear hW0
  refine (clone_c _ _ W0 (hv.grow b0)).mono ?_
  rintro e w1 ⟨cs1, F1, rfl, ho1, hn1, hF1, d1⟩
  obtain ⟨r0, u0, r1, u1, rfl⟩ := ho1.rv.shape
  simp only [V.k, V.i, V.t, V.l, V.d] at ho1 ⊢
  have E2 := Lib.hid (And.intro e1 e2)
  clear e1 e2
  go_wp2_with fail
  generalize hW1 : World.alloc w1 _ = W1
  have d1' : Below w1.heap.size w1 W1 := by rw [← hW1]; exact below_alloc1 _ _
  have hs1 : W1.heap.size = w1.heap.size + 1 := by rw [← hW1]; simp
  have e7 : W1.heap[w1.heap.size]? = some (.cells #[.int .i64 5, .int .i64 i, .string t, .slice r0 l.length u0, .slice r1 d.length u1] 25 (0, 0)) := by rw [← hW1, heap_alloc_new]
  have o1 := ho1.grow d1'
  have z1 := d1.size
  have hFb : ∀ q ∈ F1, w.heap.size + 3 ≤ q ∧ q < w1.heap.size := fun q hq => by have := hF1 q hq; have := ho1.lt q hq; omega
  have hn := cell_at (((below2 d1 d1').block _ (block_lt E2.out.1)).trans E2.out.1) 0 _ rfl
  have hdel := deletef_c 5 i t l d nm _ _ _ _ r1 u1 (w.heap.size + 1) F1 W1 o1 hn1 hn (fun hm => by have := hFb _ hm; omega)
  have HE7 := Lib.hid e7
  have b1 := below2 b0 (below2 d1 d1')
  have e6 := ((below2 d1 d1').block _ (block_lt E2.out.2)).trans E2.out.2
  have HE6 := Lib.hid e6
  clear hW1 e7 e6 hn o1 ho1
  refine hdel.mono ?_
  rintro e w2 ⟨F', rfl, hov, hn', hsub, hon⟩
  have k7 := (hon.block _ (block_lt HE7.out) (fun hm => by have := hFb _ hm; omega)).trans HE7.out
  have k6 := (hon.block _ (block_lt HE6.out) (fun hm => by have := hFb _ hm; omega)).trans HE6.out
  have ne67 : w.heap.size + 1 + 1 ≠ w1.heap.size := by omega
  have HV := Lib.hid (And.intro hov (And.intro hn' (And.intro hsub (And.intro hon hFb))))
  have s0 := cell_at k7 0 _ rfl
  have s1 := cell_at k7 1 _ rfl
  have s2 := cell_at k7 2 _ rfl
  have s3 := cell_at k7 3 _ rfl
  have s4 := cell_at k7 4 _ rfl
  have sf := free_at k7 4
  have c0 := cell_at k6 0 _ rfl
  have c1 := cell_at k6 1 _ rfl
  have c2 := cell_at k6 2 _ rfl
  have c3 := cell_at k6 3 _ rfl
  have c4 := cell_at k6 4 _ rfl
  have cf0 := free_at k6 0
  have cf1 := free_at k6 1
  have cf2 := free_at k6 2
  have cf3 := free_at k6 3
  have cf4 := free_at k6 4
  clear k7 k6 hov hn' hsub hon hFb hdel
  go_wp2_with fail
  refine bodyPost_ret (v := .agg #[.int .i64 5, .int .i64 i, .string t, .slice r0 l.length u0, .slice r1 (d.filter fun c => notNm nm c.1).length u1]) (by simp [results, Tryd.results31, go_sem, c0, c1, c2, c3, c4]) rfl ?_
  rw [HW.out]
  obtain ⟨hov, hn', hsub, hon, hFb⟩ := HV.out
  have hset := only_set w2 w1.heap.size 4 (.slice r1 (d.filter fun c => notNm nm c.1).length u1)
  have hb2 : Below w.heap.size w w2 := b1.trans (hon.below (fun q hq => by have := hFb q hq; omega) b1.size)
  exact made_ret (w := w) (b := w.heap.size + 1 + 1) (hov.at_ fun q hq => hset.block q (hov.lt q hq) (by have := hFb q (hsub q hq); omega)) hn' (fun q hq => by have := hFb q (hsub q hq); omega) (hb2.trans (hset.below (fun q hq => by omega) hb2.size)) (by omega)
end Go.Proofs.YthfejpldhemakaaDoor
