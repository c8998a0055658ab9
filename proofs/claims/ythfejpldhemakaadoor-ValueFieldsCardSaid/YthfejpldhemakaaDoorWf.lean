import Derived.Test.YthfejpldhemakaaDoorWp
import Derived.Test.YthfejpldhemakaaDoorL4
namespace Go.Proofs.YthfejpldhemakaaDoor
open Go.RowKit Go.Sort
theorem withD_at {nm : ByteArray} {x : V} {d : List (ByteArray × V)} {j : Nat} (hj : j < d.length) (h : posD nm d 0 = (j : Int)) : withD nm x d = d.set j (d[j].1, x) := by
  rcases posD_cases nm x d 0 with ⟨h1, _⟩ | ⟨j', hj', h1, _, h2⟩
  · omega
  · obtain rfl : j = j' := by omega
    exact h2
theorem withD_end {nm : ByteArray} {x : V} {d : List (ByteArray × V)} (h : posD nm d 0 = -1) : withD nm x d = d ++ [(nm, x)] := by
  rcases posD_cases nm x d 0 with ⟨_, h1⟩ | ⟨j', hj', h1, _, h2⟩
  · exact h1
  · omega
set_option maxRecDepth 100000 in
set_option maxHeartbeats 1000000 in
theorem rwith_c (v x : V) (nm : ByteArray) (cv cx : List Value) (w : World) (hv : RV w v cv) (hx : RV w x cx) (hnm : nm.size ≤ 140737488355328) (hsl : Slack 4096 v) :
    Calls Tryd.prog 33 #[.agg cv.toArray, .string nm, .agg cx.toArray] w (Made w (withV v nm x)) := by
  obtain ⟨k, i, t, l, d⟩ := v
  obtain ⟨p0, q0, p1, q1, rfl, hk, hi, ht, hA, hD⟩ := hv.inv
  obtain ⟨xk, xi, xt, xl, xd⟩ := x
  obtain ⟨p2, q2, p3, q3, rfl⟩ := hx.shape
  simp only [V.k, V.i, V.t, V.l, V.d] at hx ⊢
  by_cases h5 : k = 5
  case neg =>
    have H := Lib.hid (show withV (.mk k i t l d) nm (.mk xk xi xt xl xd) = zeroV by rw [withV, if_neg (by simpa [V.k] using h5)])
    have hb : (k == 5) = false := by simpa using h5
    clear h5
    go_enter Tryd.func33, Tryd.ntmps33
    go_wp2_with fail
    refine bodyPost_ret (v := .agg #[.int .i64 0, .int .i64 0, .string ⟨#[]⟩, .slice none 0 0, .slice none 0 0]) (by simp [results, Tryd.results33, go_sem]) rfl ?_
    rw [H.out]
    exact ⟨_, [], rfl, OV.zero _, by simp, by simp, below_then (below_alloc2 _ _ _) (below_alloc1 _ _) (by simp only [World.size_alloc]; omega)⟩
  subst h5
  have HW := Lib.hid (show withV (.mk 5 i t l d) nm (.mk xk xi xt xl xd) = .mk 5 i t l (withD nm (.mk xk xi xt xl xd) d) by rw [withV, if_pos (by rfl)]; rfl)
  have hd0 : d.length * 96 + 96 ≤ 140737488355328 := by cases hsl; omega
  go_enter Tryd.func33, Tryd.ntmps33
  go_wp2_with fail
  generalize hW0 : World.alloc (World.alloc (World.alloc w _) _) _ = W0
  have L3 := lent_boxes (w3 := W0) (c0 := #[.int .i64 5, .int .i64 i, .string t, .slice p0 l.length q0, .slice p1 d.length q1]) (c1 := #[.int .i64 xk, .int .i64 xi, .string xt, .slice p2 xl.length q2, .slice p3 xd.length q3]) (c2 := #[.int .i64 0, .int .i64 0, .string ByteArray.empty, .slice none 0 0, .slice none 0 0]) (by rw [← hW0]; exact World.grownBy.refl _ none)
  clear hW0
  obtain ⟨_, e1, e2, b0, hs0⟩ := L3
  refine (rclone_c _ _ W0 (hv.grow b0)).mono ?_
  rintro e w1 ⟨cs1, F1, rfl, ho1, hn1, hF1, d1⟩
  obtain ⟨r0, u0, r1, u1, rfl⟩ := ho1.rv.shape
  simp only [V.k, V.i, V.t, V.l, V.d] at ho1 ⊢
  have B5 := Lib.hid (Box.of e1)
  have E2 := Lib.hid e2
  clear e1 e2
  obtain ⟨x0, x1, x2, x3, x4⟩ := (B5.out.grow d1).grow (below_alloc1 w1 (.cells #[.int .i64 5, .int .i64 i, .string t, .slice r0 l.length u0, .slice r1 d.length u1] 25))
  go_wp2_with fail
  clear x0 x1 x2 x3 x4
  generalize hW1 : World.alloc w1 _ = W1
  have d1' : Below w1.heap.size w1 W1 := by rw [← hW1]; exact below_alloc1 _ _
  have hs1 : W1.heap.size = w1.heap.size + 1 := by rw [← hW1]; simp
  have e7 : W1.heap[w1.heap.size]? = some (.cells #[.int .i64 5, .int .i64 i, .string t, .slice r0 l.length u0, .slice r1 d.length u1] 25 (0, 0)) := by rw [← hW1, heap_alloc_new]
  have HE7 := Lib.hid e7
  clear hW1 e7
  have b1 := below2 b0 (below2 d1 d1')
  refine (rclone_c _ _ W1 (hx.grow b1)).mono ?_
  rintro e w2 ⟨cs2, F2, rfl, ho2, hn2, hF2, d2⟩
  obtain ⟨r2, u2, r3, u3, rfl⟩ := ho2.rv.shape
  simp only [V.k, V.i, V.t, V.l, V.d] at ho2 ⊢
  go_wp2_with fail
  generalize hW2 : w2.alloc _ = W2
  have d2' : Below w2.heap.size w2 W2 := by rw [← hW2]; exact below_alloc1 _ _
  have hs2 : W2.heap.size = w2.heap.size + 1 := by rw [← hW2]; simp
  have e8 : W2.heap[w2.heap.size]? = some (.cells #[.int .i64 xk, .int .i64 xi, .string xt, .slice r2 xl.length u2, .slice r3 xd.length u3] 25 (0, 0)) := by rw [← hW2, heap_alloc_new]
  have e7 := ((below2 d2 d2').block _ (by omega)).trans HE7.out
  have e6 := ((below2 d1 (below2 d1' (below2 d2 d2'))).block _ (block_lt E2.out)).trans E2.out
  have o1 := ho1.grow (below2 d1' (below2 d2 d2'))
  have o2 := ho2.grow d2'
  have z := d1.size
  have z' := d2.size
  have g1 : ∀ g ∈ F1, w.heap.size + 3 ≤ g ∧ g < w1.heap.size := fun g hg => ⟨by have := hF1 g hg; omega, ho1.lt g hg⟩
  have g2 : ∀ g ∈ F2, w1.heap.size + 1 ≤ g ∧ g < w2.heap.size := fun g hg => ⟨by have := hF2 g hg; omega, ho2.lt g hg⟩
  have bW := below2 b1 (below2 d2 d2')
  have HF := Lib.hid (And.intro g1 (And.intro g2 (And.intro hs1 hs2)))
  have HO := Lib.hid (And.intro o1 (And.intro o2 (And.intro e6 (And.intro e7 e8))))
  have y4 := cell_at e7 4 _ rfl
  clear HE7 hW2 g1 g2 hs1 hs2 o1 o2 e6 e7 e8 ho1 ho2 hF1 hF2 hx hv hA hD
  go_loop [9] (fun ix => ∃ j : Nat, j ≤ d.length ∧ ix = .int .i64 j ∧ Hid (posD nm (d.drop j) j = posD nm d 0)) (fun ix => d.length - (intOf ix).toNat)
  case atStart => exact ⟨0, by omega, rfl, Lib.hid rfl⟩
  case round =>
    obtain ⟨j, hj, rfl, hrec⟩ := hrel
    by_cases hlt : j < d.length
    · obtain ⟨g, a0, n0, a1, n1, rfl, f0, f1, f2, f3, f4, f5, ff⟩ := HO.out.1.field hlt
      have Hst := Lib.hid (posD_step (nm := nm) hlt)
      by_cases he : d[j].1 = nm
      · have heq := str_eq he
        have HD := Lib.hid (withD_at (nm := nm) (x := .mk xk xi xt xl xd) hlt (by rw [← hrec.out, Hst.out, if_pos he]))
        obtain ⟨o1, o2, e6, e7, e8⟩ := HO.out
        obtain ⟨g', F', eg, hgF, hov', hn', hsub⟩ := OV.replaced o1 hn1 hlt o2 hn2 (fun q hq hm => by have := HF.out.1 q hm; have := HF.out.2.1 q hq; omega)
        injection eg with eg
        injection eg with eg
        subst eg
        have hgb := HF.out.1 g hgF
        have ne7 : w1.heap.size ≠ g := by omega
        have ne6 : w.heap.size + 1 + 1 ≠ g := by omega
        have ne67 : w.heap.size + 1 + 1 ≠ w1.heap.size := by omega
        have HV := Lib.hid (And.intro hov' (And.intro hn' hsub))
        have b0 := cell_at e8 0 _ rfl
        have b1 := cell_at e8 1 _ rfl
        have b2 := cell_at e8 2 _ rfl
        have b3 := cell_at e8 3 _ rfl
        have b4 := cell_at e8 4 _ rfl
        have s0 := cell_at e7 0 _ rfl
        have s1 := cell_at e7 1 _ rfl
        have s2 := cell_at e7 2 _ rfl
        have s3 := cell_at e7 3 _ rfl
        have r0' := cell_at e6 0 _ rfl
        have r1' := cell_at e6 1 _ rfl
        have r2' := cell_at e6 2 _ rfl
        have r3' := cell_at e6 3 _ rfl
        have r4' := cell_at e6 4 _ rfl
        have g0 := free_at e6 0
        have g1 := free_at e6 1
        have g2 := free_at e6 2
        have g3 := free_at e6 3
        have g4 := free_at e6 4
        have ff1 := ff (j * 6 + 1)
        have ff2 := ff (j * 6 + 1 + 1)
        have ff3 := ff (j * 6 + 1 + 2)
        have ff4 := ff (j * 6 + 1 + 3)
        have ff5 := ff (j * 6 + 1 + 4)
        clear ff he hgb hov' hn' hsub o1 o2 e6 e7 e8
        go_wp2_with fail
        refine bodyPost_ret (v := .agg #[.int .i64 5, .int .i64 i, .string t, .slice r0 l.length u0, .slice (some ⟨g, 0, none⟩) d.length u1]) (by simp [results, Tryd.results33, go_sem, r0', r1', r2', r3', r4']) rfl ?_
        rw [HW.out, HD.out]
        have hst := stF_only W2 g j (.int .i64 xk) (.int .i64 xi) (.string xt) (.slice r2 xl.length u2) (.slice r3 xd.length u3)
        have hfin := made_ret (w := w) (b := w.heap.size + 1 + 1) HV.out.1 HV.out.2.1 (fun q hq => by
          rcases HV.out.2.2 q hq with hq | hq
          · have := HF.out.1 q hq; omega
          · have := HF.out.2.1 q hq; omega) (bW.trans (hst.below (fun q hq => by have := HF.out.1 g hgF; omega) bW.size)) (by omega)
        exact hfin
      · have hne := str_ne he
        have HE := Lib.hid he
        clear he ff
        go_wp2_with fail
        go_round
        case rel => exact ⟨j + 1, by omega, by go_num, Lib.hid (by rw [← hrec.out, Hst.out, if_neg HE.out])⟩
        case measure => simp [intOf]; omega
    · obtain rfl : j = d.length := by omega
      have HD := Lib.hid (withD_end (nm := nm) (x := .mk xk xi xt xl xd) (by rw [← hrec.out]; simp [posD]))
      obtain ⟨o1, o2, e6, e7, e8⟩ := HO.out
      obtain ⟨D, hDm, _, hrow⟩ := o1.rowD
      obtain ⟨i1, hi1, hy0, hy1, hy2⟩ := info_parts info72
      have HR := Lib.hid hrow
      have HE : Hid (∀ (o : Obj) (w3 : World), (W2.alloc o).grownBy w3 (Value.slice r1 d.length u1).ownBlock → w3.heap[w1.heap.size]? = some (.cells #[.int .i64 5, .int .i64 i, .string t, .slice r0 l.length u0, .slice r1 d.length u1] 25 (0, 0)) ∧ w3.heap[w.heap.size + 1 + 1]? = some (.cells #[.int .i64 0, .int .i64 0, .string ByteArray.empty, .slice none 0 0, .slice none 0 0] 25 (0, 0))) := Lib.hid fun o w3 hg =>
        ⟨(hg.block _ (by have := block_lt e7; simp; omega) (fun he => by have := HF.out.1 _ (o1.ownD he); omega)).trans ((heap_alloc_old _ _ (block_lt e7)).trans e7),
          (hg.block _ (by have := block_lt e6; simp; omega) (fun he => by have := HF.out.1 _ (o1.ownD he); omega)).trans ((heap_alloc_old _ _ (block_lt e6)).trans e6)⟩
      have ne67 : w.heap.size + 1 + 1 ≠ w1.heap.size := by omega
      have s0 := cell_alloc1 (cell_at e7 0 _ rfl)
      have b0 := cell_at e8 0 _ rfl
      have b1 := cell_at e8 1 _ rfl
      have b2 := cell_at e8 2 _ rfl
      have b3 := cell_at e8 3 _ rfl
      have b4 := cell_at e8 4 _ rfl
      clear hrow hDm o1 o2 e6 e7 e8
      go_wp2_with (refine wpList_append_lies _ (by rfl) _ _ 23 (by rfl) 0 72 i1 _ 6 96 Tryd.underlying23 hi1 hy0 hy1 hy2 rfl (by omega) (.slice r1 d.length u1) d.length (D.flatMap fun c => .string c.1 :: c.2.2.1) (by rfl) (HR.out.alloc _) ⟨W2.heap.size, 0, none⟩ 1 1 [.string nm, .int .i64 xk, .int .i64 xi, .string xt, .slice r2 xl.length u2, .slice r3 xd.length u3] (by rfl) (by rfl) (World.news_of_block (heap_alloc_new W2 _)) (by simp [Value.oneCell']) (by omega) (by simp [maxLen]; omega) (by omega) (by omega) (W2.heap.size + 1) (by simp) ?_; intro g cap w3 hown3 hgrow3 hat hlt3; have ⟨k7, k6⟩ := HE.out _ _ hgrow3; have a0 := cell_at k7 0 _ rfl; have a1 := cell_at k7 1 _ rfl; have a2 := cell_at k7 2 _ rfl; have a3 := cell_at k7 3 _ rfl; have a4 := cell_at k7 4 _ rfl; have af := free_at k7 4; have c0 := cell_at k6 0 _ rfl; have c1 := cell_at k6 1 _ rfl; have c2 := cell_at k6 2 _ rfl; have c3 := cell_at k6 3 _ rfl; have c4 := cell_at k6 4 _ rfl; have cf0 := free_at k6 0; have cf1 := free_at k6 1; have cf2 := free_at k6 2; have cf3 := free_at k6 3; have cf4 := free_at k6 4; clear k7 k6)
      refine bodyPost_ret (v := .agg #[.int .i64 5, .int .i64 i, .string t, .slice r0 l.length u0, .slice (some ⟨g, 0, none⟩) (d.length + 1) cap]) (by simp [results, Tryd.results33, go_sem, c0, c1, c2, c3, c4]) rfl ?_
      rw [HW.out, HD.out]
      have ba := below_alloc1 W2 (.cells #[.string nm, .int .i64 xk, .int .i64 xi, .string xt, .slice r2 xl.length u2, .slice r3 xd.length u3] 72)
      obtain ⟨F', hov', hn', hsub⟩ := OV.appended (nm := nm) (H := W2.heap.size + 1) (HO.out.1.grow ba) hn1 (HO.out.2.1.grow ba) hn2 (fun q hq hm => by have := HF.out.1 q hm; have := HF.out.2.1 q hq; omega) hnm hd0 _ (HR.out.alloc _) hown3 rfl hgrow3 hat (by simp)
      have hg : g ∈ F1 ∨ g = W2.heap.size + 1 := hat.imp (fun h => HO.out.1.ownD h.symm) id
      have hgb : w.heap.size + 3 ≤ g ∧ g ≠ w1.heap.size := by
        rcases hg with hg | hg
        · have := HF.out.1 g hg; omega
        · have := HF.out.2.2.1; have := HF.out.2.2.2; omega
      have hF' : ∀ q ∈ F', w.heap.size + 3 ≤ q ∧ q ≠ w1.heap.size := by
        intro q hq
        rcases hsub q hq with hq | hq | hq
        · have := HF.out.1 q hq; omega
        · have := HF.out.2.1 q hq; omega
        · rw [hq]; exact hgb
      have hset := only_set w3 w1.heap.size 4 (.slice (some ⟨g, 0, none⟩) (d.length + 1) cap)
      have hgo := (Only.of_below (S := fun q => q ∈ F1) ba).trans (Only.of_grown hgrow3) (fun q _ hq => HO.out.1.ownD hq)
      have hb3 : Below w.heap.size w w3 := bW.trans (hgo.below (fun q hq => by have := HF.out.1 q hq; omega) bW.size)
      exact made_ret (w := w) (b := w.heap.size + 1 + 1) (hov'.at_ fun q hq => hset.block q (hov'.lt q hq) (hF' q hq).2) hn' (fun q hq => by have := hF' q hq; omega) (hb3.trans (hset.below (fun q hq => by omega) hb3.size)) (by omega)
end Go.Proofs.YthfejpldhemakaaDoor
