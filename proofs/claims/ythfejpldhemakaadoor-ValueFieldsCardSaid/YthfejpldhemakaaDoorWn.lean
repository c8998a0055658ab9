import Derived.Test.YthfejpldhemakaaDoorWf
import Derived.Test.YthfejpldhemakaaDoorCl
import Derived.Deep.RegionHeld3
namespace Go.Proofs.YthfejpldhemakaaDoor
open Go.RowKit Go.Sort
theorem boxes4 {w W : World} {c0 c1 c2 c3 : Array Value} {e0 e1 e2 e3 : TypeId} (hW : (((w.alloc (.cells c0 e0)).alloc (.cells c1 e1)).alloc (.cells c2 e2)).alloc (.cells c3 e3) = W) :
    W.heap[w.heap.size]? = some (.cells c0 e0 (0, 0)) ∧ W.heap[w.heap.size + 1]? = some (.cells c1 e1 (0, 0)) ∧ W.heap[w.heap.size + 1 + 1]? = some (.cells c2 e2 (0, 0)) ∧ W.heap[w.heap.size + 1 + 1 + 1]? = some (.cells c3 e3 (0, 0)) ∧ Below w.heap.size w W ∧ W.heap.size = w.heap.size + 4 := by
  subst hW
  refine ⟨?_, ?_, ?_, ?_, ((below_alloc2 w _ _).alloc (by simp <;> omega) _).alloc (by simp <;> omega) _, by simp⟩
  · rw [heap_alloc_old _ _ (by simp <;> omega), heap_alloc_old _ _ (by simp <;> omega), heap_alloc_old _ _ (by simp), heap_alloc_new]
  · rw [heap_alloc_old _ _ (by simp <;> omega), heap_alloc_old _ _ (by simp)]
    have := heap_alloc_new (w.alloc (.cells c0 e0)) (.cells c1 e1)
    simpa using this
  · rw [heap_alloc_old _ _ (by simp)]
    have := heap_alloc_new ((w.alloc (.cells c0 e0)).alloc (.cells c1 e1)) (.cells c2 e2)
    simpa using this
  · have := heap_alloc_new (((w.alloc (.cells c0 e0)).alloc (.cells c1 e1)).alloc (.cells c2 e2)) (.cells c3 e3)
    simpa using this
set_option maxRecDepth 100000 in
set_option maxHeartbeats 1000000 in
theorem with_c (v x : V) (nm : ByteArray) (cv cx : List Value) (w : World) (hv : RV w v cv) (hx : RV w x cx) (hnm : nm.size ≤ 140737488355328) (hsl : Slack 4096 v) :
    Calls Tryd.prog 30 #[.agg cv.toArray, .string nm, .agg cx.toArray] w (Made w (withV v nm x)) := by
  obtain ⟨k, i, t, l, d⟩ := v
  obtain ⟨p0, q0, p1, q1, rfl, hk, hi, ht, hA, hD⟩ := hv.inv
  obtain ⟨xk, xi, xt, xl, xd⟩ := x
  obtain ⟨p2, q2, p3, q3, rfl⟩ := hx.shape
  simp only [V.k, V.i, V.t, V.l, V.d] at hx ⊢
  by_cases h5 : k = 5
  case neg =>
    have H := Lib.hid (show withV (.mk k i t l d) nm (.mk xk xi xt xl xd) = zeroV by rw [withV, if_neg (by simpa [V.k] using h5)])
    have hb : (k == 5) = false := by simpa using h5
    clear h5
    go_enter Tryd.func30, Tryd.ntmps30
    go_wp2_with fail
    refine bodyPost_ret (v := .agg #[.int .i64 0, .int .i64 0, .string ⟨#[]⟩, .slice none 0 0, .slice none 0 0]) (by simp [results, Tryd.results30, go_sem]) rfl ?_
    rw [H.out]
    exact ⟨_, [], rfl, OV.zero _, by simp, by simp, ((below_alloc2 w _ _).alloc (by simp <;> omega) _).alloc (by simp <;> omega) _⟩
  subst h5
  have HW := Lib.hid (show withV (.mk 5 i t l d) nm (.mk xk xi xt xl xd) = .mk 5 i t l (withD nm (.mk xk xi xt xl xd) d) by rw [withV, if_pos (by rfl)]; rfl)
  have hd0 : d.length * 96 + 96 ≤ 140737488355328 := by cases hsl; omega
  go_enter Tryd.func30, Tryd.ntmps30
  go_wp2_with fail
  generalize hW0 : World.alloc (World.alloc (World.alloc (World.alloc w _) _) _) _ = W0
  obtain ⟨_, e1, e2, e3, b0, hs0⟩ := boxes4 hW0
  clear hW0
  refine (clone_c _ _ W0 (hv.grow b0)).mono ?_
  rintro e w1 ⟨cs1, F1, rfl, ho1, hn1, hF1, d1⟩
  obtain ⟨r0, u0, r1, u1, rfl⟩ := ho1.rv.shape
  simp only [V.k, V.i, V.t, V.l, V.d] at ho1 ⊢
  have E2 := Lib.hid (And.intro e1 (And.intro e2 e3))
  clear e1 e2 e3
  go_wp2_with fail
  generalize hW1 : World.alloc w1 _ = W1
  have d1' : Below w1.heap.size w1 W1 := by rw [← hW1]; exact below_alloc1 _ _
  have hs1 : W1.heap.size = w1.heap.size + 1 := by rw [← hW1]; simp
  have e7 : W1.heap[w1.heap.size]? = some (.cells #[.int .i64 5, .int .i64 i, .string t, .slice r0 l.length u0, .slice r1 d.length u1] 25 (0, 0)) := by rw [← hW1, heap_alloc_new]
  have o1 := ho1.grow d1'
  have n1 := cell_at (((below2 d1 d1').block _ (block_lt E2.out.1)).trans E2.out.1) 0 _ rfl
  have hidx := index_c d nm r1 u1 (w.heap.size + 1) W1 o1.rv.rd.2 n1
  have HE7 := Lib.hid e7
  clear hW1 e7
  rcases posD_cases nm (.mk xk xi xt xl xd) d 0 with ⟨h1, h2⟩ | ⟨j, hj, h1, h2, h3⟩
  · rw [h1] at hidx
    have HD := Lib.hid h2
    clear h1 h2
    refine hidx.mono ?_
    rintro e wi ⟨rfl, di⟩
    have bi := below2 (below2 b0 d1) (below2 d1' di)
    have oi := o1.grow di
    have e7 := (di.block _ (block_lt HE7.out)).trans HE7.out
    have e4 := ((below2 d1 (below2 d1' di)).block _ (block_lt E2.out.1)).trans E2.out.1
    have e5 := ((below2 d1 (below2 d1' di)).block _ (block_lt E2.out.2.1)).trans E2.out.2.1
    have e6 := ((below2 d1 (below2 d1' di)).block _ (block_lt E2.out.2.2)).trans E2.out.2.2
    have x4 := cell_at e7 4 _ rfl
    have y4 := cell_at e4 0 _ rfl
    obtain ⟨D, hDm, _, hrow⟩ := oi.rowD
    obtain ⟨i1, hi1, hy0, hy1, hy2⟩ := info_parts info72
    have hnF : ∀ q ∈ F1, w.heap.size + 4 ≤ q ∧ q ≠ w1.heap.size ∧ q < w1.heap.size := fun g hg => by have := hF1 g hg; have := ho1.lt g hg; omega
    have HE : Hid (∀ (o : Obj) (w3 : World), (wi.alloc o).grownBy w3 (Value.slice r1 d.length u1).ownBlock → w3.heap[w1.heap.size]? = some (.cells #[.int .i64 5, .int .i64 i, .string t, .slice r0 l.length u0, .slice r1 d.length u1] 25 (0, 0)) ∧ w3.heap[w.heap.size + 1 + 1]? = some (.cells #[.int .i64 xk, .int .i64 xi, .string xt, .slice p2 xl.length q2, .slice p3 xd.length q3] 25 (0, 0)) ∧ w3.heap[w.heap.size + 1 + 1 + 1]? = some (.cells #[.int .i64 0, .int .i64 0, .string ByteArray.empty, .slice none 0 0, .slice none 0 0] 25 (0, 0))) := Lib.hid fun o w3 hg =>
      ⟨(hg.block _ (by have := block_lt e7; simp; omega) (fun he => by have := hnF _ (oi.ownD he); omega)).trans ((heap_alloc_old _ _ (block_lt e7)).trans e7),
        (hg.block _ (by have := block_lt e5; simp; omega) (fun he => by have := hnF _ (oi.ownD he); omega)).trans ((heap_alloc_old _ _ (block_lt e5)).trans e5),
        (hg.block _ (by have := block_lt e6; simp; omega) (fun he => by have := hnF _ (oi.ownD he); omega)).trans ((heap_alloc_old _ _ (block_lt e6)).trans e6)⟩
    have HR := Lib.hid hrow
    have HN := Lib.hid hnF
    have HOi := Lib.hid oi
    have si := Lib.hid (And.intro hs1 (And.intro di.size (And.intro d1.size (And.intro (block_lt e7) hs0))))
    clear hrow hDm e4 e5 e6 e7 o1 oi n1 hidx hnF
    go_wp2_with (refine wpList_append_lies _ (by rfl) _ _ 23 (by rfl) 0 72 i1 _ 6 96 Tryd.underlying23 hi1 hy0 hy1 hy2 rfl (by omega) (.slice r1 d.length u1) d.length (D.flatMap fun c => .string c.1 :: c.2.2.1) (by rfl) (HR.out.alloc _) ⟨wi.heap.size, 0, none⟩ 1 1 [.string nm, .int .i64 0, .int .i64 0, .string ByteArray.empty, .slice none 0 0, .slice none 0 0] (by rfl) (by rfl) (World.news_of_block (heap_alloc_new wi _)) (by simp [Value.oneCell']) (by omega) (by simp [maxLen]; omega) (by omega) (by omega) (wi.heap.size + 1) (by simp) ?_; intro g cap w3 hown3 hgrow3 hat hlt3; have ⟨k7, k5, k6⟩ := HE.out _ _ hgrow3; have a4 := cell_at k7 4 _ rfl; have af := free_at k7 4)
    generalize hw2 : w3.setCell _ _ = w2
    have ba := below_alloc1 wi (.cells #[.string nm, .int .i64 0, .int .i64 0, .string ByteArray.empty, .slice none 0 0, .slice none 0 0] 72)
    obtain ⟨Fa, hova, hna, hsuba⟩ := OV.appended (nm := nm) (x := zeroV) (H := wi.heap.size + 1) (HOi.out.grow ba) hn1 (OV.zero _) (by simp) (by simp) hnm hd0 _ (HR.out.alloc _) hown3 rfl hgrow3 hat (by simp)
    obtain ⟨sa, sb, sc, sd, se⟩ := si.out
    have hga : w.heap.size + 4 ≤ g ∧ g ≠ w1.heap.size := by
      rcases hat with hat | hat
      · have := HN.out _ (HOi.out.ownD hat.symm); omega
      · omega
    have hFa : ∀ q ∈ Fa, w.heap.size + 4 ≤ q ∧ q ≠ w1.heap.size := by
      intro q hq
      rcases hsuba q hq with hq | hq | hq
      · have := HN.out q hq; omega
      · cases hq
      · rw [hq]; exact hga
    have hset := only_set w3 w1.heap.size 4 (.slice (some ⟨g, 0, none⟩) (d.length + 1) cap)
    have hgo := (Only.of_below (S := fun q => q ∈ F1) ba).trans (Only.of_grown hgrow3) (fun q _ hq => HOi.out.ownD hq)
    have hb3 : Below w.heap.size w w3 := bi.trans (hgo.below (fun q hq => by have := HN.out q hq; omega) bi.size)
    have b2 : Below w.heap.size w w2 := by rw [← hw2]; exact hb3.trans (hset.below (fun q hq => by omega) hb3.size)
    have o2 : OV false w2 (.mk 5 i t l (d ++ [(nm, zeroV)])) [.int .i64 5, .int .i64 i, .string t, .slice r0 l.length u0, .slice (some ⟨g, 0, none⟩) (d.length + 1) cap] Fa := by rw [← hw2]; exact hova.at_ fun q hq => hset.block q (hova.lt q hq) (hFa q hq).2
    have e7 : w2.heap[w1.heap.size]? = some (.cells #[.int .i64 5, .int .i64 i, .string t, .slice r0 l.length u0, .slice (some ⟨g, 0, none⟩) (d.length + 1) cap] 25 (0, 0)) := by rw [← hw2]; exact setCell_block k7 4 _
    have e6 : w2.heap[w.heap.size + 1 + 1 + 1]? = some (.cells #[.int .i64 0, .int .i64 0, .string ByteArray.empty, .slice none 0 0, .slice none 0 0] 25 (0, 0)) := by rw [← hw2]; exact (hset.block _ (block_lt k6) (by omega)).trans k6
    have e5 : w2.heap[w.heap.size + 1 + 1]? = some (.cells #[.int .i64 xk, .int .i64 xi, .string xt, .slice p2 xl.length q2, .slice p3 xd.length q3] 25 (0, 0)) := by rw [← hw2]; exact (hset.block _ (block_lt k5) (by omega)).trans k5
    obtain ⟨dd, hj0, o2, HD2⟩ : ∃ dd : List (ByteArray × V), ∃ hj0 : d.length < dd.length, OV false w2 (.mk 5 i t l dd) [.int .i64 5, .int .i64 i, .string t, .slice r0 l.length u0, .slice (some ⟨g, 0, none⟩) (d.length + 1) cap] Fa ∧ Hid (withD nm (.mk xk xi xt xl xd) d = dd.set d.length (dd[d.length].1, .mk xk xi xt xl xd)) :=
      ⟨d ++ [(nm, zeroV)], by simp, o2, Lib.hid (by rw [HD.out]; simp)⟩
    have x5 := Box.of e5
    have x4 := cell_at e7 4 _ rfl
    have HO := Lib.hid (And.intro o2 (And.intro e7 e6))
    have HFa := Lib.hid hFa
    have hltF := o2.lt
    clear HR HE k7 k5 k6 a4 af hown3 hgrow3 hat hlt3 hw2 hova hsuba hset hgo hb3 ba hFa hga e5 e6 e7 o2 HOi HN di bi hi1 hy0 hy1 hy2 y4
    clear x4
    obtain ⟨g', a0, n0, a1, n1', eg, f0, f1, f2, f3, f4, f5, ff⟩ := HO.out.1.field hj0
    injection eg with eg
    injection eg with eg
    subst eg
    have x4 := cell_at HO.out.2.1 4 _ rfl
    obtain ⟨x50, x51, x52, x53, x54⟩ := x5
    have g1 : ∀ q ∈ Fa, w.heap.size + 4 ≤ q ∧ q ≠ w1.heap.size ∧ q < w2.heap.size := fun q hq => by have := HFa.out q hq; have := hltF q hq; omega
    have hgb := g1 g (HO.out.1.ownD rfl)
    have ne7 : w1.heap.size ≠ g := by omega
    have ne6 : w.heap.size + 1 + 1 + 1 ≠ g := by omega
    have nf7 : ¬ g = w1.heap.size := by omega
    have nf5 : ¬ g = w.heap.size + 1 + 1 := by omega
    have ne67 : w.heap.size + 1 + 1 + 1 ≠ w1.heap.size := by omega
    have hbnd : (d.length : Int) < (d.length : Int) + 1 := by omega
    have hcl := clone_c (.mk xk xi xt xl xd) _ w2.drew (hx.grow (b2.trans (Below.refl _ _).drew))
    have HC : Hid (∀ e w3, Made w2.drew (.mk xk xi xt xl xd) e w3 → ∃ r2 u2 r3 u3 F', e = .returned (.agg #[.int .i64 xk, .int .i64 xi, .string xt, .slice r2 xl.length u2, .slice r3 xd.length u3]) ∧
        w3.cell? ⟨w1.heap.size, 4, none⟩ = some (.slice (some ⟨g, 0, none⟩) (d.length + 1) cap) ∧ w3.cell? ⟨w.heap.size + 1 + 1, 0, none⟩ = some (.int .i64 xk) ∧ w3.cell? ⟨w.heap.size + 1 + 1, 1, none⟩ = some (.int .i64 xi) ∧ w3.cell? ⟨w.heap.size + 1 + 1, 2, none⟩ = some (.string xt) ∧ w3.cell? ⟨w.heap.size + 1 + 1, 3, none⟩ = some (.slice p2 xl.length q2) ∧ w3.cell? ⟨w.heap.size + 1 + 1, 4, none⟩ = some (.slice p3 xd.length q3) ∧
        w3.cell? ⟨g, d.length * 6 + 1, none⟩ = some (.int .i64 dd[d.length].2.k) ∧ w3.cell? ⟨g, d.length * 6 + 1 + 1, none⟩ = some (.int .i64 dd[d.length].2.i) ∧ w3.cell? ⟨g, d.length * 6 + 1 + 2, none⟩ = some (.string dd[d.length].2.t) ∧ w3.cell? ⟨g, d.length * 6 + 1 + 3, none⟩ = some (.slice a0 dd[d.length].2.l.length n0) ∧ w3.cell? ⟨g, d.length * 6 + 1 + 4, none⟩ = some (.slice a1 dd[d.length].2.d.length n1') ∧
        w3.frozen? ⟨g, d.length * 6 + 1, none⟩ = false ∧ w3.frozen? ⟨g, d.length * 6 + 1 + 1, none⟩ = false ∧ w3.frozen? ⟨g, d.length * 6 + 1 + 2, none⟩ = false ∧ w3.frozen? ⟨g, d.length * 6 + 1 + 3, none⟩ = false ∧ w3.frozen? ⟨g, d.length * 6 + 1 + 4, none⟩ = false ∧
        Hid (w3.heap[w1.heap.size]? = some (.cells #[.int .i64 5, .int .i64 i, .string t, .slice r0 l.length u0, .slice (some ⟨g, 0, none⟩) (d.length + 1) cap] 25 (0, 0)) ∧ w3.heap[w.heap.size + 1 + 1 + 1]? = some (.cells #[.int .i64 0, .int .i64 0, .string ByteArray.empty, .slice none 0 0, .slice none 0 0] 25 (0, 0)) ∧
          OV false (stF w3 g d.length (.int .i64 xk) (.int .i64 xi) (.string xt) (.slice r2 xl.length u2) (.slice r3 xd.length u3)) (.mk 5 i t l (dd.set d.length (dd[d.length].1, .mk xk xi xt xl xd))) [.int .i64 5, .int .i64 i, .string t, .slice r0 l.length u0, .slice (some ⟨g, 0, none⟩) (d.length + 1) cap] F' ∧ F'.Nodup ∧ (∀ q ∈ F', w.heap.size + 4 ≤ q) ∧ Below w.heap.size w w3)) := Lib.hid (by
      rintro e w3 ⟨cs2, F2, rfl, ho2, hn2, hF2, d3'⟩
      have d3 : Below w2.heap.size w2 w3 := (Below.refl _ _).drew.trans d3'
      obtain ⟨r2, u2, r3, u3, rfl⟩ := ho2.rv.shape
      simp only [V.k, V.i, V.t, V.l, V.d] at ho2 ⊢
      obtain ⟨o1, e7, e6⟩ := HO.out
      have g2 : ∀ q ∈ F2, w2.heap.size ≤ q := fun q hq => by have := hF2 q hq; simpa using this
      obtain ⟨g', F', eg, hgF, hov', hn', hsub⟩ := OV.replaced (o1.grow d3) hna hj0 ho2 hn2 (fun q hq hm => by have := g1 q hm; have := g2 q hq; omega)
      injection eg with eg
      injection eg with eg
      subst eg
      have hfr : ∀ p, w3.frozen? ⟨g, p, none⟩ = false := fun p => (World.frozen?_of_block (w := w2) (a := ⟨g, p, none⟩) (d3.block g hgb.2.2)).trans (ff p)
      exact ⟨r2, u2, r3, u3, F', rfl, cell_grow d3 x4, cell_grow d3 x50, cell_grow d3 x51, cell_grow d3 x52, cell_grow d3 x53, cell_grow d3 x54, cell_grow d3 f1, cell_grow d3 f2, cell_grow d3 f3, cell_grow d3 f4, cell_grow d3 f5, hfr _, hfr _, hfr _, hfr _, hfr _,
        Lib.hid ⟨(d3.block _ (block_lt e7)).trans e7, (d3.block _ (block_lt e6)).trans e6, hov', hn', fun q hq => by
          rcases hsub q hq with hq | hq
          · have := g1 q hq; omega
          · have := g2 q hq; have := b2.size; omega, below2 b2 d3⟩⟩)
    have hS := And.intro x4 (And.intro x50 (And.intro x51 (And.intro x52 (And.intro x53 x54))))
    have HS : Hid (w2.drew.cell? ⟨w1.heap.size, 4, none⟩ = some (.slice (some ⟨g, 0, none⟩) (d.length + 1) cap) ∧ w2.drew.cell? ⟨w.heap.size + 1 + 1, 0, none⟩ = some (.int .i64 xk) ∧ w2.drew.cell? ⟨w.heap.size + 1 + 1, 1, none⟩ = some (.int .i64 xi) ∧ w2.drew.cell? ⟨w.heap.size + 1 + 1, 2, none⟩ = some (.string xt) ∧ w2.drew.cell? ⟨w.heap.size + 1 + 1, 3, none⟩ = some (.slice p2 xl.length q2) ∧ w2.drew.cell? ⟨w.heap.size + 1 + 1, 4, none⟩ = some (.slice p3 xd.length q3)) := Lib.hid hS
    clear hS f0 f1 f2 f3 f4 f5 ff g1 x4 x50 x51 x52 x53 x54
    go_region_held3 (fun w' => w'.cell? ⟨w1.heap.size, 4, none⟩ = some (.slice (some ⟨g, 0, none⟩) (d.length + 1) cap) ∧ w'.cell? ⟨w.heap.size + 1 + 1, 0, none⟩ = some (.int .i64 xk) ∧ w'.cell? ⟨w.heap.size + 1 + 1, 1, none⟩ = some (.int .i64 xi) ∧ w'.cell? ⟨w.heap.size + 1 + 1, 2, none⟩ = some (.string xt) ∧ w'.cell? ⟨w.heap.size + 1 + 1, 3, none⟩ = some (.slice p2 xl.length q2) ∧ w'.cell? ⟨w.heap.size + 1 + 1, 4, none⟩ = some (.slice p3 xd.length q3))
      (first | with_reducible exact HS.out | with_reducible exact ⟨y0, y1, y2, y3, y4, y5⟩ | simp only [World.cell?_setCell_far, ne_eq, nf7, nf5, not_false_eq_true, y0, y1, y2, y3, y4, y5, and_self])
      ((go_at_call 57; refine hcl.mono ?_; intro e w3 hm; obtain ⟨r2, u2, r3, u3, F', rfl, y0, y1, y2, y3, y4, y5, y6, y7, y8, y9, y10, v1, v2, v3, v4, v5, HH⟩ := HC.out e w3 hm))
    have e7 := HH.out.1
    have e6 := HH.out.2.1
    have s0 := cell_at e7 0 _ rfl
    have s1 := cell_at e7 1 _ rfl
    have s2 := cell_at e7 2 _ rfl
    have s3 := cell_at e7 3 _ rfl
    have r0' := cell_at e6 0 _ rfl
    have r1' := cell_at e6 1 _ rfl
    have r2' := cell_at e6 2 _ rfl
    have r3' := cell_at e6 3 _ rfl
    have r4' := cell_at e6 4 _ rfl
    have m0 := free_at e6 0
    have m1 := free_at e6 1
    have m2 := free_at e6 2
    have m3 := free_at e6 3
    have m4 := free_at e6 4
    clear e6 e7
    go_wp2_with fail
    refine bodyPost_ret (v := .agg #[.int .i64 5, .int .i64 i, .string t, .slice r0 l.length u0, .slice (some ⟨g, 0, none⟩) (d.length + 1) cap]) (by simp [results, Tryd.results30, go_sem, r0', r1', r2', r3', r4']) rfl ?_
    rw [HW.out, HD2.out]
    have hst := stF_only w3 g d.length (.int .i64 xk) (.int .i64 xi) (.string xt) (.slice r2 xl.length u2) (.slice r3 xd.length u3)
    obtain ⟨_, _, hov', hn', hF', b3⟩ := HH.out
    have hfin := made_ret (w := w) (b := w.heap.size + 1 + 1 + 1) hov' hn' (fun q hq => by have := hF' q hq; omega) (b3.trans (hst.below (fun q hq => by omega) b3.size)) (by omega)
    exact hfin
  · rw [h1] at hidx
    have HD := Lib.hid h3
    have HN := Lib.hid h2
    clear h1 h2 h3
    refine hidx.mono ?_
    rintro e w2 ⟨rfl, d2⟩
    simp only [Nat.zero_add]
    have b2 := below2 (below2 b0 d1) (below2 d1' d2)
    have o2 := o1.grow d2
    have e7 := (d2.block _ (block_lt HE7.out)).trans HE7.out
    have e5 := ((below2 d1 (below2 d1' d2)).block _ (block_lt E2.out.2.1)).trans E2.out.2.1
    have e6 := ((below2 d1 (below2 d1' d2)).block _ (block_lt E2.out.2.2)).trans E2.out.2.2
    have x4 := cell_at e7 4 _ rfl
    have x5 := Box.of e5
    have HO := Lib.hid (And.intro o2 (And.intro e7 e6))
    clear e5 e6 e7 o1 o2 n1 hidx
    go_wp2_with fail
    clear x4
    obtain ⟨g, a0, n0, a1, n1', rfl, f0, f1, f2, f3, f4, f5, ff⟩ := HO.out.1.field hj
    have x4 := cell_at HO.out.2.1 4 _ rfl
    obtain ⟨x50, x51, x52, x53, x54⟩ := x5
    have z1 := d1.size
    have z2 := d2.size
    have g1 : ∀ q ∈ F1, w.heap.size + 4 ≤ q ∧ q ≠ w1.heap.size ∧ q < w2.heap.size := fun g hg => by have := hF1 g hg; have := ho1.lt g hg; omega
    have hgb := g1 g (HO.out.1.ownD rfl)
    have ne7 : w1.heap.size ≠ g := by omega
    have ne6 : w.heap.size + 1 + 1 + 1 ≠ g := by omega
    have nf7 : ¬ g = w1.heap.size := by omega
    have nf5 : ¬ g = w.heap.size + 1 + 1 := by omega
    have ne67 : w.heap.size + 1 + 1 + 1 ≠ w1.heap.size := by omega
    have hbnd : (j : Int) < ((d.length : Nat) : Int) := by omega
    have hcl := clone_c (.mk xk xi xt xl xd) _ w2.drew (hx.grow (b2.trans (Below.refl _ _).drew))
    have HC : Hid (∀ e w3, Made w2.drew (.mk xk xi xt xl xd) e w3 → ∃ r2 u2 r3 u3 F', e = .returned (.agg #[.int .i64 xk, .int .i64 xi, .string xt, .slice r2 xl.length u2, .slice r3 xd.length u3]) ∧
        w3.cell? ⟨w1.heap.size, 4, none⟩ = some (.slice (some ⟨g, 0, none⟩) d.length u1) ∧ w3.cell? ⟨w.heap.size + 1 + 1, 0, none⟩ = some (.int .i64 xk) ∧ w3.cell? ⟨w.heap.size + 1 + 1, 1, none⟩ = some (.int .i64 xi) ∧ w3.cell? ⟨w.heap.size + 1 + 1, 2, none⟩ = some (.string xt) ∧ w3.cell? ⟨w.heap.size + 1 + 1, 3, none⟩ = some (.slice p2 xl.length q2) ∧ w3.cell? ⟨w.heap.size + 1 + 1, 4, none⟩ = some (.slice p3 xd.length q3) ∧
        w3.cell? ⟨g, j * 6 + 1, none⟩ = some (.int .i64 d[j].2.k) ∧ w3.cell? ⟨g, j * 6 + 1 + 1, none⟩ = some (.int .i64 d[j].2.i) ∧ w3.cell? ⟨g, j * 6 + 1 + 2, none⟩ = some (.string d[j].2.t) ∧ w3.cell? ⟨g, j * 6 + 1 + 3, none⟩ = some (.slice a0 d[j].2.l.length n0) ∧ w3.cell? ⟨g, j * 6 + 1 + 4, none⟩ = some (.slice a1 d[j].2.d.length n1') ∧
        w3.frozen? ⟨g, j * 6 + 1, none⟩ = false ∧ w3.frozen? ⟨g, j * 6 + 1 + 1, none⟩ = false ∧ w3.frozen? ⟨g, j * 6 + 1 + 2, none⟩ = false ∧ w3.frozen? ⟨g, j * 6 + 1 + 3, none⟩ = false ∧ w3.frozen? ⟨g, j * 6 + 1 + 4, none⟩ = false ∧
        Hid (w3.heap[w1.heap.size]? = some (.cells #[.int .i64 5, .int .i64 i, .string t, .slice r0 l.length u0, .slice (some ⟨g, 0, none⟩) d.length u1] 25 (0, 0)) ∧ w3.heap[w.heap.size + 1 + 1 + 1]? = some (.cells #[.int .i64 0, .int .i64 0, .string ByteArray.empty, .slice none 0 0, .slice none 0 0] 25 (0, 0)) ∧
          OV false (stF w3 g j (.int .i64 xk) (.int .i64 xi) (.string xt) (.slice r2 xl.length u2) (.slice r3 xd.length u3)) (.mk 5 i t l (d.set j (d[j].1, .mk xk xi xt xl xd))) [.int .i64 5, .int .i64 i, .string t, .slice r0 l.length u0, .slice (some ⟨g, 0, none⟩) d.length u1] F' ∧ F'.Nodup ∧ (∀ q ∈ F', w.heap.size + 4 ≤ q) ∧ Below w.heap.size w w3)) := Lib.hid (by
      rintro e w3 ⟨cs2, F2, rfl, ho2, hn2, hF2, d3'⟩
      have d3 : Below w2.heap.size w2 w3 := (Below.refl _ _).drew.trans d3'
      obtain ⟨r2, u2, r3, u3, rfl⟩ := ho2.rv.shape
      simp only [V.k, V.i, V.t, V.l, V.d] at ho2 ⊢
      obtain ⟨o1, e7, e6⟩ := HO.out
      have g2 : ∀ q ∈ F2, w2.heap.size ≤ q := fun q hq => by have := hF2 q hq; simpa using this
      obtain ⟨g', F', eg, hgF, hov', hn', hsub⟩ := OV.replaced (o1.grow d3) hn1 hj ho2 hn2 (fun q hq hm => by have := g1 q hm; have := g2 q hq; omega)
      injection eg with eg
      injection eg with eg
      subst eg
      have hfr : ∀ p, w3.frozen? ⟨g, p, none⟩ = false := fun p => (World.frozen?_of_block (w := w2) (a := ⟨g, p, none⟩) (d3.block g hgb.2.2)).trans (ff p)
      exact ⟨r2, u2, r3, u3, F', rfl, cell_grow d3 x4, cell_grow d3 x50, cell_grow d3 x51, cell_grow d3 x52, cell_grow d3 x53, cell_grow d3 x54, cell_grow d3 f1, cell_grow d3 f2, cell_grow d3 f3, cell_grow d3 f4, cell_grow d3 f5, hfr _, hfr _, hfr _, hfr _, hfr _,
        Lib.hid ⟨(d3.block _ (block_lt e7)).trans e7, (d3.block _ (block_lt e6)).trans e6, hov', hn', fun q hq => by
          rcases hsub q hq with hq | hq
          · have := g1 q hq; omega
          · have := g2 q hq; have := b2.size; omega, below2 b2 d3⟩⟩)
    have hS := And.intro x4 (And.intro x50 (And.intro x51 (And.intro x52 (And.intro x53 x54))))
    have HS : Hid (w2.drew.cell? ⟨w1.heap.size, 4, none⟩ = some (.slice (some ⟨g, 0, none⟩) d.length u1) ∧ w2.drew.cell? ⟨w.heap.size + 1 + 1, 0, none⟩ = some (.int .i64 xk) ∧ w2.drew.cell? ⟨w.heap.size + 1 + 1, 1, none⟩ = some (.int .i64 xi) ∧ w2.drew.cell? ⟨w.heap.size + 1 + 1, 2, none⟩ = some (.string xt) ∧ w2.drew.cell? ⟨w.heap.size + 1 + 1, 3, none⟩ = some (.slice p2 xl.length q2) ∧ w2.drew.cell? ⟨w.heap.size + 1 + 1, 4, none⟩ = some (.slice p3 xd.length q3)) := Lib.hid hS
    clear hS f0 f1 f2 f3 f4 f5 ff g1 x4 x50 x51 x52 x53 x54
    go_region_held3 (fun w' => w'.cell? ⟨w1.heap.size, 4, none⟩ = some (.slice (some ⟨g, 0, none⟩) d.length u1) ∧ w'.cell? ⟨w.heap.size + 1 + 1, 0, none⟩ = some (.int .i64 xk) ∧ w'.cell? ⟨w.heap.size + 1 + 1, 1, none⟩ = some (.int .i64 xi) ∧ w'.cell? ⟨w.heap.size + 1 + 1, 2, none⟩ = some (.string xt) ∧ w'.cell? ⟨w.heap.size + 1 + 1, 3, none⟩ = some (.slice p2 xl.length q2) ∧ w'.cell? ⟨w.heap.size + 1 + 1, 4, none⟩ = some (.slice p3 xd.length q3))
      (first | with_reducible exact HS.out | with_reducible exact ⟨y0, y1, y2, y3, y4, y5⟩ | simp only [World.cell?_setCell_far, ne_eq, nf7, nf5, not_false_eq_true, y0, y1, y2, y3, y4, y5, and_self])
      ((go_at_call 57; refine hcl.mono ?_; intro e w3 hm; obtain ⟨r2, u2, r3, u3, F', rfl, y0, y1, y2, y3, y4, y5, y6, y7, y8, y9, y10, v1, v2, v3, v4, v5, HH⟩ := HC.out e w3 hm))
    have e7 := HH.out.1
    have e6 := HH.out.2.1
    have s0 := cell_at e7 0 _ rfl
    have s1 := cell_at e7 1 _ rfl
    have s2 := cell_at e7 2 _ rfl
    have s3 := cell_at e7 3 _ rfl
    have r0' := cell_at e6 0 _ rfl
    have r1' := cell_at e6 1 _ rfl
    have r2' := cell_at e6 2 _ rfl
    have r3' := cell_at e6 3 _ rfl
    have r4' := cell_at e6 4 _ rfl
    have m0 := free_at e6 0
    have m1 := free_at e6 1
    have m2 := free_at e6 2
    have m3 := free_at e6 3
    have m4 := free_at e6 4
    clear e6 e7
    go_wp2_with fail
    refine bodyPost_ret (v := .agg #[.int .i64 5, .int .i64 i, .string t, .slice r0 l.length u0, .slice (some ⟨g, 0, none⟩) d.length u1]) (by simp [results, Tryd.results30, go_sem, r0', r1', r2', r3', r4']) rfl ?_
    rw [HW.out, HD.out]
    have hst := stF_only w3 g j (.int .i64 xk) (.int .i64 xi) (.string xt) (.slice r2 xl.length u2) (.slice r3 xd.length u3)
    obtain ⟨_, _, hov', hn', hF', b3⟩ := HH.out
    have hfin := made_ret (w := w) (b := w.heap.size + 1 + 1 + 1) hov' hn' (fun q hq => by have := hF' q hq; omega) (b3.trans (hst.below (fun q hq => by omega) b3.size)) (by omega)
    exact hfin
end Go.Proofs.YthfejpldhemakaaDoor
