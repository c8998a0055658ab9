import Derived.Test.YthfejpldhemakaaDoorQ
import Derived.Test.YthfejpldhemakaaDoorProg
import Derived.WalkSpells
import Derived.WalkLawsBesides
import Derived.KernelRfl
import Derived.BigQuiet
import Derived.Deep.RegionHeld3
import Derived.Deep.RegionLaw
namespace Go.Proofs.YthfejpldhemakaaDoor
open Go.RowKit Go.Sort
theorem info25' : (Tryd.prog.info? 25).map (fun i => (i.zero, i.size, i.bytes)) = some (some (.agg #[.int .i64 0, .int .i64 0, .string ByteArray.empty, .slice none 0 0, .slice none 0 0]), 5, 80) := by kernel_rfl
theorem info72' : (Tryd.prog.info? 72).map (fun i => (i.zero, i.size, i.bytes)) = some (some (.agg #[.string ByteArray.empty, .int .i64 0, .int .i64 0, .string ByteArray.empty, .slice none 0 0, .slice none 0 0]), 6, 96) := by kernel_rfl
theorem grownBy_undrew {w w' : World} {r : Option Nat} (h : w.drew.grownBy w' r) : w.grownBy w' r := ⟨h.os, h.tape, h.output, h.size, h.block⟩
theorem heap_new1 (w : World) (o1 o2 : Obj) : ((w.alloc o1).alloc o2).heap[w.heap.size + 1]? = some o2 := by
  have := heap_alloc_new (w.alloc o1) o2
  simpa using this
/-- What Lent answers: a copy in new memory of its own, a mark behind each row. -/
def Lent (w : World) (v : V) (e : Ending) (w' : World) : Prop :=
  ∃ cs F, e = .returned (.agg cs.toArray) ∧ OV true w' v cs F ∧ F.Nodup ∧ (∀ g ∈ F, w.heap.size ≤ g) ∧ Below w.heap.size w w'
theorem lent_boxes {w w3 : World} {c0 c1 c2 : Array Value} (hg : (((w.alloc (.cells c0 25)).alloc (.cells c1 25)).alloc (.cells c2 25)).grownBy w3 none) :
    w3.heap[w.heap.size]? = some (.cells c0 25 (0, 0)) ∧ w3.heap[w.heap.size + 1]? = some (.cells c1 25 (0, 0)) ∧ w3.heap[w.heap.size + 1 + 1]? = some (.cells c2 25 (0, 0)) ∧ Below w.heap.size w w3 ∧ w.heap.size + 3 ≤ w3.heap.size := by
  have hs := hg.size
  simp only [World.size_alloc] at hs
  have h0 : (((w.alloc (.cells c0 25)).alloc (.cells c1 25)).alloc (.cells c2 25)).heap[w.heap.size]? = some (.cells c0 25 (0, 0)) := by
    rw [heap_alloc_old _ _ (by simp only [World.size_alloc]; omega), heap_alloc_old _ _ (by simp only [World.size_alloc]; omega), heap_alloc_new]
  have h1 : (((w.alloc (.cells c0 25)).alloc (.cells c1 25)).alloc (.cells c2 25)).heap[w.heap.size + 1]? = some (.cells c1 25 (0, 0)) := by
    rw [heap_alloc_old _ _ (by simp only [World.size_alloc]; omega)]
    have := heap_alloc_new (w.alloc (.cells c0 25)) (.cells c1 25)
    simpa using this
  have h2 : (((w.alloc (.cells c0 25)).alloc (.cells c1 25)).alloc (.cells c2 25)).heap[w.heap.size + 1 + 1]? = some (.cells c2 25 (0, 0)) := by
    have := heap_alloc_new ((w.alloc (.cells c0 25)).alloc (.cells c1 25)) (.cells c2 25)
    simpa using this
  refine ⟨?_, ?_, ?_, ?_, by omega⟩
  · rw [hg.block _ (by simp only [World.size_alloc]; omega) (by simp), h0]
  · rw [hg.block _ (by simp only [World.size_alloc]; omega) (by simp), h1]
  · rw [hg.block _ (by simp only [World.size_alloc]; omega) (by simp), h2]
  · exact (below_then (below_alloc2 w _ _) (below_alloc1 _ _) (by simp only [World.size_alloc]; omega)).trans ((Only.of_grown hg).below (B := w.heap.size) (fun g hg => by cases hg) (by simp only [World.size_alloc]; omega))
theorem lent_boxes2 {w w3 w4 : World} {c0 c1 c2 : Array Value} {u : Value} {j : Nat} (hg : (w3.setCell ⟨w.heap.size + 1 + 1, j, none⟩ u).grownBy w4 none)
    (h : w3.heap[w.heap.size]? = some (.cells c0 25 (0, 0)) ∧ w3.heap[w.heap.size + 1]? = some (.cells c1 25 (0, 0)) ∧ w3.heap[w.heap.size + 1 + 1]? = some (.cells c2 25 (0, 0)) ∧ Below w.heap.size w w3 ∧ w.heap.size + 3 ≤ w3.heap.size) :
    w4.heap[w.heap.size]? = some (.cells c0 25 (0, 0)) ∧ w4.heap[w.heap.size + 1]? = some (.cells c1 25 (0, 0)) ∧ w4.heap[w.heap.size + 1 + 1]? = some (.cells (c2.setIfInBounds j u) 25 (0, 0)) ∧ Below w.heap.size w w4 ∧ w3.heap.size ≤ w4.heap.size ∧
      (∀ k, k < w3.heap.size → k ≠ w.heap.size + 1 + 1 → w4.heap[k]? = w3.heap[k]?) := by
  obtain ⟨h0, h1, h2, hb, hs⟩ := h
  have ho := only_set w3 (w.heap.size + 1 + 1) j u
  have ho2 : Only (fun g => g = w.heap.size + 1 + 1) w3 w4 := ho.trans (Only.of_grown hg) (fun g _ hg => by cases hg)
  refine ⟨(ho2.block _ (by omega) (by omega)).trans h0, (ho2.block _ (by omega) (by omega)).trans h1, ?_, hb.trans (ho2.below (fun g hg => by omega) hb.size), ho2.size, fun k hk hne => ho2.block k hk hne⟩
  rw [hg.block _ (by simp [World.setCell]; omega) (by simp)]
  exact setCell_block h2 j u
theorem lent_keep {wr w2 w3 : World} {o o' : Obj} {g1 G : Nat} (hg2 : (wr.alloc o).grownBy w2 (some g1)) (hg3 : (w2.alloc o').grownBy w3 (some G)) : Only (fun q => q = g1 ∨ q = G) wr w3 := by
  have h2 : Only (fun q => some q = some g1) wr w2 := (Only.of_below (below_alloc1 wr o)).trans (Only.of_grown hg2) (fun _ _ h => h)
  have h3 : Only (fun q => some q = some G) w2 w3 := (Only.of_below (below_alloc1 w2 o')).trans (Only.of_grown hg3) (fun _ _ h => h)
  exact (h2.mono (T := fun q => q = g1 ∨ q = G) fun q _ h => .inl (by simpa using h)).trans h3 fun q _ h => .inr (by simpa using h)
theorem lent_done {w wr w2 w3 wo : World} {o o' : Obj} {k i : Int} {t : ByteArray} {l : List V} {d : List (ByteArray × V)} {L : List (V × List Value × List Nat)} {D : List (ByteArray × V × List Value × List Nat)} {G : Nat} (x y : Value) (hk : Rng k) (hi : Rng i) (ht : t.size ≤ 140737488355328)
    (hl : l.length * 80 ≤ 140737488355328) (hd : d.length * 96 ≤ 140737488355328) (hn : ∀ c ∈ D, c.1.size ≤ 140737488355328)
    (hpl0 : QL wr (w.heap.size + 3) L (.slice (some ⟨w.heap.size + 1 + 1 + 1, 0, none⟩) l.length (l.length + 1))) (hpl : QD wr G D (.slice (some ⟨G, 0, none⟩) d.length (d.length + 1)))
    (hgeL : ∀ g ∈ L.flatMap (·.2.2), G + 1 ≤ g ∧ g < wo.heap.size) (hgeD : ∀ g ∈ D.flatMap (·.2.2.2), wo.heap.size ≤ g) (hG : w.heap.size + 4 ≤ G) (hGo : G < wo.heap.size) (hle : wo.heap.size ≤ wr.heap.size)
    (hown2 : w2.ownsRow 0 25 5 (.slice (some ⟨w.heap.size + 1 + 1 + 1, 0, none⟩) (l.length + 1) (l.length + 1)) (l.length + 1) (L.flatMap (·.2.1) ++ mark 25)) (hg2 : (wr.alloc o).grownBy w2 (some (w.heap.size + 1 + 1 + 1)))
    (hown3 : w3.ownsRow 0 72 6 (.slice (some ⟨G, 0, none⟩) (d.length + 1) (d.length + 1)) (d.length + 1) ((D.flatMap fun c => .string c.1 :: c.2.2.1) ++ mark 72)) (hg3 : (w2.alloc o').grownBy w3 (some G))
    (hb : Below w.heap.size w wr) (hl' : L.map (·.1) = l) (hd' : D.map (fun c => (c.1, c.2.1)) = d) :
    Lent w (.mk k i t l d) (.returned (.agg [.int .i64 k, .int .i64 i, .string t, .slice (some ⟨w.heap.size + 1 + 1 + 1, 0, none⟩) l.length (l.length + 1), .slice (some ⟨G, 0, none⟩) d.length (d.length + 1)].toArray))
      (set5 ((w3.setCell ⟨w.heap.size + 1 + 1, 3, none⟩ x).setCell ⟨w.heap.size + 1 + 1, 4, none⟩ y) (w.heap.size + 1) (.int .i64 k) (.int .i64 i) (.string t) (.slice (some ⟨w.heap.size + 1 + 1 + 1, 0, none⟩) l.length (l.length + 1)) (.slice (some ⟨G, 0, none⟩) d.length (d.length + 1))) := by
  have hLl : L.length = l.length := by have := congrArg List.length hl'; simpa using this
  have hDl : D.length = d.length := by have := congrArg List.length hd'; simpa using this
  have hkeep := lent_keep hg2 hg3
  generalize hWe : set5 _ _ _ _ _ _ _ = We
  have hon : Only (fun q => q = w.heap.size + 1 ∨ q = w.heap.size + 1 + 1) w3 We := by
    rw [← hWe]
    have h1 : Only (fun q => q = w.heap.size + 1 + 1) w3 ((w3.setCell ⟨w.heap.size + 1 + 1, 3, none⟩ x).setCell ⟨w.heap.size + 1 + 1, 4, none⟩ y) := (only_set _ _ 3 x).trans (only_set _ _ 4 y) (fun _ _ h => h)
    exact (h1.mono fun q _ h => .inr h).trans (set5_only _ _ _ _ _ _ _) fun q _ h => .inl h
  clear hWe
  have hsz := hkeep.size
  have hall : ∀ q, q < wr.heap.size → w.heap.size + 4 ≤ q → q ≠ G → We.heap[q]? = wr.heap[q]? := fun q hq h4 hne => (hon.block q (by omega) (by omega)).trans (hkeep.block q hq (by omega))
  have hg1lt : w.heap.size + 1 + 1 + 1 < w2.heap.size := (ownsRow_back hown2).2
  have r1 : RowO true We 25 5 (.slice (some ⟨w.heap.size + 1 + 1 + 1, 0, none⟩) l.length (l.length + 1)) l.length (L.flatMap (·.2.1)) := by
    refine (row_marked hown2 ?_).at_ fun g hg => ?_
    · rw [flat_len _ 5 L (fun c hc => (hpl0.each c hc).len), hLl]
    · simp only [Value.ownBlock, Option.some.injEq] at hg
      subst hg
      have h3 : w3.heap[w.heap.size + 1 + 1 + 1]? = w2.heap[w.heap.size + 1 + 1 + 1]? := by
        rw [hg3.block _ (by simp only [World.size_alloc]; omega) (by simp only [Option.some.injEq, ne_eq]; omega), heap_alloc_old _ _ hg1lt]
      have h4 : w2.heap.size ≤ w3.heap.size := by have := hg3.size; simp only [World.size_alloc] at this; omega
      exact (hon.block _ (by omega) (by omega)).trans h3
  have r2 : RowO true We 72 6 (.slice (some ⟨G, 0, none⟩) d.length (d.length + 1)) d.length (D.flatMap fun c => .string c.1 :: c.2.2.1) := by
    refine (row_marked hown3 ?_).at_ fun g hg => ?_
    · rw [flat_len _ 6 D (fun c hc => by simp [(hpl.each c hc).len]), hDl]
    · simp only [Value.ownBlock, Option.some.injEq] at hg
      subst hg
      exact hon.block _ (by have := (ownsRow_back hown3).2; omega) (by omega)
  have hLg : ∀ g ∈ L.flatMap (·.2.2), g < wr.heap.size ∧ w.heap.size + 4 ≤ g ∧ g ≠ G := fun g hg => by have := hgeL g hg; omega
  have hDg : ∀ g ∈ D.flatMap (·.2.2.2), g < wr.heap.size ∧ w.heap.size + 4 ≤ g ∧ g ≠ G := fun g hg => by have := hgeD g hg; have := hpl.lt g (List.mem_append_right _ hg); omega
  have hov := OV.mk (m := true) (w := We) (k := k) (i := i) (t := t) (sl := .slice (some ⟨w.heap.size + 1 + 1 + 1, 0, none⟩) l.length (l.length + 1)) (sd := .slice (some ⟨G, 0, none⟩) d.length (d.length + 1)) L D hk hi ht (by rw [hLl]; exact hl) (by rw [hDl]; exact hd) hn (by rw [hLl]; exact r1) (by rw [hDl]; exact r2)
    (fun c hc => (hpl0.each c hc).at_ fun g hg => by have := hLg g (List.mem_flatMap.2 ⟨c, hc, hg⟩); exact hall g this.1 this.2.1 this.2.2)
    (fun c hc => (hpl.each c hc).at_ fun g hg => by have := hDg g (List.mem_flatMap.2 ⟨c, hc, hg⟩); exact hall g this.1 this.2.1 this.2.2)
  rw [hl', hd'] at hov
  refine ⟨_, _, rfl, hov, ?_, ?_, ?_⟩
  · refine List.nodup_append.2 ⟨hpl0.nodup, hpl.nodup, fun a ha b hb he => ?_⟩
    subst he
    rcases List.mem_append.1 ha with ha | ha <;> rcases List.mem_append.1 hb with hb | hb
    · simp [Value.ownBlock] at ha hb; omega
    · simp [Value.ownBlock] at ha; have := hgeD a hb; omega
    · simp [Value.ownBlock] at hb; have := hgeL a ha; omega
    · have := hgeL a ha; have := hgeD a hb; omega
  · intro g hg
    rcases List.mem_append.1 hg with hg | hg
    · have := hpl0.from_ g hg; omega
    · have := hpl.from_ g hg; omega
  · exact hb.trans ((hkeep.below (B := w.heap.size) (fun g hg => by omega) hb.size).trans (hon.below (fun g hg => by omega) (by have := hb.size; omega)))
set_option maxRecDepth 100000 in
set_option maxHeartbeats 1000000 in
theorem lent_c (v : V) : ∀ (cs : List Value) (w : World), RV w v cs → Calls Tryd.prog 20 #[.agg cs.toArray] w (Lent w v) := by
  induction v using V.ind with
  | h k i t l d ihl ihd =>
    intro cs w hv
    obtain ⟨A, c, A', c', rfl, hk, hi, ht, hA, hD⟩ := hv.inv
    have hA0 := hA.1
    have hD0 := hD.1
    obtain ⟨i0, hi0, hz0, hz1, hz2⟩ := info_parts info25'
    obtain ⟨i1, hi1, hy0, hy1, hy2⟩ := info_parts info72'
    go_enter Tryd.func20, Tryd.ntmps20
    go_wp2_with (first
      | (refine wpList_make_own _ (by rfl) _ _ _ (by rfl) 0 25 i0 _ 5 Tryd.underlying22 hi0 hz0 hz1 .i64 .i64 _ (l.length + 1) (by rfl) (by rfl) (by omega) (by rw [hz2]; omega) (by simp [maxLen]; omega) (Nat.zero_le _) ?_; intro w3 hown3 hg3; have L3 := lent_boxes hg3; have cb3 := cell_at L3.2.2.1 3 _ rfl; have fb3 := free_at L3.2.2.1 3; have ca4 := cell_at L3.1 4 _ rfl)
      | (refine wpList_make_own _ (by rfl) _ _ _ (by rfl) 0 72 i1 _ 6 Tryd.underlying23 hi1 hy0 hy1 .i64 .i64 _ (d.length + 1) (by rfl) (by rfl) (by omega) (by rw [hy2]; omega) (by simp [maxLen]; omega) (Nat.zero_le _) ?_; intro w4 hown4 hg4; have L4 := lent_boxes2 hg4 L3; have cb4 := cell_at L4.2.2.1 4 _ rfl; have fb4 := free_at L4.2.2.1 4))
    obtain ⟨G, hG⟩ : ∃ G, G = w3.heap.size := ⟨_, rfl⟩
    have hG3 : w.heap.size + 4 ≤ G := by
      have := (ownsRow_back hown3).2
      simp only [World.size_alloc] at this
      omega
    have hown3' : w4.ownsRow 0 25 5 (.slice (some ⟨w.heap.size + 1 + 1 + 1, 0, none⟩) 0 (l.length + 1)) 0 [] := by
      have := ownsRow_at (w1 := w4) hown3 (fun g hg => by
        simp only [Value.ownBlock, World.size_alloc, Option.some.injEq] at hg
        exact L4.2.2.2.2.2 g (by omega) (by omega))
      simpa using this
    have hown4' : w4.ownsRow 0 72 6 (.slice (some ⟨G, 0, none⟩) 0 (d.length + 1)) 0 [] := by
      have : (w3.setCell ⟨w.heap.size + 1 + 1, 3, none⟩ (Value.slice (some ⟨w.heap.size + 1 + 1 + 1, 0, none⟩) 0 (l.length + 1))).heap.size = G := by rw [hG]; simp [World.setCell]
      rw [this] at hown4
      exact hown4
    rw [← hG]
    have hGlt := (ownsRow_back hown4').2
    generalize hW5 : w4.setCell _ _ = W5
    have ho5 := only_set w4 (w.heap.size + 1 + 1) 4 (.slice (some ⟨G, 0, none⟩) 0 (d.length + 1))
    rw [hW5] at ho5
    have hx2 : W5.heap[w.heap.size + 1 + 1]? = some (.cells #[.int .i64 k, .int .i64 i, .string t, .slice (some ⟨w.heap.size + 1 + 1 + 1, 0, none⟩) 0 (l.length + 1), .slice (some ⟨G, 0, none⟩) 0 (d.length + 1)] 25 (0, 0)) := by
      rw [← hW5]
      exact setCell_block L4.2.2.1 4 _
    have hx0 := (ho5.block w.heap.size (by omega) (by omega)).trans L4.1
    have hx1 := (ho5.block (w.heap.size + 1) (by omega) (by omega)).trans L4.2.1
    have hb5 : Below w.heap.size w W5 := L4.2.2.2.1.trans (ho5.below (fun g hg => by omega) L4.2.2.2.1.size)
    have hown3'' := ownsRow_at (w1 := W5) hown3' (fun g hg => by
      simp only [Value.ownBlock, Option.some.injEq] at hg
      exact ho5.block g (by omega) (by omega))
    have hown4'' := ownsRow_at (w1 := W5) hown4' (fun g hg => by
      simp only [Value.ownBlock, Option.some.injEq] at hg
      exact ho5.block g (by omega) (by omega))
    have H5 := Lib.hid (And.intro hx0 (And.intro hx1 (And.intro hx2 (And.intro hown3'' hown4''))))
    have HG := Lib.hid (And.intro hG3 (Nat.lt_of_lt_of_le hGlt ho5.size))
    clear hown3 hg3 L3 cb3 fb3 ca4 hown4 hg4 L4 cb4 fb4 hG hG3 hown3' hown4' hGlt hW5 ho5 hx2 hx0 hx1 hown3'' hown4''
    go_loopw [4] (fun ix wr => ∃ (j : Nat) (L : List (V × List Value × List Nat)), j ≤ l.length ∧ ix = .int .i64 j ∧ Hid (L.map (·.1) = l.take j ∧ QL wr (w.heap.size + 3) L (.slice (some ⟨w.heap.size + 1 + 1 + 1, 0, none⟩) L.length (l.length + 1)) ∧ (∀ g ∈ L.flatMap (·.2.2), G + 1 ≤ g) ∧ wr.ownsRow 0 72 6 (.slice (some ⟨G, 0, none⟩) 0 (d.length + 1)) 0 [] ∧
      wr.heap[w.heap.size]? = some (.cells #[.int .i64 k, .int .i64 i, .string t, .slice A l.length c, .slice A' d.length c'] 25 (0, 0)) ∧ wr.heap[w.heap.size + 1]? = some (.cells #[.int .i64 0, .int .i64 0, .string ByteArray.empty, .slice none 0 0, .slice none 0 0] 25 (0, 0)) ∧
      wr.heap[w.heap.size + 1 + 1]? = some (.cells #[.int .i64 k, .int .i64 i, .string t, .slice (some ⟨w.heap.size + 1 + 1 + 1, 0, none⟩) L.length (l.length + 1), .slice (some ⟨G, 0, none⟩) 0 (d.length + 1)] 25 (0, 0))) ∧ Below w.heap.size w wr) (fun ix _ => l.length - (intOf ix).toNat)
    case atStart =>
      obtain ⟨hx0, hx1, hx2, ho1, ho2⟩ := H5.out
      exact ⟨0, [], by omega, rfl, Lib.hid ⟨rfl, ⟨ho1, fun c hc => absurd hc (by simp), by simp [Value.ownBlock], by simp [Value.ownBlock]⟩, by simp, ho2, hx0, hx1, hx2⟩, hb5⟩
    case round =>
      obtain ⟨j, L, hj, rfl, H, hb⟩ := hrel
      have ca3 := cell_at H.out.2.2.2.2.1 3 _ rfl
      by_cases hlt : j < l.length
      · have ih := ihl l[j] (List.getElem_mem hlt)
        obtain ⟨b, off, a0, n0, a1, n1, rfl, hrv, f0, f1, f2, f3, f4⟩ := (hA.grow hb).get j hlt
        clear ihl ihd hA hD H5 hv hb5
        go_wp2_with fail
        refine (ih _ _ hrv).mono ?_
        rintro e w1 ⟨cs', F', rfl, hov, hnd, hfr, hb1⟩
        obtain ⟨p0, q0, p1, q1, rfl⟩ := hov.rv.shape
        have hL : L.length = j := by
          have := congrArg List.length H.out.1
          simpa [Nat.min_eq_left hj] using this
        have hbw : ∀ o, Below wr.heap.size wr (w1.alloc o) := fun o => below2 hb1 (below_alloc1 _ _)
        have hbx : ∀ o, (w1.alloc o).heap[w.heap.size + 1 + 1]? = some (.cells #[.int .i64 k, .int .i64 i, .string t, .slice (some ⟨w.heap.size + 1 + 1 + 1, 0, none⟩) L.length (l.length + 1), .slice (some ⟨G, 0, none⟩) 0 (d.length + 1)] 25 (0, 0)) := fun o => ((hbw o).block _ (block_lt H.out.2.2.2.2.2.2)).trans H.out.2.2.2.2.2.2
        have cb := fun o => cell_at (hbx o) 3 _ rfl
        have hpl1 := fun o => H.out.2.1.grow (hbw o)
        have HL := Lib.hid hL
        have HB := Lib.hid hbx
        have HP := Lib.hid hpl1
        clear f0 f1 f2 f3 f4 hL hbx hpl1
        go_wp2_with (refine wpList_append_fits _ (by rfl) _ _ 22 (by rfl) 0 25 i0 5 Tryd.underlying22 hi0 hz1 (w.heap.size + 1 + 1 + 1) L.length (l.length + 1) (L.flatMap (·.2.1)) (by rfl) ((HP.out _).row.alloc _) ⟨w1.heap.size + 1, 0, none⟩ 1 1 [.int .i64 l[j].k, .int .i64 l[j].i, .string l[j].t, .slice p0 l[j].l.length q0, .slice p1 l[j].d.length q1] (by rfl) (by rfl) (World.news_of_block (heap_new1 w1 _ _)) (by simp [Value.oneCell']) (by rw [HL.out]; omega) ?_; intro w2 hown2 hgrow2; have hbx2 := Lib.hid ((HP.out _).box (HB.out _) hgrow2 (by omega)); have cb2 := cell_at hbx2.out 3 _ rfl; have fb2 := free_at hbx2.out 3)
        all_goals
          go_wp2_with fail
          go_roundw
          case rel =>
            obtain ⟨hm, hpl, hge, hoD, e0, e1, e2⟩ := H.out
            have hwr := block_lt e2
            have R := QL.round (q := 3) (show w.heap.size + 1 + 1 < w.heap.size + 3 by omega) (by omega) (Below.refl _ _) (hbw _) hpl e2 (hov.grow (below_alloc1 _ _)) hnd hfr hown2 hgrow2 (.inl rfl)
            have hGl := (ownsRow_back hoD).2
            have hG3 := HG.out.1
            refine ⟨j + 1, L ++ [(l[j], [.int .i64 l[j].k, .int .i64 l[j].i, .string l[j].t, .slice p0 l[j].l.length q0, .slice p1 l[j].d.length q1], F')], by omega, by go_num, Lib.hid ⟨?_, ?_, ?_, ?_, ?_, ?_, ?_⟩, ?_⟩
            · rw [List.map_append, hm, List.take_succ_eq_append_getElem hlt]; rfl
            · simpa using R.1
            · intro g hg
              simp only [List.flatMap_append, List.mem_append, List.flatMap_cons, List.flatMap_nil, List.append_nil] at hg
              rcases hg with hg | hg
              · exact hge g hg
              · have := hfr g hg; omega
            · exact ownsRow_at hoD (fun g hg => R.2.2.block g (by simp only [Value.ownBlock, Option.some.injEq] at hg; omega) (by simp only [Value.ownBlock, Option.some.injEq] at hg ⊢; omega))
            · exact (R.2.2.block _ (by omega) (by simp only [Value.ownBlock, Option.some.injEq]; omega)).trans e0
            · exact (R.2.2.block _ (by omega) (by simp only [Value.ownBlock, Option.some.injEq]; omega)).trans e1
            · simpa using R.2.1
            · exact hb.trans (R.2.2.below (fun g hg => by simp only [Value.ownBlock, Option.some.injEq] at hg; omega) hb.size)
          case measure => simp [intOf]; omega
      · obtain rfl : j = l.length := by omega
        clear ihl H5 hb5 hA
        go_wp2_with fail
        obtain ⟨wo, hwo⟩ : ∃ wo : World, wo = wr := ⟨_, rfl⟩
        rw [← hwo]
        rw [← hwo] at H hb
        have hmL : L.map (·.1) = l := by rw [H.out.1, List.take_length]
        have HM := Lib.hid hmL
        clear hwo hmL
        go_loopw [6] (fun ix wr => ∃ (j : Nat) (D : List (ByteArray × V × List Value × List Nat)), j ≤ d.length ∧ ix = .int .i64 j ∧ Hid (D.map (fun c => (c.1, c.2.1)) = d.take j ∧ QL wr (w.heap.size + 3) L (.slice (some ⟨w.heap.size + 1 + 1 + 1, 0, none⟩) L.length (l.length + 1)) ∧ QD wr G D (.slice (some ⟨G, 0, none⟩) D.length (d.length + 1)) ∧ (∀ g ∈ D.flatMap (·.2.2.2), wo.heap.size ≤ g) ∧ (∀ c ∈ D, c.1.size ≤ 140737488355328) ∧
          wr.heap[w.heap.size]? = some (.cells #[.int .i64 k, .int .i64 i, .string t, .slice A l.length c, .slice A' d.length c'] 25 (0, 0)) ∧ wr.heap[w.heap.size + 1]? = some (.cells #[.int .i64 0, .int .i64 0, .string ByteArray.empty, .slice none 0 0, .slice none 0 0] 25 (0, 0)) ∧
          wr.heap[w.heap.size + 1 + 1]? = some (.cells #[.int .i64 k, .int .i64 i, .string t, .slice (some ⟨w.heap.size + 1 + 1 + 1, 0, none⟩) L.length (l.length + 1), .slice (some ⟨G, 0, none⟩) D.length (d.length + 1)] 25 (0, 0)) ∧ wo.heap.size ≤ wr.heap.size) ∧ Below w.heap.size w wr) (fun ix _ => d.length - (intOf ix).toNat)
        case atStart =>
          obtain ⟨hm, hpl, hge, hoD, e0, e1, e2⟩ := H.out
          exact ⟨0, [], by omega, rfl, Lib.hid ⟨rfl, hpl, ⟨hoD, fun c hc => absurd hc (by simp), by simp [Value.ownBlock], by simp [Value.ownBlock]⟩, by simp, by simp, e0, e1, e2, Nat.le_refl _⟩, hb⟩
        case round =>
          have HLo := Lib.hid (And.intro H.out.2.1.lt (And.intro H.out.2.2.1 (ownsRow_back H.out.2.2.2.1).2))
          clear hb H ca3
          obtain ⟨j, D, hj, rfl, H, hb⟩ := hrel
          have ca4 := cell_at H.out.2.2.2.2.2.1 4 _ rfl
          by_cases hlt : j < d.length
          · have ih := ihd d[j] (List.getElem_mem hlt)
            obtain ⟨b, off, a0, n0, a1, n1, rfl, hnm, hrv, f0, f1, f2, f3, f4, f5⟩ := (hD.grow hb).get j hlt
            clear ihd hD hv
            go_wp2_with fail
            refine (ih _ _ hrv).mono ?_
            rintro e w1 ⟨cs', F', rfl, hov, hnd, hfr, hb1⟩
            obtain ⟨p0, q0, p1, q1, rfl⟩ := hov.rv.shape
            have hL : D.length = j := by
              have := congrArg List.length H.out.1
              simpa [Nat.min_eq_left hj] using this
            have HL := Lib.hid hL
            go_wp2_with fail
            generalize hW4 : w1.alloc _ = W4
            have hb4 : Below w1.heap.size w1 W4 := by rw [← hW4]; exact below_alloc1 _ _
            have hbw : Below wr.heap.size wr W4 := below2 hb1 hb4
            have c0 : W4.cell? ⟨w1.heap.size, 0, none⟩ = some (.int .i64 d[j].2.k) := by rw [← hW4]; exact box_cell 0 _ rfl
            have c1 : W4.cell? ⟨w1.heap.size, 1, none⟩ = some (.int .i64 d[j].2.i) := by rw [← hW4]; exact box_cell 1 _ rfl
            have c2 : W4.cell? ⟨w1.heap.size, 2, none⟩ = some (.string d[j].2.t) := by rw [← hW4]; exact box_cell 2 _ rfl
            have c3 : W4.cell? ⟨w1.heap.size, 3, none⟩ = some (.slice p0 d[j].2.l.length q0) := by rw [← hW4]; exact box_cell 3 _ rfl
            have c4 : W4.cell? ⟨w1.heap.size, 4, none⟩ = some (.slice p1 d[j].2.d.length q1) := by rw [← hW4]; exact box_cell 4 _ rfl
            have nm4 := cell_grow hbw f0
            have ca44 := cell_grow hbw ca4
            have hbx := (hbw.block _ (block_lt H.out.2.2.2.2.2.2.2.1)).trans H.out.2.2.2.2.2.2.2.1
            have cb := cell_at hbx 4 _ rfl
            have cba := cell_alloc1 cb
            have HP := Lib.hid (H.out.2.2.1.grow hbw)
            have HB := Lib.hid hbx
            have hov4 := hov.grow hb4
            clear hW4 f0 f1 f2 f3 f4 f5 hL hbx ca4
            go_region_law (refine step_append_fits (by rfl) _ _ 23 (by rfl) 0 72 i1 6 Tryd.underlying23 hi1 hy1 G D.length (d.length + 1) (D.flatMap fun c => .string c.1 :: c.2.2.1) (by rfl) ((HP.out.row.alloc _).drew) ⟨W4.heap.size, 0, none⟩ 1 1 [.string d[j].1, .int .i64 d[j].2.k, .int .i64 d[j].2.i, .string d[j].2.t, .slice p0 d[j].2.l.length q0, .slice p1 d[j].2.d.length q1] (by rfl) (by rfl) (World.news_of_block (w := World.drew _) (heap_alloc_new W4 _)) (by simp [Value.oneCell']) (by have := HL.out; omega) ?_; intro w2 hown2 hgrow2'; have hgrow2 := grownBy_undrew hgrow2'; have hbx2 := Lib.hid (HP.out.box HB.out hgrow2 (by have := HG.out.1; omega)); have cb2 := cell_at hbx2.out 4 _ rfl; have fb2 := free_at hbx2.out 4)
            all_goals
              go_wp2_with fail
              go_roundw
              case rel =>
                obtain ⟨hm, hpl0, hpl, hge, hnn, e0, e1, e2, hle⟩ := H.out
                have hG3 := HG.out.1
                have hGl := HLo.out.2.2
                have R := QD.round (q := 4) (show w.heap.size + 1 + 1 < G by omega) (by omega) (Below.refl _ _) hbw hpl e2 hov4 hnd hfr hown2 hgrow2 (.inl rfl)
                refine ⟨j + 1, D ++ [(d[j].1, d[j].2, [.int .i64 d[j].2.k, .int .i64 d[j].2.i, .string d[j].2.t, .slice p0 d[j].2.l.length q0, .slice p1 d[j].2.d.length q1], F')], by omega, by go_num, Lib.hid ⟨?_, ?_, ?_, ?_, ?_, ?_, ?_, ?_, ?_⟩, ?_⟩
                · rw [List.map_append, hm, List.take_succ_eq_append_getElem hlt]; rfl
                · exact hpl0.at_ fun g hg => R.2.2.block g (hpl0.lt g hg) (by
                    simp only [Value.ownBlock, Option.some.injEq]
                    have := HLo.out.1 g hg
                    have := hpl0.from_ g hg
                    have h2 := HLo.out.2.1
                    rcases List.mem_append.1 hg with hg | hg
                    · simp [Value.ownBlock] at hg; omega
                    · have := h2 g hg; omega)
                · simpa using R.1
                · intro g hg
                  simp only [List.flatMap_append, List.mem_append, List.flatMap_cons, List.flatMap_nil, List.append_nil] at hg
                  rcases hg with hg | hg
                  · exact hge g hg
                  · have := hfr g hg; omega
                · intro c hc
                  rcases List.mem_append.1 hc with hc | hc
                  · exact hnn c hc
                  · rw [List.mem_singleton.1 hc]; exact hnm
                · exact (R.2.2.block _ (by omega) (by simp only [Value.ownBlock, Option.some.injEq]; omega)).trans e0
                · exact (R.2.2.block _ (by omega) (by simp only [Value.ownBlock, Option.some.injEq]; omega)).trans e1
                · simpa using R.2.1
                · exact Nat.le_trans hle R.2.2.size
                · exact hb.trans (R.2.2.below (fun g hg => by simp only [Value.ownBlock, Option.some.injEq] at hg; omega) hb.size)
              case measure => simp [intOf]; omega
          · obtain rfl : j = d.length := by omega
            clear ihd hD
            have hLl : L.length = l.length := by have := congrArg List.length HM.out; simpa using this
            have hDl : D.length = d.length := by have := congrArg List.length H.out.1; simpa using this
            rw [hLl, hDl] at H
            have HP0 : Hid (wr.ownsRow 0 25 5 (.slice (some ⟨w.heap.size + 1 + 1 + 1, 0, none⟩) l.length (l.length + 1)) l.length (L.flatMap (·.2.1))) := Lib.hid (by have := H.out.2.1.row; rw [hLl] at this; exact this)
            have HP1 : Hid (wr.ownsRow 0 72 6 (.slice (some ⟨G, 0, none⟩) d.length (d.length + 1)) d.length (D.flatMap fun c => .string c.1 :: c.2.2.1)) := Lib.hid (by have := H.out.2.2.1.row; rw [hDl] at this; exact this)
            have hGl := HG.out.1
            clear hLl hDl
            have x3 := cell_at H.out.2.2.2.2.2.2.2.1 3 _ rfl
            have HX := Lib.hid (And.intro (block_lt H.out.2.2.2.2.2.1) (And.intro (block_lt H.out.2.2.2.2.2.2.1) (block_lt H.out.2.2.2.2.2.2.2.1)))
            go_wp2_with (first
              | (refine wpList_append_fits _ (by rfl) _ _ 22 (by rfl) 0 25 i0 5 Tryd.underlying22 hi0 hz1 (w.heap.size + 1 + 1 + 1) l.length (l.length + 1) (L.flatMap (·.2.1)) (by rfl) (HP0.out.alloc _) ⟨wr.heap.size, 0, none⟩ 1 1 [.int .i64 (-7), .int .i64 0, .string ByteArray.empty, .slice none 0 0, .slice none 0 0] (by rfl) (by rfl) (World.news_of_block (heap_alloc_new wr _)) (by simp [Value.oneCell']) (by omega) ?_; intro w2 hown2 hgrow2; have hs2 := hgrow2.size; have e2x := Lib.hid ((hgrow2.block (w.heap.size + 1 + 1) (by simp only [World.size_alloc]; have := HX.out.2.2; omega) (by simp only [Option.some.injEq, ne_eq]; omega)).trans ((heap_alloc_old _ _ HX.out.2.2).trans H.out.2.2.2.2.2.2.2.1)); have x24 := cell_at e2x.out 4 _ rfl; have HP2 := Lib.hid (ownsRow_at (w1 := w2) HP1.out (fun g hg => by simp only [Value.ownBlock, Option.some.injEq] at hg; subst hg; rw [hgrow2.block _ (by simp only [World.size_alloc]; have := (ownsRow_back HP1.out).2; omega) (by simp only [Option.some.injEq, ne_eq]; omega), heap_alloc_old _ _ (ownsRow_back HP1.out).2])))
              | (refine wpList_append_fits _ (by rfl) _ _ 23 (by rfl) 0 72 i1 6 Tryd.underlying23 hi1 hy1 G d.length (d.length + 1) (D.flatMap fun c => .string c.1 :: c.2.2.1) (by rfl) (HP2.out.alloc _) ⟨w2.heap.size, 0, none⟩ 1 1 [.string ⟨#[109, 97, 114, 107]⟩, .int .i64 0, .int .i64 0, .string ByteArray.empty, .slice none 0 0, .slice none 0 0] (by rfl) (by rfl) (World.news_of_block (heap_alloc_new w2 _)) (by simp [Value.oneCell']) (by omega) ?_; intro w3 hown3 hgrow3; have hkp := lent_keep hgrow2 hgrow3; have z0 := (hkp.block _ HX.out.1 (by omega)).trans H.out.2.2.2.2.2.1; have z1 := (hkp.block _ HX.out.2.1 (by omega)).trans H.out.2.2.2.2.2.2.1; have z2 := (hkp.block _ HX.out.2.2 (by omega)).trans H.out.2.2.2.2.2.2.2.1; have a3 := cell_at z0 3 _ rfl; have a4 := cell_at z0 4 _ rfl; have o0 := cell_at z2 0 _ rfl; have o1 := cell_at z2 1 _ rfl; have o2 := cell_at z2 2 _ rfl; have o3 := cell_at z2 3 _ rfl; have o4 := cell_at z2 4 _ rfl; have p3 := free_at z2 3; have p4 := free_at z2 4; have r0 := cell_at z1 0 _ rfl; have r1 := cell_at z1 1 _ rfl; have r2 := cell_at z1 2 _ rfl; have r3 := cell_at z1 3 _ rfl; have r4 := cell_at z1 4 _ rfl; have g0 := free_at z1 0; have g1 := free_at z1 1; have g2 := free_at z1 2; have g3 := free_at z1 3; have g4 := free_at z1 4))
            have hm25 : w2.ownsRow 0 25 5 (.slice (some ⟨w.heap.size + 1 + 1 + 1, 0, none⟩) (l.length + 1) (l.length + 1)) (l.length + 1) (L.flatMap (·.2.1) ++ mark 25) := hown2
            have hm72 : w3.ownsRow 0 72 6 (.slice (some ⟨G, 0, none⟩) (d.length + 1) (d.length + 1)) (d.length + 1) ((D.flatMap fun c => .string c.1 :: c.2.2.1) ++ mark 72) := hown3
            obtain ⟨hm, hpl0, hpl, hge, hnn, _⟩ := H.out
            have hle := H.out.2.2.2.2.2.2.2.2
            exact bodyPost_ret (v := .agg #[.int .i64 k, .int .i64 i, .string t, .slice (some ⟨w.heap.size + 1 + 1 + 1, 0, none⟩) l.length (l.length + 1), .slice (some ⟨G, 0, none⟩) d.length (d.length + 1)]) (by simp [results, Tryd.results20, go_sem, r0, r1, r2, r3, r4]) rfl
              (lent_done (wo := wo) _ _ hk hi ht hA0 hD0 hnn hpl0 hpl (fun g hg => ⟨HLo.out.2.1 g hg, HLo.out.1 g (List.mem_append_right _ hg)⟩) hge hGl HLo.out.2.2 hle hm25 hgrow2 hm72 hgrow3 hb HM.out (hm.trans (List.take_length ..)))
end Go.Proofs.YthfejpldhemakaaDoor
