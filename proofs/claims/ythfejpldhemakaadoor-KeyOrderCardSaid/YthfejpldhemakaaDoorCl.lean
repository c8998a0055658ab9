import Derived.Test.YthfejpldhemakaaDoorT
import Derived.Test.YthfejpldhemakaaDoorO
import Derived.WalkSpells
import Derived.WalkLawsBesides
import Derived.KernelRfl
import Derived.BigQuiet
import Derived.Deep.RegionHeld3
import Derived.Deep.AppendLies
namespace Go.Proofs.YthfejpldhemakaaDoor
open Go.RowKit Go.Sort
theorem info25 : (Tryd.prog.info? 25).map (fun i => (i.zero, i.size, i.bytes)) = some (some (.agg #[.int .i64 0, .int .i64 0, .string ByteArray.empty, .slice none 0 0, .slice none 0 0]), 5, 80) := by kernel_rfl
theorem info72 : (Tryd.prog.info? 72).map (fun i => (i.zero, i.size, i.bytes)) = some (some (.agg #[.string ByteArray.empty, .int .i64 0, .int .i64 0, .string ByteArray.empty, .slice none 0 0, .slice none 0 0]), 6, 96) := by kernel_rfl
theorem clone_done {w wo wr : World} {k i : Int} {t : ByteArray} {l : List V} {d : List (ByteArray × V)} {L : List (V × List Value × List Nat)} {D : List (ByteArray × V × List Value × List Nat)} {sl sd : Value} (hk : Rng k) (hi : Rng i) (ht : t.size ≤ 140737488355328)
    (hl : L.length * 80 ≤ 140737488355328) (hd : D.length * 96 ≤ 140737488355328) (hn : ∀ c ∈ D, c.1.size ≤ 140737488355328) (hL : PL wr (w.heap.size + 2) L sl) (hD : PD wr wo.heap.size D sd)
    (hLo : ∀ g ∈ sl.ownBlock.toList ++ L.flatMap (·.2.2), g < wo.heap.size) (hwo : w.heap.size + 2 ≤ wo.heap.size) (hb : Below w.heap.size w wr)
    (hl' : L.map (·.1) = l) (hd' : D.map (fun c => (c.1, c.2.1)) = d) :
    Made w (.mk k i t l d) (.returned (.agg [.int .i64 k, .int .i64 i, .string t, sl, sd].toArray)) (set5 wr (w.heap.size + 1) (.int .i64 k) (.int .i64 i) (.string t) sl sd) := by
  obtain ⟨F, h1, h2, h3⟩ := OV.of_rows hk hi ht hl hd hn hL (hD.weak hwo) (fun g hg hg' => by have := hLo g hg; have := hD.from_ g hg'; omega)
  rw [hl', hd'] at h1
  have ho := set5_only wr (w.heap.size + 1) (.int .i64 k) (.int .i64 i) (.string t) sl sd
  refine ⟨_, F, rfl, h1.at_ fun g hg => ho.block g (h1.lt g hg) (by have := h3 g hg; omega), h2, fun g hg => by have := h3 g hg; omega, ?_⟩
  exact hb.trans (ho.below (fun g hg => by omega) hb.size)
set_option maxRecDepth 100000 in
set_option maxHeartbeats 1000000 in
theorem clone_c (v : V) : ∀ (cs : List Value) (w : World), RV w v cs → Calls Tryd.prog 57 #[.agg cs.toArray] w (Made w v) := by
  induction v using V.ind with
  | h k i t l d ihl ihd =>
    intro cs w hv
    obtain ⟨A, c, A', c', rfl, hk, hi, ht, hA, hD⟩ := hv.inv
    have hA0 := hA.1
    have hD0 := hD.1
    go_enter Tryd.func57, Tryd.ntmps57
    go_wp2_with fail
    go_quiet (fail)
    go_wp2_with fail
    generalize hW2 : World.setCell (World.setCell _ _ _) _ _ = W2
    have hsz : W2.heap.size = w.heap.size + 2 := by rw [← hW2]; simp [World.setCell, World.drewN]
    have hbW : Below w.heap.size w W2 := by
      rw [← hW2]
      exact ((drewN_below2 (below_alloc2 _ _ _) nq).setCell (Nat.le_refl _) _).setCell (Nat.le_refl _) _
    have hx0 : W2.heap[w.heap.size]? = some (.cells #[.int .i64 k, .int .i64 i, .string t, .slice none 0 0, .slice none 0 0] 25 (0, 0)) := by
      rw [← hW2]
      exact setCell_block (setCell_block (heap2_first _ _ _ nq) 3 _) 4 _
    have hx1 : W2.heap[w.heap.size + 1]? = some (.cells #[.int .i64 0, .int .i64 0, .string ByteArray.empty, .slice none 0 0, .slice none 0 0] 25 (0, 0)) := by
      rw [← hW2, Below.heap_setCell _ _ _ _ (by simp), Below.heap_setCell _ _ _ _ (by simp)]
      exact heap2_second _ _ _ nq
    clear hW2
    have HX := Lib.hid (And.intro hx0 (And.intro hx1 hsz))
    clear hx0 hx1 hsz
    go_loopw [17] (fun ix wr => ∃ (j : Nat) (L : List (V × List Value × List Nat)) (sl : Value), j ≤ l.length ∧ ix = .int .i64 j ∧ Hid (L.map (·.1) = l.take j ∧ PL wr (w.heap.size + 2) L sl ∧ wr.heap[w.heap.size]? = some (.cells #[.int .i64 k, .int .i64 i, .string t, sl, .slice none 0 0] 25 (0, 0)) ∧ wr.heap[w.heap.size + 1]? = some (.cells #[.int .i64 0, .int .i64 0, .string ByteArray.empty, .slice none 0 0, .slice none 0 0] 25 (0, 0))) ∧ Below w.heap.size w wr) (fun ix _ => l.length - (intOf ix).toNat)
    case atStart => exact ⟨0, [], _, by omega, rfl, Lib.hid ⟨rfl, PL.nil _ _, HX.out.1, HX.out.2.1⟩, hbW⟩
    case round =>
      obtain ⟨j, L, sl, hj, rfl, H, hb⟩ := hrel
      by_cases hlt : j < l.length
      · have ih := ihl l[j] (List.getElem_mem hlt)
        obtain ⟨b, off, a0, n0, a1, n1, rfl, hrv, f0, f1, f2, f3, f4⟩ := (hA.grow hb).get j hlt
        clear ihl ihd hA hD HX hv
        go_wp2_with fail
        generalize hW3 : wr.alloc _ = W3
        have hb3 : Below wr.heap.size wr W3 := by rw [← hW3]; exact below_alloc1 _ _
        have hs3 : W3.heap.size = wr.heap.size + 1 := by rw [← hW3]; simp
        have c0 : W3.cell? ⟨wr.heap.size, 0, none⟩ = some (.int .i64 l[j].k) := by rw [← hW3]; exact box_cell 0 _ rfl
        have c1 : W3.cell? ⟨wr.heap.size, 1, none⟩ = some (.int .i64 l[j].i) := by rw [← hW3]; exact box_cell 1 _ rfl
        have c2 : W3.cell? ⟨wr.heap.size, 2, none⟩ = some (.string l[j].t) := by rw [← hW3]; exact box_cell 2 _ rfl
        have c3 : W3.cell? ⟨wr.heap.size, 3, none⟩ = some (.slice a0 l[j].l.length n0) := by rw [← hW3]; exact box_cell 3 _ rfl
        have c4 : W3.cell? ⟨wr.heap.size, 4, none⟩ = some (.slice a1 l[j].d.length n1) := by rw [← hW3]; exact box_cell 4 _ rfl
        have hbx : W3.heap[w.heap.size]? = some (.cells #[.int .i64 k, .int .i64 i, .string t, sl, .slice none 0 0] 25 (0, 0)) := (hb3.block _ (block_lt H.out.2.2.1)).trans H.out.2.2.1
        have cb : W3.cell? ⟨w.heap.size, 3, none⟩ = some sl := cell_at hbx 3 _ rfl
        have hcall := ih _ W3.drew ((hrv.grow hb3).grow (Below.refl _ _).drew)
        have HB := Lib.hid hbx
        have H3 := Lib.hid hs3
        clear hbx hs3 hW3 f0 f1 f2 f3 f4
        have hL : L.length = j := by
          have := congrArg List.length H.out.1
          simpa [Nat.min_eq_left hj] using this
        have HL := Lib.hid hL
        have hlen : j * 80 + 80 ≤ 140737488355328 := by have := hA0; omega
        clear hL
        obtain ⟨i0, hi0, hz0, hz1, hz2⟩ := info_parts info25
        go_region_law (first | (go_simp; go_at_call 57; refine hcall.mono ?_; rintro e w1 ⟨cs', F', rfl, hov, hnd, hfr, hb1⟩; obtain ⟨p0, q0, p1, q1, rfl⟩ := hov.rv.shape; have cb1 := cell_grow (w := W3.drew) hb1 cb; have cb1a := cell_alloc1 cb1; have hpl1 := Lib.hid (H.out.2.1.grow (below2 (below2 hb3 (Below.refl _ _).drew) hb1)); have hbx1 := Lib.hid ((hb1.block _ (block_lt HB.out)).trans HB.out)) | (refine step_append_lies _ (by rfl) _ _ 22 (by rfl) 0 25 i0 _ 5 80 Tryd.underlying22 hi0 hz0 hz1 hz2 rfl (by omega) sl L.length (L.flatMap (·.2.1)) (by rfl) (hpl1.out.row.alloc _) ⟨w1.heap.size, 0, none⟩ 1 1 [.int .i64 l[j].k, .int .i64 l[j].i, .string l[j].t, .slice p0 l[j].l.length q0, .slice p1 l[j].d.length q1] (by rfl) (by rfl) (World.news_of_block (heap_alloc_new w1 _)) (by simp [Value.oneCell']) (by omega) (by rw [HL.out]; simp [maxLen]; omega) (by rw [HL.out]; omega) (by omega) (w1.heap.size + 1) (by simp) ?_; intro g cap w2 hown2 hgrow hat hlt2; have hbx2 := Lib.hid (hpl1.out.box hbx1.out hgrow (by omega)); have cb2 := cell_at hbx2.out 3 _ rfl; have fb2 := free_at hbx2.out 3))
        all_goals
          go_wp2_with fail
          go_roundw
          case rel =>
            obtain ⟨hm, hpl, e0, e1⟩ := H.out
            have hdr : Below W3.heap.size W3 W3.drew := (Below.refl _ _).drew
            have hwr := block_lt e1
            have R := PL.round (q := 3) (show w.heap.size < w.heap.size + 2 by omega) (by omega) (below2 hb3 hdr) hb1 hpl e0 hov hnd hfr hown2 hgrow hat
            refine ⟨j + 1, L ++ [(l[j], _, F')], _, by omega, by go_num, Lib.hid ⟨?_, R.1, R.2.1, ?_⟩, ?_⟩
            · rw [List.map_append, hm, List.take_succ_eq_append_getElem hlt]; rfl
            · exact (R.2.2.block _ hwr (by omega)).trans e1
            · exact hb.trans (R.2.2.below (fun g hg => by omega) hb.size)
          case measure => simp [intOf]; omega
      · obtain rfl : j = l.length := by omega
        clear ihl HX hA
        go_wp2_with fail
        obtain ⟨wo, hwo⟩ : ∃ wo : World, wo = wr := ⟨_, rfl⟩
        rw [← hwo]
        rw [← hwo] at H hb
        have hmL : L.map (·.1) = l := by rw [H.out.1, List.take_length]
        have HM := Lib.hid hmL
        clear hwo hmL
        go_loopw [31] (fun ix wr => ∃ (j : Nat) (D : List (ByteArray × V × List Value × List Nat)) (sd : Value), j ≤ d.length ∧ ix = .int .i64 j ∧ Hid (D.map (fun c => (c.1, c.2.1)) = d.take j ∧ PL wr (w.heap.size + 2) L sl ∧ PD wr wo.heap.size D sd ∧ wr.heap[w.heap.size]? = some (.cells #[.int .i64 k, .int .i64 i, .string t, sl, sd] 25 (0, 0)) ∧ wr.heap[w.heap.size + 1]? = some (.cells #[.int .i64 0, .int .i64 0, .string ByteArray.empty, .slice none 0 0, .slice none 0 0] 25 (0, 0)) ∧ wo.heap.size ≤ wr.heap.size ∧ ∀ c ∈ D, c.1.size ≤ 140737488355328) ∧ Below w.heap.size w wr) (fun ix _ => d.length - (intOf ix).toNat)
        case atStart => exact ⟨0, [], _, by omega, rfl, Lib.hid ⟨rfl, H.out.2.1, PD.nil _ _, H.out.2.2.1, H.out.2.2.2, Nat.le_refl _, by simp⟩, hb⟩
        case round =>
          have HLo := Lib.hid (And.intro H.out.2.1.lt (block_lt H.out.2.2.2))
          clear hb H
          obtain ⟨j, D, sd, hj, rfl, H, hb⟩ := hrel
          by_cases hlt : j < d.length
          · have ih := ihd d[j] (List.getElem_mem hlt)
            obtain ⟨b, off, a0, n0, a1, n1, rfl, hnm, hrv, f0, f1, f2, f3, f4, f5⟩ := (hD.grow hb).get j hlt
            clear ihd hD hv
            go_wp2_with fail
            generalize hW3 : wr.alloc _ = W3
            have hb3 : Below wr.heap.size wr W3 := by rw [← hW3]; exact below_alloc1 _ _
            have hs3 : W3.heap.size = wr.heap.size + 1 := by rw [← hW3]; simp
            have c0 : W3.cell? ⟨wr.heap.size, 0, none⟩ = some (.string d[j].1) := by rw [← hW3]; exact box_cell 0 _ rfl
            have c1 : W3.cell? ⟨wr.heap.size, 1, none⟩ = some (.int .i64 d[j].2.k) := by rw [← hW3]; exact box_cell 1 _ rfl
            have c2 : W3.cell? ⟨wr.heap.size, 2, none⟩ = some (.int .i64 d[j].2.i) := by rw [← hW3]; exact box_cell 2 _ rfl
            have c3 : W3.cell? ⟨wr.heap.size, 3, none⟩ = some (.string d[j].2.t) := by rw [← hW3]; exact box_cell 3 _ rfl
            have c4 : W3.cell? ⟨wr.heap.size, 4, none⟩ = some (.slice a0 d[j].2.l.length n0) := by rw [← hW3]; exact box_cell 4 _ rfl
            have c5 : W3.cell? ⟨wr.heap.size, 5, none⟩ = some (.slice a1 d[j].2.d.length n1) := by rw [← hW3]; exact box_cell 5 _ rfl
            have hbx : W3.heap[w.heap.size]? = some (.cells #[.int .i64 k, .int .i64 i, .string t, sl, sd] 25 (0, 0)) := (hb3.block _ (block_lt H.out.2.2.2.1)).trans H.out.2.2.2.1
            have cb : W3.cell? ⟨w.heap.size, 4, none⟩ = some sd := cell_at hbx 4 _ rfl
            have hcall := ih _ W3.drew ((hrv.grow hb3).grow (Below.refl _ _).drew)
            have HB := Lib.hid hbx
            have H3 := Lib.hid hs3
            clear hbx hs3 hW3 f0 f1 f2 f3 f4 f5
            have hL : D.length = j := by
              have := congrArg List.length H.out.1
              simpa [Nat.min_eq_left hj] using this
            have HL := Lib.hid hL
            have hlen : j * 96 + 96 ≤ 140737488355328 := by have := hD0; omega
            clear hL
            obtain ⟨i0, hi0, hz0, hz1, hz2⟩ := info_parts info72
            go_region_law (first | (go_simp; go_at_call 57; refine hcall.mono ?_; rintro e w1 ⟨cs', F', rfl, hov, hnd, hfr, hb1⟩; obtain ⟨p0, q0, p1, q1, rfl⟩ := hov.rv.shape; have cb1 := cell_grow (w := W3.drew) hb1 cb; have cb1a := cell_alloc1 cb1; have n1 := cell_grow (w := W3.drew) hb1 c0; have n1a := cell_alloc1 n1; have hpl1 := Lib.hid (H.out.2.2.1.grow (below2 (below2 hb3 (Below.refl _ _).drew) hb1)); have hbx1 := Lib.hid ((hb1.block _ (block_lt HB.out)).trans HB.out)) | (refine step_append_lies _ (by rfl) _ _ 23 (by rfl) 0 72 i0 _ 6 96 Tryd.underlying23 hi0 hz0 hz1 hz2 rfl (by omega) sd D.length (D.flatMap fun c => .string c.1 :: c.2.2.1) (by rfl) (hpl1.out.row.alloc _) ⟨w1.heap.size, 0, none⟩ 1 1 [.string d[j].1, .int .i64 d[j].2.k, .int .i64 d[j].2.i, .string d[j].2.t, .slice p0 d[j].2.l.length q0, .slice p1 d[j].2.d.length q1] (by rfl) (by rfl) (World.news_of_block (heap_alloc_new w1 _)) (by simp [Value.oneCell']) (by omega) (by rw [HL.out]; simp [maxLen]; omega) (by rw [HL.out]; omega) (by omega) (w1.heap.size + 1) (by simp) ?_; intro g cap w2 hown2 hgrow hat hlt2; have hbx2 := Lib.hid (hpl1.out.box hbx1.out hgrow (by have := block_lt H.out.2.2.2.2.1; have := HLo.out.2; omega)); have cb2 := cell_at hbx2.out 4 _ rfl; have fb2 := free_at hbx2.out 4))
            all_goals
              go_wp2_with fail
              go_roundw
              case rel =>
                obtain ⟨hm, hpl0, hpl, e0, e1, hle, hnn⟩ := H.out
                have hdr : Below W3.heap.size W3 W3.drew := (Below.refl _ _).drew
                have hwr := HLo.out.2
                have R := PD.round (q := 4) (show w.heap.size < wo.heap.size by omega) hle (below2 hb3 hdr) hb1 hpl e0 hov hnd hfr hown2 hgrow hat
                refine ⟨j + 1, D ++ [(d[j].1, d[j].2, _, F')], _, by omega, by go_num, Lib.hid ⟨?_, ?_, R.1, R.2.1, ?_, ?_, ?_⟩, ?_⟩
                · rw [List.map_append, hm, List.take_succ_eq_append_getElem hlt]; rfl
                · exact hpl0.at_ fun g hg => R.2.2.block g (hpl0.lt g hg) (by have := HLo.out.1 g hg; have := hpl0.from_ g hg; omega)
                · exact (R.2.2.block _ (by omega) (by omega)).trans e1
                · exact Nat.le_trans hle R.2.2.size
                · intro c hc
                  rcases List.mem_append.1 hc with hc | hc
                  · exact hnn c hc
                  · rw [List.mem_singleton.1 hc]; exact hnm
                · exact hb.trans (R.2.2.below (fun g hg => by omega) hb.size)
              case measure => simp [intOf]; omega
          · obtain rfl : j = d.length := by omega
            clear ihd hD
            obtain ⟨A1, e1, hs1, _⟩ := ownsRow_slice H.out.2.1.row
            obtain ⟨A2, e2, hs2, _⟩ := ownsRow_slice H.out.2.2.1.row
            subst hs1 hs2
            obtain ⟨hm, hpl0, hpl, e0, e1, hle, hnn⟩ := H.out
            have b0 := cell_at e0 0 _ rfl
            have b1 := cell_at e0 1 _ rfl
            have b2 := cell_at e0 2 _ rfl
            have b3 := cell_at e0 3 _ rfl
            have b4 := cell_at e0 4 _ rfl
            have r0 := cell_at e1 0 _ rfl
            have r1 := cell_at e1 1 _ rfl
            have r2 := cell_at e1 2 _ rfl
            have r3 := cell_at e1 3 _ rfl
            have r4 := cell_at e1 4 _ rfl
            have g0 := free_at e1 0
            have g1 := free_at e1 1
            have g2 := free_at e1 2
            have g3 := free_at e1 3
            have g4 := free_at e1 4
            have hdone := clone_done hk hi ht (by have := congrArg List.length HM.out; simp at this; omega) (by have := congrArg List.length hm; simp at this; omega) hnn hpl0 hpl HLo.out.1 (by have := HLo.out.2; omega) hb (HM.out) (hm.trans (List.take_length ..))
            have HD := Lib.hid hdone
            clear hdone hm hpl0 hpl e0 e1 hnn
            go_wp2_with fail
            exact bodyPost_ret (v := .agg #[.int .i64 k, .int .i64 i, .string t, .slice A1 L.length e1, .slice A2 D.length e2]) (by simp [results, Tryd.results57, go_sem, r0, r1, r2, r3, r4]) rfl HD.out
end Go.Proofs.YthfejpldhemakaaDoor
