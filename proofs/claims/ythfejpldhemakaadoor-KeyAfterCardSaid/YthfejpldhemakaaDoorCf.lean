import Derived.Test.YthfejpldhemakaaDoorCl
import Derived.Test.YthfejpldhemakaaDoorLn
namespace Go.Proofs.YthfejpldhemakaaDoor
open Go.RowKit Go.Sort
set_option maxRecDepth 100000 in
set_option maxHeartbeats 1000000 in
theorem rclone_c (v : V) : ∀ (cs : List Value) (w : World), RV w v cs → Calls Tryd.prog 77 #[.agg cs.toArray] w (Made w v) := by
  induction v using V.ind with
  | h k i t l d ihl ihd =>
    intro cs w hv
    obtain ⟨A, c, A', c', rfl, hk, hi, ht, hA, hD⟩ := hv.inv
    have hA0 := hA.1
    have hD0 := hD.1
    obtain ⟨i0, hi0, hz0, hz1, hz2⟩ := info_parts info25
    obtain ⟨i1, hi1, hy0, hy1, hy2⟩ := info_parts info72
    go_enter Tryd.func77, Tryd.ntmps77
    go_wp2_with fail
    generalize hW2 : World.alloc (World.alloc (World.alloc w _) _) _ = W2
    have L3 := lent_boxes (w3 := W2) (c0 := #[.int .i64 k, .int .i64 i, .string t, .slice A l.length c, .slice A' d.length c']) (c1 := #[.int .i64 0, .int .i64 0, .string ByteArray.empty, .slice none 0 0, .slice none 0 0]) (c2 := #[.int .i64 k, .int .i64 i, .string t, .slice none 0 0, .slice none 0 0]) (by rw [← hW2]; exact World.grownBy.refl _ none)
    have HX := Lib.hid L3
    clear hW2 L3
    go_loopw [4] (fun ix wr => ∃ (j : Nat) (L : List (V × List Value × List Nat)) (sl : Value), j ≤ l.length ∧ ix = .int .i64 j ∧ Hid (L.map (·.1) = l.take j ∧ PL wr (w.heap.size + 3) L sl ∧ wr.heap[w.heap.size]? = some (.cells #[.int .i64 k, .int .i64 i, .string t, .slice A l.length c, .slice A' d.length c'] 25 (0, 0)) ∧ wr.heap[w.heap.size + 1]? = some (.cells #[.int .i64 0, .int .i64 0, .string ByteArray.empty, .slice none 0 0, .slice none 0 0] 25 (0, 0)) ∧ wr.heap[w.heap.size + 1 + 1]? = some (.cells #[.int .i64 k, .int .i64 i, .string t, sl, .slice none 0 0] 25 (0, 0))) ∧ Below w.heap.size w wr) (fun ix _ => l.length - (intOf ix).toNat)
    case atStart => exact ⟨0, [], _, by omega, rfl, Lib.hid ⟨rfl, PL.nil _ _, HX.out.1, HX.out.2.1, HX.out.2.2.1⟩, HX.out.2.2.2.1⟩
    case round =>
      obtain ⟨j, L, sl, hj, rfl, H, hb⟩ := hrel
      have ca3 := cell_at H.out.2.2.1 3 _ rfl
      by_cases hlt : j < l.length
      · have ih := ihl l[j] (List.getElem_mem hlt)
        obtain ⟨b, off, a0, n0, a1, n1, rfl, hrv, f0, f1, f2, f3, f4⟩ := (hA.grow hb).get j hlt
        clear ihl ihd hA hD HX hv
        go_wp2_with fail
        refine (ih _ _ hrv).mono ?_
        rintro e w1 ⟨cs', F', rfl, hov, hnd, hfr, hb1⟩
        obtain ⟨p0, q0, p1, q1, rfl⟩ := hov.rv.shape
        have hL : L.length = j := by
          have := congrArg List.length H.out.1
          simpa [Nat.min_eq_left hj] using this
        have hbw : ∀ o, Below wr.heap.size wr (w1.alloc o) := fun o => below2 hb1 (below_alloc1 _ _)
        have hbx : ∀ o, (w1.alloc o).heap[w.heap.size + 1 + 1]? = some (.cells #[.int .i64 k, .int .i64 i, .string t, sl, .slice none 0 0] 25 (0, 0)) := fun o => ((hbw o).block _ (block_lt H.out.2.2.2.2)).trans H.out.2.2.2.2
        have cb := fun o => cell_at (hbx o) 3 _ rfl
        have hpl1 := fun o => H.out.2.1.grow (hbw o)
        have HL := Lib.hid hL
        have HB := Lib.hid hbx
        have HP := Lib.hid hpl1
        have hlen : j * 80 + 80 ≤ 140737488355328 := by have := hA0; omega
        clear f0 f1 f2 f3 f4 hL hbx hpl1
        go_wp2_with (refine wpList_append_lies _ (by rfl) _ _ 22 (by rfl) 0 25 i0 _ 5 80 Tryd.underlying22 hi0 hz0 hz1 hz2 rfl (by omega) sl L.length (L.flatMap (·.2.1)) (by rfl) ((HP.out _).row.alloc _) ⟨w1.heap.size + 1, 0, none⟩ 1 1 [.int .i64 l[j].k, .int .i64 l[j].i, .string l[j].t, .slice p0 l[j].l.length q0, .slice p1 l[j].d.length q1] (by rfl) (by rfl) (World.news_of_block (heap_new1 w1 _ _)) (by simp [Value.oneCell']) (by omega) (by rw [HL.out]; simp [maxLen]; omega) (by rw [HL.out]; omega) (by omega) (w1.heap.size + 1 + 1) (by simp) ?_; intro g cap w2 hown2 hgrow2 hat hlt2; have hbx2 := Lib.hid ((HP.out _).box (HB.out _) hgrow2 (by omega)); have cb2 := cell_at hbx2.out 3 _ rfl; have fb2 := free_at hbx2.out 3)
        all_goals
          go_wp2_with fail
          go_roundw
          case rel =>
            obtain ⟨hm, hpl, e0, e1, e2⟩ := H.out
            have hwr := block_lt e2
            have R := PL.round (q := 3) (show w.heap.size + 1 + 1 < w.heap.size + 3 by omega) (by omega) (Below.refl _ _) (hbw _) hpl e2 (hov.grow (below_alloc1 _ _)) hnd hfr hown2 hgrow2 (by simpa using hat)
            refine ⟨j + 1, L ++ [(l[j], [.int .i64 l[j].k, .int .i64 l[j].i, .string l[j].t, .slice p0 l[j].l.length q0, .slice p1 l[j].d.length q1], F')], _, by omega, by go_num, Lib.hid ⟨?_, R.1, ?_, ?_, R.2.1⟩, ?_⟩
            · rw [List.map_append, hm, List.take_succ_eq_append_getElem hlt]; rfl
            · exact (R.2.2.block _ (by omega) (by omega)).trans e0
            · exact (R.2.2.block _ (by omega) (by omega)).trans e1
            · exact hb.trans (R.2.2.below (fun g hg => by omega) hb.size)
          case measure => simp [intOf]; omega
      · obtain rfl : j = l.length := by omega
        clear ihl HX hA
        go_wp2_with fail
        obtain ⟨wo, hwo⟩ : ∃ wo : World, wo = wr := ⟨_, rfl⟩
        rw [← hwo]
        rw [← hwo] at H hb
        have hmL : L.map (·.1) = l := by rw [H.out.1, List.take_length]
        have HM := Lib.hid hmL
        clear hwo hmL
        go_loopw [6] (fun ix wr => ∃ (j : Nat) (D : List (ByteArray × V × List Value × List Nat)) (sd : Value), j ≤ d.length ∧ ix = .int .i64 j ∧ Hid (D.map (fun c => (c.1, c.2.1)) = d.take j ∧ PL wr (w.heap.size + 3) L sl ∧ PD wr wo.heap.size D sd ∧ wr.heap[w.heap.size]? = some (.cells #[.int .i64 k, .int .i64 i, .string t, .slice A l.length c, .slice A' d.length c'] 25 (0, 0)) ∧ wr.heap[w.heap.size + 1]? = some (.cells #[.int .i64 0, .int .i64 0, .string ByteArray.empty, .slice none 0 0, .slice none 0 0] 25 (0, 0)) ∧ wr.heap[w.heap.size + 1 + 1]? = some (.cells #[.int .i64 k, .int .i64 i, .string t, sl, sd] 25 (0, 0)) ∧ wo.heap.size ≤ wr.heap.size ∧ ∀ c ∈ D, c.1.size ≤ 140737488355328) ∧ Below w.heap.size w wr) (fun ix _ => d.length - (intOf ix).toNat)
        case atStart => exact ⟨0, [], _, by omega, rfl, Lib.hid ⟨rfl, H.out.2.1, PD.nil _ _, H.out.2.2.1, H.out.2.2.2.1, H.out.2.2.2.2, Nat.le_refl _, by simp⟩, hb⟩
        case round =>
          have HLo := Lib.hid (And.intro H.out.2.1.lt (block_lt H.out.2.2.2.2))
          clear hb H ca3
          obtain ⟨j, D, sd, hj, rfl, H, hb⟩ := hrel
          have ca4 := cell_at H.out.2.2.2.1 4 _ rfl
          by_cases hlt : j < d.length
          · have ih := ihd d[j] (List.getElem_mem hlt)
            obtain ⟨b, off, a0, n0, a1, n1, rfl, hnm, hrv, f0, f1, f2, f3, f4, f5⟩ := (hD.grow hb).get j hlt
            clear ihd hD hv
            go_wp2_with fail
            refine (ih _ _ hrv).mono ?_
            rintro e w1 ⟨cs', F', rfl, hov, hnd, hfr, hb1⟩
            obtain ⟨p0, q0, p1, q1, rfl⟩ := hov.rv.shape
            have hL : D.length = j := by
              have := congrArg List.length H.out.1
              simpa [Nat.min_eq_left hj] using this
            have HL := Lib.hid hL
            go_wp2_with fail
            generalize hW4 : w1.alloc _ = W4
            have hb4 : Below w1.heap.size w1 W4 := by rw [← hW4]; exact below_alloc1 _ _
            have hbw : Below wr.heap.size wr W4 := below2 hb1 hb4
            have c0 : W4.cell? ⟨w1.heap.size, 0, none⟩ = some (.int .i64 d[j].2.k) := by rw [← hW4]; exact box_cell 0 _ rfl
            have c1 : W4.cell? ⟨w1.heap.size, 1, none⟩ = some (.int .i64 d[j].2.i) := by rw [← hW4]; exact box_cell 1 _ rfl
            have c2 : W4.cell? ⟨w1.heap.size, 2, none⟩ = some (.string d[j].2.t) := by rw [← hW4]; exact box_cell 2 _ rfl
            have c3 : W4.cell? ⟨w1.heap.size, 3, none⟩ = some (.slice p0 d[j].2.l.length q0) := by rw [← hW4]; exact box_cell 3 _ rfl
            have c4 : W4.cell? ⟨w1.heap.size, 4, none⟩ = some (.slice p1 d[j].2.d.length q1) := by rw [← hW4]; exact box_cell 4 _ rfl
            have nm4 := cell_grow hbw f0
            have ca44 := cell_grow hbw ca4
            have hbx := (hbw.block _ (block_lt H.out.2.2.2.2.2.1)).trans H.out.2.2.2.2.2.1
            have cb := cell_at hbx 4 _ rfl
            have cba := cell_alloc1 cb
            have HP := Lib.hid (H.out.2.2.1.grow hbw)
            have HB := Lib.hid hbx
            have hov4 := hov.grow hb4
            have hlen : j * 96 + 96 ≤ 140737488355328 := by have := hD0; omega
            clear hW4 f0 f1 f2 f3 f4 f5 hL hbx ca4
            go_region_law (refine step_append_lies _ (by rfl) _ _ 23 (by rfl) 0 72 i1 _ 6 96 Tryd.underlying23 hi1 hy0 hy1 hy2 rfl (by omega) sd D.length (D.flatMap fun c => .string c.1 :: c.2.2.1) (by rfl) ((HP.out.row.alloc _).drew) ⟨W4.heap.size, 0, none⟩ 1 1 [.string d[j].1, .int .i64 d[j].2.k, .int .i64 d[j].2.i, .string d[j].2.t, .slice p0 d[j].2.l.length q0, .slice p1 d[j].2.d.length q1] (by rfl) (by rfl) (World.news_of_block (w := World.drew _) (heap_alloc_new W4 _)) (by simp [Value.oneCell']) (by omega) (by rw [HL.out]; simp [maxLen]; omega) (by rw [HL.out]; omega) (by omega) (W4.heap.size + 1) (by simp) ?_; intro g cap w2 hown2 hgrow2' hat hlt2; have hgrow2 := grownBy_undrew hgrow2'; have hbx2 := Lib.hid (HP.out.box HB.out hgrow2 (by have := HLo.out.2; omega)); have cb2 := cell_at hbx2.out 4 _ rfl; have fb2 := free_at hbx2.out 4)
            all_goals
              go_wp2_with fail
              go_roundw
              case rel =>
                obtain ⟨hm, hpl0, hpl, e0, e1, e2, hle, hnn⟩ := H.out
                have hwo := HLo.out.2
                have R := PD.round (q := 4) (show w.heap.size + 1 + 1 < wo.heap.size by omega) hle (Below.refl _ _) hbw hpl e2 hov4 hnd hfr hown2 hgrow2 (by simpa using hat)
                refine ⟨j + 1, D ++ [(d[j].1, d[j].2, [.int .i64 d[j].2.k, .int .i64 d[j].2.i, .string d[j].2.t, .slice p0 d[j].2.l.length q0, .slice p1 d[j].2.d.length q1], F')], _, by omega, by go_num, Lib.hid ⟨?_, ?_, R.1, ?_, ?_, R.2.1, ?_, ?_⟩, ?_⟩
                · rw [List.map_append, hm, List.take_succ_eq_append_getElem hlt]; rfl
                · exact hpl0.at_ fun g hg => R.2.2.block g (hpl0.lt g hg) (by have := HLo.out.1 g hg; have := hpl0.from_ g hg; omega)
                · exact (R.2.2.block _ (by omega) (by omega)).trans e0
                · exact (R.2.2.block _ (by omega) (by omega)).trans e1
                · exact Nat.le_trans hle R.2.2.size
                · intro c hc
                  rcases List.mem_append.1 hc with hc | hc
                  · exact hnn c hc
                  · rw [List.mem_singleton.1 hc]; exact hnm
                · exact hb.trans (R.2.2.below (fun g hg => by omega) hb.size)
              case measure => simp [intOf]; omega
          · obtain rfl : j = d.length := by omega
            clear ihd hD
            obtain ⟨A1, e1, hs1, _⟩ := ownsRow_slice H.out.2.1.row
            obtain ⟨A2, e2, hs2, _⟩ := ownsRow_slice H.out.2.2.1.row
            subst hs1 hs2
            obtain ⟨hm, hpl0, hpl, _, g1x, g2x, hle, hnn⟩ := H.out
            have b0 := cell_at g2x 0 _ rfl
            have b1 := cell_at g2x 1 _ rfl
            have b2 := cell_at g2x 2 _ rfl
            have b3 := cell_at g2x 3 _ rfl
            have b4 := cell_at g2x 4 _ rfl
            have r0 := cell_at g1x 0 _ rfl
            have r1 := cell_at g1x 1 _ rfl
            have r2 := cell_at g1x 2 _ rfl
            have r3 := cell_at g1x 3 _ rfl
            have r4 := cell_at g1x 4 _ rfl
            have g0 := free_at g1x 0
            have g1 := free_at g1x 1
            have g2 := free_at g1x 2
            have g3 := free_at g1x 3
            have g4 := free_at g1x 4
            have hdone := clone_done hk hi ht (by have := congrArg List.length HM.out; simp at this; omega) (by have := congrArg List.length hm; simp at this; omega) hnn (hpl0.weak (by omega)) hpl HLo.out.1 (by have := HLo.out.2; omega) hb (HM.out) (hm.trans (List.take_length ..))
            have HD := Lib.hid hdone
            clear hdone hm hpl0 hpl g1x g2x hnn
            go_wp2_with fail
            exact bodyPost_ret (v := .agg #[.int .i64 k, .int .i64 i, .string t, .slice A1 L.length e1, .slice A2 D.length e2]) (by simp [results, Tryd.results77, go_sem, r0, r1, r2, r3, r4]) rfl HD.out
end Go.Proofs.YthfejpldhemakaaDoor
