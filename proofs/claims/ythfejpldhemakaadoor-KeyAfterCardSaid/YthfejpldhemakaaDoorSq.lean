import Derived.Test.YthfejpldhemakaaDoorSp
namespace Go.Proofs.YthfejpldhemakaaDoor
open Go.RowKit Go.Sort
theorem tailR_set5 {w : World} {e sz g n c : Nat} {xs : List Value} {f f' : Nat} (h : TailR w e sz (.slice (some ⟨g, 0, none⟩) n c) n xs f) (p0 p1 p2 p3 p4 : Nat) (v0 v1 v2 v3 v4 : Value) (hf : f ≤ f') (h0 : p0 < f') (h1 : p1 < f') (h2 : p2 < f') (h3 : p3 < f') (h4 : p4 < f') :
    TailR (((((w.setCell ⟨g, p0, none⟩ v0).setCell ⟨g, p1, none⟩ v1).setCell ⟨g, p2, none⟩ v2).setCell ⟨g, p3, none⟩ v3).setCell ⟨g, p4, none⟩ v4) e sz (.slice (some ⟨g, 0, none⟩) n c) n xs f' :=
  ((((h.set p0 v0 h0 hf).set p1 v1 h1 (Nat.le_refl _)).set p2 v2 h2 (Nat.le_refl _)).set p3 v3 h3 (Nat.le_refl _)).set p4 v4 h4 (Nat.le_refl _)
set_option maxRecDepth 100000 in
set_option maxHeartbeats 1000000 in
theorem spoil_c (v : V) : ∀ (cx : List Value) (F : List Nat) (w : World), OV false w v cx F → F.Nodup → Slack 100 v →
    Calls Tryd.prog 35 #[.agg cx.toArray] w fun e w' => e = .returned (.tuple #[]) ∧ Only (· ∈ F) w w' := by
  induction v using V.ind with
  | h k i t l d ihl ihd =>
    intro cx F w hov hnd hsl
    have hFlt := hov.lt
    obtain ⟨A, c, A', c', L, D, hl, hd, rfl, rfl, hT1, hT2, oL, oD⟩ := hov.invF
    simp only [V.k, V.i, V.t, V.l, V.d] at hl hd hT1 hT2 hFlt hnd ⊢
    cases hsl with
    | mk hsl1 hsd1 hsl2 hsd2 =>
    obtain ⟨i0, hi0, hz0, hz1, hz2⟩ := info_parts info25
    obtain ⟨i1, hi1, hy0, hy1, hy2⟩ := info_parts info72
    generalize hb1e : (Value.slice A l.length c).ownBlock.toList = b1 at *
    generalize hb2e : (Value.slice A' d.length c').ownBlock.toList = b2 at *
    have hn := hnd
    rw [List.nodup_append, List.nodup_append, List.nodup_append] at hn
    obtain ⟨⟨n1, n2, n3⟩, ⟨n4, n5, n6⟩, n7⟩ := hn
    have HN := Lib.hid (And.intro n1 (And.intro n2 (And.intro n3 (And.intro n4 (And.intro n5 (And.intro n6 n7))))))
    have HT := Lib.hid (And.intro hT1 (And.intro hT2 (And.intro hl hd)))
    have HF := Lib.hid hFlt
    clear n1 n2 n3 n4 n5 n6 n7 hT1 hT2 hl hd hov hnd hFlt
    go_enter Tryd.func35, Tryd.ntmps35
    go_wp2_with fail
    generalize hW1 : World.alloc w _ = W1
    have hbW : Below w.heap.size w W1 := by rw [← hW1]; exact below_alloc1 _ _
    have hs1 : w.heap.size < W1.heap.size := by rw [← hW1]; simp
    have x3 : W1.cell? ⟨w.heap.size, 3, none⟩ = some (.slice A l.length c) := by rw [← hW1]; exact box_cell 3 _ rfl
    have x4 : W1.cell? ⟨w.heap.size, 4, none⟩ = some (.slice A' d.length c') := by rw [← hW1]; exact box_cell 4 _ rfl
    have H1 := Lib.hid hs1
    clear hW1 hs1
    go_loopw [2] (fun ix wr => ∃ (j : Nat), j ≤ l.length ∧ ix = .int .i64 j ∧ Hid (TailR wr 25 5 (.slice A l.length c) l.length (L.flatMap (·.2.1)) (j * 5) ∧ (∀ g ∈ (L.drop j).flatMap (·.2.2), wr.heap[g]? = w.heap[g]?) ∧ (∀ g ∈ b2 ++ D.flatMap (·.2.2.2), wr.heap[g]? = w.heap[g]?)) ∧ Only (· ∈ b1 ++ L.flatMap (·.2.2)) W1 wr) (fun ix _ => l.length - (intOf ix).toNat)
    case atStart =>
      exact ⟨0, by omega, rfl, Lib.hid ⟨by rw [Nat.zero_mul]; exact (TailR.of HT.out.1).at_ (fun g hg => hbW.block _ (HF.out g (List.mem_append_left _ (List.mem_append_left _ (by rw [← hb1e, hg]; simp))))), fun g hg => hbW.block _ (HF.out g (by simp only [List.drop_zero] at hg; exact List.mem_append_left _ (List.mem_append_right _ hg))), fun g hg => hbW.block _ (HF.out g (List.mem_append_right _ hg))⟩, Only.refl _ _⟩
    case round =>
      obtain ⟨j, hj, rfl, H, ho⟩ := hrel
      have hsF : ∀ g ∈ b1 ++ L.flatMap (·.2.2), g < w.heap.size := fun g hg => HF.out g (List.mem_append_left _ hg)
      have z3 : wr.cell? ⟨w.heap.size, 3, none⟩ = some (.slice A l.length c) := (World.cell?_of_block (w := W1) (a := ⟨w.heap.size, 3, none⟩) (ho.block _ H1.out (fun hg => by have := hsF w.heap.size hg; omega))).trans x3
      by_cases hlt : j < l.length
      · obtain ⟨g1, Fj, p0, q0, p1, q1, hjL, rfl, hFj, hovj, e0, e1, e2, e3, e4⟩ := spoil_elem HT.out.2.2.1 H.out.1 oL hlt
        obtain ⟨m1, m2, m3, m4, m5⟩ := fm_drop (fun c : V × List Value × List Nat => c.2.2) L HN.out.2.1 j hjL
        simp only [hFj] at m1 m2 m3 m5
        have hg1 : g1 ∈ b1 := by rw [← hb1e, ownBlock_some]; simp
        have hb1s : ∀ g ∈ b1, g = g1 := fun g hg => by rw [← hb1e, ownBlock_some] at hg; simpa using hg
        have hovr := hovj.at_ (w1 := wr) fun g hg => H.out.2.1 g (m5 g hg)
        have hcall := ihl l[j] (List.getElem_mem hlt) _ Fj wr hovr m1 (hsl2 _ (List.getElem_mem hlt))
        have HM := Lib.hid (And.intro m2 (And.intro m3 (And.intro m4 m5)))
        clear ihl ihd m1 m2 m3 m4 m5 hovj hovr
        go_wp2_with fail
        refine hcall.mono ?_
        rintro e w1 ⟨rfl, ho1⟩
        have hg1j : g1 ∉ Fj := fun hg => HN.out.2.2.1 g1 hg1 g1 (HM.out.2.1 g1 hg) rfl
        have hg1lt : g1 < wr.heap.size := by have := hsF g1 (List.mem_append_left _ hg1); have := ho.size; have := H1.out; omega
        have hT1 := H.out.1.at_ (w1 := w1) (fun g hg => by rw [ownBlock_some] at hg; obtain rfl := Option.some.inj hg; exact ho1.block _ hg1lt hg1j)
        have hbl : ∀ p, w1.cell? ⟨g1, p, none⟩ = wr.cell? ⟨g1, p, none⟩ := fun p => World.cell?_of_block (w := wr) (a := ⟨g1, p, none⟩) (ho1.block g1 hg1lt hg1j)
        have s0 := (hbl _).trans e0
        have s1 := (hbl _).trans e1
        have s2 := (hbl _).trans e2
        have s3 := (hbl _).trans e3
        have s4 := (hbl _).trans e4
        have r0 := hT1.free (j * 5)
        have r1 := hT1.free (j * 5 + 1)
        have r2 := hT1.free (j * 5 + 2)
        have r3 := hT1.free (j * 5 + 3)
        have r4 := hT1.free (j * 5 + 4)
        have z31 : w1.cell? ⟨w.heap.size, 3, none⟩ = some (.slice (some ⟨g1, 0, none⟩) l.length c) := (World.cell?_of_block (w := wr) (a := ⟨w.heap.size, 3, none⟩) (ho1.block w.heap.size (by have := ho.size; have := H1.out; omega) (fun hg => by have := hsF w.heap.size (List.mem_append_right _ (HM.out.2.1 _ hg)); omega))).trans z3
        clear hbl e0 e1 e2 e3 e4 z3 hcall
        go_wp2_with fail
        go_roundw
        case rel =>
          have hset := only_set5 w1 g1 (j * 5) (j * 5 + 1) (j * 5 + 2) (j * 5 + 3) (j * 5 + 4) (.int .i64 (-5)) (.int .i64 0) (.string ByteArray.empty) (.slice none 0 0) (.slice none 0 0)
          have hkeep : ∀ g, g < w.heap.size → g ≠ g1 → g ∉ Fj → (((((w1.setCell ⟨g1, j * 5, none⟩ (.int .i64 (-5))).setCell ⟨g1, j * 5 + 1, none⟩ (.int .i64 0)).setCell ⟨g1, j * 5 + 2, none⟩ (.string ByteArray.empty)).setCell ⟨g1, j * 5 + 3, none⟩ (.slice none 0 0)).setCell ⟨g1, j * 5 + 4, none⟩ (.slice none 0 0)).heap[g]? = wr.heap[g]? := fun g hg hne hnot => by
            have h1 : g < wr.heap.size := by have := ho.size; have := H1.out; omega
            have h2 : g < w1.heap.size := Nat.lt_of_lt_of_le h1 ho1.size
            exact (hset.block g h2 hne).trans (ho1.block g h1 hnot)
          refine ⟨j + 1, by omega, by go_num, Lib.hid ⟨tailR_set5 hT1 _ _ _ _ _ _ _ _ _ _ (by omega) (by omega) (by omega) (by omega) (by omega) (by omega), fun g hg => ?_, fun g hg => ?_⟩, ?_⟩
          · have hgL : g ∈ L.flatMap (·.2.2) := List.mem_flatMap.2 (by obtain ⟨c, hc, hg⟩ := List.mem_flatMap.1 hg; exact ⟨c, List.mem_of_mem_drop hc, hg⟩)
            refine (hkeep g (hsF g (List.mem_append_right _ hgL)) (fun he => HN.out.2.2.1 g1 hg1 g hgL he.symm) (fun hn => HM.out.1 g hn hg)).trans (H.out.2.1 g (HM.out.2.2.1 g hg))
          · refine (hkeep g (HF.out g (List.mem_append_right _ hg)) (fun he => HN.out.2.2.2.2.2.2 g1 (List.mem_append_left _ hg1) g hg he.symm) (fun hn => HN.out.2.2.2.2.2.2 g (List.mem_append_right _ (HM.out.2.1 g hn)) g hg rfl)).trans (H.out.2.2 g hg)
          · have hd1 : Only (· ∈ b1 ++ L.flatMap (·.2.2)) wr w1 := ⟨ho1.os, ho1.tape, ho1.output, ho1.size, fun q hq hn => ho1.block q hq fun hF => hn (List.mem_append_right _ (HM.out.2.1 q hF))⟩
            exact (ho.trans hd1 fun _ _ h => h).trans hset fun q _ h => by rw [h]; exact List.mem_append_left _ hg1
        case measure => simp [intOf]; omega
      · obtain rfl : j = l.length := by omega
        have HD1 := Lib.hid (And.intro H.out.1 H.out.2.2)
        have hB1 : Only (· ∈ b1 ++ L.flatMap (·.2.2)) W1 wr := ho
        clear ihl H
        go_wp2_with fail
        obtain ⟨wo, hwo⟩ : ∃ wo : World, wo = wr := ⟨_, rfl⟩
        rw [← hwo] at HD1 hB1 ho z3 ⊢
        have z4 : wo.cell? ⟨w.heap.size, 4, none⟩ = some (.slice A' d.length c') := (World.cell?_of_block (w := W1) (a := ⟨w.heap.size, 4, none⟩) (ho.block _ H1.out (fun hg => by have := hsF w.heap.size hg; omega))).trans x4
        have hwosz : w.heap.size < wo.heap.size := by have := ho.size; have := H1.out; omega
        have HW := Lib.hid hwosz
        clear hwo hwosz ho
        have hsF2 : ∀ g ∈ b2 ++ D.flatMap (·.2.2.2), g < w.heap.size := fun g hg => HF.out g (List.mem_append_right _ hg)
        go_loopw [3] (fun ix wr => ∃ (j : Nat), j ≤ d.length ∧ ix = .int .i64 j ∧ Hid (TailR wr 72 6 (.slice A' d.length c') d.length (D.flatMap fun c => .string c.1 :: c.2.2.1) (j * 6) ∧ (∀ g ∈ (D.drop j).flatMap (·.2.2.2), wr.heap[g]? = w.heap[g]?)) ∧ Only (· ∈ b2 ++ D.flatMap (·.2.2.2)) wo wr) (fun ix _ => d.length - (intOf ix).toNat)
        case atStart =>
          exact ⟨0, by omega, rfl, Lib.hid ⟨by rw [Nat.zero_mul]; exact (TailR.of HT.out.2.1).at_ (fun g hg => HD1.out.2 g (List.mem_append_left _ (by rw [← hb2e, hg]; simp))), fun g hg => HD1.out.2 g (by simp only [List.drop_zero] at hg; exact List.mem_append_right _ hg)⟩, Only.refl _ _⟩
        case round =>
          obtain ⟨j, hj, rfl, H, ho⟩ := hrel
          have z4r : wr.cell? ⟨w.heap.size, 4, none⟩ = some (.slice A' d.length c') := (World.cell?_of_block (w := wo) (a := ⟨w.heap.size, 4, none⟩) (ho.block _ HW.out (fun hg => by have := hsF2 w.heap.size hg; omega))).trans z4
          by_cases hlt : j < d.length
          · obtain ⟨g2, Fj, p0, q0, p1, q1, hjL, rfl, hFj, hovj, e0, e1, e2, e3, e4, e5⟩ := spoil_field HT.out.2.2.2 H.out.1 oD hlt
            obtain ⟨m1, m2, m3, m4, m5⟩ := fm_drop (fun c : ByteArray × V × List Value × List Nat => c.2.2.2) D HN.out.2.2.2.2.1 j hjL
            simp only [hFj] at m1 m2 m3 m5
            have hg2 : g2 ∈ b2 := by rw [← hb2e, ownBlock_some]; simp
            have hovr := hovj.at_ (w1 := wr) fun g hg => H.out.2 g (m5 g hg)
            have hcall := ihd d[j] (List.getElem_mem hlt) _ Fj wr hovr m1 (hsd2 _ (List.getElem_mem hlt))
            have HM := Lib.hid (And.intro m2 (And.intro m3 (And.intro m4 m5)))
            clear ihd m1 m2 m3 m4 m5 hovj hovr z4
            go_wp2_with fail
            refine hcall.mono ?_
            rintro e w1 ⟨rfl, ho1⟩
            have hg2j : g2 ∉ Fj := fun hg => HN.out.2.2.2.2.2.1 g2 hg2 g2 (HM.out.2.1 g2 hg) rfl
            have hg2lt : g2 < wr.heap.size := by have := hsF2 g2 (List.mem_append_left _ hg2); have := ho.size; have := HW.out; omega
            have hT1 := H.out.1.at_ (w1 := w1) (fun g hg => by rw [ownBlock_some] at hg; obtain rfl := Option.some.inj hg; exact ho1.block _ hg2lt hg2j)
            have hbl : ∀ p, w1.cell? ⟨g2, p, none⟩ = wr.cell? ⟨g2, p, none⟩ := fun p => World.cell?_of_block (w := wr) (a := ⟨g2, p, none⟩) (ho1.block g2 hg2lt hg2j)
            have s0 := (hbl _).trans e0
            have s1 := (hbl _).trans e1
            have s2 := (hbl _).trans e2
            have s3 := (hbl _).trans e3
            have s4 := (hbl _).trans e4
            have s5 := (hbl _).trans e5
            have r0 := hT1.free (j * 6)
            have r1 := hT1.free (j * 6 + 1)
            have r2 := hT1.free (j * 6 + 1 + 1)
            have r3 := hT1.free (j * 6 + 1 + 2)
            have r4 := hT1.free (j * 6 + 1 + 3)
            have r5 := hT1.free (j * 6 + 1 + 4)
            have z41 : w1.cell? ⟨w.heap.size, 4, none⟩ = some (.slice (some ⟨g2, 0, none⟩) d.length c') := (World.cell?_of_block (w := wr) (a := ⟨w.heap.size, 4, none⟩) (ho1.block w.heap.size (by have := ho.size; have := HW.out; omega) (fun hg => by have := hsF2 w.heap.size (List.mem_append_right _ (HM.out.2.1 _ hg)); omega))).trans z4r
            clear hbl e0 e1 e2 e3 e4 e5 z4r hcall
            go_wp2_with fail
            go_roundw
            case rel =>
              have hset : Only (· = g2) w1 ((((((w1.setCell ⟨g2, j * 6, none⟩ (.string ⟨#[115, 112, 111, 105, 108, 116]⟩)).setCell ⟨g2, j * 6 + 1, none⟩ (.int .i64 (-5))).setCell ⟨g2, j * 6 + 2, none⟩ (.int .i64 0)).setCell ⟨g2, j * 6 + 3, none⟩ (.string ByteArray.empty)).setCell ⟨g2, j * 6 + 4, none⟩ (.slice none 0 0)).setCell ⟨g2, j * 6 + 5, none⟩ (.slice none 0 0)) :=
                (only_set _ g2 (j * 6) _).trans (only_set5 _ g2 (j * 6 + 1) (j * 6 + 2) (j * 6 + 3) (j * 6 + 4) (j * 6 + 5) _ _ _ _ _) (fun _ _ h => h)
              have hkeep : ∀ g, g < w.heap.size → g ≠ g2 → g ∉ Fj → ((((((w1.setCell ⟨g2, j * 6, none⟩ (.string ⟨#[115, 112, 111, 105, 108, 116]⟩)).setCell ⟨g2, j * 6 + 1, none⟩ (.int .i64 (-5))).setCell ⟨g2, j * 6 + 2, none⟩ (.int .i64 0)).setCell ⟨g2, j * 6 + 3, none⟩ (.string ByteArray.empty)).setCell ⟨g2, j * 6 + 4, none⟩ (.slice none 0 0)).setCell ⟨g2, j * 6 + 5, none⟩ (.slice none 0 0)).heap[g]? = wr.heap[g]? := fun g hg hne hnot => by
                have h1 : g < wr.heap.size := by have := ho.size; have := HW.out; omega
                have h2 : g < w1.heap.size := Nat.lt_of_lt_of_le h1 ho1.size
                exact (hset.block g h2 hne).trans (ho1.block g h1 hnot)
              refine ⟨j + 1, by omega, by go_num, Lib.hid ⟨tailR_set5 (hT1.set (j * 6) _ (f' := (j + 1) * 6) (by omega) (by omega)) _ _ _ _ _ _ _ _ _ _ (by omega) (by omega) (by omega) (by omega) (by omega) (by omega), fun g hg => ?_⟩, ?_⟩
              · have hgD : g ∈ D.flatMap (·.2.2.2) := List.mem_flatMap.2 (by obtain ⟨c, hc, hg⟩ := List.mem_flatMap.1 hg; exact ⟨c, List.mem_of_mem_drop hc, hg⟩)
                exact (hkeep g (hsF2 g (List.mem_append_right _ hgD)) (fun he => HN.out.2.2.2.2.2.1 g2 hg2 g hgD he.symm) (fun hn => HM.out.1 g hn hg)).trans (H.out.2 g (HM.out.2.2.1 g hg))
              · have hd1 : Only (· ∈ b2 ++ D.flatMap (·.2.2.2)) wr w1 := ⟨ho1.os, ho1.tape, ho1.output, ho1.size, fun q hq hn => ho1.block q hq fun hF => hn (List.mem_append_right _ (HM.out.2.1 q hF))⟩
                exact (ho.trans hd1 fun _ _ h => h).trans hset fun q _ h => by rw [h]; exact List.mem_append_left _ hg2
            case measure => simp [intOf]; omega
          · obtain rfl : j = d.length := by omega
            clear ihd
            obtain ⟨ys, hy, _⟩ := HD1.out.1
            obtain ⟨ys2, hy2, _⟩ := H.out.1
            have hyr := ownsRow_at (w1 := wr) hy (fun g hg => ho.block g (by have := hsF g (List.mem_append_left _ (by rw [← hb1e, hg]; simp)); have := HW.out; omega) (fun hg2 => HN.out.2.2.2.2.2.2 g (List.mem_append_left _ (by rw [← hb1e, hg]; simp)) g hg2 rfl))
            have z3r : wr.cell? ⟨w.heap.size, 3, none⟩ = some (.slice A l.length c) := (World.cell?_of_block (w := wo) (a := ⟨w.heap.size, 3, none⟩) (ho.block _ HW.out (fun hg => by have := hsF2 w.heap.size hg; omega))).trans z3
            have hbwr : w.heap.size < wr.heap.size := by have := ho.size; have := HW.out; omega
            have hne1 : some w.heap.size ≠ (Value.slice A l.length c).ownBlock := fun he => by have := hsF w.heap.size (List.mem_append_left _ (by rw [← hb1e, ← he]; simp)); omega
            have hne2 : some w.heap.size ≠ (Value.slice A' d.length c').ownBlock := fun he => by have := hsF2 w.heap.size (List.mem_append_left _ (by rw [← hb2e, ← he]; simp)); omega
            have HY := Lib.hid (And.intro hyr (And.intro hy2 (And.intro z4r (And.intro hne1 hne2))))
            have hdis : Hid (∀ g, (Value.slice A' d.length c').ownBlock = some g → g < wr.heap.size ∧ some g ≠ (Value.slice A l.length c).ownBlock) := Lib.hid fun g hg => by
              have hgb : g ∈ b2 := by rw [← hb2e, hg]; simp
              have := hsF2 g (List.mem_append_left _ hgb)
              refine ⟨by omega, fun he => HN.out.2.2.2.2.2.2 g (List.mem_append_left _ (by rw [← hb1e, ← he]; simp)) g (List.mem_append_left _ hgb) rfl⟩
            clear hyr hy hy2 z4 z3 hne1 hne2
            go_wp2_with (first
              | (refine wpList_append_lies _ (by rfl) _ _ 22 (by rfl) 0 25 i0 _ 5 80 Tryd.underlying22 hi0 hz0 hz1 hz2 rfl (by omega) (.slice A l.length c) l.length ys (by rfl) (HY.out.1.alloc _) ⟨wr.heap.size, 0, none⟩ 1 1 [.int .i64 (-6), .int .i64 0, .string ByteArray.empty, .slice none 0 0, .slice none 0 0] (by rfl) (by rfl) (World.news_of_block (heap_alloc_new wr _)) (by simp [Value.oneCell']) (by omega) (by simp [maxLen]; omega) (by omega) (by omega) (wr.heap.size + 1) (by simp) ?_; intro g cap w2 hown2 hgrow2 hat hlt2; have HG2 := Lib.hid hgrow2; have z42 : w2.cell? ⟨w.heap.size, 4, none⟩ = some (.slice A' d.length c') := (World.cell?_of_block (w := wr) (a := ⟨w.heap.size, 4, none⟩) ((hgrow2.block _ (by simp only [World.size_alloc]; omega) HY.out.2.2.2.1).trans (heap_alloc_old _ _ hbwr))).trans HY.out.2.2.1; have HY2 := Lib.hid (ownsRow_at (w1 := w2) HY.out.2.1 (fun q hq => (hgrow2.block q (by simp only [World.size_alloc]; have := (hdis.out q hq).1; omega) (hdis.out q hq).2).trans (heap_alloc_old _ _ (hdis.out q hq).1))))
              | (refine wpList_append_lies _ (by rfl) _ _ 23 (by rfl) 0 72 i1 _ 6 96 Tryd.underlying23 hi1 hy0 hy1 hy2 rfl (by omega) (.slice A' d.length c') d.length ys2 (by rfl) (HY2.out.alloc _) ⟨w2.heap.size, 0, none⟩ 1 1 [.string ⟨#[109, 111, 114, 101]⟩, .int .i64 0, .int .i64 0, .string ByteArray.empty, .slice none 0 0, .slice none 0 0] (by rfl) (by rfl) (World.news_of_block (heap_alloc_new w2 _)) (by simp [Value.oneCell']) (by omega) (by simp [maxLen]; omega) (by omega) (by omega) (w2.heap.size + 1) (by simp) ?_; intro g' cap' w3 hown3 hgrow3 hat3 hlt3))
            all_goals
              have k1 : Only (· ∈ b1 ++ L.flatMap (·.2.2) ++ (b2 ++ D.flatMap (·.2.2.2))) w wr := (((Only.of_below hbW).trans hB1 (fun _ _ h => h)).mono (T := (· ∈ b1 ++ L.flatMap (·.2.2) ++ (b2 ++ D.flatMap (·.2.2.2)))) (fun _ _ h => List.mem_append_left _ h)).trans ho (fun _ _ h => List.mem_append_right _ h)
              have k2 : Only (fun q => some q = (Value.slice A l.length c).ownBlock) wr w2 := (Only.of_below (below_alloc1 wr _)).trans (Only.of_grown HG2.out) (fun _ _ h => h)
              have k3 : Only (fun q => some q = (Value.slice A' d.length c').ownBlock) w2 w3 := (Only.of_below (below_alloc1 w2 _)).trans (Only.of_grown hgrow3) (fun _ _ h => h)
              have k4 := (k1.trans k2 (fun q _ h => List.mem_append_left _ (List.mem_append_left _ (by rw [← hb1e, ← h]; simp)))).trans k3 (fun q _ h => List.mem_append_right _ (List.mem_append_left _ (by rw [← hb2e, ← h]; simp)))
              exact bodyPost_end (v := .tuple #[]) (by simp [results, Tryd.results35, go_sem]) rfl ⟨rfl, k4⟩
end Go.Proofs.YthfejpldhemakaaDoor
