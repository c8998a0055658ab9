import Derived.Test.YthfejpldhemakaaDoorWe
namespace Go.Proofs.YthfejpldhemakaaDoor
open Go.RowKit Go.Sort
theorem set6_only (w : World) (g o : Nat) (c0 c1 c2 c3 c4 c5 : Value) : Only (· = g) w (set6 w g o c0 c1 c2 c3 c4 c5) :=
  (((((only_set w g o c0).trans (only_set _ g (o + 1) c1) (fun _ _ h => h)).trans (only_set _ g (o + 2) c2) (fun _ _ h => h)).trans (only_set _ g (o + 3) c3) (fun _ _ h => h)).trans (only_set _ g (o + 4) c4) (fun _ _ h => h)).trans (only_set _ g (o + 5) c5) (fun _ _ h => h)
set_option maxRecDepth 100000 in
set_option maxHeartbeats 1000000 in
theorem deletef_c (k i : Int) (t : ByteArray) (l : List V) (d : List (ByteArray × V)) (nm : ByteArray) (c0 c1 c2 sl : Value) (A : Option Addr) (c nb : Nat) (F : List Nat) (w : World) (ho : OV false w (.mk k i t l d) [c0, c1, c2, sl, .slice A d.length c] F) (hn : F.Nodup)
    (hnb : w.cell? ⟨nb, 0, none⟩ = some (.string nm)) (hnF : nb ∉ F) :
    Calls Tryd.prog 75 #[.slice A d.length c, .func (.func 76) #[] #[.pointer (some ⟨nb, 0, none⟩)]] w fun e w' => ∃ F', e = .returned (.slice A (d.filter fun c => notNm nm c.1).length c) ∧
      OV false w' (.mk k i t l (d.filter fun c => notNm nm c.1)) [c0, c1, c2, sl, .slice A (d.filter fun c => notNm nm c.1).length c] F' ∧ F'.Nodup ∧ (∀ q ∈ F', q ∈ F) ∧ Only (· ∈ F) w w' := by
  obtain ⟨_, hD⟩ := ho.rv.rd
  have hd0 := hD.1
  have hdc := hD.2.1
  have hidx := index76_c d nm A c nb w hD hnb
  obtain ⟨D, hDm, h5c, hrow, hfil⟩ := ho.filtered hn
  have hDl : D.length = d.length := by rw [hDm]; simp
  have hDn : ∀ j (h : j < d.length) (h' : j < D.length), D[j].1 = d[j].1 := fun j h h' => by subst hDm; simp
  rcases posD_cases nm zeroV d 0 with ⟨h1, _⟩ | ⟨j0, hj0, h1, hjn, _⟩
  · rw [h1] at hidx
    have H := Lib.hid (posD_none h1)
    have HO := Lib.hid ho
    clear hDm h5c hrow hfil hDl hDn h1 hnb hD
    go_enter Tryd.func75, Tryd.ntmps75
    go_wp2_with fail
    refine hidx.mono ?_
    rintro e w1 ⟨rfl, b1⟩
    go_wp2_with fail
    go_ret
    refine ⟨F, by rw [H.out]; rfl, ?_, hn, fun q hq => hq, Only.of_below b1⟩
    rw [H.out]
    exact HO.out.grow b1
  · simp only [Nat.zero_add] at h1
    rw [h1] at hidx
    obtain ⟨g, cap, h3, _⟩ := hrow.form (by omega)
    injection h3 with h3 _ h3c
    subst h3 h3c
    have hgF : g ∈ F := ho.ownD rfl
    have hlen := flatD_len h5c
    have hs0 : sieve nm D j0 = D.take j0 := by
      have := (posD_first (d := d) (i := 0) (j := j0) (by simpa using h1) hj0).1
      unfold sieve
      apply List.filter_eq_self.2
      intro x hx
      have h2 := List.filter_eq_self.1 this (x.1, x.2.1) (by
        rw [hDm, ← List.map_take]
        exact List.mem_map.2 ⟨x, hx, rfl⟩)
      exact h2
    have hl0 : (sieve nm D j0).length = j0 := by rw [hs0, List.length_take]; omega
    have hS0 : ∀ w1, Below w.heap.size w w1 → Sieving nm D w1 g d.length c (j0 + 1) := fun w1 b1 => by
      refine Sieving.skip (Sieving.at_ ⟨_, hrow, ?_, fun _ _ => rfl⟩ (b1.block g (ho.lt g hgF))) (by omega) (by rw [hDn j0 hj0 (by omega)]; exact hjn)
      rw [hl0, hs0]
      have hft : ∀ (D : List (ByteArray × V × List Value × List Nat)), (∀ c ∈ D, c.2.2.1.length = 5) → ∀ j, (flatD D).take (j * 6) = flatD (D.take j) := by
        intro D
        induction D with
        | nil => intro _ j; simp [flatD]
        | cons c D ih =>
          intro h5 j
          match j with
          | 0 => simp [flatD]
          | j + 1 =>
            have hc5 := h5 c (by simp)
            have := ih (fun x hx => h5 x (by simp [hx])) j
            simp only [flatD, List.flatMap_cons, List.take_succ_cons] at this ⊢
            rw [show (j + 1) * 6 = (Value.string c.1 :: c.2.2.1).length + j * 6 by simp [hc5]; omega, List.take_length_add_append, this]
      exact hft D h5c j0
    have hl1 : (sieve nm D (j0 + 1)).length = j0 := by rw [sieve_no (by omega) (by rw [hDn j0 hj0 (by omega)]; exact hjn)]; exact hl0
    have HO := Lib.hid (And.intro ho (And.intro hfil (And.intro hDm (And.intro hDl (And.intro hDn (And.intro h5c hrow))))))
    have HS := Lib.hid (And.intro hS0 hl1)
    clear ho hDm h5c hrow hfil hDl hDn h1 hD hlen hs0 hl0 hS0 hl1 hjn
    have hglt := HO.out.1.lt g hgF
    have hng : nb ≠ g := fun he => hnF (he ▸ hgF)
    have hnl := World.block_lt_of_cell? w _ hnb
    have hm1 : ((j0 : Int) == -1) = false := by simp
    go_enter Tryd.func75, Tryd.ntmps75
    go_wp2_with fail
    refine hidx.mono ?_
    rintro e w1 ⟨rfl, b1⟩
    go_wp2_with fail
    go_loopw [5, 6] (fun ii ix wr => ∃ j : Nat, j ≤ d.length ∧ ix = .int .i64 j ∧ ii = .int .i64 ((sieve nm D j).length : Nat) ∧ Hid (Sieving nm D wr g d.length c j) ∧ (sieve nm D j).length < j ∧ Only (· = g) w wr) (fun _ ix _ => d.length - (intOf ix).toNat)
    case atStart =>
      refine ⟨j0 + 1, by omega, by go_num, ?_, Lib.hid (HS.out.1 _ b1), by have := HS.out.2; omega, Only.of_below b1⟩
      rw [HS.out.2]
    case round =>
      obtain ⟨j, hj, rfl, rfl, H, hs, hon⟩ := hrel
      by_cases hlt : j < d.length
      · have hlD : j < D.length := by rw [HO.out.2.2.2.1]; exact hlt
        obtain ⟨g', a0, n0, a1, n1, eg, f0, f1, f2, f3, f4, f5, _⟩ := HO.out.1.field hlt
        injection eg with eg
        injection eg with eg
        subst eg
        have HCE := Lib.hid (row_cells HO.out.2.2.2.2.2.2 HO.out.2.2.2.2.2.1 hlD f0 f1 f2 f3 f4 f5)
        clear f0 f1 f2 f3 f4 f5
        obtain ⟨f0, f1, f2, f3, f4, f5⟩ := H.out.field hlD HO.out.2.2.2.2.2.1 HCE.out
        have hnbr := cell_alloc1 (hon.cell hnb hng)
        have hcl := fun o => without1_c nm d[j].1 (.int .i64 d[j].2.k) (.int .i64 d[j].2.i) (.string d[j].2.t) (.slice a0 d[j].2.l.length n0) (.slice a1 d[j].2.d.length n1) nb (wr.alloc o) (hnbr o)
        rw [toList_beq] at hcl
        have hDj := HO.out.2.2.2.2.1 j hlt hlD
        have hgr : g < wr.heap.size := by have := hon.size; omega
        by_cases he : d[j].1 = nm
        · have HSk := Lib.hid (H.out.skip hlD (by rw [hDj]; exact he))
          have HL := Lib.hid (show (sieve nm D (j + 1)).length = (sieve nm D j).length by rw [sieve_no hlD (by rw [hDj]; exact he)])
          rw [decide_eq_true he] at hcl
          clear he hDj
          go_wp2_with (go_at_call 76; refine (hcl _).mono ?_; rintro e w2 ⟨rfl, hb2⟩)
          go_roundw
          case rel =>
            have hb3 := below2 (below_alloc1 wr _) hb2
            exact ⟨j + 1, by omega, by go_num, by rw [HL.out], Lib.hid (HSk.out.at_ (hb3.block g hgr)), by have := HL.out; omega, hon.trans (Only.of_below (S := (· = g)) hb3) (fun _ _ h => h)⟩
          case measure => simp [intOf]; omega
        · have HN := Lib.hid (show ¬ D[j].1 = nm by rw [hDj]; exact he)
          rw [decide_eq_false he] at hcl
          clear he hDj
          have hl2 : (sieve nm D j).length < d.length := by omega
          have HL := Lib.hid (show (sieve nm D (j + 1)).length = (sieve nm D j).length + 1 by rw [sieve_yes hlD HN.out]; simp)
          obtain ⟨v0, q0⟩ := Option.isSome_iff_exists.1 (H.out.there ((sieve nm D j).length * 6) (by omega)).1
          have m0 := (H.out.there ((sieve nm D j).length * 6) (by omega)).2
          obtain ⟨v1, q1⟩ := Option.isSome_iff_exists.1 (H.out.there ((sieve nm D j).length * 6 + 1) (by omega)).1
          have m1 := (H.out.there ((sieve nm D j).length * 6 + 1) (by omega)).2
          obtain ⟨v2, q2⟩ := Option.isSome_iff_exists.1 (H.out.there ((sieve nm D j).length * 6 + 2) (by omega)).1
          have m2 := (H.out.there ((sieve nm D j).length * 6 + 2) (by omega)).2
          obtain ⟨v3, q3⟩ := Option.isSome_iff_exists.1 (H.out.there ((sieve nm D j).length * 6 + 3) (by omega)).1
          have m3 := (H.out.there ((sieve nm D j).length * 6 + 3) (by omega)).2
          obtain ⟨v4, q4⟩ := Option.isSome_iff_exists.1 (H.out.there ((sieve nm D j).length * 6 + 4) (by omega)).1
          have m4 := (H.out.there ((sieve nm D j).length * 6 + 4) (by omega)).2
          obtain ⟨v5, q5⟩ := Option.isSome_iff_exists.1 (H.out.there ((sieve nm D j).length * 6 + 5) (by omega)).1
          have m5 := (H.out.there ((sieve nm D j).length * 6 + 5) (by omega)).2
          have HB : Hid (∀ o w2, Below (wr.alloc o).heap.size (wr.alloc o) w2 → w2.heap[g]? = wr.heap[g]?) := Lib.hid fun o w2 hb => (below2 (below_alloc1 wr o) hb).block g hgr
          have hsz : (((sieve nm D j).length : Nat) : Int) < ((d.length : Nat) : Int) := by omega
          go_wp2_with (go_at_call 76; refine (hcl _).mono ?_; rintro e w2 ⟨rfl, hb2⟩; have z0 := cell_grow hb2 (box_cell 0 _ rfl); have z1 := cell_grow hb2 (box_cell 1 _ rfl); have z2 := cell_grow hb2 (box_cell 2 _ rfl); have z3 := cell_grow hb2 (box_cell 3 _ rfl); have z4 := cell_grow hb2 (box_cell 4 _ rfl); have z5 := cell_grow hb2 (box_cell 5 _ rfl); have hw := HB.out _ _ hb2; have k0 := (World.cell?_of_block (w := wr) (w' := w2) (a := ⟨g, (sieve nm D j).length * 6, none⟩) hw).trans q0; have l0 := (World.frozen?_of_block (w := wr) (w' := w2) (a := ⟨g, (sieve nm D j).length * 6, none⟩) hw).trans m0; have k1 := (World.cell?_of_block (w := wr) (w' := w2) (a := ⟨g, (sieve nm D j).length * 6 + 1, none⟩) hw).trans q1; have l1 := (World.frozen?_of_block (w := wr) (w' := w2) (a := ⟨g, (sieve nm D j).length * 6 + 1, none⟩) hw).trans m1; have k2 := (World.cell?_of_block (w := wr) (w' := w2) (a := ⟨g, (sieve nm D j).length * 6 + 2, none⟩) hw).trans q2; have l2 := (World.frozen?_of_block (w := wr) (w' := w2) (a := ⟨g, (sieve nm D j).length * 6 + 2, none⟩) hw).trans m2; have k3 := (World.cell?_of_block (w := wr) (w' := w2) (a := ⟨g, (sieve nm D j).length * 6 + 3, none⟩) hw).trans q3; have l3 := (World.frozen?_of_block (w := wr) (w' := w2) (a := ⟨g, (sieve nm D j).length * 6 + 3, none⟩) hw).trans m3; have k4 := (World.cell?_of_block (w := wr) (w' := w2) (a := ⟨g, (sieve nm D j).length * 6 + 4, none⟩) hw).trans q4; have l4 := (World.frozen?_of_block (w := wr) (w' := w2) (a := ⟨g, (sieve nm D j).length * 6 + 4, none⟩) hw).trans m4; have k5 := (World.cell?_of_block (w := wr) (w' := w2) (a := ⟨g, (sieve nm D j).length * 6 + 5, none⟩) hw).trans q5; have l5 := (World.frozen?_of_block (w := wr) (w' := w2) (a := ⟨g, (sieve nm D j).length * 6 + 5, none⟩) hw).trans m5; have HW2 := Lib.hid hw; clear hw)
          go_roundw
          case rel =>
            have hb3 := below2 (below_alloc1 wr _) hb2
            have hst := (H.out.at_ HW2.out).step HO.out.2.2.2.1.symm hlD HN.out hs HCE.out
            have h6 := set6_only w2 g ((sieve nm D j).length * 6) (.string d[j].1) (.int .i64 d[j].2.k) (.int .i64 d[j].2.i) (.string d[j].2.t) (.slice a0 d[j].2.l.length n0) (.slice a1 d[j].2.d.length n1)
            exact ⟨j + 1, by omega, by go_num, by rw [HL.out]; go_num, Lib.hid hst, by have := HL.out; omega, (hon.trans (Only.of_below (S := (· = g)) hb3) (fun _ _ h => h)).trans h6 (fun _ _ h => h)⟩
          case measure => simp [intOf]; omega
      · obtain rfl : j = d.length := by omega
        have hsz : (((sieve nm D d.length).length : Nat) : Int) ≤ ((d.length : Nat) : Int) := by omega
        have hcl : ∀ ty, (Builtin.clear_ #[23] ty #[.slice (some ⟨g, (sieve nm D d.length).length * 6, none⟩) (d.length - (sieve nm D d.length).length) (c - (sieve nm D d.length).length)]).run Tryd.prog wr = .ok (.tuple #[]) (wr.setCells g ((sieve nm D d.length).length * 6) (Builtin.zeroCells zero6 (d.length - (sieve nm D d.length).length)).toList) := fun ty =>
          clear72 wr ty g _ _ _ (by omega) (fun q hq => (H.out.there _ (by omega)).1) (fun q hq => (H.out.there _ (by omega)).2)
        have hc1 : (sieve nm D d.length).length < c := by omega
        have hc2 : (((sieve nm D d.length).length : Nat) : Int) ≤ ((c : Nat) : Int) := by omega
        have hc3 : ¬ c = (sieve nm D d.length).length := by omega
        have hc4 : ¬ (sieve nm D d.length).length = c := by omega
        go_wp2_with fail
        go_ret
        have hsv : sieve nm D d.length = D.filter fun c => notNm nm c.1 := by unfold sieve; rw [List.take_of_length_le (by rw [HO.out.2.2.2.1]; exact Nat.le_refl _)]
        have hfl : (d.filter fun c => notNm nm c.1).length = (sieve nm D d.length).length := by
          rw [hsv]
          conv => lhs; rw [HO.out.2.2.1]
          rw [List.filter_map]
          simp [Function.comp_def]
        obtain ⟨ys, y1, y2, _⟩ := H.out
        obtain ⟨zs, z1, z2⟩ := setCells_row (Builtin.zeroCells zero6 (d.length - (sieve nm D d.length).length)).toList ((sieve nm D d.length).length * 6) wr ys y1
        have z3 := ownsRow_short z1 (Nat.le_of_lt hs)
        have z4 : zs.take ((sieve nm D d.length).length * 6) = flatD (D.filter fun c => notNm nm c.1) := by
          rw [← hsv, ← y2]
          apply List.ext_getElem?
          intro p
          by_cases hp : p < (sieve nm D d.length).length * 6
          · rw [List.getElem?_take_of_lt hp, List.getElem?_take_of_lt hp, z2 p hp]
          · rw [List.getElem?_eq_none (by rw [List.length_take]; omega), List.getElem?_eq_none (by rw [List.length_take]; omega)]
        rw [z4] at z3
        have hall := hon.trans (setCells_only (Builtin.zeroCells zero6 (d.length - (sieve nm D d.length).length)).toList ((sieve nm D d.length).length * 6) g wr) (fun _ _ h => h)
        obtain ⟨F', hov', hn', hsub⟩ := HO.out.2.1 _ (.slice (some ⟨g, 0, none⟩) (sieve nm D d.length).length c) (notNm nm) (fun q hq hne => hall.block q (HO.out.1.lt q hq) (fun he => hne (by rw [he]; rfl))) (fun q hq _ => hq) (by rw [hfl]; exact z3)
        refine ⟨F', by rw [hfl]; rfl, by rw [hfl]; exact hov', hn', fun q hq => ?_, hall.mono fun q _ hq => hq ▸ hgF⟩
        rcases hsub q hq with hq | hq
        · exact hq
        · have hq : q = g := Option.some.inj hq
          exact hq ▸ hgF
end Go.Proofs.YthfejpldhemakaaDoor
