import Derived.Test.YthfejpldhemakaaDoorKu
namespace Go.Proofs.YthfejpldhemakaaDoor
open Go.RowKit Go.Sort Go.Lib
theorem fill_step {xs : List UInt8} {j : Nat} (c : UInt8) (hj : j < xs.length) : (List.replicate j c ++ xs.drop j).set j c = List.replicate (j + 1) c ++ xs.drop (j + 1) := by
  rw [List.set_append_right _ _ (by simp), List.length_replicate, Nat.sub_self, List.drop_eq_getElem_cons hj, List.set_cons_zero, List.replicate_succ']
  simp
theorem fill_at {n : Nat} {c : UInt8} (w : World) (g cap k : Nat) (h : BO w (.slice (some ⟨g, 0, none⟩) k cap) (List.replicate n c)) {j : Nat} (hj : j < n) : w.cell? ⟨g, j, none⟩ = some (.int .u8 (c.toNat : Int)) := by
  have := (h.cell (k := j) (by simpa using hj)).1
  simpa using this
set_option maxRecDepth 100000 in
set_option maxHeartbeats 4000000 in
theorem owned_c (va vb : Value) (xs ys : List UInt8) (w : World) (ha : BO w va xs) (hb : BO w vb ys) (hne : ∀ g, va.ownBlock = some g → vb.ownBlock ≠ some g) (hlx : xs.length ≤ 1099511627776) (hly : ys.length ≤ 1099511627776) :
    Calls Tryd.prog 40 #[va, vb] w fun e w' => e = .returned (.bool true) ∧ Only (fun k => some k = va.ownBlock ∨ some k = vb.ownBlock) w w' := by
  obtain ⟨A, c, rfl, hc⟩ := ha.form
  obtain ⟨A', c', rfl, hc'⟩ := hb.form
  obtain ⟨n, hn⟩ : ∃ n, xs.length = n := ⟨_, rfl⟩
  obtain ⟨m, hm⟩ : ∃ m, ys.length = m := ⟨_, rfl⟩
  rw [hn] at ha hc hne hlx ⊢
  rw [hm] at hb hc' hne hly ⊢
  have HA := Lib.hid (And.intro ha (And.intro hb (And.intro hne (And.intro hn hm))))
  clear ha hb hne hn hm
  go_enter Tryd.func40, Tryd.ntmps40
  go_wp2_with fail
  go_loopw [5] (fun ix wr => ∃ j : Nat, j ≤ n ∧ ix = .int .i64 j ∧ Hid (BO wr (.slice A n c) (List.replicate j 1 ++ xs.drop j) ∧ Only (fun k => some k = (Value.slice A n c).ownBlock) w wr)) (fun ix _ => n - (RowKit.intOf ix).toNat)
  case atStart => exact ⟨0, by omega, rfl, Lib.hid ⟨by simpa using HA.out.1, Only.refl _ _⟩⟩
  case round =>
    obtain ⟨j, hj, rfl, H⟩ := hrel
    by_cases hlt : j < n
    · have hjx : j < xs.length := by have := HA.out.2.2.2.1; omega
      obtain ⟨g, cap, eg, _⟩ := World.ownsRow.form H.out.1 (by simp; omega)
      injection eg with eg _ eg'
      subst eg eg'
      obtain ⟨z1, z2⟩ := H.out.1.cell (k := j) (by simp; omega)
      have hz : (j : Int) < (n : Int) := by omega
      go_wp2_with fail
      go_roundw
      case rel => exact ⟨j + 1, by omega, by go_num, Lib.hid ⟨by rw [← fill_step 1 hjx]; exact H.out.1.set j 1, H.out.2.trans (only_set wr g j _) (fun q _ hq => by rw [hq]; rfl)⟩⟩
      case measure => simp [RowKit.intOf]; omega
    · obtain rfl : j = n := by omega
      have hA1 := H.out.1
      rw [List.drop_eq_nil_of_le (by have := HA.out.2.2.2.1; omega), List.append_nil] at hA1
      have H1 := Lib.hid (And.intro hA1 H.out.2)
      have HB1 := Lib.hid (HA.out.2.1.at_ (w1 := wr) (fun g hg => H.out.2.block g (HA.out.2.1.lt hg) (fun he => HA.out.2.2.1 g he.symm hg)))
      clear hA1 H hlt hj
      obtain ⟨wa, hwa⟩ : ∃ wa : World, wa = wr := ⟨_, rfl⟩
      rw [← hwa] at H1 HB1
      go_wp2_with fail
      rw [← hwa]
      clear hwa
      go_loopw [6] (fun ix wr => ∃ i : Nat, i ≤ m ∧ ix = .int .i64 i ∧ Hid (BO wr (.slice A' m c') (List.replicate i 2 ++ ys.drop i) ∧ Only (fun k => some k = (Value.slice A' m c').ownBlock) wa wr)) (fun ix _ => m - (RowKit.intOf ix).toNat)
      case atStart => exact ⟨0, by omega, rfl, Lib.hid ⟨by simpa using HB1.out, Only.refl _ _⟩⟩
      case round =>
        obtain ⟨i, hi, rfl, H⟩ := hrel
        by_cases hlt : i < m
        · have hjx : i < ys.length := by have := HA.out.2.2.2.2; omega
          obtain ⟨g, cap, eg, _⟩ := World.ownsRow.form H.out.1 (by simp; omega)
          injection eg with eg _ eg'
          subst eg eg'
          obtain ⟨z1, z2⟩ := H.out.1.cell (k := i) (by simp; omega)
          have hz : (i : Int) < (m : Int) := by omega
          go_wp2_with fail
          go_roundw
          case rel => exact ⟨i + 1, by omega, by go_num, Lib.hid ⟨by rw [← fill_step 2 hjx]; exact H.out.1.set i 2, H.out.2.trans (only_set wr g i _) (fun q _ hq => by rw [hq]; rfl)⟩⟩
          case measure => simp [RowKit.intOf]; omega
        · obtain rfl : i = m := by omega
          have hB2 := H.out.1
          rw [List.drop_eq_nil_of_le (by have := HA.out.2.2.2.2; omega), List.append_nil] at hB2
          have hA2 := H1.out.1.at_ (w1 := wr) (fun g hg => H.out.2.block g (H1.out.1.lt hg) (fun he => HA.out.2.2.1 g hg he.symm))
          have hF := (H1.out.2.mono (T := fun k => some k = (Value.slice A j c).ownBlock ∨ some k = (Value.slice A' i c').ownBlock) (fun _ _ h => .inl h)).trans H.out.2 (fun _ _ h => .inr h)
          have H2 := Lib.hid (And.intro hA2 (And.intro hB2 hF))
          have HBk : Hid (∀ (u : World) (v : Value), Gr wr u (.slice A j c) v → BO u (.slice A' i c') (List.replicate i 2)) := Lib.hid fun u v hg => H2.out.2.1.at_ fun g hg' => hg.block (H2.out.2.1.lt hg') (fun he => HA.out.2.2.1 g he hg')
          clear hB2 hA2 hF hlt hi H H1 HB1
          go_wp2_with (first | (refine wpList_app (by rfl) _ _ (by rfl) (.slice A j c) (List.replicate j 1) [1, 1] (by rfl) (H2.out.1.grow (below_alloc1 _ _)) ⟨wr.heap.size, 0, none⟩ 2 (by rfl) (news2 (heap_alloc_new wr _) rfl rfl) (by simp) (by simp; omega) (j + 2) (by simp) ?_; intro g3 cap3 w3 hb3 hg3; have hb3b := HBk.out _ _ (hg3.pre (below_alloc1 _ _)); have H3 := Lib.hid (And.intro hb3 (And.intro hg3 hb3b)); clear hb3 hg3 hb3b) | (refine wpList_app (by rfl) _ _ (by rfl) (.slice A' i c') (List.replicate i 2) [2, 2] (by rfl) (H3.out.2.2.grow (below_alloc1 _ _)) ⟨w3.heap.size, 0, none⟩ 2 (by rfl) (news2 (heap_alloc_new w3 _) rfl rfl) (by simp) (by simp; omega) (i + 2) (by simp) ?_; intro g4 cap4 w4 hb4 hg4; have H4 := Lib.hid (And.intro hb4 hg4); clear hb4 hg4))
          have hA4 : BO w4 (.slice (some ⟨g3, 0, none⟩) (j + 2) cap3) (List.replicate (j + 2) 1) := by
            have h0 : List.replicate j (1 : UInt8) ++ [1, 1] = List.replicate (j + 2) 1 := by
              rw [List.replicate_succ', List.replicate_succ']
              simp
            rw [← h0]
            refine H3.out.1.at_ fun g hg => ?_
            have hlt3 := H3.out.1.lt hg
            refine (H4.out.2.pre (below_alloc1 _ _)).block hlt3 (fun he => ?_)
            have hbl := H2.out.2.1.lt he
            rcases H3.out.2.1.row g hg with h1 | h1
            · exact HA.out.2.2.1 g h1 he
            · simp at h1; omega
          have hB4 : BO w4 (.slice (some ⟨g4, 0, none⟩) (i + 2) cap4) (List.replicate (i + 2) 2) := by
            have h0 : List.replicate i (2 : UInt8) ++ [2, 2] = List.replicate (i + 2) 2 := by
              rw [List.replicate_succ', List.replicate_succ']
              simp
            rw [← h0]
            exact H4.out.1
          have hfin : Only (fun k => some k = (Value.slice A j c).ownBlock ∨ some k = (Value.slice A' i c').ownBlock) w w4 :=
            (H2.out.2.2.trans ((Only.of_below (S := fun k => some k = (Value.slice A j c).ownBlock) (below_alloc1 wr _)).trans (Only.of_grown H3.out.2.1.grown) (fun _ _ h => h)) (fun _ _ h => .inl h)).trans ((Only.of_below (S := fun k => some k = (Value.slice A' i c').ownBlock) (below_alloc1 w3 _)).trans (Only.of_grown H4.out.2.grown) (fun _ _ h => h)) (fun _ _ h => .inr h)
          have HFin := Lib.hid (And.intro hA4 (And.intro hB4 hfin))
          clear hA4 hB4 hfin H3 H4 H2 HBk
          go_loop [7] (fun ix => ∃ k : Nat, k ≤ j + 2 ∧ ix = .int .i64 k) (fun ix => j + 2 - (RowKit.intOf ix).toNat)
          case atStart => exact ⟨0, by omega, rfl⟩
          case round =>
            obtain ⟨k, hk, rfl⟩ := hrel
            by_cases hlt : k < j + 2
            · have z := fill_at w4 g3 cap3 _ HFin.out.1 hlt
              have hz : (k : Int) < (j : Int) + 2 := by omega
              rw [show ((UInt8.toNat 1 : Nat) : Int) = 1 from rfl] at z
              go_wp2_with fail
              go_round
              case rel => exact ⟨k + 1, by omega, by go_num⟩
              case measure => simp [RowKit.intOf]; omega
            · obtain rfl : k = j + 2 := by omega
              go_wp2_with fail
              go_loop [8] (fun ix => ∃ k : Nat, k ≤ i + 2 ∧ ix = .int .i64 k) (fun ix => i + 2 - (RowKit.intOf ix).toNat)
              case atStart => exact ⟨0, by omega, rfl⟩
              case round =>
                obtain ⟨k, hk, rfl⟩ := hrel
                by_cases hlt : k < i + 2
                · have z := fill_at w4 g4 cap4 _ HFin.out.2.1 hlt
                  have hz : (k : Int) < (i : Int) + 2 := by omega
                  rw [show ((UInt8.toNat 2 : Nat) : Int) = 2 from rfl] at z
                  go_wp2_with fail
                  go_round
                  case rel => exact ⟨k + 1, by omega, by go_num⟩
                  case measure => simp [RowKit.intOf]; omega
                · obtain rfl : k = i + 2 := by omega
                  go_wp2_with fail
                  go_ret
                  exact ⟨rfl, HFin.out.2.2⟩
end Go.Proofs.YthfejpldhemakaaDoor
