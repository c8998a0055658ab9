import Derived.Test.YthfejpldhemakaaDoorRg
import Derived.Deep.LoopGhost
namespace Go.Proofs.YthfejpldhemakaaDoor
open Go.RowKit Go.Sort Go.Lib
theorem wrap64_u8 (d : UInt8) : wrap64 (d.toNat : Int) = (d.toNat : Int) := by
  have := d.toNat_lt
  unfold wrap64; omega
/-- The kind's byte is known. -/
theorem kind_is {z : RC} {i i' : Nat} {b0 b : Bool} {c k : UInt8} {r : List UInt8} (h : (b = true ∧ c = 0 ∧ (b0 = true ∨ z.rest i = [])) ∨ (b0 = false ∧ b = false ∧ z.rest i = c :: z.rest i' ∧ i' = i + 1)) (hb : b0 = false) (hr : z.rest i = k :: r) : c = k := by
  rcases h with ⟨_, _, h | h⟩ | ⟨_, _, h, _⟩
  · rw [hb] at h; cases h
  · rw [hr] at h; cases h
  · rw [hr] at h; injection h with h _; exact h.symm
set_option maxRecDepth 100000 in
set_option maxHeartbeats 4000000 in
theorem value_flag {z : RC} (ok : z.Ok) (deep : Nat) {w : World} {i : Nat} {b0 : Bool} (h : RS z w i b0) {r : List UInt8} (hb : b0 = false) (hr : z.rest i = 9 :: r) : Calls Tryd.prog 83 #[.pointer (some ⟨z.rb, 0, none⟩), .int .i64 (deep : Int)] w (ValPost z b0 deep w i) := by
  have HO := Lib.hid ok
  have H0 := Lib.hid h
  clear h ok
  go_enter Tryd.func83, Tryd.ntmps83
  go_wp2_with fail
  generalize hW1 : World.alloc w _ = W1
  have hbw : Below w.heap.size w W1 := by rw [← hW1]; exact below_alloc1 _ _
  have hr1 : W1.heap[w.heap.size]? = some (.cells #[.int .i64 0, .int .i64 0, .string ByteArray.empty, .slice none 0 0, .slice none 0 0] 25 (0, 0)) := by rw [← hW1]; exact heap_alloc_new _ _
  have hs1 : W1.heap.size = w.heap.size + 1 := by rw [← hW1]; simp
  clear hW1
  refine (byte_any HO.out (H0.out.grow hbw)).mono ?_
  rintro e w1 ⟨c, i1, b, rfl, h1, ho1, hc⟩
  have hvs : ∀ (k : Int), VS z w (w1.alloc (.cells #[.int .i64 k, .int .i64 0, .string ⟨#[]⟩, .slice none 0 0, .slice none 0 0] 25)) i1 b w1.heap.size #[.int .i64 k, .int .i64 0, .string ⟨#[]⟩, .slice none 0 0, .slice none 0 0] := fun k => by
    have q1 := block_lt H0.out.r
    have q2 := block_lt H0.out.a
    have q3 := ho1.size
    have hb2 : ∀ o, Below w1.heap.size w1 (w1.alloc o) := fun o => below_alloc1 _ _
    refine ⟨h1.grow (hb2 _), ((Only.of_below hbw).trans ho1 (fun _ _ h => h)).trans (Only.of_below (hb2 _)) (fun _ _ h => h), heap_alloc_new _ _, ?_, by omega, q1, q2, block_lt H0.out.b, block_lt H0.out.k, H0.out.below.size⟩
    refine ((hb2 _).block _ (by omega)).trans ((ho1.block _ (by omega) fun hq => ?_).trans hr1)
    rcases hq with hq | hq <;> omega
  have hcb : ∀ o, (w1.alloc o).cell? ⟨z.rb, 1, none⟩ = some (.bool b) := fun o => cell_at (((below_alloc1 w1 o).block _ (block_lt h1.r)).trans h1.r) 1 _ rfl
  have hfb : ∀ o, (w1.alloc o).frozen? ⟨z.rb, 1, none⟩ = false := fun o => free_at (((below_alloc1 w1 o).block _ (block_lt h1.r)).trans h1.r) 1
  clear hbw hr1 hs1 h1 ho1
  have hdd : ∃ (b1 : Bool), HeadP z b0 deep i c i1 b1 ∧ ((deep ≤ 21 ∧ b1 = b) ∨ (21 < deep ∧ b1 = true)) := by
    by_cases h : deep ≤ 21
    · exact ⟨b, HeadP.of deep hc h, .inl ⟨h, rfl⟩⟩
    · exact ⟨true, HeadP.deep (by omega), .inr ⟨by omega, rfl⟩⟩
  have HC := Lib.hid hc
  clear hc
  obtain ⟨b1, hh, hdd⟩ := hdd
  have HH := Lib.hid hh
  clear hh
  have hst : ∀ k : Int, ∃ W2, Hid (VS z w W2 i1 b1 w1.heap.size #[.int .i64 k, .int .i64 0, .string ⟨#[]⟩, .slice none 0 0, .slice none 0 0]) ∧ ((deep ≤ 21 ∧ w1.alloc (.cells #[.int .i64 k, .int .i64 0, .string ⟨#[]⟩, .slice none 0 0, .slice none 0 0] 25) = W2) ∨ (21 < deep ∧ (w1.alloc (.cells #[.int .i64 k, .int .i64 0, .string ⟨#[]⟩, .slice none 0 0, .slice none 0 0] 25)).setCell ⟨z.rb, 1, none⟩ (.bool true) = W2)) := fun k => by
    rcases hdd with ⟨h, rfl⟩ | ⟨h, rfl⟩
    · exact ⟨_, Lib.hid (hvs k), .inl ⟨h, rfl⟩⟩
    · exact ⟨_, Lib.hid ((hvs k).bad HO.out true), .inr ⟨h, rfl⟩⟩
  clear hdd
  obtain rfl := kind_is HC.out hb hr
  obtain ⟨W2, HV, hd2⟩ := hst 9
  have hk := cell_at HV.out.hv 0 _ rfl
  rcases hd2 with ⟨hd2, hW2⟩ | ⟨hd2, hW2⟩
  all_goals
    rw [← hW2] at hk
    have HW := Lib.hid hW2
    clear hW2 hst hvs
    go_wp2_with fail
    rw [HW.out]
    clear hk hcb hfb HW hd2
    refine (byte_any HO.out HV.out.rs).mono ?_
    rintro e w3 ⟨d, i2, b2, rfl, h3, ho3, hc3⟩
    have HV3 := Lib.hid (HV.out.call h3 ho3)
    have HP := Lib.hid (vp_flag HH.out hc3)
    clear h3 ho3 hc3 HV HH
    have e3 := free_at HV3.out.hv 1
    have hw64 := wrap64_u8 d
    have e3c := cell_at HV3.out.hv 1 _ rfl
    have HV4 := Lib.hid (HV3.out.set 1 (.int .i64 d.toNat))
    have y0 := cell_at (HV3.out).hv 0 _ rfl
    have y1 := cell_at (HV3.out).hv 1 _ rfl
    have y2 := cell_at (HV3.out).hv 2 _ rfl
    have y3 := cell_at (HV3.out).hv 3 _ rfl
    have y4 := cell_at (HV3.out).hv 4 _ rfl
    have r0 := cell_at (HV3.out).hr 0 _ rfl
    have r1 := cell_at (HV3.out).hr 1 _ rfl
    have r2 := cell_at (HV3.out).hr 2 _ rfl
    have r3 := cell_at (HV3.out).hr 3 _ rfl
    have r4 := cell_at (HV3.out).hr 4 _ rfl
    have g0 := free_at (HV3.out).hr 0
    have g1 := free_at (HV3.out).hr 1
    have g2 := free_at (HV3.out).hr 2
    have g3 := free_at (HV3.out).hr 3
    have g4 := free_at (HV3.out).hr 4
    have hne : ¬ w.heap.size = w1.heap.size := by have := HV3.out.lt; omega
    have hne' : ¬ w1.heap.size = w.heap.size := by have := HV3.out.lt; omega
    have HD := Lib.hid (HV4.out.done (OV.leaf _ (rng_u8 9) (rng_u8 d) (t := ByteArray.empty) (by simp)) List.nodup_nil (by simp) HP.out)
    go_wp2_with fail
    clear HV3 HV4 e3 e3c
    exact bodyPost_ret (v := .agg #[.int .i64 9, .int .i64 d.toNat, .string ⟨#[]⟩, .slice none 0 0, .slice none 0 0]) (by simp [results, Tryd.results83, go_sem, r0, r1, r2, r3, r4]) rfl HD.out
end Go.Proofs.YthfejpldhemakaaDoor

namespace Go.Proofs.YthfejpldhemakaaDoor
open Go.RowKit Go.Sort Go.Lib
set_option maxRecDepth 100000 in
set_option maxHeartbeats 4000000 in
theorem value_text {z : RC} (ok : z.Ok) (deep : Nat) {w : World} {i : Nat} {b0 : Bool} (h : RS z w i b0) {k : UInt8} (hk4 : k = 4 ∨ k = 7) {r : List UInt8} (hb : b0 = false) (hr : z.rest i = k :: r) : Calls Tryd.prog 83 #[.pointer (some ⟨z.rb, 0, none⟩), .int .i64 (deep : Int)] w (ValPost z b0 deep w i) := by
  have hlen := ok.len
  have HO := Lib.hid ok
  have H0 := Lib.hid h
  clear h ok
  go_enter Tryd.func83, Tryd.ntmps83
  go_wp2_with fail
  generalize hW1 : World.alloc w _ = W1
  have hbw : Below w.heap.size w W1 := by rw [← hW1]; exact below_alloc1 _ _
  have hr1 : W1.heap[w.heap.size]? = some (.cells #[.int .i64 0, .int .i64 0, .string ByteArray.empty, .slice none 0 0, .slice none 0 0] 25 (0, 0)) := by rw [← hW1]; exact heap_alloc_new _ _
  have hs1 : W1.heap.size = w.heap.size + 1 := by rw [← hW1]; simp
  clear hW1
  refine (byte_any HO.out (H0.out.grow hbw)).mono ?_
  rintro e w1 ⟨c, i1, b, rfl, h1, ho1, hc⟩
  have hvs : ∀ (k : Int), VS z w (w1.alloc (.cells #[.int .i64 k, .int .i64 0, .string ⟨#[]⟩, .slice none 0 0, .slice none 0 0] 25)) i1 b w1.heap.size #[.int .i64 k, .int .i64 0, .string ⟨#[]⟩, .slice none 0 0, .slice none 0 0] := fun k => by
    have q1 := block_lt H0.out.r
    have q2 := block_lt H0.out.a
    have q3 := ho1.size
    have hb2 : ∀ o, Below w1.heap.size w1 (w1.alloc o) := fun o => below_alloc1 _ _
    refine ⟨h1.grow (hb2 _), ((Only.of_below hbw).trans ho1 (fun _ _ h => h)).trans (Only.of_below (hb2 _)) (fun _ _ h => h), heap_alloc_new _ _, ?_, by omega, q1, q2, block_lt H0.out.b, block_lt H0.out.k, H0.out.below.size⟩
    refine ((hb2 _).block _ (by omega)).trans ((ho1.block _ (by omega) fun hq => ?_).trans hr1)
    rcases hq with hq | hq <;> omega
  have hcb : ∀ o, (w1.alloc o).cell? ⟨z.rb, 1, none⟩ = some (.bool b) := fun o => cell_at (((below_alloc1 w1 o).block _ (block_lt h1.r)).trans h1.r) 1 _ rfl
  have hfb : ∀ o, (w1.alloc o).frozen? ⟨z.rb, 1, none⟩ = false := fun o => free_at (((below_alloc1 w1 o).block _ (block_lt h1.r)).trans h1.r) 1
  clear hbw hr1 hs1 h1 ho1
  have hdd : ∃ (b1 : Bool), HeadP z b0 deep i c i1 b1 ∧ ((deep ≤ 21 ∧ b1 = b) ∨ (21 < deep ∧ b1 = true)) := by
    by_cases h : deep ≤ 21
    · exact ⟨b, HeadP.of deep hc h, .inl ⟨h, rfl⟩⟩
    · exact ⟨true, HeadP.deep (by omega), .inr ⟨by omega, rfl⟩⟩
  have HC := Lib.hid hc
  clear hc
  obtain ⟨b1, hh, hdd⟩ := hdd
  have HH := Lib.hid hh
  clear hh
  have hst : ∀ k : Int, ∃ W2, Hid (VS z w W2 i1 b1 w1.heap.size #[.int .i64 k, .int .i64 0, .string ⟨#[]⟩, .slice none 0 0, .slice none 0 0]) ∧ ((deep ≤ 21 ∧ w1.alloc (.cells #[.int .i64 k, .int .i64 0, .string ⟨#[]⟩, .slice none 0 0, .slice none 0 0] 25) = W2) ∨ (21 < deep ∧ (w1.alloc (.cells #[.int .i64 k, .int .i64 0, .string ⟨#[]⟩, .slice none 0 0, .slice none 0 0] 25)).setCell ⟨z.rb, 1, none⟩ (.bool true) = W2)) := fun k => by
    rcases hdd with ⟨h, rfl⟩ | ⟨h, rfl⟩
    · exact ⟨_, Lib.hid (hvs k), .inl ⟨h, rfl⟩⟩
    · exact ⟨_, Lib.hid ((hvs k).bad HO.out true), .inr ⟨h, rfl⟩⟩
  clear hdd
  obtain rfl := kind_is HC.out hb hr
  rcases hk4 with rfl | rfl
  · obtain ⟨W2, HV, hd2⟩ := hst 4
    have hk := cell_at HV.out.hv 0 _ rfl
    rcases hd2 with ⟨hd2, hW2⟩ | ⟨hd2, hW2⟩
    all_goals
      rw [← hW2] at hk
      have HW := Lib.hid hW2
      clear hW2 hst hvs
      go_wp2_with fail
      rw [HW.out]
      clear hk hcb hfb HW hd2
      refine (rdtext_c HO.out HV.out.rs).mono ?_
      rintro e w3 ⟨d, i2, b2, rfl, h3, ho3, hc3⟩
      have HV3 := Lib.hid (HV.out.call h3 ho3)
      have HP := Lib.hid (vp_text (.inl rfl) HH.out hc3 h3.le)
      have hd3 := hc3.2.2
      clear h3 ho3 hc3 HV HH
      have e3 := free_at HV3.out.hv 2
      have e3c := cell_at HV3.out.hv 2 _ rfl
      have HV4 := Lib.hid (HV3.out.set 2 (.string ⟨d.toArray⟩))
      have y0 := cell_at (HV3.out).hv 0 _ rfl
      have y1 := cell_at (HV3.out).hv 1 _ rfl
      have y2 := cell_at (HV3.out).hv 2 _ rfl
      have y3 := cell_at (HV3.out).hv 3 _ rfl
      have y4 := cell_at (HV3.out).hv 4 _ rfl
      have r0 := cell_at (HV3.out).hr 0 _ rfl
      have r1 := cell_at (HV3.out).hr 1 _ rfl
      have r2 := cell_at (HV3.out).hr 2 _ rfl
      have r3 := cell_at (HV3.out).hr 3 _ rfl
      have r4 := cell_at (HV3.out).hr 4 _ rfl
      have g0 := free_at (HV3.out).hr 0
      have g1 := free_at (HV3.out).hr 1
      have g2 := free_at (HV3.out).hr 2
      have g3 := free_at (HV3.out).hr 3
      have g4 := free_at (HV3.out).hr 4
      have hne : ¬ w.heap.size = w1.heap.size := by have := HV3.out.lt; omega
      have hne' : ¬ w1.heap.size = w.heap.size := by have := HV3.out.lt; omega
      have HD := Lib.hid (HV4.out.done (OV.leaf _ (rng_u8 4) rng_0 (t := ⟨d.toArray⟩) (show d.toArray.size ≤ _ by rw [List.size_toArray]; omega)) List.nodup_nil (by simp) HP.out)
      clear hd3
      go_wp2_with fail
      clear HV3 HV4 e3 e3c
      exact bodyPost_ret (v := .agg #[.int .i64 4, .int .i64 0, .string ⟨d.toArray⟩, .slice none 0 0, .slice none 0 0]) (by simp [results, Tryd.results83, go_sem, r0, r1, r2, r3, r4]) rfl HD.out
  · obtain ⟨W2, HV, hd2⟩ := hst 7
    have hk := cell_at HV.out.hv 0 _ rfl
    rcases hd2 with ⟨hd2, hW2⟩ | ⟨hd2, hW2⟩
    all_goals
      rw [← hW2] at hk
      have HW := Lib.hid hW2
      clear hW2 hst hvs
      go_wp2_with fail
      rw [HW.out]
      clear hk hcb hfb HW hd2
      refine (rdtext_c HO.out HV.out.rs).mono ?_
      rintro e w3 ⟨d, i2, b2, rfl, h3, ho3, hc3⟩
      have HV3 := Lib.hid (HV.out.call h3 ho3)
      have HP := Lib.hid (vp_text (.inr rfl) HH.out hc3 h3.le)
      have hd3 := hc3.2.2
      clear h3 ho3 hc3 HV HH
      have e3 := free_at HV3.out.hv 2
      have e3c := cell_at HV3.out.hv 2 _ rfl
      have HV4 := Lib.hid (HV3.out.set 2 (.string ⟨d.toArray⟩))
      have y0 := cell_at (HV3.out).hv 0 _ rfl
      have y1 := cell_at (HV3.out).hv 1 _ rfl
      have y2 := cell_at (HV3.out).hv 2 _ rfl
      have y3 := cell_at (HV3.out).hv 3 _ rfl
      have y4 := cell_at (HV3.out).hv 4 _ rfl
      have r0 := cell_at (HV3.out).hr 0 _ rfl
      have r1 := cell_at (HV3.out).hr 1 _ rfl
      have r2 := cell_at (HV3.out).hr 2 _ rfl
      have r3 := cell_at (HV3.out).hr 3 _ rfl
      have r4 := cell_at (HV3.out).hr 4 _ rfl
      have g0 := free_at (HV3.out).hr 0
      have g1 := free_at (HV3.out).hr 1
      have g2 := free_at (HV3.out).hr 2
      have g3 := free_at (HV3.out).hr 3
      have g4 := free_at (HV3.out).hr 4
      have hne : ¬ w.heap.size = w1.heap.size := by have := HV3.out.lt; omega
      have hne' : ¬ w1.heap.size = w.heap.size := by have := HV3.out.lt; omega
      have HD := Lib.hid (HV4.out.done (OV.leaf _ (rng_u8 7) rng_0 (t := ⟨d.toArray⟩) (show d.toArray.size ≤ _ by rw [List.size_toArray]; omega)) List.nodup_nil (by simp) HP.out)
      clear hd3
      go_wp2_with fail
      clear HV3 HV4 e3 e3c
      exact bodyPost_ret (v := .agg #[.int .i64 7, .int .i64 0, .string ⟨d.toArray⟩, .slice none 0 0, .slice none 0 0]) (by simp [results, Tryd.results83, go_sem, r0, r1, r2, r3, r4]) rfl HD.out
set_option maxRecDepth 100000 in
set_option maxHeartbeats 4000000 in
theorem value_other {z : RC} (ok : z.Ok) (deep : Nat) {w : World} {i : Nat} {b0 : Bool} (h : RS z w i b0) (ho : b0 = false → ∀ k r, z.rest i = k :: r → ¬ k = 3 ∧ ¬ k = 4 ∧ ¬ k = 5 ∧ ¬ k = 6 ∧ ¬ k = 7 ∧ ¬ k = 8 ∧ ¬ k = 9 ∧ ¬ k = 10) : Calls Tryd.prog 83 #[.pointer (some ⟨z.rb, 0, none⟩), .int .i64 (deep : Int)] w (ValPost z b0 deep w i) := by
  have HO := Lib.hid ok
  have H0 := Lib.hid h
  clear h ok
  go_enter Tryd.func83, Tryd.ntmps83
  go_wp2_with fail
  generalize hW1 : World.alloc w _ = W1
  have hbw : Below w.heap.size w W1 := by rw [← hW1]; exact below_alloc1 _ _
  have hr1 : W1.heap[w.heap.size]? = some (.cells #[.int .i64 0, .int .i64 0, .string ByteArray.empty, .slice none 0 0, .slice none 0 0] 25 (0, 0)) := by rw [← hW1]; exact heap_alloc_new _ _
  have hs1 : W1.heap.size = w.heap.size + 1 := by rw [← hW1]; simp
  clear hW1
  refine (byte_any HO.out (H0.out.grow hbw)).mono ?_
  rintro e w1 ⟨c, i1, b, rfl, h1, ho1, hc⟩
  have hvs : ∀ (k : Int), VS z w (w1.alloc (.cells #[.int .i64 k, .int .i64 0, .string ⟨#[]⟩, .slice none 0 0, .slice none 0 0] 25)) i1 b w1.heap.size #[.int .i64 k, .int .i64 0, .string ⟨#[]⟩, .slice none 0 0, .slice none 0 0] := fun k => by
    have q1 := block_lt H0.out.r
    have q2 := block_lt H0.out.a
    have q3 := ho1.size
    have hb2 : ∀ o, Below w1.heap.size w1 (w1.alloc o) := fun o => below_alloc1 _ _
    refine ⟨h1.grow (hb2 _), ((Only.of_below hbw).trans ho1 (fun _ _ h => h)).trans (Only.of_below (hb2 _)) (fun _ _ h => h), heap_alloc_new _ _, ?_, by omega, q1, q2, block_lt H0.out.b, block_lt H0.out.k, H0.out.below.size⟩
    refine ((hb2 _).block _ (by omega)).trans ((ho1.block _ (by omega) fun hq => ?_).trans hr1)
    rcases hq with hq | hq <;> omega
  have hcb : ∀ o, (w1.alloc o).cell? ⟨z.rb, 1, none⟩ = some (.bool b) := fun o => cell_at (((below_alloc1 w1 o).block _ (block_lt h1.r)).trans h1.r) 1 _ rfl
  have hfb : ∀ o, (w1.alloc o).frozen? ⟨z.rb, 1, none⟩ = false := fun o => free_at (((below_alloc1 w1 o).block _ (block_lt h1.r)).trans h1.r) 1
  clear hbw hr1 hs1 h1 ho1
  have hdd : ∃ (b1 : Bool), HeadP z b0 deep i c i1 b1 ∧ ((deep ≤ 21 ∧ b1 = b) ∨ (21 < deep ∧ b1 = true)) := by
    by_cases h : deep ≤ 21
    · exact ⟨b, HeadP.of deep hc h, .inl ⟨h, rfl⟩⟩
    · exact ⟨true, HeadP.deep (by omega), .inr ⟨by omega, rfl⟩⟩
  have HC := Lib.hid hc
  clear hc
  obtain ⟨b1, hh, hdd⟩ := hdd
  have HH := Lib.hid hh
  clear hh
  have hst : ∀ k : Int, ∃ W2, Hid (VS z w W2 i1 b1 w1.heap.size #[.int .i64 k, .int .i64 0, .string ⟨#[]⟩, .slice none 0 0, .slice none 0 0]) ∧ ((deep ≤ 21 ∧ w1.alloc (.cells #[.int .i64 k, .int .i64 0, .string ⟨#[]⟩, .slice none 0 0, .slice none 0 0] 25) = W2) ∨ (21 < deep ∧ (w1.alloc (.cells #[.int .i64 k, .int .i64 0, .string ⟨#[]⟩, .slice none 0 0, .slice none 0 0] 25)).setCell ⟨z.rb, 1, none⟩ (.bool true) = W2)) := fun k => by
    rcases hdd with ⟨h, rfl⟩ | ⟨h, rfl⟩
    · exact ⟨_, Lib.hid (hvs k), .inl ⟨h, rfl⟩⟩
    · exact ⟨_, Lib.hid ((hvs k).bad HO.out true), .inr ⟨h, rfl⟩⟩
  clear hdd
  have hk : ¬ c = 3 ∧ ¬ c = 4 ∧ ¬ c = 5 ∧ ¬ c = 6 ∧ ¬ c = 7 ∧ ¬ c = 8 ∧ ¬ c = 9 ∧ ¬ c = 10 := by
    rcases HC.out with ⟨_, rfl, _⟩ | ⟨h1, _, h2, _⟩
    · decide
    · exact ho h1 _ _ h2
  clear ho
  obtain ⟨h3, h4, h5, h6, h7, h8, h9, h10⟩ := hk
  have HP := Lib.hid (vp_other HH.out h3 h4 h5 h6 h7 h8 h9 h10)
  have n3 : ((c.toNat : Int) == 3) = false := u8_ne (b := 3) h3
  have n4 : ((c.toNat : Int) == 4) = false := u8_ne (b := 4) h4
  have n5 : ((c.toNat : Int) == 5) = false := u8_ne (b := 5) h5
  have n6 : ((c.toNat : Int) == 6) = false := u8_ne (b := 6) h6
  have n7 : ((c.toNat : Int) == 7) = false := u8_ne (b := 7) h7
  have n8 : ((c.toNat : Int) == 8) = false := u8_ne (b := 8) h8
  have n9 : ((c.toNat : Int) == 9) = false := u8_ne (b := 9) h9
  have n10 : ((c.toNat : Int) == 10) = false := u8_ne (b := 10) h10
  have hw64 := wrap64_u8 c
  have hrc := rng_u8 c
  clear h3 h4 h5 h6 h7 h8 h9 h10 HC
  obtain ⟨W2, HV, hd2⟩ := hst c.toNat
  have HVS := Lib.hid (hvs c.toNat)
  have hne : ¬ w.heap.size = w1.heap.size := by have := HV.out.lt; omega
  have hne' : ¬ w1.heap.size = w.heap.size := by have := HV.out.lt; omega
  have hne1 : ¬ w.heap.size = z.rb := by have := HV.out.r; omega
  have hne2 : ¬ z.rb = w.heap.size := by have := HV.out.r; omega
  have hne3 : ¬ w1.heap.size = z.rb := by have := HV.out.r; have := HV.out.lt; omega
  have hne4 : ¬ z.rb = w1.heap.size := by have := HV.out.r; have := HV.out.lt; omega
  have y0 := cell_at (HVS.out).hv 0 _ rfl
  have y1 := cell_at (HVS.out).hv 1 _ rfl
  have y2 := cell_at (HVS.out).hv 2 _ rfl
  have y3 := cell_at (HVS.out).hv 3 _ rfl
  have y4 := cell_at (HVS.out).hv 4 _ rfl
  have r0 := cell_at (HVS.out).hr 0 _ rfl
  have r1 := cell_at (HVS.out).hr 1 _ rfl
  have r2 := cell_at (HVS.out).hr 2 _ rfl
  have r3 := cell_at (HVS.out).hr 3 _ rfl
  have r4 := cell_at (HVS.out).hr 4 _ rfl
  have g0 := free_at (HVS.out).hr 0
  have g1 := free_at (HVS.out).hr 1
  have g2 := free_at (HVS.out).hr 2
  have g3 := free_at (HVS.out).hr 3
  have g4 := free_at (HVS.out).hr 4
  have HD := Lib.hid (HV.out.done (OV.leaf _ hrc rng_0 (t := ByteArray.empty) (by simp)) List.nodup_nil (by simp) HP.out)
  clear hrc
  rcases hd2 with ⟨hd2, hW2⟩ | ⟨hd2, hW2⟩
  all_goals
    subst hW2
    clear HV HVS hst hvs HH HP
    go_wp2_with fail
    exact bodyPost_ret (v := .agg #[.int .i64 c.toNat, .int .i64 0, .string ⟨#[]⟩, .slice none 0 0, .slice none 0 0]) (by simp [results, Tryd.results83, go_sem, r0, r1, r2, r3, r4]) rfl HD.out
end Go.Proofs.YthfejpldhemakaaDoor

namespace Go.Proofs.YthfejpldhemakaaDoor
open Go.RowKit Go.Sort Go.Lib
theorem or_byte (u : Nat) (d : UInt8) (h : u < 72057594037927936) : bits BinOp.or IntKind.u64 (IntKind.u64.wrap ((u : Int) * 256)) (IntKind.u64.wrap (d.toNat : Int)) = ((u * 256 + d.toNat : Nat) : Int) := by
  have hd := d.toNat_lt
  have e1 : IntKind.u64.wrap ((u : Int) * 256) = ((u * 256 : Nat) : Int) := by rw [IntKind.wrap_u64]; omega
  have e2 : IntKind.u64.wrap (d.toNat : Int) = (d.toNat : Int) := by rw [IntKind.wrap_u64]; omega
  rw [e1, e2]
  have h1 : (BitVec.ofInt 64 ((u * 256 : Nat) : Int)).toNat = u * 256 := by
    rw [BitVec.ofInt_natCast, BitVec.toNat_ofNat]; exact Nat.mod_eq_of_lt (by omega)
  have h2 : (BitVec.ofInt 64 (d.toNat : Int)).toNat = d.toNat := by
    rw [BitVec.ofInt_natCast, BitVec.toNat_ofNat]; exact Nat.mod_eq_of_lt (by omega)
  show IntKind.u64.wrap ((BitVec.ofInt 64 ((u * 256 : Nat) : Int) ||| BitVec.ofInt 64 (d.toNat : Int)).toNat : Int) = _
  rw [BitVec.toNat_or, h1, h2]
  have h3 : u * 256 ||| d.toNat = u * 256 + d.toNat := by
    have := Nat.shiftLeft_add_eq_or_of_lt (b := d.toNat) (i := 8) hd u
    rw [Nat.shiftLeft_eq] at this
    exact this.symm
  rw [h3, IntKind.wrap_u64]
  omega
theorem xor_back (u : Nat) (h : u < 18446744073709551616) : wrap64 (bits BinOp.xor IntKind.u64 (u : Int) 9223372036854775808) = (u : Int) - 9223372036854775808 := by
  have := bits_xor_u64_nat u 9223372036854775808 h (by decide)
  rw [show ((9223372036854775808 : Nat) : Int) = 9223372036854775808 from rfl] at this
  rw [this, xor_half u h]
  unfold wrap64
  omega
set_option maxRecDepth 100000 in
set_option maxHeartbeats 4000000 in
theorem value_num3 {z : RC} (ok : z.Ok) (deep : Nat) {w : World} {i : Nat} {b0 : Bool} (h : RS z w i b0) {r : List UInt8} (hb : b0 = false) (hr : z.rest i = 3 :: r) : Calls Tryd.prog 83 #[.pointer (some ⟨z.rb, 0, none⟩), .int .i64 (deep : Int)] w (ValPost z b0 deep w i) := by
  have HO := Lib.hid ok
  have H0 := Lib.hid h
  clear h ok
  go_enter Tryd.func83, Tryd.ntmps83
  go_wp2_with fail
  generalize hW1 : World.alloc w _ = W1
  have hbw : Below w.heap.size w W1 := by rw [← hW1]; exact below_alloc1 _ _
  have hr1 : W1.heap[w.heap.size]? = some (.cells #[.int .i64 0, .int .i64 0, .string ByteArray.empty, .slice none 0 0, .slice none 0 0] 25 (0, 0)) := by rw [← hW1]; exact heap_alloc_new _ _
  have hs1 : W1.heap.size = w.heap.size + 1 := by rw [← hW1]; simp
  clear hW1
  refine (byte_any HO.out (H0.out.grow hbw)).mono ?_
  rintro e w1 ⟨c, i1, b, rfl, h1, ho1, hc⟩
  have hvs : ∀ (k : Int), VS z w (w1.alloc (.cells #[.int .i64 k, .int .i64 0, .string ⟨#[]⟩, .slice none 0 0, .slice none 0 0] 25)) i1 b w1.heap.size #[.int .i64 k, .int .i64 0, .string ⟨#[]⟩, .slice none 0 0, .slice none 0 0] := fun k => by
    have q1 := block_lt H0.out.r
    have q2 := block_lt H0.out.a
    have q3 := ho1.size
    have hb2 : ∀ o, Below w1.heap.size w1 (w1.alloc o) := fun o => below_alloc1 _ _
    refine ⟨h1.grow (hb2 _), ((Only.of_below hbw).trans ho1 (fun _ _ h => h)).trans (Only.of_below (hb2 _)) (fun _ _ h => h), heap_alloc_new _ _, ?_, by omega, q1, q2, block_lt H0.out.b, block_lt H0.out.k, H0.out.below.size⟩
    refine ((hb2 _).block _ (by omega)).trans ((ho1.block _ (by omega) fun hq => ?_).trans hr1)
    rcases hq with hq | hq <;> omega
  have hcb : ∀ o, (w1.alloc o).cell? ⟨z.rb, 1, none⟩ = some (.bool b) := fun o => cell_at (((below_alloc1 w1 o).block _ (block_lt h1.r)).trans h1.r) 1 _ rfl
  have hfb : ∀ o, (w1.alloc o).frozen? ⟨z.rb, 1, none⟩ = false := fun o => free_at (((below_alloc1 w1 o).block _ (block_lt h1.r)).trans h1.r) 1
  clear hbw hr1 hs1 h1 ho1
  have hdd : ∃ (b1 : Bool), HeadP z b0 deep i c i1 b1 ∧ ((deep ≤ 21 ∧ b1 = b) ∨ (21 < deep ∧ b1 = true)) := by
    by_cases h : deep ≤ 21
    · exact ⟨b, HeadP.of deep hc h, .inl ⟨h, rfl⟩⟩
    · exact ⟨true, HeadP.deep (by omega), .inr ⟨by omega, rfl⟩⟩
  have HC := Lib.hid hc
  clear hc
  obtain ⟨b1, hh, hdd⟩ := hdd
  have HH := Lib.hid hh
  clear hh
  have hst : ∀ k : Int, ∃ W2, Hid (VS z w W2 i1 b1 w1.heap.size #[.int .i64 k, .int .i64 0, .string ⟨#[]⟩, .slice none 0 0, .slice none 0 0]) ∧ ((deep ≤ 21 ∧ w1.alloc (.cells #[.int .i64 k, .int .i64 0, .string ⟨#[]⟩, .slice none 0 0, .slice none 0 0] 25) = W2) ∨ (21 < deep ∧ (w1.alloc (.cells #[.int .i64 k, .int .i64 0, .string ⟨#[]⟩, .slice none 0 0, .slice none 0 0] 25)).setCell ⟨z.rb, 1, none⟩ (.bool true) = W2)) := fun k => by
    rcases hdd with ⟨h, rfl⟩ | ⟨h, rfl⟩
    · exact ⟨_, Lib.hid (hvs k), .inl ⟨h, rfl⟩⟩
    · exact ⟨_, Lib.hid ((hvs k).bad HO.out true), .inr ⟨h, rfl⟩⟩
  clear hdd
  obtain rfl := kind_is HC.out hb hr
  obtain ⟨W2, HV, hd2⟩ := hst 3
  have hk := cell_at HV.out.hv 0 _ rfl
  rcases hd2 with ⟨hd2, hW2⟩ | ⟨hd2, hW2⟩
  · rw [← hW2] at hk
    have HW := Lib.hid hW2
    clear hW2 hst hvs
    go_wp2_with fail
    rw [HW.out]
    clear hk hcb hfb HW hd2
    rename_i hdd K1 A1 K2 A2
    clear hdd
    go_loopw [6, 24] (fun uu ix wr => ∃ (j : Nat) (l : List UInt8) (i2 : Nat) (b2 : Bool), j ≤ 8 ∧ ix = .int .i64 (j:Int) ∧ uu = .int .u64 (val8 l : Int) ∧ Hid (l.length = j ∧ VS z w wr i2 b2 w1.heap.size #[.int .i64 3, .int .i64 0, .string ⟨#[]⟩, .slice none 0 0, .slice none 0 0] ∧ BytesP z b1 i1 l i2 b2)) (fun _ ix _ => 8 - (RowKit.intOf ix).toNat)
    case atStart => exact ⟨0, [], i1, b1, by omega, rfl, rfl, Lib.hid ⟨rfl, HV.out, BytesP.nil _ _ _⟩⟩
    case round =>
      obtain ⟨j, l, i2, b2, hj, rfl, rfl, H⟩ := hrel
      by_cases hlt : j < 8
      · go_wp2_with fail
        refine (byte_any HO.out H.out.2.1.rs).mono ?_
        rintro e w3 ⟨d, i3, b3, rfl, h3, ho3, hc3⟩
        have hv8 : val8 l < 72057594037927936 := by
          have h1 := val8_pow l (by have := H.out.1; omega)
          have h2 : 256 ^ l.length ≤ 256 ^ 7 := Nat.pow_le_pow_right (by decide) (by have := H.out.1; omega)
          have h3 : (256 : Nat) ^ 7 = 72057594037927936 := by decide
          omega
        have hor := or_byte (val8 l) d hv8
        have H' := Lib.hid (And.intro (H.out.2.1.call h3 ho3) (H.out.2.2.snoc hc3))
        clear hv8 h3 ho3 hc3
        go_wp2_with fail
        go_roundw
        case rel => exact ⟨j + 1, l ++ [d], i3, b3, by omega, by go_num, by rw [val8_snoc]; simp, Lib.hid ⟨by simp [H.out.1], H'.out.1, H'.out.2⟩⟩
        case measure => simp [RowKit.intOf]; omega
      · obtain rfl : j = 8 := by omega
        have hv8 := val8_lt l H.out.1
        have hx := xor_back (val8 l) hv8
        obtain ⟨U, hU⟩ : ∃ U : Int, (val8 l : Int) - 9223372036854775808 = U := ⟨_, rfl⟩
        have hrn : Rng U := ⟨by omega, by omega⟩
        rw [hU] at hx
        have HP := vp_num (.inl rfl) HH.out H.out.2.2 H.out.1
        rw [hU] at HP
        have HP := Lib.hid HP
        clear HV HH hlt
        have e3 := free_at H.out.2.1.hv 1
        have e3c := cell_at H.out.2.1.hv 1 _ rfl
        have HV4 := Lib.hid (H.out.2.1.set 1 (.int .i64 U))
        have y0 := cell_at (H.out.2.1).hv 0 _ rfl
        have y1 := cell_at (H.out.2.1).hv 1 _ rfl
        have y2 := cell_at (H.out.2.1).hv 2 _ rfl
        have y3 := cell_at (H.out.2.1).hv 3 _ rfl
        have y4 := cell_at (H.out.2.1).hv 4 _ rfl
        have r0 := cell_at (H.out.2.1).hr 0 _ rfl
        have r1 := cell_at (H.out.2.1).hr 1 _ rfl
        have r2 := cell_at (H.out.2.1).hr 2 _ rfl
        have r3 := cell_at (H.out.2.1).hr 3 _ rfl
        have r4 := cell_at (H.out.2.1).hr 4 _ rfl
        have g0 := free_at (H.out.2.1).hr 0
        have g1 := free_at (H.out.2.1).hr 1
        have g2 := free_at (H.out.2.1).hr 2
        have g3 := free_at (H.out.2.1).hr 3
        have g4 := free_at (H.out.2.1).hr 4
        have hne : ¬ w.heap.size = w1.heap.size := by have := HV4.out.lt; omega
        have hne' : ¬ w1.heap.size = w.heap.size := by have := HV4.out.lt; omega
        have HD := Lib.hid (HV4.out.done (OV.leaf _ (rng_u8 3) hrn (t := ByteArray.empty) (by simp)) List.nodup_nil (by simp) HP.out)
        clear hrn hU hv8
        go_wp2_with fail
        clear HV4 e3 e3c
        exact bodyPost_ret (v := .agg #[.int .i64 3, .int .i64 U, .string ⟨#[]⟩, .slice none 0 0, .slice none 0 0]) (by simp [results, Tryd.results83, go_sem, r0, r1, r2, r3, r4]) rfl HD.out
  · rw [← hW2] at hk
    have HW := Lib.hid hW2
    clear hW2 hst hvs
    go_wp2_with fail
    rw [HW.out]
    clear hk hcb hfb HW hd2
    rename_i hdd K1 A1 K2 A2
    clear hdd
    go_loopw [6, 24] (fun uu ix wr => ∃ (j : Nat) (l : List UInt8) (i2 : Nat) (b2 : Bool), j ≤ 8 ∧ ix = .int .i64 (j:Int) ∧ uu = .int .u64 (val8 l : Int) ∧ Hid (l.length = j ∧ VS z w wr i2 b2 w1.heap.size #[.int .i64 3, .int .i64 0, .string ⟨#[]⟩, .slice none 0 0, .slice none 0 0] ∧ BytesP z b1 i1 l i2 b2)) (fun _ ix _ => 8 - (RowKit.intOf ix).toNat)
    case atStart => exact ⟨0, [], i1, b1, by omega, rfl, rfl, Lib.hid ⟨rfl, HV.out, BytesP.nil _ _ _⟩⟩
    case round =>
      obtain ⟨j, l, i2, b2, hj, rfl, rfl, H⟩ := hrel
      by_cases hlt : j < 8
      · go_wp2_with fail
        refine (byte_any HO.out H.out.2.1.rs).mono ?_
        rintro e w3 ⟨d, i3, b3, rfl, h3, ho3, hc3⟩
        have hv8 : val8 l < 72057594037927936 := by
          have h1 := val8_pow l (by have := H.out.1; omega)
          have h2 : 256 ^ l.length ≤ 256 ^ 7 := Nat.pow_le_pow_right (by decide) (by have := H.out.1; omega)
          have h3 : (256 : Nat) ^ 7 = 72057594037927936 := by decide
          omega
        have hor := or_byte (val8 l) d hv8
        have H' := Lib.hid (And.intro (H.out.2.1.call h3 ho3) (H.out.2.2.snoc hc3))
        clear hv8 h3 ho3 hc3
        go_wp2_with fail
        go_roundw
        case rel => exact ⟨j + 1, l ++ [d], i3, b3, by omega, by go_num, by rw [val8_snoc]; simp, Lib.hid ⟨by simp [H.out.1], H'.out.1, H'.out.2⟩⟩
        case measure => simp [RowKit.intOf]; omega
      · obtain rfl : j = 8 := by omega
        have hv8 := val8_lt l H.out.1
        have hx := xor_back (val8 l) hv8
        obtain ⟨U, hU⟩ : ∃ U : Int, (val8 l : Int) - 9223372036854775808 = U := ⟨_, rfl⟩
        have hrn : Rng U := ⟨by omega, by omega⟩
        rw [hU] at hx
        have HP := vp_num (.inl rfl) HH.out H.out.2.2 H.out.1
        rw [hU] at HP
        have HP := Lib.hid HP
        clear HV HH hlt
        have e3 := free_at H.out.2.1.hv 1
        have e3c := cell_at H.out.2.1.hv 1 _ rfl
        have HV4 := Lib.hid (H.out.2.1.set 1 (.int .i64 U))
        have y0 := cell_at (H.out.2.1).hv 0 _ rfl
        have y1 := cell_at (H.out.2.1).hv 1 _ rfl
        have y2 := cell_at (H.out.2.1).hv 2 _ rfl
        have y3 := cell_at (H.out.2.1).hv 3 _ rfl
        have y4 := cell_at (H.out.2.1).hv 4 _ rfl
        have r0 := cell_at (H.out.2.1).hr 0 _ rfl
        have r1 := cell_at (H.out.2.1).hr 1 _ rfl
        have r2 := cell_at (H.out.2.1).hr 2 _ rfl
        have r3 := cell_at (H.out.2.1).hr 3 _ rfl
        have r4 := cell_at (H.out.2.1).hr 4 _ rfl
        have g0 := free_at (H.out.2.1).hr 0
        have g1 := free_at (H.out.2.1).hr 1
        have g2 := free_at (H.out.2.1).hr 2
        have g3 := free_at (H.out.2.1).hr 3
        have g4 := free_at (H.out.2.1).hr 4
        have hne : ¬ w.heap.size = w1.heap.size := by have := HV4.out.lt; omega
        have hne' : ¬ w1.heap.size = w.heap.size := by have := HV4.out.lt; omega
        have HD := Lib.hid (HV4.out.done (OV.leaf _ (rng_u8 3) hrn (t := ByteArray.empty) (by simp)) List.nodup_nil (by simp) HP.out)
        clear hrn hU hv8
        go_wp2_with fail
        clear HV4 e3 e3c
        exact bodyPost_ret (v := .agg #[.int .i64 3, .int .i64 U, .string ⟨#[]⟩, .slice none 0 0, .slice none 0 0]) (by simp [results, Tryd.results83, go_sem, r0, r1, r2, r3, r4]) rfl HD.out
set_option maxRecDepth 100000 in
set_option maxHeartbeats 4000000 in
theorem value_num10 {z : RC} (ok : z.Ok) (deep : Nat) {w : World} {i : Nat} {b0 : Bool} (h : RS z w i b0) {r : List UInt8} (hb : b0 = false) (hr : z.rest i = 10 :: r) : Calls Tryd.prog 83 #[.pointer (some ⟨z.rb, 0, none⟩), .int .i64 (deep : Int)] w (ValPost z b0 deep w i) := by
  have HO := Lib.hid ok
  have H0 := Lib.hid h
  clear h ok
  go_enter Tryd.func83, Tryd.ntmps83
  go_wp2_with fail
  generalize hW1 : World.alloc w _ = W1
  have hbw : Below w.heap.size w W1 := by rw [← hW1]; exact below_alloc1 _ _
  have hr1 : W1.heap[w.heap.size]? = some (.cells #[.int .i64 0, .int .i64 0, .string ByteArray.empty, .slice none 0 0, .slice none 0 0] 25 (0, 0)) := by rw [← hW1]; exact heap_alloc_new _ _
  have hs1 : W1.heap.size = w.heap.size + 1 := by rw [← hW1]; simp
  clear hW1
  refine (byte_any HO.out (H0.out.grow hbw)).mono ?_
  rintro e w1 ⟨c, i1, b, rfl, h1, ho1, hc⟩
  have hvs : ∀ (k : Int), VS z w (w1.alloc (.cells #[.int .i64 k, .int .i64 0, .string ⟨#[]⟩, .slice none 0 0, .slice none 0 0] 25)) i1 b w1.heap.size #[.int .i64 k, .int .i64 0, .string ⟨#[]⟩, .slice none 0 0, .slice none 0 0] := fun k => by
    have q1 := block_lt H0.out.r
    have q2 := block_lt H0.out.a
    have q3 := ho1.size
    have hb2 : ∀ o, Below w1.heap.size w1 (w1.alloc o) := fun o => below_alloc1 _ _
    refine ⟨h1.grow (hb2 _), ((Only.of_below hbw).trans ho1 (fun _ _ h => h)).trans (Only.of_below (hb2 _)) (fun _ _ h => h), heap_alloc_new _ _, ?_, by omega, q1, q2, block_lt H0.out.b, block_lt H0.out.k, H0.out.below.size⟩
    refine ((hb2 _).block _ (by omega)).trans ((ho1.block _ (by omega) fun hq => ?_).trans hr1)
    rcases hq with hq | hq <;> omega
  have hcb : ∀ o, (w1.alloc o).cell? ⟨z.rb, 1, none⟩ = some (.bool b) := fun o => cell_at (((below_alloc1 w1 o).block _ (block_lt h1.r)).trans h1.r) 1 _ rfl
  have hfb : ∀ o, (w1.alloc o).frozen? ⟨z.rb, 1, none⟩ = false := fun o => free_at (((below_alloc1 w1 o).block _ (block_lt h1.r)).trans h1.r) 1
  clear hbw hr1 hs1 h1 ho1
  have hdd : ∃ (b1 : Bool), HeadP z b0 deep i c i1 b1 ∧ ((deep ≤ 21 ∧ b1 = b) ∨ (21 < deep ∧ b1 = true)) := by
    by_cases h : deep ≤ 21
    · exact ⟨b, HeadP.of deep hc h, .inl ⟨h, rfl⟩⟩
    · exact ⟨true, HeadP.deep (by omega), .inr ⟨by omega, rfl⟩⟩
  have HC := Lib.hid hc
  clear hc
  obtain ⟨b1, hh, hdd⟩ := hdd
  have HH := Lib.hid hh
  clear hh
  have hst : ∀ k : Int, ∃ W2, Hid (VS z w W2 i1 b1 w1.heap.size #[.int .i64 k, .int .i64 0, .string ⟨#[]⟩, .slice none 0 0, .slice none 0 0]) ∧ ((deep ≤ 21 ∧ w1.alloc (.cells #[.int .i64 k, .int .i64 0, .string ⟨#[]⟩, .slice none 0 0, .slice none 0 0] 25) = W2) ∨ (21 < deep ∧ (w1.alloc (.cells #[.int .i64 k, .int .i64 0, .string ⟨#[]⟩, .slice none 0 0, .slice none 0 0] 25)).setCell ⟨z.rb, 1, none⟩ (.bool true) = W2)) := fun k => by
    rcases hdd with ⟨h, rfl⟩ | ⟨h, rfl⟩
    · exact ⟨_, Lib.hid (hvs k), .inl ⟨h, rfl⟩⟩
    · exact ⟨_, Lib.hid ((hvs k).bad HO.out true), .inr ⟨h, rfl⟩⟩
  clear hdd
  obtain rfl := kind_is HC.out hb hr
  obtain ⟨W2, HV, hd2⟩ := hst 10
  have hk := cell_at HV.out.hv 0 _ rfl
  rcases hd2 with ⟨hd2, hW2⟩ | ⟨hd2, hW2⟩
  · rw [← hW2] at hk
    have HW := Lib.hid hW2
    clear hW2 hst hvs
    go_wp2_with fail
    rw [HW.out]
    clear hk hcb hfb HW hd2
    rename_i hdd K1 A1 K2 A2
    clear hdd
    go_loopw [6, 24] (fun uu ix wr => ∃ (j : Nat) (l : List UInt8) (i2 : Nat) (b2 : Bool), j ≤ 8 ∧ ix = .int .i64 (j:Int) ∧ uu = .int .u64 (val8 l : Int) ∧ Hid (l.length = j ∧ VS z w wr i2 b2 w1.heap.size #[.int .i64 10, .int .i64 0, .string ⟨#[]⟩, .slice none 0 0, .slice none 0 0] ∧ BytesP z b1 i1 l i2 b2)) (fun _ ix _ => 8 - (RowKit.intOf ix).toNat)
    case atStart => exact ⟨0, [], i1, b1, by omega, rfl, rfl, Lib.hid ⟨rfl, HV.out, BytesP.nil _ _ _⟩⟩
    case round =>
      obtain ⟨j, l, i2, b2, hj, rfl, rfl, H⟩ := hrel
      by_cases hlt : j < 8
      · go_wp2_with fail
        refine (byte_any HO.out H.out.2.1.rs).mono ?_
        rintro e w3 ⟨d, i3, b3, rfl, h3, ho3, hc3⟩
        have hv8 : val8 l < 72057594037927936 := by
          have h1 := val8_pow l (by have := H.out.1; omega)
          have h2 : 256 ^ l.length ≤ 256 ^ 7 := Nat.pow_le_pow_right (by decide) (by have := H.out.1; omega)
          have h3 : (256 : Nat) ^ 7 = 72057594037927936 := by decide
          omega
        have hor := or_byte (val8 l) d hv8
        have H' := Lib.hid (And.intro (H.out.2.1.call h3 ho3) (H.out.2.2.snoc hc3))
        clear hv8 h3 ho3 hc3
        go_wp2_with fail
        go_roundw
        case rel => exact ⟨j + 1, l ++ [d], i3, b3, by omega, by go_num, by rw [val8_snoc]; simp, Lib.hid ⟨by simp [H.out.1], H'.out.1, H'.out.2⟩⟩
        case measure => simp [RowKit.intOf]; omega
      · obtain rfl : j = 8 := by omega
        have hv8 := val8_lt l H.out.1
        have hx := xor_back (val8 l) hv8
        obtain ⟨U, hU⟩ : ∃ U : Int, (val8 l : Int) - 9223372036854775808 = U := ⟨_, rfl⟩
        have hrn : Rng U := ⟨by omega, by omega⟩
        rw [hU] at hx
        have HP := vp_num (.inr rfl) HH.out H.out.2.2 H.out.1
        rw [hU] at HP
        have HP := Lib.hid HP
        clear HV HH hlt
        have e3 := free_at H.out.2.1.hv 1
        have e3c := cell_at H.out.2.1.hv 1 _ rfl
        have HV4 := Lib.hid (H.out.2.1.set 1 (.int .i64 U))
        have y0 := cell_at (H.out.2.1).hv 0 _ rfl
        have y1 := cell_at (H.out.2.1).hv 1 _ rfl
        have y2 := cell_at (H.out.2.1).hv 2 _ rfl
        have y3 := cell_at (H.out.2.1).hv 3 _ rfl
        have y4 := cell_at (H.out.2.1).hv 4 _ rfl
        have r0 := cell_at (H.out.2.1).hr 0 _ rfl
        have r1 := cell_at (H.out.2.1).hr 1 _ rfl
        have r2 := cell_at (H.out.2.1).hr 2 _ rfl
        have r3 := cell_at (H.out.2.1).hr 3 _ rfl
        have r4 := cell_at (H.out.2.1).hr 4 _ rfl
        have g0 := free_at (H.out.2.1).hr 0
        have g1 := free_at (H.out.2.1).hr 1
        have g2 := free_at (H.out.2.1).hr 2
        have g3 := free_at (H.out.2.1).hr 3
        have g4 := free_at (H.out.2.1).hr 4
        have hne : ¬ w.heap.size = w1.heap.size := by have := HV4.out.lt; omega
        have hne' : ¬ w1.heap.size = w.heap.size := by have := HV4.out.lt; omega
        have HD := Lib.hid (HV4.out.done (OV.leaf _ (rng_u8 10) hrn (t := ByteArray.empty) (by simp)) List.nodup_nil (by simp) HP.out)
        clear hrn hU hv8
        go_wp2_with fail
        clear HV4 e3 e3c
        exact bodyPost_ret (v := .agg #[.int .i64 10, .int .i64 U, .string ⟨#[]⟩, .slice none 0 0, .slice none 0 0]) (by simp [results, Tryd.results83, go_sem, r0, r1, r2, r3, r4]) rfl HD.out
  · rw [← hW2] at hk
    have HW := Lib.hid hW2
    clear hW2 hst hvs
    go_wp2_with fail
    rw [HW.out]
    clear hk hcb hfb HW hd2
    rename_i hdd K1 A1 K2 A2
    clear hdd
    go_loopw [6, 24] (fun uu ix wr => ∃ (j : Nat) (l : List UInt8) (i2 : Nat) (b2 : Bool), j ≤ 8 ∧ ix = .int .i64 (j:Int) ∧ uu = .int .u64 (val8 l : Int) ∧ Hid (l.length = j ∧ VS z w wr i2 b2 w1.heap.size #[.int .i64 10, .int .i64 0, .string ⟨#[]⟩, .slice none 0 0, .slice none 0 0] ∧ BytesP z b1 i1 l i2 b2)) (fun _ ix _ => 8 - (RowKit.intOf ix).toNat)
    case atStart => exact ⟨0, [], i1, b1, by omega, rfl, rfl, Lib.hid ⟨rfl, HV.out, BytesP.nil _ _ _⟩⟩
    case round =>
      obtain ⟨j, l, i2, b2, hj, rfl, rfl, H⟩ := hrel
      by_cases hlt : j < 8
      · go_wp2_with fail
        refine (byte_any HO.out H.out.2.1.rs).mono ?_
        rintro e w3 ⟨d, i3, b3, rfl, h3, ho3, hc3⟩
        have hv8 : val8 l < 72057594037927936 := by
          have h1 := val8_pow l (by have := H.out.1; omega)
          have h2 : 256 ^ l.length ≤ 256 ^ 7 := Nat.pow_le_pow_right (by decide) (by have := H.out.1; omega)
          have h3 : (256 : Nat) ^ 7 = 72057594037927936 := by decide
          omega
        have hor := or_byte (val8 l) d hv8
        have H' := Lib.hid (And.intro (H.out.2.1.call h3 ho3) (H.out.2.2.snoc hc3))
        clear hv8 h3 ho3 hc3
        go_wp2_with fail
        go_roundw
        case rel => exact ⟨j + 1, l ++ [d], i3, b3, by omega, by go_num, by rw [val8_snoc]; simp, Lib.hid ⟨by simp [H.out.1], H'.out.1, H'.out.2⟩⟩
        case measure => simp [RowKit.intOf]; omega
      · obtain rfl : j = 8 := by omega
        have hv8 := val8_lt l H.out.1
        have hx := xor_back (val8 l) hv8
        obtain ⟨U, hU⟩ : ∃ U : Int, (val8 l : Int) - 9223372036854775808 = U := ⟨_, rfl⟩
        have hrn : Rng U := ⟨by omega, by omega⟩
        rw [hU] at hx
        have HP := vp_num (.inr rfl) HH.out H.out.2.2 H.out.1
        rw [hU] at HP
        have HP := Lib.hid HP
        clear HV HH hlt
        have e3 := free_at H.out.2.1.hv 1
        have e3c := cell_at H.out.2.1.hv 1 _ rfl
        have HV4 := Lib.hid (H.out.2.1.set 1 (.int .i64 U))
        have y0 := cell_at (H.out.2.1).hv 0 _ rfl
        have y1 := cell_at (H.out.2.1).hv 1 _ rfl
        have y2 := cell_at (H.out.2.1).hv 2 _ rfl
        have y3 := cell_at (H.out.2.1).hv 3 _ rfl
        have y4 := cell_at (H.out.2.1).hv 4 _ rfl
        have r0 := cell_at (H.out.2.1).hr 0 _ rfl
        have r1 := cell_at (H.out.2.1).hr 1 _ rfl
        have r2 := cell_at (H.out.2.1).hr 2 _ rfl
        have r3 := cell_at (H.out.2.1).hr 3 _ rfl
        have r4 := cell_at (H.out.2.1).hr 4 _ rfl
        have g0 := free_at (H.out.2.1).hr 0
        have g1 := free_at (H.out.2.1).hr 1
        have g2 := free_at (H.out.2.1).hr 2
        have g3 := free_at (H.out.2.1).hr 3
        have g4 := free_at (H.out.2.1).hr 4
        have hne : ¬ w.heap.size = w1.heap.size := by have := HV4.out.lt; omega
        have hne' : ¬ w1.heap.size = w.heap.size := by have := HV4.out.lt; omega
        have HD := Lib.hid (HV4.out.done (OV.leaf _ (rng_u8 10) hrn (t := ByteArray.empty) (by simp)) List.nodup_nil (by simp) HP.out)
        clear hrn hU hv8
        go_wp2_with fail
        clear HV4 e3 e3c
        exact bodyPost_ret (v := .agg #[.int .i64 10, .int .i64 U, .string ⟨#[]⟩, .slice none 0 0, .slice none 0 0]) (by simp [results, Tryd.results83, go_sem, r0, r1, r2, r3, r4]) rfl HD.out
end Go.Proofs.YthfejpldhemakaaDoor

namespace Go.Proofs.YthfejpldhemakaaDoor
open Go.RowKit Go.Sort Go.Lib
/-- Twelve cells, the first filled. -/
def idCells (l : List UInt8) : Array Value := (l.map bv ++ List.replicate (12 - l.length) (Value.int .u8 0)).toArray
theorem idCells_size {l : List UInt8} (h : l.length ≤ 12) : (idCells l).size = 12 := by simp [idCells]; omega
theorem idCells_set {l : List UInt8} (h : l.length < 12) (d : UInt8) : (idCells l).setIfInBounds l.length (.int .u8 (d.toNat : Int)) = idCells (l ++ [d]) := by
  unfold idCells
  apply Array.ext'
  simp only [List.setIfInBounds_toArray, List.map_append, List.map_cons, List.map_nil, List.length_append, List.length_cons, List.length_nil]
  obtain ⟨n, hn⟩ : ∃ n, 12 - l.length = n + 1 := ⟨11 - l.length, by omega⟩
  rw [hn, List.replicate_succ, show 12 - (l.length + (0 + 1)) = n by omega, List.set_append_right _ _ (by simp)]
  simp [bv]
theorem idCells_get {l : List UInt8} (h : l.length = 12) (j : Nat) (hj : j < l.length) : (idCells l)[j]? = some (bv l[j]) := by
  have := List.getElem?_eq_getElem hj
  unfold idCells
  simp [h, this]
theorem add_zero {b : Nat} (j : Nat) : (⟨b, 0, none⟩ : Addr).add j = ⟨b, j, none⟩ := by unfold Addr.add; split <;> simp_all
set_option maxRecDepth 100000 in
set_option maxHeartbeats 4000000 in
theorem value_id {z : RC} (ok : z.Ok) (deep : Nat) {w : World} {i : Nat} {b0 : Bool} (h : RS z w i b0) {r : List UInt8} (hb : b0 = false) (hr : z.rest i = 8 :: r) : Calls Tryd.prog 83 #[.pointer (some ⟨z.rb, 0, none⟩), .int .i64 (deep : Int)] w (ValPost z b0 deep w i) := by
  have HO := Lib.hid ok
  have H0 := Lib.hid h
  clear h ok
  go_enter Tryd.func83, Tryd.ntmps83
  go_wp2_with fail
  generalize hW1 : World.alloc w _ = W1
  have hbw : Below w.heap.size w W1 := by rw [← hW1]; exact below_alloc1 _ _
  have hr1 : W1.heap[w.heap.size]? = some (.cells #[.int .i64 0, .int .i64 0, .string ByteArray.empty, .slice none 0 0, .slice none 0 0] 25 (0, 0)) := by rw [← hW1]; exact heap_alloc_new _ _
  have hs1 : W1.heap.size = w.heap.size + 1 := by rw [← hW1]; simp
  clear hW1
  refine (byte_any HO.out (H0.out.grow hbw)).mono ?_
  rintro e w1 ⟨c, i1, b, rfl, h1, ho1, hc⟩
  have hvs : ∀ (k : Int), VS z w (w1.alloc (.cells #[.int .i64 k, .int .i64 0, .string ⟨#[]⟩, .slice none 0 0, .slice none 0 0] 25)) i1 b w1.heap.size #[.int .i64 k, .int .i64 0, .string ⟨#[]⟩, .slice none 0 0, .slice none 0 0] := fun k => by
    have q1 := block_lt H0.out.r
    have q2 := block_lt H0.out.a
    have q3 := ho1.size
    have hb2 : ∀ o, Below w1.heap.size w1 (w1.alloc o) := fun o => below_alloc1 _ _
    refine ⟨h1.grow (hb2 _), ((Only.of_below hbw).trans ho1 (fun _ _ h => h)).trans (Only.of_below (hb2 _)) (fun _ _ h => h), heap_alloc_new _ _, ?_, by omega, q1, q2, block_lt H0.out.b, block_lt H0.out.k, H0.out.below.size⟩
    refine ((hb2 _).block _ (by omega)).trans ((ho1.block _ (by omega) fun hq => ?_).trans hr1)
    rcases hq with hq | hq <;> omega
  have hcb : ∀ o, (w1.alloc o).cell? ⟨z.rb, 1, none⟩ = some (.bool b) := fun o => cell_at (((below_alloc1 w1 o).block _ (block_lt h1.r)).trans h1.r) 1 _ rfl
  have hfb : ∀ o, (w1.alloc o).frozen? ⟨z.rb, 1, none⟩ = false := fun o => free_at (((below_alloc1 w1 o).block _ (block_lt h1.r)).trans h1.r) 1
  clear hbw hr1 hs1 h1 ho1
  have hdd : ∃ (b1 : Bool), HeadP z b0 deep i c i1 b1 ∧ ((deep ≤ 21 ∧ b1 = b) ∨ (21 < deep ∧ b1 = true)) := by
    by_cases h : deep ≤ 21
    · exact ⟨b, HeadP.of deep hc h, .inl ⟨h, rfl⟩⟩
    · exact ⟨true, HeadP.deep (by omega), .inr ⟨by omega, rfl⟩⟩
  have HC := Lib.hid hc
  clear hc
  obtain ⟨b1, hh, hdd⟩ := hdd
  have HH := Lib.hid hh
  clear hh
  have hst : ∀ k : Int, ∃ W2, Hid (VS z w W2 i1 b1 w1.heap.size #[.int .i64 k, .int .i64 0, .string ⟨#[]⟩, .slice none 0 0, .slice none 0 0]) ∧ ((deep ≤ 21 ∧ w1.alloc (.cells #[.int .i64 k, .int .i64 0, .string ⟨#[]⟩, .slice none 0 0, .slice none 0 0] 25) = W2) ∨ (21 < deep ∧ (w1.alloc (.cells #[.int .i64 k, .int .i64 0, .string ⟨#[]⟩, .slice none 0 0, .slice none 0 0] 25)).setCell ⟨z.rb, 1, none⟩ (.bool true) = W2)) := fun k => by
    rcases hdd with ⟨h, rfl⟩ | ⟨h, rfl⟩
    · exact ⟨_, Lib.hid (hvs k), .inl ⟨h, rfl⟩⟩
    · exact ⟨_, Lib.hid ((hvs k).bad HO.out true), .inr ⟨h, rfl⟩⟩
  clear hdd
  obtain rfl := kind_is HC.out hb hr
  obtain ⟨W2, HV, hd2⟩ := hst 8
  have hk := cell_at HV.out.hv 0 _ rfl
  rcases hd2 with ⟨hd2, hW2⟩ | ⟨hd2, hW2⟩
  · rw [← hW2] at hk
    have hsz : W2.heap.size = w1.heap.size + 1 := by rw [← hW2]; simp
    have HW := Lib.hid hW2
    have HS := Lib.hid hsz
    clear hW2 hst hvs hsz
    go_wp2_with fail
    rw [HW.out]
    clear hk hcb hfb HW hd2
    generalize hW3 : World.alloc W2 _ = W3
    have hb3 : Below W2.heap.size W2 W3 := by rw [← hW3]; exact below_alloc1 _ _
    have hx3 : W3.heap[w1.heap.size + 1]? = some (.cells (idCells []) 124 (0, 0)) := by rw [← hW3, ← HS.out]; exact heap_alloc_new _ _
    have H3 := Lib.hid (And.intro (HV.out.grow hb3) hx3)
    clear hW3 hb3 hx3
    rename_i hdd K1 A1 K2 A2
    clear hdd
    go_loopw [51] (fun ix wr => ∃ (j : Nat) (l : List UInt8) (i2 : Nat) (b2 : Bool), j ≤ 12 ∧ ix = .int .i64 (j:Int) ∧ Hid (l.length = j ∧ VS z w wr i2 b2 w1.heap.size #[.int .i64 8, .int .i64 0, .string ⟨#[]⟩, .slice none 0 0, .slice none 0 0] ∧ BytesP z b1 i1 l i2 b2 ∧ wr.heap[w1.heap.size + 1]? = some (.cells (idCells l) 124 (0, 0)))) (fun ix _ => 12 - (RowKit.intOf ix).toNat)
    case atStart => exact ⟨0, [], i1, b1, by omega, rfl, Lib.hid ⟨rfl, H3.out.1, BytesP.nil _ _ _, H3.out.2⟩⟩
    case round =>
      obtain ⟨j, l, i2, b2, hj, rfl, H⟩ := hrel
      by_cases hlt : j < 12
      · go_wp2_with fail
        refine (byte_any HO.out H.out.2.1.rs).mono ?_
        rintro e w3 ⟨d, i3, b3, rfl, h3, ho3, hc3⟩
        have hx : w3.heap[w1.heap.size + 1]? = some (.cells (idCells l) 124 (0, 0)) := (ho3.block _ (block_lt H.out.2.2.2) (fun hq => by have := H.out.2.1.own _ hq; have := H.out.2.1.lt; omega)).trans H.out.2.2.2
        have hl12 : l.length < 12 := by have := H.out.1; omega
        have e3 := free_at hx j
        have e3c := cell_at hx j (idCells l)[j]! (by rw [Array.getElem!_eq_getD, Array.getD_eq_getD_getElem?, Array.getElem?_eq_getElem (by rw [idCells_size (by omega)]; omega)]; rfl)
        have H' := Lib.hid (And.intro (H.out.2.1.call h3 ho3) (And.intro (H.out.2.2.1.snoc hc3) (And.intro hx hl12)))
        clear h3 ho3 hc3 hx hl12
        go_wp2_with fail
        go_roundw
        case rel =>
          refine ⟨j + 1, l ++ [d], i3, b3, by omega, by go_num, Lib.hid ⟨by simp [H.out.1], H'.out.1.keep (only_set w3 (w1.heap.size + 1) j _) (fun q hq => by have := H'.out.1.lt; omega), H'.out.2.1, ?_⟩⟩
          rw [setCell_block H'.out.2.2.1 j _, ← H.out.1, idCells_set H'.out.2.2.2]
        case measure => simp [RowKit.intOf]; omega
      · obtain rfl : j = 12 := by omega
        have hcv := run_convert_bytes_back wr 42 9 5 ⟨w1.heap.size + 1, 0, none⟩ 12 l Tryd.underlying42 Tryd.underlying5 Tryd.underlying9 (fun j hj => by rw [add_zero j]; exact cell_at H.out.2.2.2 j _ (idCells_get H.out.1 j hj))
        rw [H.out.1] at hcv
        have HP := Lib.hid (vp_id HH.out H.out.2.2.1 H.out.1)
        clear HV HH hlt
        have e3 := free_at H.out.2.1.hv 2
        have e3c := cell_at H.out.2.1.hv 2 _ rfl
        have HV4 := Lib.hid (H.out.2.1.set 2 (.string ⟨l.toArray⟩))
        have y0 := cell_at (H.out.2.1).hv 0 _ rfl
        have y1 := cell_at (H.out.2.1).hv 1 _ rfl
        have y2 := cell_at (H.out.2.1).hv 2 _ rfl
        have y3 := cell_at (H.out.2.1).hv 3 _ rfl
        have y4 := cell_at (H.out.2.1).hv 4 _ rfl
        have r0 := cell_at (H.out.2.1).hr 0 _ rfl
        have r1 := cell_at (H.out.2.1).hr 1 _ rfl
        have r2 := cell_at (H.out.2.1).hr 2 _ rfl
        have r3 := cell_at (H.out.2.1).hr 3 _ rfl
        have r4 := cell_at (H.out.2.1).hr 4 _ rfl
        have g0 := free_at (H.out.2.1).hr 0
        have g1 := free_at (H.out.2.1).hr 1
        have g2 := free_at (H.out.2.1).hr 2
        have g3 := free_at (H.out.2.1).hr 3
        have g4 := free_at (H.out.2.1).hr 4
        have hne : ¬ w.heap.size = w1.heap.size := by have := HV4.out.lt; omega
        have hne' : ¬ w1.heap.size = w.heap.size := by have := HV4.out.lt; omega
        have HD := Lib.hid (HV4.out.done (OV.leaf _ (rng_u8 8) rng_0 (t := ⟨l.toArray⟩) (show l.toArray.size ≤ _ by rw [List.size_toArray, H.out.1]; decide)) List.nodup_nil (by simp) HP.out)
        go_wp2_with fail
        clear HV4 e3 e3c
        exact bodyPost_ret (v := .agg #[.int .i64 8, .int .i64 0, .string ⟨l.toArray⟩, .slice none 0 0, .slice none 0 0]) (by simp [results, Tryd.results83, go_sem, r0, r1, r2, r3, r4]) rfl HD.out
  · rw [← hW2] at hk
    have hsz : W2.heap.size = w1.heap.size + 1 := by rw [← hW2]; simp [World.setCell]
    have HW := Lib.hid hW2
    have HS := Lib.hid hsz
    clear hW2 hst hvs hsz
    go_wp2_with fail
    rw [HW.out]
    clear hk hcb hfb HW hd2
    generalize hW3 : World.alloc W2 _ = W3
    have hb3 : Below W2.heap.size W2 W3 := by rw [← hW3]; exact below_alloc1 _ _
    have hx3 : W3.heap[w1.heap.size + 1]? = some (.cells (idCells []) 124 (0, 0)) := by rw [← hW3, ← HS.out]; exact heap_alloc_new _ _
    have H3 := Lib.hid (And.intro (HV.out.grow hb3) hx3)
    clear hW3 hb3 hx3
    rename_i hdd K1 A1 K2 A2
    clear hdd
    go_loopw [51] (fun ix wr => ∃ (j : Nat) (l : List UInt8) (i2 : Nat) (b2 : Bool), j ≤ 12 ∧ ix = .int .i64 (j:Int) ∧ Hid (l.length = j ∧ VS z w wr i2 b2 w1.heap.size #[.int .i64 8, .int .i64 0, .string ⟨#[]⟩, .slice none 0 0, .slice none 0 0] ∧ BytesP z b1 i1 l i2 b2 ∧ wr.heap[w1.heap.size + 1]? = some (.cells (idCells l) 124 (0, 0)))) (fun ix _ => 12 - (RowKit.intOf ix).toNat)
    case atStart => exact ⟨0, [], i1, b1, by omega, rfl, Lib.hid ⟨rfl, H3.out.1, BytesP.nil _ _ _, H3.out.2⟩⟩
    case round =>
      obtain ⟨j, l, i2, b2, hj, rfl, H⟩ := hrel
      by_cases hlt : j < 12
      · go_wp2_with fail
        refine (byte_any HO.out H.out.2.1.rs).mono ?_
        rintro e w3 ⟨d, i3, b3, rfl, h3, ho3, hc3⟩
        have hx : w3.heap[w1.heap.size + 1]? = some (.cells (idCells l) 124 (0, 0)) := (ho3.block _ (block_lt H.out.2.2.2) (fun hq => by have := H.out.2.1.own _ hq; have := H.out.2.1.lt; omega)).trans H.out.2.2.2
        have hl12 : l.length < 12 := by have := H.out.1; omega
        have e3 := free_at hx j
        have e3c := cell_at hx j (idCells l)[j]! (by rw [Array.getElem!_eq_getD, Array.getD_eq_getD_getElem?, Array.getElem?_eq_getElem (by rw [idCells_size (by omega)]; omega)]; rfl)
        have H' := Lib.hid (And.intro (H.out.2.1.call h3 ho3) (And.intro (H.out.2.2.1.snoc hc3) (And.intro hx hl12)))
        clear h3 ho3 hc3 hx hl12
        go_wp2_with fail
        go_roundw
        case rel =>
          refine ⟨j + 1, l ++ [d], i3, b3, by omega, by go_num, Lib.hid ⟨by simp [H.out.1], H'.out.1.keep (only_set w3 (w1.heap.size + 1) j _) (fun q hq => by have := H'.out.1.lt; omega), H'.out.2.1, ?_⟩⟩
          rw [setCell_block H'.out.2.2.1 j _, ← H.out.1, idCells_set H'.out.2.2.2]
        case measure => simp [RowKit.intOf]; omega
      · obtain rfl : j = 12 := by omega
        have hcv := run_convert_bytes_back wr 42 9 5 ⟨w1.heap.size + 1, 0, none⟩ 12 l Tryd.underlying42 Tryd.underlying5 Tryd.underlying9 (fun j hj => by rw [add_zero j]; exact cell_at H.out.2.2.2 j _ (idCells_get H.out.1 j hj))
        rw [H.out.1] at hcv
        have HP := Lib.hid (vp_id HH.out H.out.2.2.1 H.out.1)
        clear HV HH hlt
        have e3 := free_at H.out.2.1.hv 2
        have e3c := cell_at H.out.2.1.hv 2 _ rfl
        have HV4 := Lib.hid (H.out.2.1.set 2 (.string ⟨l.toArray⟩))
        have y0 := cell_at (H.out.2.1).hv 0 _ rfl
        have y1 := cell_at (H.out.2.1).hv 1 _ rfl
        have y2 := cell_at (H.out.2.1).hv 2 _ rfl
        have y3 := cell_at (H.out.2.1).hv 3 _ rfl
        have y4 := cell_at (H.out.2.1).hv 4 _ rfl
        have r0 := cell_at (H.out.2.1).hr 0 _ rfl
        have r1 := cell_at (H.out.2.1).hr 1 _ rfl
        have r2 := cell_at (H.out.2.1).hr 2 _ rfl
        have r3 := cell_at (H.out.2.1).hr 3 _ rfl
        have r4 := cell_at (H.out.2.1).hr 4 _ rfl
        have g0 := free_at (H.out.2.1).hr 0
        have g1 := free_at (H.out.2.1).hr 1
        have g2 := free_at (H.out.2.1).hr 2
        have g3 := free_at (H.out.2.1).hr 3
        have g4 := free_at (H.out.2.1).hr 4
        have hne : ¬ w.heap.size = w1.heap.size := by have := HV4.out.lt; omega
        have hne' : ¬ w1.heap.size = w.heap.size := by have := HV4.out.lt; omega
        have HD := Lib.hid (HV4.out.done (OV.leaf _ (rng_u8 8) rng_0 (t := ⟨l.toArray⟩) (show l.toArray.size ≤ _ by rw [List.size_toArray, H.out.1]; decide)) List.nodup_nil (by simp) HP.out)
        go_wp2_with fail
        clear HV4 e3 e3c
        exact bodyPost_ret (v := .agg #[.int .i64 8, .int .i64 0, .string ⟨l.toArray⟩, .slice none 0 0, .slice none 0 0]) (by simp [results, Tryd.results83, go_sem, r0, r1, r2, r3, r4]) rfl HD.out
end Go.Proofs.YthfejpldhemakaaDoor

namespace Go.Proofs.YthfejpldhemakaaDoor
open Go.RowKit Go.Sort Go.Lib
theorem wrap_deep {deep : Nat} (h : deep ≤ 21) : IntKind.i64.wrap ((deep : Int) + 1) = (deep : Int) + 1 := by
  simp [IntKind.wrap, IntKind.bits, IntKind.signed]
  omega
/-- One more value in the list that is being read. -/
theorem list_round {z : RC} {w w3 w4 w5 : World} {i3 i4 : Nat} {b3 b4 : Bool} {vb g cap : Nat} {o : Obj} {L : List (V × List Value × List Nat)} {sl : Value} {x : V} {cx : List Value} {F : List Nat} {k : Int}
    (hv : VS z w w3 i3 b3 vb #[.int .i64 k, .int .i64 0, .string ⟨#[]⟩, sl, .slice none 0 0]) (hpl : PL w3 (vb + 1) L sl) (hr : RS z w4 i4 b4) (ho : Only z.own w3 w4)
    (hov : OV false w4 x cx F) (hnd : F.Nodup) (hfr : ∀ g ∈ F, w3.heap.size ≤ g)
    (hown : w5.ownsRow 0 25 5 (.slice (some ⟨g, 0, none⟩) (L.length + 1) cap) (L.length + 1) (L.flatMap (·.2.1) ++ cx)) (hgrow : (w4.alloc o).grownBy w5 sl.ownBlock) (hat : sl.ownBlock = some g ∨ g = w4.heap.size + 1) :
    PL (w5.setCell ⟨vb, 3, none⟩ (.slice (some ⟨g, 0, none⟩) (L.length + 1) cap)) (vb + 1) (L ++ [(x, cx, F)]) (.slice (some ⟨g, 0, none⟩) (L.length + 1) cap) ∧
      VS z w (w5.setCell ⟨vb, 3, none⟩ (.slice (some ⟨g, 0, none⟩) (L.length + 1) cap)) i4 b4 vb #[.int .i64 k, .int .i64 0, .string ⟨#[]⟩, .slice (some ⟨g, 0, none⟩) (L.length + 1) cap, .slice none 0 0] := by
  have hlt := block_lt hv.hv
  have h0 := hv.lt
  have hs := ho.size
  have hpl4 := hpl.only ho (fun g hg => by have := hv.own g hg; omega)
  have hnew := PL.snoc (w := w4.alloc o) (hpl4.grow (below_alloc1 _ _)) (hov.grow (below_alloc1 _ _)) hnd (fun g hg => ⟨by have := hfr g hg; omega, fun hm => by have := hpl.lt g hm; have := hfr g hg; omega⟩) hown hgrow (hat.imp id (fun h => h)) (by simp) (by simp; omega)
  refine ⟨hnew.only (only_set w5 vb 3 _) (fun k hk => by omega), ?_⟩
  have h1 := ((hv.call hr ho).grow (below_alloc1 w4 o)).keep (Only.of_grown hgrow) (fun q hq => by
    have := hpl.from_ q (List.mem_append_left _ (by rw [← hq]; simp))
    omega)
  exact h1.set 3 _
set_option maxRecDepth 100000 in
set_option maxHeartbeats 600000 in
theorem value_list {z : RC} (ok : z.Ok) (deep : Nat) {w : World} {i : Nat} {b0 : Bool} (h : RS z w i b0) {r : List UInt8} (hb : b0 = false) (hr : z.rest i = 6 :: r)
    (ih : deep ≤ 21 → ∀ (w : World) (i : Nat) (b0 : Bool), RS z w i b0 → Calls Tryd.prog 83 #[.pointer (some ⟨z.rb, 0, none⟩), .int .i64 ((deep : Int) + 1)] w (ValPost z b0 (deep + 1) w i)) : Calls Tryd.prog 83 #[.pointer (some ⟨z.rb, 0, none⟩), .int .i64 (deep : Int)] w (ValPost z b0 deep w i) := by
  have IH := Lib.hid ih
  have HZ := Lib.hid ok.len
  clear ih
  obtain ⟨i0, hi0, hz0, hz1, hz2⟩ := info_parts info25
  have HO := Lib.hid ok
  have H0 := Lib.hid h
  clear h ok
  go_enter Tryd.func83, Tryd.ntmps83
  go_wp2_with fail
  generalize hW1 : World.alloc w _ = W1
  have hbw : Below w.heap.size w W1 := by rw [← hW1]; exact below_alloc1 _ _
  have hr1 : W1.heap[w.heap.size]? = some (.cells #[.int .i64 0, .int .i64 0, .string ByteArray.empty, .slice none 0 0, .slice none 0 0] 25 (0, 0)) := by rw [← hW1]; exact heap_alloc_new _ _
  have hs1 : W1.heap.size = w.heap.size + 1 := by rw [← hW1]; simp
  clear hW1
  refine (byte_any HO.out (H0.out.grow hbw)).mono ?_
  rintro e w1 ⟨c, i1, b, rfl, h1, ho1, hc⟩
  have hvs : ∀ (k : Int), VS z w (w1.alloc (.cells #[.int .i64 k, .int .i64 0, .string ⟨#[]⟩, .slice none 0 0, .slice none 0 0] 25)) i1 b w1.heap.size #[.int .i64 k, .int .i64 0, .string ⟨#[]⟩, .slice none 0 0, .slice none 0 0] := fun k => by
    have q1 := block_lt H0.out.r
    have q2 := block_lt H0.out.a
    have q3 := ho1.size
    have hb2 : ∀ o, Below w1.heap.size w1 (w1.alloc o) := fun o => below_alloc1 _ _
    refine ⟨h1.grow (hb2 _), ((Only.of_below hbw).trans ho1 (fun _ _ h => h)).trans (Only.of_below (hb2 _)) (fun _ _ h => h), heap_alloc_new _ _, ?_, by omega, q1, q2, block_lt H0.out.b, block_lt H0.out.k, H0.out.below.size⟩
    refine ((hb2 _).block _ (by omega)).trans ((ho1.block _ (by omega) fun hq => ?_).trans hr1)
    rcases hq with hq | hq <;> omega
  have hcb : ∀ o, (w1.alloc o).cell? ⟨z.rb, 1, none⟩ = some (.bool b) := fun o => cell_at (((below_alloc1 w1 o).block _ (block_lt h1.r)).trans h1.r) 1 _ rfl
  have hfb : ∀ o, (w1.alloc o).frozen? ⟨z.rb, 1, none⟩ = false := fun o => free_at (((below_alloc1 w1 o).block _ (block_lt h1.r)).trans h1.r) 1
  clear hbw hr1 hs1 h1 ho1
  have hdd : ∃ (b1 : Bool), HeadP z b0 deep i c i1 b1 ∧ ((deep ≤ 21 ∧ b1 = b) ∨ (21 < deep ∧ b1 = true)) := by
    by_cases h : deep ≤ 21
    · exact ⟨b, HeadP.of deep hc h, .inl ⟨h, rfl⟩⟩
    · exact ⟨true, HeadP.deep (by omega), .inr ⟨by omega, rfl⟩⟩
  have HC := Lib.hid hc
  clear hc
  obtain ⟨b1, hh, hdd⟩ := hdd
  have HH := Lib.hid hh
  clear hh
  have hst : ∀ k : Int, ∃ W2, Hid (VS z w W2 i1 b1 w1.heap.size #[.int .i64 k, .int .i64 0, .string ⟨#[]⟩, .slice none 0 0, .slice none 0 0]) ∧ ((deep ≤ 21 ∧ w1.alloc (.cells #[.int .i64 k, .int .i64 0, .string ⟨#[]⟩, .slice none 0 0, .slice none 0 0] 25) = W2) ∨ (21 < deep ∧ (w1.alloc (.cells #[.int .i64 k, .int .i64 0, .string ⟨#[]⟩, .slice none 0 0, .slice none 0 0] 25)).setCell ⟨z.rb, 1, none⟩ (.bool true) = W2)) := fun k => by
    rcases hdd with ⟨h, rfl⟩ | ⟨h, rfl⟩
    · exact ⟨_, Lib.hid (hvs k), .inl ⟨h, rfl⟩⟩
    · exact ⟨_, Lib.hid ((hvs k).bad HO.out true), .inr ⟨h, rfl⟩⟩
  clear hdd
  obtain rfl := kind_is HC.out hb hr
  obtain ⟨W2, HV, hd2⟩ := hst 6
  have hk := cell_at HV.out.hv 0 _ rfl
  rcases hd2 with ⟨hd2, hW2⟩ | ⟨hd2, hW2⟩
  · rw [← hW2] at hk
    have hsz : W2.heap.size = w1.heap.size + 1 := by rw [← hW2]; simp
    have HW := Lib.hid hW2
    have HS := Lib.hid hsz
    clear hW2 hst hvs hsz
    go_wp2_with fail
    rw [HW.out]
    clear hk hcb hfb HW hd2
    rename_i hdd K1 A1
    clear hdd
    go_loopg [] (z.bytes.length + 1) (fun gg wr => ∃ (L : List (V × List Value × List Nat)) (sl : Value) (i2 : Nat) (b2 : Bool), Hid (VS z w wr i2 b2 w1.heap.size #[.int .i64 6, .int .i64 0, .string ⟨#[]⟩, sl, .slice none 0 0] ∧ PL wr (w1.heap.size + 1) L sl ∧ ListP z (deep + 1) b1 i1 (L.map (·.1)) i2 b2 ∧ L.length ≤ 1000 ∧ (b2 = false → L.length ≤ i2)) ∧ (if b2 then 0 else z.bytes.length - i2 + 1) ≤ gg)
    case atStart =>
      refine ⟨[], _, i1, b1, Lib.hid ⟨HV.out, PL.nil _ _, ListP.nil _ _ _ _, by simp, by simp⟩, ?_⟩
      cases b1 <;> simp <;> omega
    case round =>
      obtain ⟨L, sl, i2, b2, H, hgg⟩ := hrel
      have HGG := Lib.hid hgg
      clear hgg HV
      go_wp2_with fail
      refine (more_c HO.out H.out.1.rs).mono ?_
      rintro e w3 ⟨r', i3, b3, rfl, h3, ho3, hm⟩
      have HV3 := Lib.hid (H.out.1.call h3 ho3)
      have HP3 := Lib.hid (H.out.2.1.only ho3 (fun g hg => by have := H.out.1.own g hg; have := H.out.1.lt; omega))
      clear h3 ho3
      rcases hm with ⟨rfl, rfl, hb2, hr1, hi3⟩ | hm
      · have HM := Lib.hid (And.intro hb2 (And.intro hr1 hi3))
        have hd21 : deep ≤ 21 := (HH.out.1 (H.out.2.2.1.1 hb2).1).2.2.2
        have HL := Lib.hid (show L.length ≤ 999 by have := H.out.2.2.2.2 hb2; have := HV3.out.rs.le; have := HZ.out; omega)
        clear hb2 hr1 hi3
        have cb := cell_at HV3.out.hv 3 _ rfl
        have hcall := IH.out hd21 w3.drew i3 false (HV3.out.rs.grow (Below.refl _ _).drew)
        rw [← wrap_deep hd21] at hcall
        go_wp2_with fail
        go_region_law (first | (go_simp; go_at_call 83; refine hcall.mono ?_; rintro e w4 ⟨x, cs', F', i4, b4, rfl, hov, hnd, hfr, hrs4, ho4, hvp⟩; obtain ⟨xk, xi, xt, xl, xd⟩ := x; obtain ⟨p0, q0, p1, q1, rfl, _, _, _, _, _⟩ := hov.rv.inv; have HV4 := Lib.hid ((HV3.out.grow (Below.refl _ _).drew).call hrs4 ho4); have HP4 := Lib.hid ((HP3.out.grow (Below.refl _ _).drew).only ho4 (fun g hg => by have := HV4.out.own g hg; have := HV4.out.lt; omega)); have cb1 := cell_at HV4.out.hv 3 _ rfl; have cb1a := cell_alloc1 cb1; have HX4 := Lib.hid (And.intro hov (And.intro hnd (And.intro hfr (And.intro hrs4 (And.intro ho4 hvp))))); clear hov hnd hfr hrs4 ho4 hvp) | (refine step_append_lies _ (by rfl) _ _ 22 (by rfl) 0 25 i0 _ 5 80 Tryd.underlying22 hi0 hz0 hz1 hz2 rfl (by omega) sl L.length (L.flatMap (·.2.1)) (by rfl) (HP4.out.row.alloc _) ⟨w4.heap.size, 0, none⟩ 1 1 [.int .i64 xk, .int .i64 xi, .string xt, .slice p0 xl.length q0, .slice p1 xd.length q1] (by rfl) (by rfl) (World.news_of_block (heap_alloc_new w4 _)) (by simp [Value.oneCell']) (by omega) (by have := HL.out; simp [maxLen]; omega) (by have := HL.out; omega) (by omega) (w4.heap.size + 1) (by simp) ?_; intro g cap w5 hown hgrow hat hlt2; have hbx := Lib.hid (HP4.out.box HV4.out.hv hgrow (by omega)); have cb2 := cell_at hbx.out 3 _ rfl; have fb2 := free_at hbx.out 3))
        all_goals
          go_wp2_with fail
          go_roundg (if b4 then 0 else z.bytes.length - i4 + 1)
          case measure =>
            have h1 := HGG.out
            rw [HM.out.1] at h1
            have h2 := HM.out.2.2
            have h3 := HV4.out.rs.le
            have h4 := HX4.out.2.2.2.2.2.1
            cases b4
            · have := (h4 rfl).2.1
              simp at h1 ⊢
              omega
            · simp at h1 ⊢
              omega
          case rel =>
            have R := list_round (HV3.out.grow (Below.refl _ _).drew) (HP3.out.grow (Below.refl _ _).drew) HX4.out.2.2.2.1 HX4.out.2.2.2.2.1 HX4.out.1 HX4.out.2.1 HX4.out.2.2.1 hown hgrow hat
            refine ⟨L ++ [(.mk xk xi xt xl xd, [.int .i64 xk, .int .i64 xi, .string xt, .slice p0 xl.length q0, .slice p1 xd.length q1], F')], _, i4, b4, Lib.hid ⟨R.2, R.1, ?_, by have := HL.out; simp; omega, fun hb4 => ?_⟩, Nat.le_refl _⟩
            · have := H.out.2.2.1.more HM.out.1 HM.out.2.1 HM.out.2.2 HX4.out.2.2.2.2.2 HV4.out.rs.le
              simpa using this
            · have h1 := H.out.2.2.2.2 HM.out.1
              have h2 := (HX4.out.2.2.2.2.2.1 hb4).2.1
              have h3 := HM.out.2.2
              simp; omega
      · have hr' : r' = false := by rcases hm with ⟨h, _⟩ | ⟨h, _⟩ <;> exact h
        subst hr'
        have hP := vp_list HH.out H.out.2.2.1 (hm.imp (fun h => h.2) (fun h => h.2))
        obtain ⟨A1, c1, rfl, _⟩ := ownsRow_slice H.out.2.1.row
        obtain ⟨F, o1, o2, o3⟩ := OV.of_rows (rng_u8 6) rng_0 (t := ByteArray.empty) (by simp) (by have := H.out.2.2.2.1; omega) (by simp) (by simp) HP3.out (PD.nil w3 (w1.heap.size + 1)) (by simp [Value.ownBlock])
        have hne : ¬ w.heap.size = w1.heap.size := by have := HV3.out.lt; omega
        have hne' : ¬ w1.heap.size = w.heap.size := by have := HV3.out.lt; omega
        have HD := Lib.hid (HV3.out.done o1 o2 (fun g hg => by have := o3 g hg; omega) hP)
        clear o1 o2 o3 hP hm
        have y0 := cell_at (HV3.out).hv 0 _ rfl
        have y1 := cell_at (HV3.out).hv 1 _ rfl
        have y2 := cell_at (HV3.out).hv 2 _ rfl
        have y3 := cell_at (HV3.out).hv 3 _ rfl
        have y4 := cell_at (HV3.out).hv 4 _ rfl
        have r0 := cell_at (HV3.out).hr 0 _ rfl
        have r1 := cell_at (HV3.out).hr 1 _ rfl
        have r2 := cell_at (HV3.out).hr 2 _ rfl
        have r3 := cell_at (HV3.out).hr 3 _ rfl
        have r4 := cell_at (HV3.out).hr 4 _ rfl
        have g0 := free_at (HV3.out).hr 0
        have g1 := free_at (HV3.out).hr 1
        have g2 := free_at (HV3.out).hr 2
        have g3 := free_at (HV3.out).hr 3
        have g4 := free_at (HV3.out).hr 4
        go_wp2_with fail
        exact bodyPost_ret (v := .agg #[.int .i64 6, .int .i64 0, .string ⟨#[]⟩, .slice A1 L.length c1, .slice none 0 0]) (by simp [results, Tryd.results83, go_sem, r0, r1, r2, r3, r4]) rfl HD.out
  · rw [← hW2] at hk
    have hsz : W2.heap.size = w1.heap.size + 1 := by rw [← hW2]; simp [World.setCell]
    have HW := Lib.hid hW2
    have HS := Lib.hid hsz
    clear hW2 hst hvs hsz
    go_wp2_with fail
    rw [HW.out]
    clear hk hcb hfb HW hd2
    rename_i hdd K1 A1
    clear hdd
    go_loopg [] (z.bytes.length + 1) (fun gg wr => ∃ (L : List (V × List Value × List Nat)) (sl : Value) (i2 : Nat) (b2 : Bool), Hid (VS z w wr i2 b2 w1.heap.size #[.int .i64 6, .int .i64 0, .string ⟨#[]⟩, sl, .slice none 0 0] ∧ PL wr (w1.heap.size + 1) L sl ∧ ListP z (deep + 1) b1 i1 (L.map (·.1)) i2 b2 ∧ L.length ≤ 1000 ∧ (b2 = false → L.length ≤ i2)) ∧ (if b2 then 0 else z.bytes.length - i2 + 1) ≤ gg)
    case atStart =>
      refine ⟨[], _, i1, b1, Lib.hid ⟨HV.out, PL.nil _ _, ListP.nil _ _ _ _, by simp, by simp⟩, ?_⟩
      cases b1 <;> simp <;> omega
    case round =>
      obtain ⟨L, sl, i2, b2, H, hgg⟩ := hrel
      have HGG := Lib.hid hgg
      clear hgg HV
      go_wp2_with fail
      refine (more_c HO.out H.out.1.rs).mono ?_
      rintro e w3 ⟨r', i3, b3, rfl, h3, ho3, hm⟩
      have HV3 := Lib.hid (H.out.1.call h3 ho3)
      have HP3 := Lib.hid (H.out.2.1.only ho3 (fun g hg => by have := H.out.1.own g hg; have := H.out.1.lt; omega))
      clear h3 ho3
      rcases hm with ⟨rfl, rfl, hb2, hr1, hi3⟩ | hm
      · have HM := Lib.hid (And.intro hb2 (And.intro hr1 hi3))
        have hd21 : deep ≤ 21 := (HH.out.1 (H.out.2.2.1.1 hb2).1).2.2.2
        have HL := Lib.hid (show L.length ≤ 999 by have := H.out.2.2.2.2 hb2; have := HV3.out.rs.le; have := HZ.out; omega)
        clear hb2 hr1 hi3
        have cb := cell_at HV3.out.hv 3 _ rfl
        have hcall := IH.out hd21 w3.drew i3 false (HV3.out.rs.grow (Below.refl _ _).drew)
        rw [← wrap_deep hd21] at hcall
        go_wp2_with fail
        go_region_law (first | (go_simp; go_at_call 83; refine hcall.mono ?_; rintro e w4 ⟨x, cs', F', i4, b4, rfl, hov, hnd, hfr, hrs4, ho4, hvp⟩; obtain ⟨xk, xi, xt, xl, xd⟩ := x; obtain ⟨p0, q0, p1, q1, rfl, _, _, _, _, _⟩ := hov.rv.inv; have HV4 := Lib.hid ((HV3.out.grow (Below.refl _ _).drew).call hrs4 ho4); have HP4 := Lib.hid ((HP3.out.grow (Below.refl _ _).drew).only ho4 (fun g hg => by have := HV4.out.own g hg; have := HV4.out.lt; omega)); have cb1 := cell_at HV4.out.hv 3 _ rfl; have cb1a := cell_alloc1 cb1; have HX4 := Lib.hid (And.intro hov (And.intro hnd (And.intro hfr (And.intro hrs4 (And.intro ho4 hvp))))); clear hov hnd hfr hrs4 ho4 hvp) | (refine step_append_lies _ (by rfl) _ _ 22 (by rfl) 0 25 i0 _ 5 80 Tryd.underlying22 hi0 hz0 hz1 hz2 rfl (by omega) sl L.length (L.flatMap (·.2.1)) (by rfl) (HP4.out.row.alloc _) ⟨w4.heap.size, 0, none⟩ 1 1 [.int .i64 xk, .int .i64 xi, .string xt, .slice p0 xl.length q0, .slice p1 xd.length q1] (by rfl) (by rfl) (World.news_of_block (heap_alloc_new w4 _)) (by simp [Value.oneCell']) (by omega) (by have := HL.out; simp [maxLen]; omega) (by have := HL.out; omega) (by omega) (w4.heap.size + 1) (by simp) ?_; intro g cap w5 hown hgrow hat hlt2; have hbx := Lib.hid (HP4.out.box HV4.out.hv hgrow (by omega)); have cb2 := cell_at hbx.out 3 _ rfl; have fb2 := free_at hbx.out 3))
        all_goals
          go_wp2_with fail
          go_roundg (if b4 then 0 else z.bytes.length - i4 + 1)
          case measure =>
            have h1 := HGG.out
            rw [HM.out.1] at h1
            have h2 := HM.out.2.2
            have h3 := HV4.out.rs.le
            have h4 := HX4.out.2.2.2.2.2.1
            cases b4
            · have := (h4 rfl).2.1
              simp at h1 ⊢
              omega
            · simp at h1 ⊢
              omega
          case rel =>
            have R := list_round (HV3.out.grow (Below.refl _ _).drew) (HP3.out.grow (Below.refl _ _).drew) HX4.out.2.2.2.1 HX4.out.2.2.2.2.1 HX4.out.1 HX4.out.2.1 HX4.out.2.2.1 hown hgrow hat
            refine ⟨L ++ [(.mk xk xi xt xl xd, [.int .i64 xk, .int .i64 xi, .string xt, .slice p0 xl.length q0, .slice p1 xd.length q1], F')], _, i4, b4, Lib.hid ⟨R.2, R.1, ?_, by have := HL.out; simp; omega, fun hb4 => ?_⟩, Nat.le_refl _⟩
            · have := H.out.2.2.1.more HM.out.1 HM.out.2.1 HM.out.2.2 HX4.out.2.2.2.2.2 HV4.out.rs.le
              simpa using this
            · have h1 := H.out.2.2.2.2 HM.out.1
              have h2 := (HX4.out.2.2.2.2.2.1 hb4).2.1
              have h3 := HM.out.2.2
              simp; omega
      · have hr' : r' = false := by rcases hm with ⟨h, _⟩ | ⟨h, _⟩ <;> exact h
        subst hr'
        have hP := vp_list HH.out H.out.2.2.1 (hm.imp (fun h => h.2) (fun h => h.2))
        obtain ⟨A1, c1, rfl, _⟩ := ownsRow_slice H.out.2.1.row
        obtain ⟨F, o1, o2, o3⟩ := OV.of_rows (rng_u8 6) rng_0 (t := ByteArray.empty) (by simp) (by have := H.out.2.2.2.1; omega) (by simp) (by simp) HP3.out (PD.nil w3 (w1.heap.size + 1)) (by simp [Value.ownBlock])
        have hne : ¬ w.heap.size = w1.heap.size := by have := HV3.out.lt; omega
        have hne' : ¬ w1.heap.size = w.heap.size := by have := HV3.out.lt; omega
        have HD := Lib.hid (HV3.out.done o1 o2 (fun g hg => by have := o3 g hg; omega) hP)
        clear o1 o2 o3 hP hm
        have y0 := cell_at (HV3.out).hv 0 _ rfl
        have y1 := cell_at (HV3.out).hv 1 _ rfl
        have y2 := cell_at (HV3.out).hv 2 _ rfl
        have y3 := cell_at (HV3.out).hv 3 _ rfl
        have y4 := cell_at (HV3.out).hv 4 _ rfl
        have r0 := cell_at (HV3.out).hr 0 _ rfl
        have r1 := cell_at (HV3.out).hr 1 _ rfl
        have r2 := cell_at (HV3.out).hr 2 _ rfl
        have r3 := cell_at (HV3.out).hr 3 _ rfl
        have r4 := cell_at (HV3.out).hr 4 _ rfl
        have g0 := free_at (HV3.out).hr 0
        have g1 := free_at (HV3.out).hr 1
        have g2 := free_at (HV3.out).hr 2
        have g3 := free_at (HV3.out).hr 3
        have g4 := free_at (HV3.out).hr 4
        go_wp2_with fail
        exact bodyPost_ret (v := .agg #[.int .i64 6, .int .i64 0, .string ⟨#[]⟩, .slice A1 L.length c1, .slice none 0 0]) (by simp [results, Tryd.results83, go_sem, r0, r1, r2, r3, r4]) rfl HD.out
end Go.Proofs.YthfejpldhemakaaDoor

namespace Go.Proofs.YthfejpldhemakaaDoor
open Go.RowKit Go.Sort Go.Lib
/-- One more field in the document that is being read. -/
theorem doc_round {z : RC} {w w3 w4 w5 : World} {i3 i4 : Nat} {b3 b4 : Bool} {vb g cap : Nat} {o : Obj} {L : List (ByteArray × V × List Value × List Nat)} {sl : Value} {nm : ByteArray} {x : V} {cx : List Value} {F : List Nat} {k : Int}
    (hv : VS z w w3 i3 b3 vb #[.int .i64 k, .int .i64 0, .string ⟨#[]⟩, .slice none 0 0, sl]) (hpl : PD w3 (vb + 1) L sl) (hr : RS z w4 i4 b4) (ho : Only z.own w3 w4)
    (hov : OV false w4 x cx F) (hnd : F.Nodup) (hfr : ∀ g ∈ F, w3.heap.size ≤ g)
    (hown : w5.ownsRow 0 72 6 (.slice (some ⟨g, 0, none⟩) (L.length + 1) cap) (L.length + 1) ((L.flatMap fun c => .string c.1 :: c.2.2.1) ++ .string nm :: cx)) (hgrow : (w4.alloc o).grownBy w5 sl.ownBlock) (hat : sl.ownBlock = some g ∨ g = w4.heap.size + 1) :
    PD (w5.setCell ⟨vb, 4, none⟩ (.slice (some ⟨g, 0, none⟩) (L.length + 1) cap)) (vb + 1) (L ++ [(nm, x, cx, F)]) (.slice (some ⟨g, 0, none⟩) (L.length + 1) cap) ∧
      VS z w (w5.setCell ⟨vb, 4, none⟩ (.slice (some ⟨g, 0, none⟩) (L.length + 1) cap)) i4 b4 vb #[.int .i64 k, .int .i64 0, .string ⟨#[]⟩, .slice none 0 0, .slice (some ⟨g, 0, none⟩) (L.length + 1) cap] := by
  have hlt := block_lt hv.hv
  have h0 := hv.lt
  have hs := ho.size
  have hpl4 := hpl.only ho (fun g hg => by have := hv.own g hg; omega)
  have hnew := PD.snoc (w := w4.alloc o) (hpl4.grow (below_alloc1 _ _)) (hov.grow (below_alloc1 _ _)) hnd (fun g hg => ⟨by have := hfr g hg; omega, fun hm => by have := hpl.lt g hm; have := hfr g hg; omega⟩) hown hgrow (hat.imp id (fun h => h)) (by simp) (by simp; omega)
  refine ⟨hnew.only (only_set w5 vb 4 _) (fun k hk => by omega), ?_⟩
  have h1 := ((hv.call hr ho).grow (below_alloc1 w4 o)).keep (Only.of_grown hgrow) (fun q hq => by
    have := hpl.from_ q (List.mem_append_left _ (by rw [← hq]; simp))
    omega)
  exact h1.set 4 _
set_option maxRecDepth 100000 in
set_option maxHeartbeats 600000 in
theorem value_doc {z : RC} (ok : z.Ok) (deep : Nat) {w : World} {i : Nat} {b0 : Bool} (h : RS z w i b0) {r : List UInt8} (hb : b0 = false) (hr : z.rest i = 5 :: r)
    (ih : deep ≤ 21 → ∀ (w : World) (i : Nat) (b0 : Bool), RS z w i b0 → Calls Tryd.prog 83 #[.pointer (some ⟨z.rb, 0, none⟩), .int .i64 ((deep : Int) + 1)] w (ValPost z b0 (deep + 1) w i)) : Calls Tryd.prog 83 #[.pointer (some ⟨z.rb, 0, none⟩), .int .i64 (deep : Int)] w (ValPost z b0 deep w i) := by
  have IH := Lib.hid ih
  have HZ := Lib.hid ok.len
  clear ih
  obtain ⟨i0, hi0, hz0, hz1, hz2⟩ := info_parts info72
  have HO := Lib.hid ok
  have H0 := Lib.hid h
  clear h ok
  go_enter Tryd.func83, Tryd.ntmps83
  go_wp2_with fail
  generalize hW1 : World.alloc w _ = W1
  have hbw : Below w.heap.size w W1 := by rw [← hW1]; exact below_alloc1 _ _
  have hr1 : W1.heap[w.heap.size]? = some (.cells #[.int .i64 0, .int .i64 0, .string ByteArray.empty, .slice none 0 0, .slice none 0 0] 25 (0, 0)) := by rw [← hW1]; exact heap_alloc_new _ _
  have hs1 : W1.heap.size = w.heap.size + 1 := by rw [← hW1]; simp
  clear hW1
  refine (byte_any HO.out (H0.out.grow hbw)).mono ?_
  rintro e w1 ⟨c, i1, b, rfl, h1, ho1, hc⟩
  have hvs : ∀ (k : Int), VS z w (w1.alloc (.cells #[.int .i64 k, .int .i64 0, .string ⟨#[]⟩, .slice none 0 0, .slice none 0 0] 25)) i1 b w1.heap.size #[.int .i64 k, .int .i64 0, .string ⟨#[]⟩, .slice none 0 0, .slice none 0 0] := fun k => by
    have q1 := block_lt H0.out.r
    have q2 := block_lt H0.out.a
    have q3 := ho1.size
    have hb2 : ∀ o, Below w1.heap.size w1 (w1.alloc o) := fun o => below_alloc1 _ _
    refine ⟨h1.grow (hb2 _), ((Only.of_below hbw).trans ho1 (fun _ _ h => h)).trans (Only.of_below (hb2 _)) (fun _ _ h => h), heap_alloc_new _ _, ?_, by omega, q1, q2, block_lt H0.out.b, block_lt H0.out.k, H0.out.below.size⟩
    refine ((hb2 _).block _ (by omega)).trans ((ho1.block _ (by omega) fun hq => ?_).trans hr1)
    rcases hq with hq | hq <;> omega
  have hcb : ∀ o, (w1.alloc o).cell? ⟨z.rb, 1, none⟩ = some (.bool b) := fun o => cell_at (((below_alloc1 w1 o).block _ (block_lt h1.r)).trans h1.r) 1 _ rfl
  have hfb : ∀ o, (w1.alloc o).frozen? ⟨z.rb, 1, none⟩ = false := fun o => free_at (((below_alloc1 w1 o).block _ (block_lt h1.r)).trans h1.r) 1
  clear hbw hr1 hs1 h1 ho1
  have hdd : ∃ (b1 : Bool), HeadP z b0 deep i c i1 b1 ∧ ((deep ≤ 21 ∧ b1 = b) ∨ (21 < deep ∧ b1 = true)) := by
    by_cases h : deep ≤ 21
    · exact ⟨b, HeadP.of deep hc h, .inl ⟨h, rfl⟩⟩
    · exact ⟨true, HeadP.deep (by omega), .inr ⟨by omega, rfl⟩⟩
  have HC := Lib.hid hc
  clear hc
  obtain ⟨b1, hh, hdd⟩ := hdd
  have HH := Lib.hid hh
  clear hh
  have hst : ∀ k : Int, ∃ W2, Hid (VS z w W2 i1 b1 w1.heap.size #[.int .i64 k, .int .i64 0, .string ⟨#[]⟩, .slice none 0 0, .slice none 0 0]) ∧ ((deep ≤ 21 ∧ w1.alloc (.cells #[.int .i64 k, .int .i64 0, .string ⟨#[]⟩, .slice none 0 0, .slice none 0 0] 25) = W2) ∨ (21 < deep ∧ (w1.alloc (.cells #[.int .i64 k, .int .i64 0, .string ⟨#[]⟩, .slice none 0 0, .slice none 0 0] 25)).setCell ⟨z.rb, 1, none⟩ (.bool true) = W2)) := fun k => by
    rcases hdd with ⟨h, rfl⟩ | ⟨h, rfl⟩
    · exact ⟨_, Lib.hid (hvs k), .inl ⟨h, rfl⟩⟩
    · exact ⟨_, Lib.hid ((hvs k).bad HO.out true), .inr ⟨h, rfl⟩⟩
  clear hdd
  obtain rfl := kind_is HC.out hb hr
  obtain ⟨W2, HV, hd2⟩ := hst 5
  have hk := cell_at HV.out.hv 0 _ rfl
  rcases hd2 with ⟨hd2, hW2⟩ | ⟨hd2, hW2⟩
  · rw [← hW2] at hk
    have hsz : W2.heap.size = w1.heap.size + 1 := by rw [← hW2]; simp
    have HW := Lib.hid hW2
    have HS := Lib.hid hsz
    clear hW2 hst hvs hsz
    go_wp2_with fail
    rw [HW.out]
    clear hk hcb hfb HW hd2
    rename_i hdd K1 A1
    clear hdd
    go_loopg [] (z.bytes.length + 1) (fun gg wr => ∃ (L : List (ByteArray × V × List Value × List Nat)) (sl : Value) (i2 : Nat) (b2 : Bool), Hid (VS z w wr i2 b2 w1.heap.size #[.int .i64 5, .int .i64 0, .string ⟨#[]⟩, .slice none 0 0, sl] ∧ PD wr (w1.heap.size + 1) L sl ∧ DocP z (deep + 1) b1 i1 (L.map fun c => (c.1, c.2.1)) i2 b2 ∧ L.length ≤ 1000 ∧ (b2 = false → L.length ≤ i2) ∧ ∀ c ∈ L, c.1.size ≤ 140737488355328) ∧ (if b2 then 0 else z.bytes.length - i2 + 1) ≤ gg)
    case atStart =>
      refine ⟨[], _, i1, b1, Lib.hid ⟨HV.out, PD.nil _ _, DocP.nil _ _ _ _, by simp, by simp, by simp⟩, ?_⟩
      cases b1 <;> simp <;> omega
    case round =>
      obtain ⟨L, sl, i2, b2, H, hgg⟩ := hrel
      have HGG := Lib.hid hgg
      clear hgg HV
      go_wp2_with fail
      refine (more_c HO.out H.out.1.rs).mono ?_
      rintro e w3 ⟨r', i3, b3, rfl, h3, ho3, hm⟩
      have HV3 := Lib.hid (H.out.1.call h3 ho3)
      have HP3 := Lib.hid (H.out.2.1.only ho3 (fun g hg => by have := H.out.1.own g hg; have := H.out.1.lt; omega))
      clear h3 ho3
      rcases hm with ⟨rfl, rfl, hb2, hr1, hi3⟩ | hm
      · have HM := Lib.hid (And.intro hb2 (And.intro hr1 hi3))
        have hd21 : deep ≤ 21 := (HH.out.1 (H.out.2.2.1.1 hb2).1).2.2.2
        have HL := Lib.hid (show L.length ≤ 999 by have := H.out.2.2.2.2.1 hb2; have := HV3.out.rs.le; have := HZ.out; omega)
        clear hb2 hr1 hi3
        go_wp2_with fail
        refine (rdtext_c HO.out HV3.out.rs).mono ?_
        rintro e wt ⟨s, it, bt, rfl, ht, hot, htp⟩
        have HVt := Lib.hid (HV3.out.call ht hot)
        have HPt := Lib.hid (HP3.out.only hot (fun g hg => by have := HV3.out.own g hg; have := HV3.out.lt; omega))
        have hslen : s.length ≤ 1000 := by have := htp.2.2; have := HZ.out; omega
        have HT := Lib.hid (And.intro htp hslen)
        clear ht hot htp hslen
        have cb := cell_at HVt.out.hv 4 _ rfl
        have hcall := IH.out hd21 wt.drew it bt (HVt.out.rs.grow (Below.refl _ _).drew)
        rw [← wrap_deep hd21] at hcall
        go_wp2_with fail
        go_region_law (first | (go_simp; go_at_call 83; refine hcall.mono ?_; rintro e w4 ⟨x, cs', F', i4, b4, rfl, hov, hnd, hfr, hrs4, ho4, hvp⟩; obtain ⟨xk, xi, xt, xl, xd⟩ := x; obtain ⟨p0, q0, p1, q1, rfl, _, _, _, _, _⟩ := hov.rv.inv; have HV4 := Lib.hid ((HVt.out.grow (Below.refl _ _).drew).call hrs4 ho4); have HP4 := Lib.hid ((HPt.out.grow (Below.refl _ _).drew).only ho4 (fun g hg => by have := HV4.out.own g hg; have := HV4.out.lt; omega)); have cb1 := cell_at HV4.out.hv 4 _ rfl; have cb1a := cell_alloc1 cb1; have HX4 := Lib.hid (And.intro hov (And.intro hnd (And.intro hfr (And.intro hrs4 (And.intro ho4 hvp))))); clear hov hnd hfr hrs4 ho4 hvp) | (refine step_append_lies _ (by rfl) _ _ 23 (by rfl) 0 72 i0 _ 6 96 Tryd.underlying23 hi0 hz0 hz1 hz2 rfl (by omega) sl L.length (L.flatMap fun c => .string c.1 :: c.2.2.1) (by rfl) (HP4.out.row.alloc _) ⟨w4.heap.size, 0, none⟩ 1 1 [.string ⟨s.toArray⟩, .int .i64 xk, .int .i64 xi, .string xt, .slice p0 xl.length q0, .slice p1 xd.length q1] (by rfl) (by rfl) (World.news_of_block (heap_alloc_new w4 _)) (by simp [Value.oneCell']) (by omega) (by have := HL.out; simp [maxLen]; omega) (by have := HL.out; omega) (by omega) (w4.heap.size + 1) (by simp) ?_; intro g cap w5 hown hgrow hat hlt2; have hbx := Lib.hid (HP4.out.box HV4.out.hv hgrow (by omega)); have cb2 := cell_at hbx.out 4 _ rfl; have fb2 := free_at hbx.out 4))
        all_goals
          go_wp2_with fail
          go_roundg (if b4 then 0 else z.bytes.length - i4 + 1)
          case measure =>
            have h1 := HGG.out
            rw [HM.out.1] at h1
            have h2 := HM.out.2.2
            have h3 := HV4.out.rs.le
            have h4 := HX4.out.2.2.2.2.2.1
            cases b4
            · have := (h4 rfl).2.1
              have := HT.out.1.lt (h4 rfl).1 HVt.out.rs.le
              simp at h1 ⊢
              omega
            · simp at h1 ⊢
              omega
          case rel =>
            have R := doc_round (HVt.out.grow (Below.refl _ _).drew) (HPt.out.grow (Below.refl _ _).drew) HX4.out.2.2.2.1 HX4.out.2.2.2.2.1 HX4.out.1 HX4.out.2.1 HX4.out.2.2.1 hown hgrow hat
            refine ⟨L ++ [(⟨s.toArray⟩, .mk xk xi xt xl xd, [.int .i64 xk, .int .i64 xi, .string xt, .slice p0 xl.length q0, .slice p1 xd.length q1], F')], _, i4, b4, Lib.hid ⟨R.2, R.1, ?_, by have := HL.out; simp; omega, fun hb4 => ?_, fun c hc => ?_⟩, Nat.le_refl _⟩
            · have := H.out.2.2.1.more HM.out.1 HM.out.2.1 HM.out.2.2 HT.out.1 HVt.out.rs.le HX4.out.2.2.2.2.2 HV4.out.rs.le
              simpa using this
            · have h1 := H.out.2.2.2.2.1 HM.out.1
              have h2 := HX4.out.2.2.2.2.2.1 hb4
              have h4 := HT.out.1.lt h2.1 HVt.out.rs.le
              have h3 := HM.out.2.2
              simp; omega
            · rcases List.mem_append.1 hc with hc | hc
              · exact H.out.2.2.2.2.2 c hc
              · rw [List.mem_singleton.1 hc]
                show s.toArray.size ≤ _
                rw [List.size_toArray]
                have := HT.out.2
                omega
      · have hr' : r' = false := by rcases hm with ⟨h, _⟩ | ⟨h, _⟩ <;> exact h
        subst hr'
        have hP := vp_doc HH.out H.out.2.2.1 (hm.imp (fun h => h.2) (fun h => h.2))
        obtain ⟨A1, c1, rfl, _⟩ := ownsRow_slice H.out.2.1.row
        obtain ⟨F, o1, o2, o3⟩ := OV.of_rows (rng_u8 5) rng_0 (t := ByteArray.empty) (by simp) (by simp) (by have := H.out.2.2.2.1; omega) H.out.2.2.2.2.2 (PL.nil w3 (w1.heap.size + 1)) HP3.out (by simp [Value.ownBlock])
        have hne : ¬ w.heap.size = w1.heap.size := by have := HV3.out.lt; omega
        have hne' : ¬ w1.heap.size = w.heap.size := by have := HV3.out.lt; omega
        have HD := Lib.hid (HV3.out.done o1 o2 (fun g hg => by have := o3 g hg; omega) hP)
        clear o1 o2 o3 hP hm
        have y0 := cell_at (HV3.out).hv 0 _ rfl
        have y1 := cell_at (HV3.out).hv 1 _ rfl
        have y2 := cell_at (HV3.out).hv 2 _ rfl
        have y3 := cell_at (HV3.out).hv 3 _ rfl
        have y4 := cell_at (HV3.out).hv 4 _ rfl
        have r0 := cell_at (HV3.out).hr 0 _ rfl
        have r1 := cell_at (HV3.out).hr 1 _ rfl
        have r2 := cell_at (HV3.out).hr 2 _ rfl
        have r3 := cell_at (HV3.out).hr 3 _ rfl
        have r4 := cell_at (HV3.out).hr 4 _ rfl
        have g0 := free_at (HV3.out).hr 0
        have g1 := free_at (HV3.out).hr 1
        have g2 := free_at (HV3.out).hr 2
        have g3 := free_at (HV3.out).hr 3
        have g4 := free_at (HV3.out).hr 4
        go_wp2_with fail
        exact bodyPost_ret (v := .agg #[.int .i64 5, .int .i64 0, .string ⟨#[]⟩, .slice none 0 0, .slice A1 L.length c1]) (by simp [results, Tryd.results83, go_sem, r0, r1, r2, r3, r4]) rfl HD.out
  · rw [← hW2] at hk
    have hsz : W2.heap.size = w1.heap.size + 1 := by rw [← hW2]; simp [World.setCell]
    have HW := Lib.hid hW2
    have HS := Lib.hid hsz
    clear hW2 hst hvs hsz
    go_wp2_with fail
    rw [HW.out]
    clear hk hcb hfb HW hd2
    rename_i hdd K1 A1
    clear hdd
    go_loopg [] (z.bytes.length + 1) (fun gg wr => ∃ (L : List (ByteArray × V × List Value × List Nat)) (sl : Value) (i2 : Nat) (b2 : Bool), Hid (VS z w wr i2 b2 w1.heap.size #[.int .i64 5, .int .i64 0, .string ⟨#[]⟩, .slice none 0 0, sl] ∧ PD wr (w1.heap.size + 1) L sl ∧ DocP z (deep + 1) b1 i1 (L.map fun c => (c.1, c.2.1)) i2 b2 ∧ L.length ≤ 1000 ∧ (b2 = false → L.length ≤ i2) ∧ ∀ c ∈ L, c.1.size ≤ 140737488355328) ∧ (if b2 then 0 else z.bytes.length - i2 + 1) ≤ gg)
    case atStart =>
      refine ⟨[], _, i1, b1, Lib.hid ⟨HV.out, PD.nil _ _, DocP.nil _ _ _ _, by simp, by simp, by simp⟩, ?_⟩
      cases b1 <;> simp <;> omega
    case round =>
      obtain ⟨L, sl, i2, b2, H, hgg⟩ := hrel
      have HGG := Lib.hid hgg
      clear hgg HV
      go_wp2_with fail
      refine (more_c HO.out H.out.1.rs).mono ?_
      rintro e w3 ⟨r', i3, b3, rfl, h3, ho3, hm⟩
      have HV3 := Lib.hid (H.out.1.call h3 ho3)
      have HP3 := Lib.hid (H.out.2.1.only ho3 (fun g hg => by have := H.out.1.own g hg; have := H.out.1.lt; omega))
      clear h3 ho3
      rcases hm with ⟨rfl, rfl, hb2, hr1, hi3⟩ | hm
      · have HM := Lib.hid (And.intro hb2 (And.intro hr1 hi3))
        have hd21 : deep ≤ 21 := (HH.out.1 (H.out.2.2.1.1 hb2).1).2.2.2
        have HL := Lib.hid (show L.length ≤ 999 by have := H.out.2.2.2.2.1 hb2; have := HV3.out.rs.le; have := HZ.out; omega)
        clear hb2 hr1 hi3
        go_wp2_with fail
        refine (rdtext_c HO.out HV3.out.rs).mono ?_
        rintro e wt ⟨s, it, bt, rfl, ht, hot, htp⟩
        have HVt := Lib.hid (HV3.out.call ht hot)
        have HPt := Lib.hid (HP3.out.only hot (fun g hg => by have := HV3.out.own g hg; have := HV3.out.lt; omega))
        have hslen : s.length ≤ 1000 := by have := htp.2.2; have := HZ.out; omega
        have HT := Lib.hid (And.intro htp hslen)
        clear ht hot htp hslen
        have cb := cell_at HVt.out.hv 4 _ rfl
        have hcall := IH.out hd21 wt.drew it bt (HVt.out.rs.grow (Below.refl _ _).drew)
        rw [← wrap_deep hd21] at hcall
        go_wp2_with fail
        go_region_law (first | (go_simp; go_at_call 83; refine hcall.mono ?_; rintro e w4 ⟨x, cs', F', i4, b4, rfl, hov, hnd, hfr, hrs4, ho4, hvp⟩; obtain ⟨xk, xi, xt, xl, xd⟩ := x; obtain ⟨p0, q0, p1, q1, rfl, _, _, _, _, _⟩ := hov.rv.inv; have HV4 := Lib.hid ((HVt.out.grow (Below.refl _ _).drew).call hrs4 ho4); have HP4 := Lib.hid ((HPt.out.grow (Below.refl _ _).drew).only ho4 (fun g hg => by have := HV4.out.own g hg; have := HV4.out.lt; omega)); have cb1 := cell_at HV4.out.hv 4 _ rfl; have cb1a := cell_alloc1 cb1; have HX4 := Lib.hid (And.intro hov (And.intro hnd (And.intro hfr (And.intro hrs4 (And.intro ho4 hvp))))); clear hov hnd hfr hrs4 ho4 hvp) | (refine step_append_lies _ (by rfl) _ _ 23 (by rfl) 0 72 i0 _ 6 96 Tryd.underlying23 hi0 hz0 hz1 hz2 rfl (by omega) sl L.length (L.flatMap fun c => .string c.1 :: c.2.2.1) (by rfl) (HP4.out.row.alloc _) ⟨w4.heap.size, 0, none⟩ 1 1 [.string ⟨s.toArray⟩, .int .i64 xk, .int .i64 xi, .string xt, .slice p0 xl.length q0, .slice p1 xd.length q1] (by rfl) (by rfl) (World.news_of_block (heap_alloc_new w4 _)) (by simp [Value.oneCell']) (by omega) (by have := HL.out; simp [maxLen]; omega) (by have := HL.out; omega) (by omega) (w4.heap.size + 1) (by simp) ?_; intro g cap w5 hown hgrow hat hlt2; have hbx := Lib.hid (HP4.out.box HV4.out.hv hgrow (by omega)); have cb2 := cell_at hbx.out 4 _ rfl; have fb2 := free_at hbx.out 4))
        all_goals
          go_wp2_with fail
          go_roundg (if b4 then 0 else z.bytes.length - i4 + 1)
          case measure =>
            have h1 := HGG.out
            rw [HM.out.1] at h1
            have h2 := HM.out.2.2
            have h3 := HV4.out.rs.le
            have h4 := HX4.out.2.2.2.2.2.1
            cases b4
            · have := (h4 rfl).2.1
              have := HT.out.1.lt (h4 rfl).1 HVt.out.rs.le
              simp at h1 ⊢
              omega
            · simp at h1 ⊢
              omega
          case rel =>
            have R := doc_round (HVt.out.grow (Below.refl _ _).drew) (HPt.out.grow (Below.refl _ _).drew) HX4.out.2.2.2.1 HX4.out.2.2.2.2.1 HX4.out.1 HX4.out.2.1 HX4.out.2.2.1 hown hgrow hat
            refine ⟨L ++ [(⟨s.toArray⟩, .mk xk xi xt xl xd, [.int .i64 xk, .int .i64 xi, .string xt, .slice p0 xl.length q0, .slice p1 xd.length q1], F')], _, i4, b4, Lib.hid ⟨R.2, R.1, ?_, by have := HL.out; simp; omega, fun hb4 => ?_, fun c hc => ?_⟩, Nat.le_refl _⟩
            · have := H.out.2.2.1.more HM.out.1 HM.out.2.1 HM.out.2.2 HT.out.1 HVt.out.rs.le HX4.out.2.2.2.2.2 HV4.out.rs.le
              simpa using this
            · have h1 := H.out.2.2.2.2.1 HM.out.1
              have h2 := HX4.out.2.2.2.2.2.1 hb4
              have h4 := HT.out.1.lt h2.1 HVt.out.rs.le
              have h3 := HM.out.2.2
              simp; omega
            · rcases List.mem_append.1 hc with hc | hc
              · exact H.out.2.2.2.2.2 c hc
              · rw [List.mem_singleton.1 hc]
                show s.toArray.size ≤ _
                rw [List.size_toArray]
                have := HT.out.2
                omega
      · have hr' : r' = false := by rcases hm with ⟨h, _⟩ | ⟨h, _⟩ <;> exact h
        subst hr'
        have hP := vp_doc HH.out H.out.2.2.1 (hm.imp (fun h => h.2) (fun h => h.2))
        obtain ⟨A1, c1, rfl, _⟩ := ownsRow_slice H.out.2.1.row
        obtain ⟨F, o1, o2, o3⟩ := OV.of_rows (rng_u8 5) rng_0 (t := ByteArray.empty) (by simp) (by simp) (by have := H.out.2.2.2.1; omega) H.out.2.2.2.2.2 (PL.nil w3 (w1.heap.size + 1)) HP3.out (by simp [Value.ownBlock])
        have hne : ¬ w.heap.size = w1.heap.size := by have := HV3.out.lt; omega
        have hne' : ¬ w1.heap.size = w.heap.size := by have := HV3.out.lt; omega
        have HD := Lib.hid (HV3.out.done o1 o2 (fun g hg => by have := o3 g hg; omega) hP)
        clear o1 o2 o3 hP hm
        have y0 := cell_at (HV3.out).hv 0 _ rfl
        have y1 := cell_at (HV3.out).hv 1 _ rfl
        have y2 := cell_at (HV3.out).hv 2 _ rfl
        have y3 := cell_at (HV3.out).hv 3 _ rfl
        have y4 := cell_at (HV3.out).hv 4 _ rfl
        have r0 := cell_at (HV3.out).hr 0 _ rfl
        have r1 := cell_at (HV3.out).hr 1 _ rfl
        have r2 := cell_at (HV3.out).hr 2 _ rfl
        have r3 := cell_at (HV3.out).hr 3 _ rfl
        have r4 := cell_at (HV3.out).hr 4 _ rfl
        have g0 := free_at (HV3.out).hr 0
        have g1 := free_at (HV3.out).hr 1
        have g2 := free_at (HV3.out).hr 2
        have g3 := free_at (HV3.out).hr 3
        have g4 := free_at (HV3.out).hr 4
        go_wp2_with fail
        exact bodyPost_ret (v := .agg #[.int .i64 5, .int .i64 0, .string ⟨#[]⟩, .slice none 0 0, .slice A1 L.length c1]) (by simp [results, Tryd.results83, go_sem, r0, r1, r2, r3, r4]) rfl HD.out
/-- Reading a value. -/
theorem value_c {z : RC} (ok : z.Ok) : ∀ (m deep : Nat), 22 - deep ≤ m → ∀ (w : World) (i : Nat) (b0 : Bool), RS z w i b0 → Calls Tryd.prog 83 #[.pointer (some ⟨z.rb, 0, none⟩), .int .i64 (deep : Int)] w (ValPost z b0 deep w i) := by
  intro m
  induction m with
  | zero =>
    intro deep hm w i b0 h
    exact go deep (fun hd => by omega) w i b0 h
  | succ m ih =>
    intro deep hm w i b0 h
    refine go deep (fun hd w i b0 h => ?_) w i b0 h
    have := ih (deep + 1) (by omega) w i b0 h
    simpa using this
where
  go (deep : Nat) (ih : deep ≤ 21 → ∀ (w : World) (i : Nat) (b0 : Bool), RS z w i b0 → Calls Tryd.prog 83 #[.pointer (some ⟨z.rb, 0, none⟩), .int .i64 ((deep : Int) + 1)] w (ValPost z b0 (deep + 1) w i)) (w : World) (i : Nat) (b0 : Bool) (h : RS z w i b0) : Calls Tryd.prog 83 #[.pointer (some ⟨z.rb, 0, none⟩), .int .i64 (deep : Int)] w (ValPost z b0 deep w i) := by
    by_cases hb : b0 = false
    · cases hr : z.rest i with
      | nil => exact value_other ok deep h fun _ k r he => by rw [hr] at he; cases he
      | cons k r =>
        by_cases h3 : k = 3
        · subst h3; exact value_num3 ok deep h hb hr
        by_cases h10 : k = 10
        · subst h10; exact value_num10 ok deep h hb hr
        by_cases h9 : k = 9
        · subst h9; exact value_flag ok deep h hb hr
        by_cases h4 : k = 4
        · exact value_text ok deep h (.inl h4) hb hr
        by_cases h7 : k = 7
        · exact value_text ok deep h (.inr h7) hb hr
        by_cases h8 : k = 8
        · subst h8; exact value_id ok deep h hb hr
        by_cases h6 : k = 6
        · subst h6; exact value_list ok deep h hb hr ih
        by_cases h5 : k = 5
        · subst h5; exact value_doc ok deep h hb hr ih
        refine value_other ok deep h fun _ k' r' he => ?_
        rw [hr] at he
        injection he with he _
        subst he
        exact ⟨h3, h4, h5, h6, h7, h8, h9, h10⟩
    · exact value_other ok deep h fun hb' => absurd hb' hb
end Go.Proofs.YthfejpldhemakaaDoor
