import Derived.Test.YthfejpldhemakaaDoorSh
import Derived.Test.YthfejpldhemakaaDoorYe
import Derived.Test.YthfejpldhemakaaDoorZs
import Derived.Test.YthfejpldhemakaaDoorZb
namespace Go.Proofs.YthfejpldhemakaaDoor
open Go.RowKit Go.Sort Go.Lib
/-- A row of values that was made: a list. -/
theorem PL.rl {w : World} {B : Nat} {L : List (V × List Value × List Nat)} {sl : Value} (h : PL w B L sl) (hl : L.length * 80 ≤ 140737488355328) : ∃ A c, sl = .slice A (L.map (·.1)).length c ∧ RL w (L.map (·.1)) A c := by
  obtain ⟨F, o1, _, _⟩ := OV.of_rows (k := 6) (i := 0) (t := ByteArray.empty) ⟨by decide, by decide⟩ rng_0 (by simp) hl (by simp) (by simp) h (PD.nil w B) (by simp [Value.ownBlock])
  obtain ⟨A, c, A', c', e, _, _, _, hA, _⟩ := o1.rv.inv
  simp only [List.cons.injEq] at e
  exact ⟨A, c, e.2.2.2.1, hA⟩
theorem RL.shapes {w : World} {l : List V} {A : Option Addr} {c : Nat} (h : RL w l A c) : ∀ v ∈ l, rightV v = 0 → Shape v := by
  intro v hv hr
  obtain ⟨j, hj, rfl⟩ := List.getElem_of_mem hv
  obtain ⟨_, _, _, _, _, _, _, hrv, _⟩ := h.get j hj
  exact (shape_right hrv hr).1
theorem readV_len (b : List UInt8) (d : List Bool) : (readV b d).2.length ≤ 4 := by
  rcases hr : readV b d with ⟨n, l⟩
  by_cases hn : n = 0
  · subst hn
    have hd : ¬ (d.length < 1 ∨ 4 < d.length) := by
      intro h
      unfold readV at hr
      rw [if_pos h] at hr
      cases hr
    have h2 := hr
    unfold readV at h2
    rw [if_neg hd] at h2
    split at h2
    · cases h2
    · split at h2
      · cases h2
      · rename_i x hx
        split at h2
        · simp only [Prod.mk.injEq, true_and] at h2
          subst h2
          have := (enc_rdRow _ _ _ _ hx).2.1
          show x.1.length ≤ 4
          omega
        · cases h2
  · rw [readV_fault hr hn]; simp
set_option maxRecDepth 100000 in
set_option maxHeartbeats 2000000 in
theorem keyReads_c (b : List UInt8) (A : Option Addr) (c : Nat) (d : List Bool) (A2 : Option Addr) (c2 : Nat) (W : World) (hT : Tabs W) (hA : RY W A b) (hnil : A = none → c = 0) (hD : RB W A2 d) :
    Calls Tryd.prog 8 #[.slice A b.length c, .slice A2 d.length c2] W fun e w' => e = .returned (.bool true) ∧ Below W.heap.size W w' := by
  obtain ⟨n, hn⟩ : ∃ n, b.length = n := ⟨_, rfl⟩
  obtain ⟨m, hm⟩ : ∃ m, d.length = m := ⟨_, rfl⟩
  have hl := hA.1
  have hr1 := fun A c w hT hA hD => read_c A A2 c c2 w hT b d hA hD
  have hr2 := fun A c w hT hA hD => rread_c A A2 c c2 w hT b d hA hD
  have HLn := Lib.hid (readV_len b d)
  obtain ⟨r, l, hrl⟩ : ∃ r l, readV b d = (r, l) := ⟨_, _, rfl⟩
  rw [hrl] at hr1 hr2 HLn
  have HL := Lib.hid (blent_c A c b)
  rw [hn] at hl HL
  rw [hn, hm] at hr1 hr2
  rw [hn, hm]
  have HR := Lib.hid (And.intro hr1 hr2)
  have HA := Lib.hid (And.intro hT (And.intro hA (And.intro hnil (And.intro hD (And.intro hn hm)))))
  clear hT hA hnil hD hn hm hr1 hr2 hrl
  go_enter Tryd.func8, Tryd.ntmps8
  go_wp2_with fail
  refine (awake03_c W HA.out.1).mono ?_
  rintro e w1 ⟨rfl, hb1⟩
  have HB1 := Lib.hid hb1
  clear hb1
  go_wp2_with fail
  refine (HL.out w1 (HA.out.2.1.grow HB1.out) HA.out.2.2.1).mono ?_
  rintro e w2 ⟨g, rfl, hbo, hg, hb2⟩
  rw [HA.out.2.2.2.2.1] at hbo ⊢
  have HB2 := Lib.hid (And.intro hbo (And.intro hg hb2))
  clear hbo hg hb2
  have h12 := below2 HB1.out HB2.out.2.2
  have H12 := Lib.hid h12
  clear h12
  go_wp2_with fail
  refine (HR.out.1 (some ⟨g, 0, none⟩) (n + 2) w2 (HA.out.1.grow H12.out) (HB2.out.1.front (by rw [HA.out.2.2.2.2.1]; exact hl)) (HA.out.2.2.2.1.grow H12.out)).mono ?_
  rintro e w3 ⟨L, sl, rfl, hL, hpl, hb3⟩
  have H3 := Lib.hid (And.intro hL (And.intro hpl hb3))
  clear hL hpl hb3
  go_wp2_with fail
  generalize hW3 : World.alloc w3 _ = W3
  have e3 : W3.heap[w3.heap.size]? = some (.cells #[.int .i64 r, .int .i64 (faultAt r)] 49 (0, 0)) := by rw [← hW3]; exact heap_alloc_new _ _
  have hb3 : Below w3.heap.size w3 W3 := by rw [← hW3]; exact below_alloc1 _ _
  clear hW3
  have HB3 := Lib.hid (And.intro hb3 e3)
  clear hb3 e3
  have hk := bkept_c A c g b w1 W3 (HA.out.2.1.grow HB1.out) (below2 HB2.out.2.2 (below2 H3.out.2.2 HB3.out.1)) HB2.out.2.1 (by rw [HA.out.2.2.2.2.1]; exact HB2.out.1.grow (below2 H3.out.2.2 HB3.out.1))
  rw [HA.out.2.2.2.2.1] at hk
  refine hk.mono ?_
  rintro e w4 ⟨rfl, ho4⟩
  have hgl := HB2.out.1.lt (g := g) rfl
  have h14 : Below w1.heap.size w1 w4 := (below2 HB2.out.2.2 (below2 H3.out.2.2 HB3.out.1)).trans (ho4.below (fun q hq => by rw [hq]; exact HB2.out.2.1) (below2 HB2.out.2.2 (below2 H3.out.2.2 HB3.out.1)).size)
  have hW4 := below2 HB1.out h14
  have hpl4 : PL w4 w2.heap.size L sl := (H3.out.2.1.grow HB3.out.1).only ho4 (fun q hq => by omega)
  have he4 := (ho4.block _ (block_lt HB3.out.2) (fun hq => by have := H3.out.2.2.size; omega)).trans HB3.out.2
  have H4 := Lib.hid (And.intro hW4 (And.intro hpl4 he4))
  clear hk ho4 hgl h14 hW4 hpl4 he4
  go_wp2_with fail
  refine (HR.out.2 A c w4 (HA.out.1.grow H4.out.1) (HA.out.2.1.grow H4.out.1) (HA.out.2.2.2.1.grow H4.out.1)).mono ?_
  rintro e w5 ⟨L2, sl2, rfl, hL2, hpl2, hb5⟩
  have H5 := Lib.hid (And.intro hL2 (And.intro hpl2 hb5))
  clear hL2 hpl2 hb5
  go_wp2_with fail
  generalize hW5 : World.alloc w5 _ = W5
  have e5 : W5.heap[w5.heap.size]? = some (.cells #[.int .i64 r, .int .i64 (faultAt r)] 49 (0, 0)) := by rw [← hW5]; exact heap_alloc_new _ _
  have hb5 : Below w5.heap.size w5 W5 := by rw [← hW5]; exact below_alloc1 _ _
  clear hW5
  have HB5 := Lib.hid (And.intro hb5 e5)
  have hb45 := below2 H5.out.2.2 hb5
  have HB45 := Lib.hid hb45
  have hln : L.length ≤ 4 := by have := HLn.out; rw [← H3.out.1] at this; simpa using this
  have hln2 : L2.length ≤ 4 := by have := HLn.out; rw [← H5.out.1] at this; simpa using this
  obtain ⟨P, pc, rfl, hrl1⟩ := (H4.out.2.1.grow hb45).rl (by omega)
  obtain ⟨Q, qc, rfl, hrl2⟩ := (H5.out.2.1.grow hb5).rl (by omega)
  rw [H3.out.1] at hrl1 ⊢
  rw [H5.out.1] at hrl2 ⊢
  have HRL := Lib.hid (And.intro hrl1 hrl2)
  clear hb5 e5 hb45 hln hln2 hrl1 hrl2
  refine (samelist_c l l P Q pc qc W5 HRL.out.1 HRL.out.2).mono ?_
  rintro e w6 ⟨rfl, hb6⟩
  have hss := sameLL_self l
  have e56 := (hb6.block _ (block_lt HB5.out.2)).trans HB5.out.2
  have e36 := ((below2 HB45.out hb6).block _ (block_lt H4.out.2.2)).trans H4.out.2.2
  have x0 := cell_at e56 0 _ rfl
  have x1 := cell_at e56 1 _ rfl
  have y0 := cell_at e36 0 _ rfl
  have y1 := cell_at e36 1 _ rfl
  have HF := Lib.hid (below2 (below2 H4.out.1 HB45.out) hb6)
  clear hb6 e56 e36
  go_wp2_with fail
  go_ret
  exact ⟨rfl, HF.out⟩
/-- The walk, in the order that the row's printer hands its arguments. -/
theorem keyReads_cc (b : List UInt8) (A : Option Addr) (c : Nat) (d : List Bool) (A2 : Option Addr) (c2 : Nat) (W : World) (hT : Tabs W) (h : RY W A b ∧ b.length ≤ c ∧ (A = none → c = 0)) (hD : RB W A2 d) :
    Calls Tryd.prog 8 #[.slice A b.length c, .slice A2 d.length c2] W fun e w' => e = .returned (.bool true) ∧ Below W.heap.size W w' := keyReads_c b A c d A2 c2 W hT h.1 h.2.2 hD
end Go.Proofs.YthfejpldhemakaaDoor
