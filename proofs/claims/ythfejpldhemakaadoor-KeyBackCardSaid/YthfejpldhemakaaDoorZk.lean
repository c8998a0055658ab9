import Derived.Test.YthfejpldhemakaaDoorSi
namespace Go.Proofs.YthfejpldhemakaaDoor
open Go.RowKit Go.Sort Go.Lib
theorem back_begins {a b : List V} {d : List Bool} {x y : List UInt8} (h : keyV a d = (0, x)) (k : keyV b d = (0, y)) (hs : ∀ v ∈ a, rightV v = 0 → Shape v) (ks : ∀ v ∈ b, rightV v = 0 → Shape v) (hl : x.length < y.length) : ¬ cmpB x (y.take x.length) = 0 :=
  fun he => back_free h k hs ks hl ((cmpB_same _ _).1 he)
set_option maxRecDepth 100000 in
set_option maxHeartbeats 8000000 in
theorem keyBack_c (a : List V) (A : Option Addr) (c : Nat) (b : List V) (A' : Option Addr) (c' : Nat) (d : List Bool) (A2 : Option Addr) (c2 : Nat) (x : List UInt8) (A3 : Option Addr) (c3 : Nat) (W : World) (hT : Tabs W) (hA : RL W a A c) (hB : RL W b A' c') (hD : RB W A2 d) (hX : RY W A3 x) :
    Calls Tryd.prog 10 #[.slice A a.length c, .slice A' b.length c', .slice A2 d.length c2, .slice A3 x.length c3] W fun e w' => e = .returned (.bool true) ∧ Below W.heap.size W w' := by
  have hsa := hA.shapes
  have hsb := hB.shapes
  have HXL := Lib.hid hX.1
  obtain ⟨re, xs, hkx⟩ : ∃ r xs, keyV a d = (r, xs) := ⟨_, _, rfl⟩
  obtain ⟨rf, ys, hky⟩ : ∃ r xs, keyV b d = (r, xs) := ⟨_, _, rfl⟩
  obtain ⟨r, l, hrl⟩ : ∃ r l, readV x d = (r, l) := ⟨_, _, rfl⟩
  have HBF : Hid (re = 0 → rf = 0 → xs.length < ys.length → ¬ cmpB xs (ys.take xs.length) = 0) := Lib.hid fun h1 h2 hl => by
    rw [h1] at hkx; rw [h2] at hky; exact back_begins hkx hky hsa hsb hl
  have HBR : Hid (re = 0 → readV xs d = (0, a)) := Lib.hid fun h1 => by rw [h1] at hkx; exact back_read hkx hsa
  have HXY : Hid (xs.length ≤ 140737488355328 ∧ ys.length ≤ 140737488355328) := Lib.hid (by
    have h1 := keyV_len a d; have h2 := keyV_len b d
    rw [hkx] at h1; rw [hky] at h2
    simp only at h1 h2
    omega)
  have HLn := Lib.hid (readV_len x d)
  have hk1 := fun w hT hA hD => key_c a d A A2 c c2 w hT hA hD
  have hk2 := fun w hT hA hD => key_c b d A' A2 c' c2 w hT hA hD
  have hk3 : r = 0 → ∀ P pc w, Tabs w → RL w l P pc → RB w A2 d → Calls Tryd.prog 37 #[.slice P l.length pc, .slice A2 d.length c2] w (KeyPost w (0, x)) := fun h P pc w hT hA hD => by
    have := key_c l d P A2 pc c2 w hT hA hD
    rw [h] at hrl
    rwa [back_key hrl] at this
  have hl0 : ¬ r = 0 → l = [] := fun h => readV_fault hrl h
  have hrd := fun P pc w hT hA hD => read_c P A2 pc c2 w hT x d hA hD
  have hrx := fun P pc w hT hA hD => read_c P A2 pc c2 w hT xs d hA hD
  rw [hkx] at hk1
  rw [hky] at hk2
  rw [hrl] at hrd HLn
  obtain ⟨na, hna⟩ : ∃ n, a.length = n := ⟨_, rfl⟩
  obtain ⟨nb, hnb⟩ : ∃ n, b.length = n := ⟨_, rfl⟩
  obtain ⟨nd, hnd⟩ : ∃ n, d.length = n := ⟨_, rfl⟩
  obtain ⟨nx, hnx⟩ : ∃ n, x.length = n := ⟨_, rfl⟩
  rw [hna, hnd] at hk1
  rw [hnb, hnd] at hk2
  rw [hnd] at hk3 hrx
  rw [hnx, hnd] at hrd
  have HSL := Lib.hid (fun w P pc (hP : RL w a P pc) (hA : RL w a A c) => samelist_c a a P A pc c w hP hA)
  rw [hna] at HSL
  have HNA := Lib.hid hna
  rw [hna, hnb, hnd, hnx]
  have HN := Lib.hid (And.intro hna (And.intro hnb (And.intro hnd hnx)))
  have HK := Lib.hid (And.intro hk1 (And.intro hk2 (And.intro hl0 hk3)))
  have HR := Lib.hid hrd
  have HRX := Lib.hid hrx
  have HA := Lib.hid (And.intro hT (And.intro hA (And.intro hB (And.intro hD (And.intro hX True.intro)))))
  clear hsa hsb hkx hky hrl hk1 hk2 hk3 hl0 hrd hrx hna hnb hnd hnx hT hA hB hD hX
  go_enter Tryd.func10, Tryd.ntmps10
  go_wp2_with fail
  refine (awake03_c W HA.out.1).mono ?_
  rintro e w1 ⟨rfl, hb1⟩
  have HB1 := Lib.hid hb1
  clear hb1
  go_wp2_with fail
  refine (HK.out.1 w1 (HA.out.1.grow HB1.out) (HA.out.2.1.grow HB1.out) (HA.out.2.2.2.1.grow HB1.out)).mono ?_
  rintro e w2 ⟨va, rfl, hba, _, hb2⟩
  obtain ⟨Aa, ca, rfl, _⟩ := hba.form
  have H2 := Lib.hid (And.intro hba hb2)
  have HB2 := Lib.hid (below2 HB1.out hb2)
  clear hba hb2
  go_wp2_with fail
  refine (HK.out.2.1 w2 (HA.out.1.grow HB2.out) (HA.out.2.2.1.grow HB2.out) (HA.out.2.2.2.1.grow HB2.out)).mono ?_
  rintro e w3 ⟨vb, rfl, hbb, _, hb3⟩
  obtain ⟨Ab, cb, rfl, hcb⟩ := hbb.form
  have HX3 := Lib.hid (H2.out.1.grow hb3)
  have HY3 := Lib.hid hbb
  have HB3 := Lib.hid (below2 HB2.out hb3)
  clear hbb hb3
  have hcb : ys.length ≤ cb := hcb
  have hxcb : xs.length < ys.length → xs.length ≤ cb := fun h => by omega
  by_cases he0 : re = 0
  · subst he0
    go_wp2_with fail
    have hrx := HRX.out Aa ca w3 (HA.out.1.grow HB3.out) (HX3.out.ry HXY.out.1) (HA.out.2.2.2.1.grow HB3.out)
    rw [HBR.out (by trivial)] at hrx
    refine hrx.mono ?_
    clear hrx
    rintro e w4 ⟨L, sl, rfl, hL, hpl, hb4⟩
    have hz0 : faultAt 0 = 0 := rfl
    have hl4 : L.length ≤ 300 := by
      have h1 := congrArg List.length hL
      have h2 := readV_len xs d
      rw [HBR.out (by trivial)] at h2
      simp at h1 h2
      omega
    have H4 := Lib.hid (And.intro (show L.map (·.1) = a from hL) (And.intro hpl hb4))
    clear hL hpl hb4
    go_wp2_with fail
    generalize hW4 : World.alloc w4 _ = W4
    have e4 : W4.heap[w4.heap.size]? = some (.cells #[.int .i64 0, .int .i64 0] 49 (0, 0)) := by rw [← hW4]; exact heap_alloc_new _ _
    have hb4 : Below w4.heap.size w4 W4 := by rw [← hW4]; exact below_alloc1 _ _
    clear hW4 hz0
    obtain ⟨Q, qc, rfl, hrl⟩ := (H4.out.2.1.grow hb4).rl (by omega)
    rw [H4.out.1] at hrl ⊢
    rw [HN.out.1]
    have h34 := below2 H4.out.2.2 hb4
    have hB4 := below2 HB3.out h34
    refine (HSL.out W4 Q qc hrl (HA.out.2.1.grow hB4)).mono ?_
    rintro e w5 ⟨rfl, hb5⟩
    have hss := sameLL_self a
    have e45 := (hb5.block _ (block_lt e4)).trans e4
    have y0 := cell_at e45 0 _ rfl
    have y1 := cell_at e45 1 _ rfl
    have h35 := below2 h34 hb5
    have HX5 := Lib.hid (HX3.out.grow h35)
    have HY5 := Lib.hid (HY3.out.grow h35)
    have HB5 := Lib.hid (below2 hB4 hb5)
    clear e4 hb4 hrl h34 hB4 hb5 e45 h35 hl4
    by_cases hf0 : rf = 0
    · subst hf0
      by_cases hlt : xs.length < ys.length
      · have hlt' : (xs.length : Int) < (ys.length : Int) := by omega
        have hcy := HY5.out.form
        go_wp2_with fail
        refine (comp_c Aa Ab ca cb xs.length xs.length xs (ys.take xs.length) rfl (by rw [List.length_take]; omega) w5 (HX5.out.ry HXY.out.1) ((HY5.out.ry HXY.out.2).take _)).mono ?_
        rintro e w7 ⟨rfl, hb7⟩
        have hne := HBF.out (by trivial) (by trivial) hlt
        obtain ⟨K, hK⟩ : ∃ K, cmpB xs (ys.take xs.length) = K := ⟨_, rfl⟩
        rw [hK] at hne ⊢
        have hkb : (K == 0) = false := by simp [hne]
        have HW7 := Lib.hid (below2 HB5.out hb7)
        clear hb7 hK hne
        go_wp2_with fail
        refine (HR.out A3 c3 w7 (HA.out.1.grow HW7.out) (HA.out.2.2.2.2.1.grow HW7.out) (HA.out.2.2.2.1.grow HW7.out)).mono ?_
        rintro e w8 ⟨L, sl, rfl, hL, hpl, hb8⟩
        obtain ⟨A8, c8, rfl, _⟩ := ownsRow_slice hpl.row
        have H8 := Lib.hid (And.intro (show L.map (·.1) = l from hL) (And.intro hpl hb8))
        have H08 := Lib.hid (below2 HW7.out hb8)
        clear hL hpl hb8
        by_cases hr0 : r = 0
        · subst hr0
          have hl4 : L.length ≤ 4 := by have := HLn.out; rw [← H8.out.1] at this; simpa using this
          have HK3 := Lib.hid (HK.out.2.2.2 (by trivial))
          go_wp2_with fail
          generalize hW8 : World.alloc w8 _ = W8
          have hb8 : Below w8.heap.size w8 W8 := by rw [← hW8]; exact below_alloc1 _ _
          clear hW8
          obtain ⟨P, pc, hsl, hrl⟩ := (H8.out.2.1.grow hb8).rl (by omega)
          simp only [Value.slice.injEq] at hsl
          obtain ⟨rfl, hdrop, rfl⟩ := hsl
          clear hdrop
          rw [H8.out.1] at hrl
          have HB8 := Lib.hid (And.intro (below2 H08.out hb8) hrl)
          have hll : L.length = l.length := by rw [← H8.out.1]; simp
          have hk := HK3.out A8 c8 W8 (HA.out.1.grow HB8.out.1) HB8.out.2 (HA.out.2.2.2.1.grow HB8.out.1)
          rw [← hll] at hk
          clear hb8 hrl hll hl4
          refine hk.mono ?_
          clear hk
          rintro e w9 ⟨vz, rfl, hbz, _, hb9⟩
          obtain ⟨Az, cz, rfl, _⟩ := hbz.form
          have H9 := Lib.hid (And.intro hbz hb9)
          have HB9 := Lib.hid (below2 HB8.out.1 hb9)
          clear hbz hb9
          rw [HN.out.2.2.2]
          go_wp2_with fail
          refine (bsame_c Az A3 cz c3 nx nx x x HN.out.2.2.2.symm HN.out.2.2.2.symm w9 (H9.out.1.ry HXL.out) (HA.out.2.2.2.2.1.grow HB9.out)).mono ?_
          rintro e w10 ⟨rfl, hb10⟩
          have hdc : decide (x = x) = true := by simp
          have HF := Lib.hid (below2 HB9.out hb10)
          clear hb10
          go_wp2_with fail
          go_ret
          exact ⟨rfl, HF.out⟩
        · have hrn : (r != 0) = true := by simp [hr0]
          have hfa : faultAt r = -1 := by simp [faultAt, hr0]
          have hl0 : L.length = 0 := by have := H8.out.1; rw [HK.out.2.2.1 hr0] at this; simpa using this
          rw [hl0]
          have HF := Lib.hid (fun o => below2 H08.out (below_alloc1 w8 o))
          clear hl0
          go_wp2_with fail
          go_ret
          exact ⟨rfl, HF.out _⟩
      · have hlt' : ¬ (xs.length : Int) < (ys.length : Int) := by omega
        go_wp2_with fail
        refine (HR.out A3 c3 w5 (HA.out.1.grow HB5.out) (HA.out.2.2.2.2.1.grow HB5.out) (HA.out.2.2.2.1.grow HB5.out)).mono ?_
        rintro e w8 ⟨L, sl, rfl, hL, hpl, hb8⟩
        obtain ⟨A8, c8, rfl, _⟩ := ownsRow_slice hpl.row
        have H8 := Lib.hid (And.intro (show L.map (·.1) = l from hL) (And.intro hpl hb8))
        have H08 := Lib.hid (below2 HB5.out hb8)
        clear hL hpl hb8
        by_cases hr0 : r = 0
        · subst hr0
          have hl4 : L.length ≤ 4 := by have := HLn.out; rw [← H8.out.1] at this; simpa using this
          have HK3 := Lib.hid (HK.out.2.2.2 (by trivial))
          go_wp2_with fail
          generalize hW8 : World.alloc w8 _ = W8
          have hb8 : Below w8.heap.size w8 W8 := by rw [← hW8]; exact below_alloc1 _ _
          clear hW8
          obtain ⟨P, pc, hsl, hrl⟩ := (H8.out.2.1.grow hb8).rl (by omega)
          simp only [Value.slice.injEq] at hsl
          obtain ⟨rfl, hdrop, rfl⟩ := hsl
          clear hdrop
          rw [H8.out.1] at hrl
          have HB8 := Lib.hid (And.intro (below2 H08.out hb8) hrl)
          have hll : L.length = l.length := by rw [← H8.out.1]; simp
          have hk := HK3.out A8 c8 W8 (HA.out.1.grow HB8.out.1) HB8.out.2 (HA.out.2.2.2.1.grow HB8.out.1)
          rw [← hll] at hk
          clear hb8 hrl hll hl4
          refine hk.mono ?_
          clear hk
          rintro e w9 ⟨vz, rfl, hbz, _, hb9⟩
          obtain ⟨Az, cz, rfl, _⟩ := hbz.form
          have H9 := Lib.hid (And.intro hbz hb9)
          have HB9 := Lib.hid (below2 HB8.out.1 hb9)
          clear hbz hb9
          rw [HN.out.2.2.2]
          go_wp2_with fail
          refine (bsame_c Az A3 cz c3 nx nx x x HN.out.2.2.2.symm HN.out.2.2.2.symm w9 (H9.out.1.ry HXL.out) (HA.out.2.2.2.2.1.grow HB9.out)).mono ?_
          rintro e w10 ⟨rfl, hb10⟩
          have hdc : decide (x = x) = true := by simp
          have HF := Lib.hid (below2 HB9.out hb10)
          clear hb10
          go_wp2_with fail
          go_ret
          exact ⟨rfl, HF.out⟩
        · have hrn : (r != 0) = true := by simp [hr0]
          have hfa : faultAt r = -1 := by simp [faultAt, hr0]
          have hl0 : L.length = 0 := by have := H8.out.1; rw [HK.out.2.2.1 hr0] at this; simpa using this
          rw [hl0]
          have HF := Lib.hid (fun o => below2 H08.out (below_alloc1 w8 o))
          clear hl0
          go_wp2_with fail
          go_ret
          exact ⟨rfl, HF.out _⟩
    · have hfb : (rf == 0) = false := by simp [hf0]
      go_wp2_with fail
      refine (HR.out A3 c3 w5 (HA.out.1.grow HB5.out) (HA.out.2.2.2.2.1.grow HB5.out) (HA.out.2.2.2.1.grow HB5.out)).mono ?_
      rintro e w8 ⟨L, sl, rfl, hL, hpl, hb8⟩
      obtain ⟨A8, c8, rfl, _⟩ := ownsRow_slice hpl.row
      have H8 := Lib.hid (And.intro (show L.map (·.1) = l from hL) (And.intro hpl hb8))
      have H08 := Lib.hid (below2 HB5.out hb8)
      clear hL hpl hb8
      by_cases hr0 : r = 0
      · subst hr0
        have hl4 : L.length ≤ 4 := by have := HLn.out; rw [← H8.out.1] at this; simpa using this
        have HK3 := Lib.hid (HK.out.2.2.2 (by trivial))
        go_wp2_with fail
        generalize hW8 : World.alloc w8 _ = W8
        have hb8 : Below w8.heap.size w8 W8 := by rw [← hW8]; exact below_alloc1 _ _
        clear hW8
        obtain ⟨P, pc, hsl, hrl⟩ := (H8.out.2.1.grow hb8).rl (by omega)
        simp only [Value.slice.injEq] at hsl
        obtain ⟨rfl, hdrop, rfl⟩ := hsl
        clear hdrop
        rw [H8.out.1] at hrl
        have HB8 := Lib.hid (And.intro (below2 H08.out hb8) hrl)
        have hll : L.length = l.length := by rw [← H8.out.1]; simp
        have hk := HK3.out A8 c8 W8 (HA.out.1.grow HB8.out.1) HB8.out.2 (HA.out.2.2.2.1.grow HB8.out.1)
        rw [← hll] at hk
        clear hb8 hrl hll hl4
        refine hk.mono ?_
        clear hk
        rintro e w9 ⟨vz, rfl, hbz, _, hb9⟩
        obtain ⟨Az, cz, rfl, _⟩ := hbz.form
        have H9 := Lib.hid (And.intro hbz hb9)
        have HB9 := Lib.hid (below2 HB8.out.1 hb9)
        clear hbz hb9
        rw [HN.out.2.2.2]
        go_wp2_with fail
        refine (bsame_c Az A3 cz c3 nx nx x x HN.out.2.2.2.symm HN.out.2.2.2.symm w9 (H9.out.1.ry HXL.out) (HA.out.2.2.2.2.1.grow HB9.out)).mono ?_
        rintro e w10 ⟨rfl, hb10⟩
        have hdc : decide (x = x) = true := by simp
        have HF := Lib.hid (below2 HB9.out hb10)
        clear hb10
        go_wp2_with fail
        go_ret
        exact ⟨rfl, HF.out⟩
      · have hrn : (r != 0) = true := by simp [hr0]
        have hfa : faultAt r = -1 := by simp [faultAt, hr0]
        have hl0 : L.length = 0 := by have := H8.out.1; rw [HK.out.2.2.1 hr0] at this; simpa using this
        rw [hl0]
        have HF := Lib.hid (fun o => below2 H08.out (below_alloc1 w8 o))
        clear hl0
        go_wp2_with fail
        go_ret
        exact ⟨rfl, HF.out _⟩
  · have heb : (re == 0) = false := by simp [he0]
    go_wp2_with fail
    refine (HR.out A3 c3 w3 (HA.out.1.grow HB3.out) (HA.out.2.2.2.2.1.grow HB3.out) (HA.out.2.2.2.1.grow HB3.out)).mono ?_
    rintro e w8 ⟨L, sl, rfl, hL, hpl, hb8⟩
    obtain ⟨A8, c8, rfl, _⟩ := ownsRow_slice hpl.row
    have H8 := Lib.hid (And.intro (show L.map (·.1) = l from hL) (And.intro hpl hb8))
    have H08 := Lib.hid (below2 HB3.out hb8)
    clear hL hpl hb8
    by_cases hr0 : r = 0
    · subst hr0
      have hl4 : L.length ≤ 4 := by have := HLn.out; rw [← H8.out.1] at this; simpa using this
      have HK3 := Lib.hid (HK.out.2.2.2 (by trivial))
      go_wp2_with fail
      generalize hW8 : World.alloc w8 _ = W8
      have hb8 : Below w8.heap.size w8 W8 := by rw [← hW8]; exact below_alloc1 _ _
      clear hW8
      obtain ⟨P, pc, hsl, hrl⟩ := (H8.out.2.1.grow hb8).rl (by omega)
      simp only [Value.slice.injEq] at hsl
      obtain ⟨rfl, hdrop, rfl⟩ := hsl
      clear hdrop
      rw [H8.out.1] at hrl
      have HB8 := Lib.hid (And.intro (below2 H08.out hb8) hrl)
      have hll : L.length = l.length := by rw [← H8.out.1]; simp
      have hk := HK3.out A8 c8 W8 (HA.out.1.grow HB8.out.1) HB8.out.2 (HA.out.2.2.2.1.grow HB8.out.1)
      rw [← hll] at hk
      clear hb8 hrl hll hl4
      refine hk.mono ?_
      clear hk
      rintro e w9 ⟨vz, rfl, hbz, _, hb9⟩
      obtain ⟨Az, cz, rfl, _⟩ := hbz.form
      have H9 := Lib.hid (And.intro hbz hb9)
      have HB9 := Lib.hid (below2 HB8.out.1 hb9)
      clear hbz hb9
      rw [HN.out.2.2.2]
      go_wp2_with fail
      refine (bsame_c Az A3 cz c3 nx nx x x HN.out.2.2.2.symm HN.out.2.2.2.symm w9 (H9.out.1.ry HXL.out) (HA.out.2.2.2.2.1.grow HB9.out)).mono ?_
      rintro e w10 ⟨rfl, hb10⟩
      have hdc : decide (x = x) = true := by simp
      have HF := Lib.hid (below2 HB9.out hb10)
      clear hb10
      go_wp2_with fail
      go_ret
      exact ⟨rfl, HF.out⟩
    · have hrn : (r != 0) = true := by simp [hr0]
      have hfa : faultAt r = -1 := by simp [faultAt, hr0]
      have hl0 : L.length = 0 := by have := H8.out.1; rw [HK.out.2.2.1 hr0] at this; simpa using this
      rw [hl0]
      have HF := Lib.hid (fun o => below2 H08.out (below_alloc1 w8 o))
      clear hl0
      go_wp2_with fail
      go_ret
      exact ⟨rfl, HF.out _⟩
/-- The walk, in the order that the row's printer hands its arguments. -/
theorem keyBack_cc (a : List V) (A : Option Addr) (c : Nat) (b : List V) (A' : Option Addr) (c' : Nat) (d : List Bool) (A2 : Option Addr) (c2 : Nat) (x : List UInt8) (A3 : Option Addr) (c3 : Nat) (W : World) (hT : Tabs W) (hA : RL W a A c) (_ : ∀ x ∈ a, Slack 4096 x) (hB : RL W b A' c') (_ : ∀ x ∈ b, Slack 4096 x) (hD : RB W A2 d) (hX : RY W A3 x ∧ x.length ≤ c3 ∧ (A3 = none → c3 = 0)) :
    Calls Tryd.prog 10 #[.slice A a.length c, .slice A' b.length c', .slice A2 d.length c2, .slice A3 x.length c3] W fun e w' => e = .returned (.bool true) ∧ Below W.heap.size W w' := keyBack_c a A c b A' c' d A2 c2 x A3 c3 W hT hA hB hD hX.1
end Go.Proofs.YthfejpldhemakaaDoor
