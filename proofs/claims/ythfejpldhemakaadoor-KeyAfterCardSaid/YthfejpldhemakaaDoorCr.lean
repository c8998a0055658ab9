import Derived.Test.YthfejpldhemakaaDoorC
namespace Go.Proofs.YthfejpldhemakaaDoor
open Go.RowKit Go.Sort
theorem ints_c (a b : Int) (w : World) :
    Calls Tryd.prog 71 #[.int .i64 a, .int .i64 b] w fun e w' => e = .returned (.int .i64 (cmpI a b)) ∧ w = w' := by
  by_cases h1 : a < b
  · have H := Lib.hid (show cmpI a b = -1 by simp [cmpI, h1])
    go_enter Tryd.func71, Tryd.ntmps71
    go_wp2
    go_ret
    exact ⟨ret_int (by rw [H.out]), rfl⟩
  · by_cases h2 : b < a
    · have H := Lib.hid (show cmpI a b = 1 by simp [cmpI, h1, h2])
      go_enter Tryd.func71, Tryd.ntmps71
      go_wp2
      go_ret
      exact ⟨ret_int (by rw [H.out]), rfl⟩
    · have H := Lib.hid (show cmpI a b = 0 by simp [cmpI, h1, h2])
      go_enter Tryd.func71, Tryd.ntmps71
      go_wp2
      go_ret
      exact ⟨ret_int (by rw [H.out]), rfl⟩
theorem bytes_three : ∀ (x y : List UInt8), (Op.bytesLess x y = true ∧ Lib.compareBytes x y = -1) ∨ (Op.bytesLess x y = false ∧ (x == y) = false ∧ Lib.compareBytes x y = 1) ∨ (Op.bytesLess x y = false ∧ (x == y) = true ∧ Lib.compareBytes x y = 0)
  | [], [] => .inr (.inr ⟨rfl, rfl, rfl⟩)
  | [], _ :: _ => .inl ⟨rfl, rfl⟩
  | _ :: _, [] => .inr (.inl ⟨rfl, rfl, rfl⟩)
  | a :: x, b :: y => by
    by_cases h1 : a < b
    · exact .inl ⟨by simp [Op.bytesLess, h1], by simp [Lib.compareBytes, h1]⟩
    · by_cases h2 : b < a
      · have hne : a ≠ b := fun he => by subst he; exact h1 h2
        exact .inr (.inl ⟨by simp [Op.bytesLess, h1, hne], by simp [hne], by simp [Lib.compareBytes, h1, h2]⟩)
      · have he : a = b := UInt8.le_antisymm (UInt8.not_lt.1 h2) (UInt8.not_lt.1 h1)
        subst he
        have := bytes_three x y
        simpa [Op.bytesLess, Lib.compareBytes, h1] using this
theorem texts_c (a b : ByteArray) (w : World) :
    Calls Tryd.prog 72 #[.string a, .string b] w fun e w' => e = .returned (.int .i64 (cmpT a b)) ∧ w = w' := by
  have h3 := bytes_three a.toList b.toList
  have hd : cmpT a b = Lib.compareBytes a.toList b.toList := by unfold cmpT; rw [ByteArray.toList_eq, ByteArray.toList_eq]
  obtain ⟨q, hq⟩ : ∃ q, cmpT a b = q := ⟨_, rfl⟩
  rw [hq] at hd ⊢
  rw [← hd] at h3
  clear hd hq
  rcases h3 with ⟨h, rfl⟩ | ⟨h, h', rfl⟩ | ⟨h, h', rfl⟩
  all_goals
    go_enter Tryd.func72, Tryd.ntmps72
    go_wp2_with fail
    go_ret
    exact ⟨rfl, rfl⟩
theorem cmpL_end {l l' : List V} {j : Nat} (hj : j ≤ l.length) (hj' : j ≤ l'.length) (h : ¬ (j < l.length ∧ j < l'.length)) : cmpL (l.drop j) (l'.drop j) = cmpI l.length l'.length := by
  by_cases h1 : j < l.length
  · have h2 : l'.length ≤ j := by omega
    rw [cmpL_long h1 h2, cmpI, if_neg (by omega), if_pos (by omega)]
  · rw [cmpL_done (by omega) hj' hj, cmpI]
    by_cases h2 : l.length < l'.length
    · rw [if_pos h2, if_pos (by omega)]
    · rw [if_neg h2, if_neg (by omega), if_neg (by omega)]
theorem cmpD_end {l l' : List (ByteArray × V)} {j : Nat} (hj : j ≤ l.length) (hj' : j ≤ l'.length) (h : ¬ (j < l.length ∧ j < l'.length)) : cmpD (l.drop j) (l'.drop j) = cmpI l.length l'.length := by
  by_cases h1 : j < l.length
  · have h2 : l'.length ≤ j := by omega
    rw [cmpD_long h1 h2, cmpI, if_neg (by omega), if_pos (by omega)]
  · rw [cmpD_done (by omega) hj' hj, cmpI]
    by_cases h2 : l.length < l'.length
    · rw [if_pos h2, if_pos (by omega)]
    · rw [if_neg h2, if_neg (by omega), if_neg (by omega)]
set_option maxHeartbeats 1000000 in
theorem rcompare_c (a : V) : ∀ (b : V) (cs cs' : List Value) (w : World), RV w a cs → RV w b cs' →
    Calls Tryd.prog 27 #[.agg cs.toArray, .agg cs'.toArray] w fun e w' => e = .returned (.int .i64 (cmpV a b)) ∧ Below w.heap.size w w' := by
  induction a using V.ind with
  | h k i t l d ihl ihd =>
    intro b cs cs' w hv hv'
    obtain ⟨k', i', t', l', d'⟩ := b
    obtain ⟨A, c, B, e, rfl, _, _, _, hA, hB⟩ := hv.inv
    obtain ⟨A', c', B', e', rfl, _, _, _, hA', hB'⟩ := hv'.inv
    have hbb : ∀ o o', Below w.heap.size w ((w.alloc o).alloc o') := below_alloc2 w
    have hl0 := hA.1
    have hl0' := hA'.1
    have hd0 := hB.1
    have hd0' := hB'.1
    clear hv hv'
    by_cases hk : k = k'
    case neg =>
      have hkb : (k == k') = false := by simpa using hk
      have H := Lib.hid (show cmpV (.mk k i t l d) (.mk k' i' t' l' d') = cmpI k k' by rw [cmpV, if_pos hk])
      clear hk
      go_enter Tryd.func27, Tryd.ntmps27
      go_wp2_with (go_at_call 71; refine (ints_c _ _ _).mono ?_; rintro e w1 ⟨rfl, rfl⟩)
      go_ret
      exact ⟨ret_int H.out.symm, hbb _ _⟩
    subst hk
    by_cases h3 : k = 3 ∨ k = 9 ∨ k = 10
    · have H := Lib.hid (show cmpV (.mk k i t l d) (.mk k i' t' l' d') = cmpI i i' by rw [cmpV, if_neg (by simp), if_pos h3])
      rcases h3 with rfl | rfl | rfl
      all_goals
        go_enter Tryd.func27, Tryd.ntmps27
        go_wp2_with (go_at_call 71; refine (ints_c _ _ _).mono ?_; rintro e w1 ⟨rfl, rfl⟩)
        go_ret
        exact ⟨ret_int H.out.symm, hbb _ _⟩
    by_cases h4 : k = 4 ∨ k = 7 ∨ k = 8
    · have H := Lib.hid (show cmpV (.mk k i t l d) (.mk k i' t' l' d') = cmpT t t' by rw [cmpV, if_neg (by simp), if_neg h3, if_pos h4])
      clear h3
      rcases h4 with rfl | rfl | rfl
      all_goals
        go_enter Tryd.func27, Tryd.ntmps27
        go_wp2_with (go_at_call 72; refine (texts_c _ _ _).mono ?_; rintro e w1 ⟨rfl, rfl⟩)
        go_ret
        exact ⟨ret_int H.out.symm, hbb _ _⟩
    by_cases h6 : k = 6
    · subst h6
      have H := Lib.hid (show cmpV (.mk 6 i t l d) (.mk 6 i' t' l' d') = cmpL l l' by rw [cmpV]; simp)
      clear h3 h4 ihd hB hB'
      go_enter Tryd.func27, Tryd.ntmps27
      go_wp2_with fail
      generalize hW0 : World.alloc (w.alloc _) _ = W0
      have hb0 : Below w.heap.size w W0 := by rw [← hW0]; exact hbb _ _
      have x3 : W0.cell? ⟨w.heap.size, 3, none⟩ = some (.slice A l.length c) := by rw [← hW0]; exact cell_alloc1 (box_cell 3 _ rfl) _
      have y3 : W0.cell? ⟨w.heap.size + 1, 3, none⟩ = some (.slice A' l'.length c') := by rw [← hW0]; exact (World.cell?_alloc_at _ _ _ 3 (by simp)).trans rfl
      clear hW0 hbb
      go_loopw [5] (fun ix wr => ∃ j : Nat, j ≤ l.length ∧ j ≤ l'.length ∧ ix = .int .i64 j ∧ Hid (cmpL (l.drop j) (l'.drop j) = cmpL l l') ∧ Below W0.heap.size W0 wr) (fun ix _ => l.length - (intOf ix).toNat)
      case atStart => exact ⟨0, by omega, by omega, rfl, Lib.hid rfl, Below.refl _ _⟩
      case round =>
        obtain ⟨j, hj, hj', rfl, hrec, hb⟩ := hrel
        have hbw := below2 hb0 hb
        have z3 := cell_grow hb x3
        have u3 := cell_grow hb y3
        by_cases hlt : j < l.length
        · by_cases hlt' : j < l'.length
          · obtain ⟨b, off, a0, n0, a1, n1, rfl, hrv, f0, f1, f2, f3, f4⟩ := (hA.grow hbw).get j hlt
            obtain ⟨b', off', a0', n0', a1', n1', rfl, hrv', g0, g1, g2, g3, g4⟩ := (hA'.grow hbw).get j hlt'
            have Hst := Lib.hid (cmpL_step hlt hlt')
            obtain ⟨q, hq⟩ : ∃ q, cmpV l[j] l'[j] = q := ⟨_, rfl⟩
            have hih := fun dd os => Calls.regrown_of (ihl l[j] (List.getElem_mem hlt) l'[j] _ _ _ (hrv.grow (below_regrown wr dd os)) (hrv'.grow (below_regrown wr dd os)))
            simp only [hq] at hih
            have HQ := Lib.hid hq
            clear ihl hA hA' hq hrv hrv'
            go_wp2_with fail
            have k3 := cell_regrown z3
            have k4 := cell_regrown u3
            have m0 := cell_regrown f0
            have m1 := cell_regrown f1
            have m2 := cell_regrown f2
            have m3 := cell_regrown f3
            have m4 := cell_regrown f4
            have p0 := cell_regrown g0
            have p1 := cell_regrown g1
            have p2 := cell_regrown g2
            have p3 := cell_regrown g3
            have p4 := cell_regrown g4
            refine wp_region_quiet_below (by kernel_rfl) (by kernel_rfl) ?_
            repeat (go_big_quiet_step (exact hih _ _))
            refine wpQuiet_nil ?_
            intro _ hw'
            obtain ⟨⟨dq, osq⟩, hw''⟩ := hw'
            subst hw''
            clear k3 k4 m0 m1 m2 m3 m4 p0 p1 p2 p3 p4 hih
            by_cases hz : q = 0
            · subst hz
              go_wp2_with fail
              go_roundw
              case rel => exact ⟨j + 1, by omega, by omega, by go_num, Lib.hid (by rw [← hrec.out, Hst.out, HQ.out]; rfl), below2 hb (below_regrown wr _ _)⟩
              case measure => simp [intOf]; omega
            · have hzb : (q != 0) = true := by simpa using hz
              have HZ := Lib.hid hz
              clear hz
              go_wp2_with fail
              go_ret
              exact ⟨ret_int (by rw [H.out, ← hrec.out, Hst.out, HQ.out, if_pos HZ.out]), below2 hbw (below_regrown wr _ _)⟩
          · have HE := Lib.hid (cmpL_end hj hj' (by omega))
            clear ihl hA hA'
            go_wp2_with (go_at_call 71; refine (ints_c _ _ _).mono ?_; rintro e w1 ⟨rfl, rfl⟩)
            go_ret
            exact ⟨ret_int (by rw [H.out, ← hrec.out, HE.out]), hbw⟩
        · have HE := Lib.hid (cmpL_end hj hj' (by omega))
          clear ihl hA hA'
          go_wp2_with (go_at_call 71; refine (ints_c _ _ _).mono ?_; rintro e w1 ⟨rfl, rfl⟩)
          go_ret
          exact ⟨ret_int (by rw [H.out, ← hrec.out, HE.out]), hbw⟩
    by_cases h5 : k = 5
    · subst h5
      have H := Lib.hid (show cmpV (.mk 5 i t l d) (.mk 5 i' t' l' d') = cmpD d d' by rw [cmpV]; simp)
      clear h3 h4 h6 ihl hA hA'
      go_enter Tryd.func27, Tryd.ntmps27
      go_wp2_with fail
      generalize hW0 : World.alloc (w.alloc _) _ = W0
      have hb0 : Below w.heap.size w W0 := by rw [← hW0]; exact hbb _ _
      have x4 : W0.cell? ⟨w.heap.size, 4, none⟩ = some (.slice B d.length e) := by rw [← hW0]; exact cell_alloc1 (box_cell 4 _ rfl) _
      have y4 : W0.cell? ⟨w.heap.size + 1, 4, none⟩ = some (.slice B' d'.length e') := by rw [← hW0]; exact (World.cell?_alloc_at _ _ _ 4 (by simp)).trans rfl
      clear hW0 hbb
      go_loopw [7] (fun ix wr => ∃ j : Nat, j ≤ d.length ∧ j ≤ d'.length ∧ ix = .int .i64 j ∧ Hid (cmpD (d.drop j) (d'.drop j) = cmpD d d') ∧ Below W0.heap.size W0 wr) (fun ix _ => d.length - (intOf ix).toNat)
      case atStart => exact ⟨0, by omega, by omega, rfl, Lib.hid rfl, Below.refl _ _⟩
      case round =>
        obtain ⟨j, hj, hj', rfl, hrec, hb⟩ := hrel
        have hbw := below2 hb0 hb
        have z3 := cell_grow hb x4
        have u3 := cell_grow hb y4
        by_cases hlt : j < d.length
        · by_cases hlt' : j < d'.length
          · obtain ⟨b, off, a0, n0, a1, n1, rfl, _, hrv, f0, f1, f2, f3, f4, f5⟩ := (hB.grow hbw).get j hlt
            obtain ⟨b', off', a0', n0', a1', n1', rfl, _, hrv', g0, g1, g2, g3, g4, g5⟩ := (hB'.grow hbw).get j hlt'
            have Hst := Lib.hid (cmpD_step hlt hlt')
            obtain ⟨q, hq⟩ : ∃ q, cmpV d[j].2 d'[j].2 = q := ⟨_, rfl⟩
            obtain ⟨r, hr⟩ : ∃ r, cmpT d[j].1 d'[j].1 = r := ⟨_, rfl⟩
            have hT := fun dd os => regrown_same (texts_c d[j].1 d'[j].1 (grow (redrawn wr dd) os))
            simp only [hr] at hT
            have HQ := Lib.hid (And.intro hq hr)
            have hIH := Lib.hid (ihd d[j] (List.getElem_mem hlt) d'[j].2)
            clear ihd hB hB' hq hr
            go_wp2_with fail
            have k3 := cell_regrown z3
            have k4 := cell_regrown u3
            have m0 := cell_regrown f0
            have p0 := cell_regrown g0
            refine wp_region_quiet_below (by kernel_rfl) (by kernel_rfl) ?_
            repeat (go_big_quiet_step (exact hT _ _))
            refine wpQuiet_nil ?_
            intro _ hw'
            obtain ⟨⟨dq, osq⟩, hw''⟩ := hw'
            subst hw''
            clear k3 k4 m0 p0 hT
            obtain ⟨wx, hwx⟩ : ∃ wx : World, grow (redrawn wr dq) osq = wx := ⟨_, rfl⟩
            have hbx : Below wr.heap.size wr wx := by rw [← hwx]; exact below_regrown wr dq osq
            rw [hwx]
            clear hwx
            by_cases hz : r = 0
            · subst hz
              replace f1 := cell_grow hbx f1
              replace f2 := cell_grow hbx f2
              replace f3 := cell_grow hbx f3
              replace f4 := cell_grow hbx f4
              replace f5 := cell_grow hbx f5
              replace g1 := cell_grow hbx g1
              replace g2 := cell_grow hbx g2
              replace g3 := cell_grow hbx g3
              replace g4 := cell_grow hbx g4
              replace g5 := cell_grow hbx g5
              have z3' := cell_grow hbx z3
              have u3' := cell_grow hbx u3
              have hih := fun dd os => Calls.regrown_of (hIH.out _ _ _ ((hrv.grow hbx).grow (below_regrown wx dd os)) ((hrv'.grow hbx).grow (below_regrown wx dd os)))
              simp only [HQ.out.1] at hih
              clear z3 u3 f0 g0 hIH hrv hrv'
              go_wp2_with fail
              have k3 := cell_regrown z3'
              have k4 := cell_regrown u3'
              have m1 := cell_regrown f1
              have m2 := cell_regrown f2
              have m3 := cell_regrown f3
              have m4 := cell_regrown f4
              have m5 := cell_regrown f5
              have p1 := cell_regrown g1
              have p2 := cell_regrown g2
              have p3 := cell_regrown g3
              have p4 := cell_regrown g4
              have p5 := cell_regrown g5
              refine wp_region_quiet_below (by kernel_rfl) (by kernel_rfl) ?_
              repeat (go_big_quiet_step (exact hih _ _))
              refine wpQuiet_nil ?_
              intro _ hw'
              obtain ⟨⟨dq, osq⟩, hw''⟩ := hw'
              subst hw''
              clear k3 k4 m1 m2 m3 m4 m5 p1 p2 p3 p4 p5 hih
              have hb3 := below2 hb (below2 hbx (below_regrown wx dq osq))
              by_cases hz : q = 0
              · subst hz
                go_wp2_with fail
                go_roundw
                case rel => exact ⟨j + 1, by omega, by omega, by go_num, Lib.hid (by rw [← hrec.out, Hst.out, HQ.out.1, HQ.out.2]; rfl), hb3⟩
                case measure => simp [intOf]; omega
              · have hzb : (q != 0) = true := by simpa using hz
                have HZ := Lib.hid hz
                clear hz
                go_wp2_with fail
                go_ret
                exact ⟨ret_int (by rw [H.out, ← hrec.out, Hst.out, HQ.out.1, HQ.out.2]; simp [orI, HZ.out]), below2 hb0 hb3⟩
            · have hzb : (r == 0) = false := by simpa using hz
              have hzc : (r != 0) = true := by simpa using hz
              have HZ := Lib.hid hz
              clear hz f0 f1 f2 f3 f4 f5 g0 g1 g2 g3 g4 g5 z3 u3 hIH
              go_wp2_with fail
              go_ret
              exact ⟨ret_int (by rw [H.out, ← hrec.out, Hst.out, HQ.out.1, HQ.out.2]; simp [orI, HZ.out]), below2 hbw hbx⟩
          · have HE := Lib.hid (cmpD_end hj hj' (by omega))
            clear ihd hB hB'
            go_wp2_with (go_at_call 71; refine (ints_c _ _ _).mono ?_; rintro e w1 ⟨rfl, rfl⟩)
            go_ret
            exact ⟨ret_int (by rw [H.out, ← hrec.out, HE.out]), hbw⟩
        · have HE := Lib.hid (cmpD_end hj hj' (by omega))
          clear ihd hB hB'
          go_wp2_with (go_at_call 71; refine (ints_c _ _ _).mono ?_; rintro e w1 ⟨rfl, rfl⟩)
          go_ret
          exact ⟨ret_int (by rw [H.out, ← hrec.out, HE.out]), hbw⟩
    have H := Lib.hid (show cmpV (.mk k i t l d) (.mk k i' t' l' d') = 0 by rw [cmpV, if_neg (by simp), if_neg h3, if_neg h4, if_neg h6, if_neg h5])
    have e3 : (k == 3) = false := by simp; omega
    have e4 : (k == 4) = false := by simp; omega
    have e5 : (k == 5) = false := by simp; omega
    have e6 : (k == 6) = false := by simp; omega
    have e7 : (k == 7) = false := by simp; omega
    have e8 : (k == 8) = false := by simp; omega
    have e9 : (k == 9) = false := by simp; omega
    have e10 : (k == 10) = false := by simp; omega
    clear h3 h4 h5 h6 ihl ihd hA hA' hB hB'
    go_enter Tryd.func27, Tryd.ntmps27
    go_wp2_with fail
    go_ret
    exact ⟨ret_int H.out.symm, hbb _ _⟩
end Go.Proofs.YthfejpldhemakaaDoor
