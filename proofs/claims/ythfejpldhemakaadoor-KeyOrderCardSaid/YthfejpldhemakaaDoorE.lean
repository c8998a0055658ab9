import Derived.Test.YthfejpldhemakaaDoorT
import Derived.Test.YthfejpldhemakaaDoorO
import Derived.WalkSpells
import Derived.WalkLawsBesides
import Derived.KernelRfl
import Derived.BigQuiet
namespace Go.Proofs.YthfejpldhemakaaDoor
open Go.RowKit Go.Sort
mutual
def sameV : V → V → Bool
  | .mk k i t l d, .mk k' i' t' l' d' => decide (k = k') && decide (i = i') && decide (t = t') && decide (l.length = l'.length) && decide (d.length = d'.length) && sameL l l' && sameD d d'
def sameL : List V → List V → Bool
  | [], [] => true
  | x :: l, y :: l' => sameV x y && sameL l l'
  | _, _ => false
def sameD : List (ByteArray × V) → List (ByteArray × V) → Bool
  | [], [] => true
  | (n, x) :: l, (m, y) :: l' => decide (n = m) && sameV x y && sameD l l'
  | _, _ => false
end
theorem sameL_step {l l' : List V} {j : Nat} (h : j < l.length) (h' : j < l'.length) : sameL (l.drop j) (l'.drop j) = (sameV l[j] l'[j] && sameL (l.drop (j + 1)) (l'.drop (j + 1))) := by
  rw [List.drop_eq_getElem_cons h, List.drop_eq_getElem_cons h', sameL]
theorem sameD_step {d d' : List (ByteArray × V)} {j : Nat} (h : j < d.length) (h' : j < d'.length) : sameD (d.drop j) (d'.drop j) = (decide (d[j].1 = d'[j].1) && sameV d[j].2 d'[j].2 && sameD (d.drop (j + 1)) (d'.drop (j + 1))) := by
  rw [List.drop_eq_getElem_cons h, List.drop_eq_getElem_cons h', sameD]
theorem sameL_done {l l' : List V} (h : l'.length = l.length) : sameL (l.drop l.length) (l'.drop l.length) = true := by
  rw [List.drop_length, ← h, List.drop_length]; rfl
theorem sameD_done {l l' : List (ByteArray × V)} (h : l'.length = l.length) : sameD (l.drop l.length) (l'.drop l.length) = true := by
  rw [List.drop_length, ← h, List.drop_length]; rfl
theorem str_eq' {a b : ByteArray} (h : a = b) : (a.toList == b.toList) = true := by subst h; simp
theorem list_ne {a b : ByteArray} (h : a ≠ b) : ¬ a.toList = b.toList := by
  intro he
  apply h
  apply ByteArray.ext
  apply Array.toList_inj.1
  rw [ByteArray.toList_eq, ByteArray.toList_eq] at he
  exact he
set_option maxRecDepth 100000 in
set_option maxHeartbeats 2000000 in
theorem same_c (a : V) : ∀ (b : V) (cs cs' : List Value) (w : World), RV w a cs → RV w b cs' →
    Calls Tryd.prog 28 #[.agg cs.toArray, .agg cs'.toArray] w fun e w' => e = .returned (.bool (sameV a b)) ∧ Below w.heap.size w w' := by
  induction a using V.ind with
  | h k i t l d ihl ihd =>
    intro b cs cs' w hv hv'
    obtain ⟨k', i', t', l', d'⟩ := b
    obtain ⟨A, c, B, e, rfl, _, _, _, hA, hB⟩ := hv.inv
    obtain ⟨A', c', B', e', rfl, _, _, _, hA', hB'⟩ := hv'.inv
    have hbb : ∀ o o', Below w.heap.size w ((w.alloc o).alloc o') := below_alloc2 w
    by_cases hk : k = k'
    case neg =>
      have H := Lib.hid (show sameV (.mk k i t l d) (.mk k' i' t' l' d') = false by simp [sameV, hk])
      have hkb : (k != k') = true := by simpa using hk
      clear ihl ihd hA hB hA' hB' hv hv'
      go_enter Tryd.func28, Tryd.ntmps28
      go_wp2_with fail
      go_ret
      exact ⟨ret_bool H.out.symm, hbb _ _⟩
    subst hk
    by_cases hi : i = i'
    case neg =>
      have H := Lib.hid (show sameV (.mk k i t l d) (.mk k i' t' l' d') = false by simp [sameV, hi])
      have hib : (i != i') = true := by simpa using hi
      clear ihl ihd hA hB hA' hB' hv hv'
      go_enter Tryd.func28, Tryd.ntmps28
      go_wp2_with fail
      go_ret
      exact ⟨ret_bool H.out.symm, hbb _ _⟩
    subst hi
    by_cases ht : t = t'
    case neg =>
      have H := Lib.hid (show sameV (.mk k i t l d) (.mk k i t' l' d') = false by simp [sameV, ht])
      have htb := list_ne ht
      clear ihl ihd hA hB hA' hB' hv hv' ht
      go_enter Tryd.func28, Tryd.ntmps28
      go_wp2_with fail
      go_ret
      exact ⟨ret_bool H.out.symm, hbb _ _⟩
    subst ht
    by_cases hl : l'.length = l.length
    case neg =>
      have H := Lib.hid (show sameV (.mk k i t l d) (.mk k i t l' d') = false by simp [sameV]; intro h; omega)
      have hlb : ¬ l.length = l'.length := fun h => hl h.symm
      clear ihl ihd hA hB hA' hB' hv hv' hl
      go_enter Tryd.func28, Tryd.ntmps28
      go_wp2_with fail
      go_ret
      exact ⟨ret_bool H.out.symm, hbb _ _⟩
    by_cases hd : d'.length = d.length
    case neg =>
      have H := Lib.hid (show sameV (.mk k i t l d) (.mk k i t l' d') = false by simp [sameV]; intro _ h; omega)
      have hdb : ¬ d.length = d'.length := fun h => hd h.symm
      rw [hl]
      have HL := Lib.hid hl
      clear ihl ihd hA hB hA' hB' hv hv' hd hl
      go_enter Tryd.func28, Tryd.ntmps28
      go_wp2_with fail
      go_ret
      exact ⟨ret_bool H.out.symm, hbb _ _⟩
    have H := Lib.hid (show sameV (.mk k i t l d) (.mk k i t l' d') = (sameL l l' && sameD d d') by simp [sameV, hl, hd])
    rw [hl, hd]
    have HL := Lib.hid hl
    have HD := Lib.hid hd
    have hl0 := hA.1
    have hd0 := hB.1
    clear hv hv' hl hd
    go_enter Tryd.func28, Tryd.ntmps28
    go_wp2_with fail
    generalize hW0 : World.alloc (w.alloc _) _ = W0
    have hb0 : Below w.heap.size w W0 := by rw [← hW0]; exact hbb _ _
    have x3 : W0.cell? ⟨w.heap.size, 3, none⟩ = some (.slice A l.length c) := by rw [← hW0]; exact cell_alloc1 (box_cell 3 _ rfl) _
    have x4 : W0.cell? ⟨w.heap.size, 4, none⟩ = some (.slice B d.length e) := by rw [← hW0]; exact cell_alloc1 (box_cell 4 _ rfl) _
    have y3 : W0.cell? ⟨w.heap.size + 1, 3, none⟩ = some (.slice A' l.length c') := by rw [← hW0]; exact (World.cell?_alloc_at _ _ _ 3 (by simp)).trans rfl
    have y4 : W0.cell? ⟨w.heap.size + 1, 4, none⟩ = some (.slice B' d.length e') := by rw [← hW0]; exact (World.cell?_alloc_at _ _ _ 4 (by simp)).trans rfl
    clear hW0 hbb
    go_loopw [5] (fun ix wr => ∃ j : Nat, j ≤ l.length ∧ ix = .int .i64 j ∧ Hid (sameL (l.drop j) (l'.drop j) = sameL l l') ∧ Below W0.heap.size W0 wr) (fun ix _ => l.length - (intOf ix).toNat)
    case atStart => exact ⟨0, by omega, rfl, Lib.hid rfl, Below.refl _ _⟩
    case round =>
      obtain ⟨j, hj, rfl, hrec, hb⟩ := hrel
      have hbw := below2 hb0 hb
      have z3 := cell_grow hb x3
      have u3 := cell_grow hb y3
      by_cases hlt : j < l.length
      · have hlt' : j < l'.length := by have := HL.out; omega
        obtain ⟨b, off, a0, n0, a1, n1, rfl, hrv, f0, f1, f2, f3, f4⟩ := (hA.grow hbw).get j hlt
        obtain ⟨b', off', a0', n0', a1', n1', rfl, hrv', g0, g1, g2, g3, g4⟩ := (hA'.grow hbw).get j hlt'
        have Hst := Lib.hid (sameL_step hlt hlt')
        obtain ⟨q, hq⟩ : ∃ q, sameV l[j] l'[j] = q := ⟨_, rfl⟩
        have hih := fun dd os => Calls.regrown_of (ihl l[j] (List.getElem_mem hlt) l'[j] _ _ _ (hrv.grow (below_regrown wr dd os)) (hrv'.grow (below_regrown wr dd os)))
        simp only [hq] at hih
        have HQ := Lib.hid hq
        clear ihl ihd hA hA' hB hB' hq hrv hrv'
        go_wp2_with fail
        have k3 := cell_regrown z3
        have k4 := cell_regrown u3
        have m0 := cell_regrown f0
        have m1 := cell_regrown f1
        have m2 := cell_regrown f2
        have m3 := cell_regrown f3
        have m4 := cell_regrown f4
        have p0 := cell_regrown g0
        have p1 := cell_regrown g1
        have p2 := cell_regrown g2
        have p3 := cell_regrown g3
        have p4 := cell_regrown g4
        refine wp_region_quiet_below (by kernel_rfl) (by kernel_rfl) ?_
        repeat (go_big_quiet_step (exact hih _ _))
        refine wpQuiet_nil ?_
        intro _ hw'
        obtain ⟨⟨dq, osq⟩, hw''⟩ := hw'
        subst hw''
        clear k3 k4 m0 m1 m2 m3 m4 p0 p1 p2 p3 p4 hih
        cases q
        case true =>
          go_wp2_with fail
          go_roundw
          case rel => exact ⟨j + 1, by omega, by go_num, Lib.hid (by rw [← hrec.out, Hst.out, HQ.out]; rfl), below2 hb (below_regrown wr _ _)⟩
          case measure => simp [intOf]; omega
        case false =>
          go_wp2_with fail
          go_ret
          exact ⟨ret_bool (by rw [H.out, ← hrec.out, Hst.out, HQ.out]; rfl), below2 hbw (below_regrown wr _ _)⟩
      · obtain rfl : j = l.length := by omega
        have HS : Hid (sameV (.mk k i t l d) (.mk k i t l' d') = sameD d d') := Lib.hid (by rw [H.out, ← hrec.out, sameL_done HL.out, Bool.true_and])
        have x4' := cell_grow hb x4
        have y4' := cell_grow hb y4
        clear ihl hA hA' hrec H x3 y3 x4 y4 hb hb0
        go_wp2_with fail
        clear z3 u3
        obtain ⟨wo, hwo⟩ : ∃ wo : World, wo = wr := ⟨_, rfl⟩
        rw [← hwo] at x4' y4' hbw ⊢
        clear hwo
        go_loopw [7] (fun ix wr => ∃ j : Nat, j ≤ d.length ∧ ix = .int .i64 j ∧ Hid (sameD (d.drop j) (d'.drop j) = sameD d d') ∧ Below wo.heap.size wo wr) (fun ix _ => d.length - (intOf ix).toNat)
        case atStart => exact ⟨0, by omega, rfl, Lib.hid rfl, Below.refl _ _⟩
        case round =>
          obtain ⟨j, hj, rfl, hrec, hb⟩ := hrel
          have hbw2 := below2 hbw hb
          have z3 := cell_grow hb x4'
          have u3 := cell_grow hb y4'
          by_cases hlt : j < d.length
          · have hlt' : j < d'.length := by have := HD.out; omega
            obtain ⟨b, off, a0, n0, a1, n1, rfl, _, hrv, f0, f1, f2, f3, f4, f5⟩ := (hB.grow hbw2).get j hlt
            obtain ⟨b', off', a0', n0', a1', n1', rfl, _, hrv', g0, g1, g2, g3, g4, g5⟩ := (hB'.grow hbw2).get j hlt'
            have Hst := Lib.hid (sameD_step hlt hlt')
            obtain ⟨q, hq⟩ : ∃ q, sameV d[j].2 d'[j].2 = q := ⟨_, rfl⟩
            have hih := fun dd os => Calls.regrown_of (ihd d[j] (List.getElem_mem hlt) d'[j].2 _ _ _ (hrv.grow (below_regrown wr dd os)) (hrv'.grow (below_regrown wr dd os)))
            simp only [hq] at hih
            have HQ := Lib.hid hq
            clear ihd hB hB' hq hrv hrv'
            go_wp2_with fail
            have k3 := cell_regrown z3
            have k4 := cell_regrown u3
            have m0 := cell_regrown f0
            have m1 := cell_regrown f1
            have m2 := cell_regrown f2
            have m3 := cell_regrown f3
            have m4 := cell_regrown f4
            have m5 := cell_regrown f5
            have p0 := cell_regrown g0
            have p1 := cell_regrown g1
            have p2 := cell_regrown g2
            have p3 := cell_regrown g3
            have p4 := cell_regrown g4
            have p5 := cell_regrown g5
            refine wp_region_quiet_below (by kernel_rfl) (by kernel_rfl) ?_
            repeat (go_big_quiet_step (exact hih _ _))
            refine wpQuiet_nil ?_
            intro _ hw'
            obtain ⟨⟨dq, osq⟩, hw''⟩ := hw'
            subst hw''
            have hb3 := below2 hb (below_regrown wr dq osq)
            have hb4 := below2 hbw2 (below_regrown wr dq osq)
            obtain ⟨wx, hwx⟩ : ∃ wx : World, grow (redrawn wr dq) osq = wx := ⟨_, rfl⟩
            have e3 := k3 dq osq
            have e4 := k4 dq osq
            have s0 := m0 dq osq
            have t0 := p0 dq osq
            rw [hwx] at e3 e4 s0 t0 hb3 hb4 ⊢
            clear hwx k3 k4 m0 m1 m2 m3 m4 m5 p0 p1 p2 p3 p4 p5 hih f0 f1 f2 f3 f4 f5 g0 g1 g2 g3 g4 g5 z3 u3
            cases q
            case false =>
              go_wp2_with fail
              go_quiet (fail)
              go_wp2_with fail
              go_ret
              exact ⟨ret_bool (by rw [HS.out, ← hrec.out, Hst.out, HQ.out]; simp), drewN_below2 hb4 nq⟩
            case true =>
              by_cases hnm : d[j].1 = d'[j].1
              · have HN := Lib.hid hnm
                have heq := str_eq' hnm
                clear hnm
                go_wp2_with fail
                go_quiet (fail)
                go_wp2_with fail
                go_roundw
                case rel => exact ⟨j + 1, by omega, by go_num, Lib.hid (by rw [← hrec.out, Hst.out, HQ.out, HN.out]; simp), drewN_below2 hb3 nq⟩
                case measure => simp [intOf]; omega
              · have HN := Lib.hid hnm
                have hne : (d[j].1.toList == d'[j].1.toList) = false := beq_eq_false_iff_ne.2 (list_ne hnm)
                clear hnm
                go_wp2_with fail
                go_quiet (fail)
                go_wp2_with fail
                go_ret
                exact ⟨ret_bool (by rw [HS.out, ← hrec.out, Hst.out, HQ.out]; simp [HN.out]), drewN_below2 hb4 nq⟩
          · obtain rfl : j = d.length := by omega
            clear ihd hB hB'
            go_wp2_with fail
            go_ret
            exact ⟨ret_bool (by rw [HS.out, ← hrec.out, sameD_done HD.out]), hbw2⟩
end Go.Proofs.YthfejpldhemakaaDoor
