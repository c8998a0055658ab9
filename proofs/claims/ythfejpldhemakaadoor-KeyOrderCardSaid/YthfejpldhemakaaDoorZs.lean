import Derived.Test.YthfejpldhemakaaDoorE
import Derived.Test.YthfejpldhemakaaDoorP
namespace Go.Proofs.YthfejpldhemakaaDoor
open Go.RowKit Go.Sort
/-- The same lists? -/
def sameLL (l l' : List V) : Bool := decide (l.length = l'.length) && sameL l l'
theorem sameLL_self (l : List V) : sameLL l l = true := by rw [sameLL, sameL_self l fun x _ => sameV_self x]; simp
theorem sameLL_eq {l l' : List V} (h : sameLL l l' = true) : l = l' := by
  rw [sameLL, Bool.and_eq_true] at h
  exact sameL_eq l l' (fun x _ => sameV_eq x) h.2
set_option maxRecDepth 100000 in
set_option maxHeartbeats 2000000 in
theorem samelist_c (l l' : List V) (A A' : Option Addr) (c c' : Nat) (w : World) (hA : RL w l A c) (hA' : RL w l' A' c') :
    Calls Tryd.prog 45 #[.slice A l.length c, .slice A' l'.length c'] w fun e w' => e = .returned (.bool (sameLL l l')) ∧ Below w.heap.size w w' := by
  have hl0 := hA.1
  have hl1 := hA'.1
  by_cases hl : l'.length = l.length
  case neg =>
    have H := Lib.hid (show sameLL l l' = false by rw [sameLL, decide_eq_false (fun h => hl h.symm)]; rfl)
    have hlb : ¬ l.length = l'.length := fun h => hl h.symm
    clear hA hA' hl
    go_enter Tryd.func45, Tryd.ntmps45
    go_wp2_with fail
    go_ret
    exact ⟨ret_bool H.out.symm, Below.refl _ _⟩
  have H := Lib.hid (show sameLL l l' = sameL l l' by rw [sameLL, decide_eq_true hl.symm]; rfl)
  rw [hl]
  have HL := Lib.hid hl
  clear hl hl1
  go_enter Tryd.func45, Tryd.ntmps45
  go_wp2_with fail
  go_loopw [5] (fun ix wr => ∃ j : Nat, j ≤ l.length ∧ ix = .int .i64 j ∧ Hid (sameL (l.drop j) (l'.drop j) = sameL l l') ∧ Below w.heap.size w wr) (fun ix _ => l.length - (intOf ix).toNat)
  case atStart => exact ⟨0, by omega, rfl, Lib.hid rfl, Below.refl _ _⟩
  case round =>
    obtain ⟨j, hj, rfl, hrec, hb⟩ := hrel
    by_cases hlt : j < l.length
    · have hlt' : j < l'.length := by have := HL.out; omega
      obtain ⟨b, off, a0, n0, a1, n1, rfl, hrv, f0, f1, f2, f3, f4⟩ := (hA.grow hb).get j hlt
      obtain ⟨b', off', a0', n0', a1', n1', rfl, hrv', g0, g1, g2, g3, g4⟩ := (hA'.grow hb).get j hlt'
      have Hst := Lib.hid (sameL_step hlt hlt')
      obtain ⟨q, hq⟩ : ∃ q, sameV l[j] l'[j] = q := ⟨_, rfl⟩
      have hih := fun dd os => Calls.regrown_of (same_c l[j] l'[j] _ _ _ (hrv.grow (below_regrown wr dd os)) (hrv'.grow (below_regrown wr dd os)))
      simp only [hq] at hih
      have HQ := Lib.hid hq
      clear hA hA' hq hrv hrv'
      go_wp2_with fail
      have m0 := cell_regrown f0
      have m1 := cell_regrown f1
      have m2 := cell_regrown f2
      have m3 := cell_regrown f3
      have m4 := cell_regrown f4
      have p0 := cell_regrown g0
      have p1 := cell_regrown g1
      have p2 := cell_regrown g2
      have p3 := cell_regrown g3
      have p4 := cell_regrown g4
      refine wp_region_quiet_below (by kernel_rfl) (by kernel_rfl) ?_
      repeat (go_big_quiet_step (exact hih _ _))
      refine wpQuiet_nil ?_
      intro _ hw'
      obtain ⟨⟨dq, osq⟩, hw''⟩ := hw'
      subst hw''
      clear m0 m1 m2 m3 m4 p0 p1 p2 p3 p4 hih
      cases q
      case true =>
        go_wp2_with fail
        go_roundw
        case rel => exact ⟨j + 1, by omega, by go_num, Lib.hid (by rw [← hrec.out, Hst.out, HQ.out]; rfl), below2 hb (below_regrown wr _ _)⟩
        case measure => simp [intOf]; omega
      case false =>
        go_wp2_with fail
        go_ret
        exact ⟨ret_bool (by rw [H.out, ← hrec.out, Hst.out, HQ.out]; rfl), below2 hb (below_regrown wr _ _)⟩
    · obtain rfl : j = l.length := by omega
      have HS : Hid (sameLL l l' = true) := Lib.hid (by rw [H.out, ← hrec.out, sameL_done HL.out])
      go_wp2_with fail
      go_ret
      exact ⟨ret_bool (by rw [HS.out]), hb⟩
end Go.Proofs.YthfejpldhemakaaDoor
