import Derived.Test.YthfejpldhemakaaDoorK
import Derived.Lib.IndexAny
namespace Go.Proofs.YthfejpldhemakaaDoor
open Go.RowKit Go.Sort
set_option maxHeartbeats 400000 in
theorem rname_c (s : ByteArray) (w : World) (hT : Tabs w) (hs : s.size ≤ 140737488355328) :
    Calls Tryd.prog 96 #[.string s] w fun e w' => e = .returned (.bool (nameOk s)) ∧ Below w.heap.size w w' := by
  obtain ⟨q, hq⟩ : ∃ q, Lib.validD s.data.toList = q := ⟨_, rfl⟩
  have hv := valid_c s w (by omega) hT
  rw [hq] at hv
  have HQ := Lib.hid hq
  clear hq
  by_cases h0 : s.size = 0
  · have H := Lib.hid (show nameOk s = false by simp [nameOk, h0])
    have h0' : (s.size : Int) < 1 := by omega
    clear h0
    go_enter Tryd.func96, Tryd.ntmps96
    go_wp2_with fail
    refine hv.mono ?_
    rintro e w1 ⟨rfl, hb⟩
    go_wp2_with fail
    go_ret
    exact ⟨ret_bool H.out.symm, hb⟩
  have h0' : ¬ (s.size : Int) < 1 := by omega
  by_cases h1 : s.size ≤ 100
  case neg =>
    have H := Lib.hid (show nameOk s = false by simp [nameOk, h1])
    have h2 : (100 : Int) < s.size := by omega
    clear h1
    go_enter Tryd.func96, Tryd.ntmps96
    go_wp2_with fail
    refine hv.mono ?_
    rintro e w1 ⟨rfl, hb⟩
    go_wp2_with fail
    go_ret
    exact ⟨ret_bool H.out.symm, hb⟩
  cases q
  · have H := Lib.hid (show nameOk s = false by simp [nameOk, HQ.out])
    go_enter Tryd.func96, Tryd.ntmps96
    go_wp2_with fail
    refine hv.mono ?_
    rintro e w1 ⟨rfl, hb⟩
    go_wp2_with fail
    go_ret
    exact ⟨ret_bool H.out.symm, hb⟩
  have H := Lib.hid (show nameOk s = !s.data.toList.contains 0 by
    unfold nameOk
    rw [HQ.out, decide_eq_true (show 0 < s.size by omega), decide_eq_true h1, Lib.contains_iff_indexByte]
    by_cases hz : 0 ≤ Lib.indexByte s.data.toList 0
    · simp [hz]
    · simp [hz]; omega)
  go_enter Tryd.func96, Tryd.ntmps96
  go_wp2_with fail
  refine hv.mono ?_
  rintro e w1 ⟨rfl, hb⟩
  go_wp2_with fail
  go_loop [4] (fun ix => ∃ j : Nat, j ≤ s.size ∧ ix = .int .i64 j ∧ Hid (∀ p, p < j → s.data.toList[p]? ≠ some 0)) (fun ix => s.size - (intOf ix).toNat)
  case atStart => exact ⟨0, by omega, rfl, Lib.hid (fun p hp => by omega)⟩
  case round =>
    obtain ⟨j, hj, rfl, hrec⟩ := hrel
    by_cases hlt : j < s.size
    · have hget : s.data.toList[j]? = some s[j] := by
        rw [Array.getElem?_toList]
        exact Array.getElem?_eq_getElem (by exact hlt)
      by_cases hz : s[j] = 0
      · have hzb : ((s[j].toNat : Int) == 0) = true := by rw [hz]; rfl
        have HZ := Lib.hid (show s.data.toList.contains 0 = true by rw [hz] at hget; exact List.contains_iff_mem.2 (List.mem_of_getElem? hget))
        clear hz hget
        go_wp2_with fail
        go_ret
        exact ⟨ret_bool (by rw [H.out, HZ.out]; rfl), hb⟩
      · have hzb : ((s[j].toNat : Int) == 0) = false := by
          rw [beq_eq_false_iff_ne]
          intro he
          exact hz (UInt8.toNat_inj.1 (by simpa using he))
        have HZ := Lib.hid (show ∀ p, p < j + 1 → s.data.toList[p]? ≠ some 0 from fun p hp => by
          rcases Nat.lt_or_ge p j with h | h
          · exact hrec.out p h
          · obtain rfl : p = j := by omega
            rw [hget]
            exact fun he => hz (Option.some.inj he))
        clear hz hget
        go_wp2_with fail
        go_round
        case rel => exact ⟨j + 1, by omega, by go_num, HZ⟩
        case measure => simp [intOf]; omega
    · obtain rfl : j = s.size := by omega
      have HZ := Lib.hid (show s.data.toList.contains 0 = false by
        rw [Bool.eq_false_iff]
        intro he
        obtain ⟨p, hp, hpe⟩ := List.getElem_of_mem (List.contains_iff_mem.1 he)
        exact hrec.out p (by simpa using hp) (by rw [List.getElem?_eq_getElem hp, hpe]))
      go_wp2_with fail
      go_ret
      exact ⟨ret_bool (by rw [H.out, HZ.out]; rfl), hb⟩
end Go.Proofs.YthfejpldhemakaaDoor
