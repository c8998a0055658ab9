import Derived.Test.YthfejpldhemakaaDoorCl
namespace Go.Proofs.YthfejpldhemakaaDoor
open Go.RowKit Go.Sort
/-- The first field of that name. -/
def getD : List (ByteArray × V) → ByteArray → Option V
  | [], _ => none
  | (m, x) :: d, n => if m = n then some x else getD d n
def getV : V → ByteArray → Option V
  | .mk k _ _ _ d, n => if k = 5 then getD d n else none
theorem getD_step {d : List (ByteArray × V)} {j : Nat} (h : j < d.length) (n : ByteArray) : getD (d.drop j) n = if d[j].1 = n then some d[j].2 else getD (d.drop (j + 1)) n := by
  rw [List.drop_eq_getElem_cons h, getD]
def zero5 : Array Value := #[.int .i64 0, .int .i64 0, .string ⟨#[]⟩, .slice none 0 0, .slice none 0 0]
/-- What Get comes to. -/
def GetPost (w : World) (r : Option V) (e : Ending) (w' : World) : Prop :=
  Below w.heap.size w w' ∧ match r with
  | some x => ∃ cs F, e = .returned (.tuple #[.agg cs.toArray, .bool true]) ∧ OV false w' x cs F ∧ F.Nodup ∧ ∀ g ∈ F, w.heap.size ≤ g
  | none => e = .returned (.tuple #[.agg zero5, .bool false])
theorem str_eq {a b : ByteArray} (h : a = b) : (a.toList == b.toList) = true := by subst h; simp
theorem str_ne {a b : ByteArray} (h : a ≠ b) : (a.toList == b.toList) = false := by
  rw [beq_eq_false_iff_ne]
  intro he
  apply h
  apply ByteArray.ext
  apply Array.toList_inj.1
  rw [ByteArray.toList_eq, ByteArray.toList_eq] at he
  exact he
set_option maxRecDepth 100000 in
set_option maxHeartbeats 1000000 in
theorem get_c (v : V) (n : ByteArray) (cs : List Value) (w : World) (hv : RV w v cs) :
    Calls Tryd.prog 29 #[.agg cs.toArray, .string n] w (GetPost w (getV v n)) := by
  obtain ⟨k, i, t, l, d⟩ := v
  obtain ⟨A, c, A', c', rfl, hk, hi, ht, hA, hD⟩ := hv.inv
  have hz : ∀ x y, (((w.alloc x).alloc (.cells zero5 25)).alloc y).heap[w.heap.size + 1]? = some (.cells zero5 25 (0, 0)) := by
    intro x y
    rw [heap_alloc_old _ _ (by simp)]
    exact heap2_second w x _ 0
  by_cases h5 : k = 5
  case neg =>
    have H := Lib.hid (show getV (.mk k i t l d) n = none by rw [getV, if_neg h5])
    have hb : (k == 5) = false := by simpa using h5
    clear h5 hv hA hD hz
    go_enter Tryd.func29, Tryd.ntmps29
    go_wp2_with fail
    refine bodyPost_ret (v := .tuple #[.agg zero5, .bool false]) (by simp [results, Tryd.results29, go_sem, zero5]) rfl ?_
    rw [H.out]
    exact ⟨below_alloc2 _ _ _, rfl⟩
  subst h5
  have HG := Lib.hid (show getV (.mk 5 i t l d) n = getD d n by rw [getV, if_pos rfl])
  have hd0 := hD.1
  clear hv hA
  go_enter Tryd.func29, Tryd.ntmps29
  go_wp2_with fail
  generalize hW0 : World.alloc (w.alloc _) _ = W0
  have hb0 : Below w.heap.size w W0 := by rw [← hW0]; exact below_alloc2 _ _ _
  have hk0 : W0.heap[w.heap.size + 1]? = some (.cells zero5 25 (0, 0)) := by rw [← hW0]; exact heap2_second _ _ _ 0
  have hs0 : w.heap.size + 1 < W0.heap.size := block_lt hk0
  have H0 := Lib.hid hk0
  clear hk0 hW0 hz
  go_loopw [14] (fun ix wr => ∃ j : Nat, j ≤ d.length ∧ ix = .int .i64 j ∧ Hid (getD (d.drop j) n = getD d n) ∧ Below W0.heap.size W0 wr) (fun ix _ => d.length - (intOf ix).toNat)
  case atStart => exact ⟨0, by omega, rfl, Lib.hid rfl, Below.refl _ _⟩
  case round =>
    obtain ⟨j, hj, rfl, hrec, hb⟩ := hrel
    have hbw := below2 hb0 hb
    have hkr := (hb.block _ hs0).trans H0.out
    by_cases hlt : j < d.length
    · obtain ⟨b, off, a0, n0, a1, n1, rfl, hnm, hrv, f0, f1, f2, f3, f4, f5⟩ := (hD.grow hbw).get j hlt
      have Hst := Lib.hid (getD_step hlt n)
      by_cases he : d[j].1 = n
      · have heq := str_eq he
        have HE := Lib.hid he
        have hcl := fun o => clone_c d[j].2 _ (wr.alloc o) (hrv.grow (below_alloc1 wr o))
        have HK := Lib.hid hkr
        clear he hD hkr
        go_wp2_with fail
        refine (hcl _).mono ?_
        rintro e w1 ⟨cs', F, rfl, hov, hnd, hfr, hb1⟩
        obtain ⟨p0, q0, p1, q1, rfl⟩ := hov.rv.shape
        have hb2 := below2 (below_alloc1 _ _) hb1
        have hk1 := (hb2.block _ (block_lt HK.out)).trans HK.out
        unfold zero5 at hk1
        have r0 := cell_at hk1 0 _ rfl
        have r1 := cell_at hk1 1 _ rfl
        have r2 := cell_at hk1 2 _ rfl
        have r3 := cell_at hk1 3 _ rfl
        have r4 := cell_at hk1 4 _ rfl
        have g0 := free_at hk1 0
        have g1 := free_at hk1 1
        have g2 := free_at hk1 2
        have g3 := free_at hk1 3
        have g4 := free_at hk1 4
        have hsw := Lib.hid (show w.heap.size + 1 < wr.heap.size from block_lt HK.out)
        clear hk1
        go_wp2_with fail
        refine bodyPost_ret (v := .tuple #[.agg #[.int .i64 d[j].2.k, .int .i64 d[j].2.i, .string d[j].2.t, .slice p0 d[j].2.l.length q0, .slice p1 d[j].2.d.length q1], .bool true]) (by simp [results, Tryd.results29, go_sem, r0, r1, r2, r3, r4]) rfl ?_
        have ho := set5_only w1 (w.heap.size + 1) (.int .i64 d[j].2.k) (.int .i64 d[j].2.i) (.string d[j].2.t) (.slice p0 d[j].2.l.length q0) (.slice p1 d[j].2.d.length q1)
        have hfr' : ∀ g ∈ F, wr.heap.size + 1 ≤ g := fun g hg => by have := hfr g hg; simpa using this
        refine ⟨(below2 hbw hb2).trans (ho.below (fun g hg => by omega) (below2 hbw hb2).size), ?_⟩
        rw [HG.out, ← hrec.out, Hst.out, if_pos HE.out]
        exact ⟨_, F, rfl, hov.at_ fun g hg => ho.block g (hov.lt g hg) (by have := hfr' g hg; have := hsw.out; omega), hnd, fun g hg => by have := hfr' g hg; have := hsw.out; omega⟩
      · have hne := str_ne he
        have HE := Lib.hid he
        clear he hD hkr
        go_wp2_with fail
        go_roundw
        case rel => exact ⟨j + 1, by omega, by go_num, Lib.hid (by rw [← hrec.out, Hst.out, if_neg HE.out]), hb.alloc hb.size _⟩
        case measure => simp [intOf]; omega
    · obtain rfl : j = d.length := by omega
      unfold zero5 at hkr
      have r0 := cell_at hkr 0 _ rfl
      have r1 := cell_at hkr 1 _ rfl
      have r2 := cell_at hkr 2 _ rfl
      have r3 := cell_at hkr 3 _ rfl
      have r4 := cell_at hkr 4 _ rfl
      have g0 := free_at hkr 0
      have g1 := free_at hkr 1
      have g2 := free_at hkr 2
      have g3 := free_at hkr 3
      have g4 := free_at hkr 4
      clear hkr hD
      go_wp2_with fail
      refine bodyPost_ret (v := .tuple #[.agg zero5, .bool false]) (by simp [results, Tryd.results29, go_sem, r0, r1, r2, r3, r4, zero5]) rfl ?_
      have ho := set5_only wr (w.heap.size + 1) (.int .i64 0) (.int .i64 0) (.string ByteArray.empty) (.slice none 0 0) (.slice none 0 0)
      refine ⟨hbw.trans (ho.below (fun g hg => by omega) hbw.size), ?_⟩
      rw [HG.out, ← hrec.out]
      simp [getD]
end Go.Proofs.YthfejpldhemakaaDoor
