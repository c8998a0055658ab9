import Derived.Test.YthfejpldhemakaaDoorT
import Derived.WalkSpells
import Derived.WalkLawsBesides
import Derived.KernelRfl
import Derived.BigQuiet
import Derived.Deep.RegionHeld3
import Derived.Lib.Bytealg
namespace Go.Proofs.YthfejpldhemakaaDoor
open Go.RowKit Go.Sort
def orI (x y : Int) : Int := if x ≠ 0 then x else y
def cmpI (a b : Int) : Int := if a < b then -1 else if b < a then 1 else 0
def cmpT (a b : ByteArray) : Int := Lib.compareBytes a.data.toList b.data.toList
mutual
def cmpV : V → V → Int
  | .mk k i t l d, .mk k' i' t' l' d' =>
    if k ≠ k' then cmpI k k'
    else if k = 3 ∨ k = 9 ∨ k = 10 then cmpI i i'
    else if k = 4 ∨ k = 7 ∨ k = 8 then cmpT t t'
    else if k = 6 then cmpL l l'
    else if k = 5 then cmpD d d'
    else 0
def cmpL : List V → List V → Int
  | [], [] => 0
  | [], _ :: _ => -1
  | _ :: _, [] => 1
  | x :: l, y :: l' => if cmpV x y ≠ 0 then cmpV x y else cmpL l l'
def cmpD : List (ByteArray × V) → List (ByteArray × V) → Int
  | [], [] => 0
  | [], _ :: _ => -1
  | _ :: _, [] => 1
  | (n, x) :: l, (n', y) :: l' => if orI (cmpT n n') (cmpV x y) ≠ 0 then orI (cmpT n n') (cmpV x y) else cmpD l l'
end
theorem cmpint_c (a b : Int) (w : World) :
    Calls Tryd.prog 65 #[.int .i64 a, .int .i64 b] w fun e w' => e = .returned (.int .i64 (cmpI a b)) ∧ w = w' := by
  by_cases h1 : a < b
  · have H := Lib.hid (show cmpI a b = -1 by simp [cmpI, h1])
    go_enter Tryd.func65, Tryd.ntmps65
    go_wp2
    go_ret
    exact ⟨ret_int (by rw [H.out]), rfl⟩
  · by_cases h2 : b < a
    · have H := Lib.hid (show cmpI a b = 1 by simp [cmpI, h1, h2])
      go_enter Tryd.func65, Tryd.ntmps65
      go_wp2
      go_ret
      exact ⟨ret_int (by rw [H.out]), rfl⟩
    · have H := Lib.hid (show cmpI a b = 0 by simp [cmpI, h1, h2])
      go_enter Tryd.func65, Tryd.ntmps65
      go_wp2
      go_ret
      exact ⟨ret_int (by rw [H.out]), rfl⟩
theorem cmpL_step {l l' : List V} {j : Nat} (h : j < l.length) (h' : j < l'.length) : cmpL (l.drop j) (l'.drop j) = if cmpV l[j] l'[j] ≠ 0 then cmpV l[j] l'[j] else cmpL (l.drop (j + 1)) (l'.drop (j + 1)) := by
  rw [List.drop_eq_getElem_cons h, List.drop_eq_getElem_cons h', cmpL]
theorem cmpL_done {l l' : List V} {j : Nat} (h : l.length ≤ j) (h' : j ≤ l'.length) (hj : j ≤ l.length) : cmpL (l.drop j) (l'.drop j) = if l.length < l'.length then -1 else 0 := by
  rw [List.drop_eq_nil_of_le h]
  obtain rfl : j = l.length := by omega
  by_cases h2 : l.length < l'.length
  · rw [List.drop_eq_getElem_cons h2, cmpL, if_pos h2]
  · rw [List.drop_eq_nil_of_le (by omega), cmpL, if_neg h2]
theorem cmpL_long {l l' : List V} {j : Nat} (h : j < l.length) (h' : l'.length ≤ j) : cmpL (l.drop j) (l'.drop j) = 1 := by
  rw [List.drop_eq_nil_of_le h', List.drop_eq_getElem_cons h, cmpL]
set_option maxHeartbeats 400000 in
theorem cmpfL_c (l l' : List V) (ih : ∀ x ∈ l, ∀ (y : V) (cs cs' : List Value) (w : World), RV w x cs → RV w y cs' → Calls Tryd.prog 26 #[.agg cs.toArray, .agg cs'.toArray] w fun e w' => e = .returned (.int .i64 (cmpV x y)) ∧ Below w.heap.size w w')
    (A A' : Option Addr) (c c' : Nat) (w : World) (h : RL w l A c) (h' : RL w l' A' c') :
    Calls Tryd.prog 67 #[.slice A l.length c, .slice A' l'.length c', .func (.func 26) #[] #[]] w fun e w' => e = .returned (.int .i64 (cmpL l l')) ∧ Below w.heap.size w w' := by
  have hl := h.1
  have hl' := h'.1
  go_enter Tryd.func67, Tryd.ntmps67
  go_wp2_with fail
  go_loopw [13] (fun i wr => ∃ j : Nat, j ≤ l.length ∧ j ≤ l'.length ∧ i = .int .i64 j ∧ Hid (cmpL (l.drop j) (l'.drop j) = cmpL l l') ∧ Below w.heap.size w wr) (fun i _ => l.length - (intOf i).toNat)
  case atStart => exact ⟨0, by omega, by omega, rfl, Lib.hid rfl, Below.refl _ _⟩
  case round =>
    obtain ⟨j, hj, hj', rfl, hrec, hb⟩ := hrel
    by_cases hlt : j < l.length
    · obtain ⟨b, off, a0, n0, a1, n1, rfl, hrv, f0, f1, f2, f3, f4⟩ := (h.grow hb).get j hlt
      by_cases hlt' : j < l'.length
      · obtain ⟨b', off', a0', n0', a1', n1', rfl, hrv', g0, g1, g2, g3, g4⟩ := (h'.grow hb).get j hlt'
        have Hst := Lib.hid (cmpL_step hlt hlt')
        have G0 := cell_alloc1 g0
        have G1 := cell_alloc1 g1
        have G2 := cell_alloc1 g2
        have G3 := cell_alloc1 g3
        have G4 := cell_alloc1 g4
        have hih := fun o o' => ih l[j] (List.getElem_mem hlt) l'[j] _ _ _ (hrv.grow (below_alloc2 wr o o')) (hrv'.grow (below_alloc2 wr o o'))
        have hbb := fun o o' => below2 hb (below_alloc2 wr o o')
        by_cases hz : cmpV l[j] l'[j] = 0
        · rw [hz] at hih
          have hz' := Lib.hid hz
          clear hz ih h h'
          go_wp2_with (go_at_call 26; refine (hih _ _).mono ?_; rintro e w1 ⟨rfl, hb1⟩)
          go_roundw
          case rel => exact ⟨j + 1, by omega, by omega, by go_num, Lib.hid (by rw [← hrec.out, Hst.out, hz'.out]; rfl), below2 (hbb _ _) hb1⟩
          case measure => simp [intOf]; omega
        · have hz' := Lib.hid hz
          have hzb : (cmpV l[j] l'[j] == 0) = false := by simpa using hz
          clear hz ih h h'
          go_wp2_with (go_at_call 26; refine (hih _ _).mono ?_; rintro e w1 ⟨rfl, hb1⟩)
          go_ret
          exact ⟨ret_int (by rw [← hrec.out, Hst.out, if_pos hz'.out]), below2 (hbb _ _) hb1⟩
      · have Hst := Lib.hid (cmpL_long (l := l) (l' := l') hlt (by omega))
        go_wp2_with fail
        go_ret
        exact ⟨ret_int (by rw [← hrec.out, Hst.out]), hb.alloc hb.size _⟩
    · have Hst := Lib.hid (cmpL_done (l := l) (l' := l') (j := j) (by omega) hj' hj)
      by_cases h2 : l.length < l'.length
      · rw [if_pos h2] at Hst
        go_wp2_with fail
        go_ret
        exact ⟨ret_int (by rw [← hrec.out, Hst.out]), hb⟩
      · rw [if_neg h2] at Hst
        go_wp2_with fail
        go_ret
        exact ⟨ret_int (by rw [← hrec.out, Hst.out]), hb⟩
theorem or_c (x y : Int) (w : World) (b : Nat) (h0 : w.cell? ⟨b, 0, none⟩ = some (.int .i64 x)) (h1 : w.cell? ⟨b, 1, none⟩ = some (.int .i64 y)) :
    Calls Tryd.prog 70 #[.slice (some ⟨b, 0, none⟩) 2 2] w fun e w' => e = .returned (.int .i64 (orI x y)) ∧ w = w' := by
  obtain ⟨z, hz⟩ : ∃ z, orI x y = z := ⟨_, rfl⟩
  rw [hz]
  have HZ := Lib.hid hz
  clear hz
  go_enter Tryd.func70, Tryd.ntmps70
  go_wp2_with fail
  go_loop [8] (fun i => i = .int .i64 0 ∨ (i = .int .i64 1 ∧ x = 0) ∨ (i = .int .i64 2 ∧ x = 0 ∧ y = 0)) (fun i => 3 - (intOf i).toNat)
  case atStart => exact .inl rfl
  case round =>
    rcases hrel with rfl | ⟨rfl, hx⟩ | ⟨rfl, hx, hy⟩
    · by_cases hx : x = 0
      · subst hx
        go_wp2_with fail
        go_round
        case rel => exact .inr (.inl ⟨rfl, trivial⟩)
        case measure => simp [intOf]
      · have hb : (x == 0) = false := by simpa using hx
        have H := Lib.hid hx
        clear hx
        go_wp2_with fail
        go_ret
        exact ⟨ret_int (by rw [← HZ.out, orI, if_pos H.out]), rfl⟩
    · have H := Lib.hid hx
      clear hx
      by_cases hy : y = 0
      · subst hy
        go_wp2_with fail
        go_round
        case rel => exact .inr (.inr ⟨rfl, H.out, trivial⟩)
        case measure => simp [intOf]
      · have hb : (y == 0) = false := by simpa using hy
        go_wp2_with fail
        go_ret
        exact ⟨ret_int (by rw [← HZ.out, orI, if_neg (by simp [H.out])]), rfl⟩
    · have H := Lib.hid hx
      have H2 := Lib.hid hy
      clear hx hy
      go_wp2_with fail
      go_ret
      exact ⟨ret_int (by rw [← HZ.out, orI, if_neg (by simp [H.out]), H2.out]), rfl⟩
theorem cmpcl_c (n n' : ByteArray) (x y : V) (ih : ∀ (cs cs' : List Value) (w : World), RV w x cs → RV w y cs' → Calls Tryd.prog 26 #[.agg cs.toArray, .agg cs'.toArray] w fun e w' => e = .returned (.int .i64 (cmpV x y)) ∧ Below w.heap.size w w')
    (cs cs' : List Value) (w : World) (h : RV w x cs) (h' : RV w y cs') :
    Calls Tryd.prog 69 #[.agg (.string n :: cs).toArray, .agg (.string n' :: cs').toArray] w fun e w' => e = .returned (.int .i64 (orI (cmpT n n') (cmpV x y))) ∧ Below w.heap.size w w' := by
  obtain ⟨a0, n0, a1, n1, rfl⟩ := h.shape
  obtain ⟨a0', n0', a1', n1', rfl⟩ := h'.shape
  obtain ⟨m, hm⟩ : ∃ m, cmpT n n' = m := ⟨_, rfl⟩
  obtain ⟨q, hq⟩ : ∃ q, cmpV x y = q := ⟨_, rfl⟩
  have cS := fun w => strcmp_c n n' w
  simp only [hq] at ih
  have hcs : ∀ a b, Lib.compareBytes (ByteArray.toList a) b = Lib.compareBytes (ByteArray.toList a) b := fun _ _ => rfl
  rw [show Lib.compareBytes n.data.toList n'.data.toList = m from hm] at cS
  rw [hm, hq]
  clear hm hq hcs
  go_enter Tryd.func69, Tryd.ntmps69
  go_wp2_with fail
  generalize hW2 : World.alloc (w.alloc _) _ = W2
  have hb2 : Below w.heap.size w W2 := by rw [← hW2]; exact below_alloc2 _ _ _
  have c0 : W2.cell? ⟨w.heap.size, 0, none⟩ = some (.string n) := by rw [← hW2]; exact cell_alloc1 (box_cell 0 _ rfl) _
  have c1 : W2.cell? ⟨w.heap.size, 1, none⟩ = some (.int .i64 x.k) := by rw [← hW2]; exact cell_alloc1 (box_cell 1 _ rfl) _
  have c2 : W2.cell? ⟨w.heap.size, 2, none⟩ = some (.int .i64 x.i) := by rw [← hW2]; exact cell_alloc1 (box_cell 2 _ rfl) _
  have c3 : W2.cell? ⟨w.heap.size, 3, none⟩ = some (.string x.t) := by rw [← hW2]; exact cell_alloc1 (box_cell 3 _ rfl) _
  have c4 : W2.cell? ⟨w.heap.size, 4, none⟩ = some (.slice a0 x.l.length n0) := by rw [← hW2]; exact cell_alloc1 (box_cell 4 _ rfl) _
  have c5 : W2.cell? ⟨w.heap.size, 5, none⟩ = some (.slice a1 x.d.length n1) := by rw [← hW2]; exact cell_alloc1 (box_cell 5 _ rfl) _
  have d0 : W2.cell? ⟨w.heap.size + 1, 0, none⟩ = some (.string n') := by rw [← hW2]; exact (World.cell?_alloc_at _ _ _ 0 (by simp)).trans rfl
  have d1 : W2.cell? ⟨w.heap.size + 1, 1, none⟩ = some (.int .i64 y.k) := by rw [← hW2]; exact (World.cell?_alloc_at _ _ _ 1 (by simp)).trans rfl
  have d2 : W2.cell? ⟨w.heap.size + 1, 2, none⟩ = some (.int .i64 y.i) := by rw [← hW2]; exact (World.cell?_alloc_at _ _ _ 2 (by simp)).trans rfl
  have d3 : W2.cell? ⟨w.heap.size + 1, 3, none⟩ = some (.string y.t) := by rw [← hW2]; exact (World.cell?_alloc_at _ _ _ 3 (by simp)).trans rfl
  have d4 : W2.cell? ⟨w.heap.size + 1, 4, none⟩ = some (.slice a0' y.l.length n0') := by rw [← hW2]; exact (World.cell?_alloc_at _ _ _ 4 (by simp)).trans rfl
  have d5 : W2.cell? ⟨w.heap.size + 1, 5, none⟩ = some (.slice a1' y.d.length n1') := by rw [← hW2]; exact (World.cell?_alloc_at _ _ _ 5 (by simp)).trans rfl
  have H2 := Lib.hid hW2
  clear hW2
  have hS : ∀ w3, Below W2.heap.size W2 w3 → w3.cell? ⟨w.heap.size, 0, none⟩ = some (.string n) ∧ w3.cell? ⟨w.heap.size + 1, 0, none⟩ = some (.string n') ∧
      w3.cell? ⟨w.heap.size, 1, none⟩ = some (.int .i64 x.k) ∧ w3.cell? ⟨w.heap.size, 2, none⟩ = some (.int .i64 x.i) ∧ w3.cell? ⟨w.heap.size, 3, none⟩ = some (.string x.t) ∧ w3.cell? ⟨w.heap.size, 4, none⟩ = some (.slice a0 x.l.length n0) ∧ w3.cell? ⟨w.heap.size, 5, none⟩ = some (.slice a1 x.d.length n1) ∧
      w3.cell? ⟨w.heap.size + 1, 1, none⟩ = some (.int .i64 y.k) ∧ w3.cell? ⟨w.heap.size + 1, 2, none⟩ = some (.int .i64 y.i) ∧ w3.cell? ⟨w.heap.size + 1, 3, none⟩ = some (.string y.t) ∧ w3.cell? ⟨w.heap.size + 1, 4, none⟩ = some (.slice a0' y.l.length n0') ∧ w3.cell? ⟨w.heap.size + 1, 5, none⟩ = some (.slice a1' y.d.length n1') ∧ Below W2.heap.size W2 w3 :=
    fun w3 hb => ⟨(cell_grow hb c0), (cell_grow hb d0), (cell_grow hb c1), (cell_grow hb c2), (cell_grow hb c3), (cell_grow hb c4), (cell_grow hb c5), (cell_grow hb d1), (cell_grow hb d2), (cell_grow hb d3), (cell_grow hb d4), (cell_grow hb d5), hb⟩
  have HS := Lib.hid hS
  have hdr : Below W2.heap.size W2 W2.drew := (Below.refl _ _).drew
  clear hS c0 c1 c2 c3 c4 c5 d0 d1 d2 d3 d4 d5
  go_region_held3 (fun w3 => w3.cell? ⟨w.heap.size, 0, none⟩ = some (.string n) ∧ w3.cell? ⟨w.heap.size + 1, 0, none⟩ = some (.string n') ∧
      w3.cell? ⟨w.heap.size, 1, none⟩ = some (.int .i64 x.k) ∧ w3.cell? ⟨w.heap.size, 2, none⟩ = some (.int .i64 x.i) ∧ w3.cell? ⟨w.heap.size, 3, none⟩ = some (.string x.t) ∧ w3.cell? ⟨w.heap.size, 4, none⟩ = some (.slice a0 x.l.length n0) ∧ w3.cell? ⟨w.heap.size, 5, none⟩ = some (.slice a1 x.d.length n1) ∧
      w3.cell? ⟨w.heap.size + 1, 1, none⟩ = some (.int .i64 y.k) ∧ w3.cell? ⟨w.heap.size + 1, 2, none⟩ = some (.int .i64 y.i) ∧ w3.cell? ⟨w.heap.size + 1, 3, none⟩ = some (.string y.t) ∧ w3.cell? ⟨w.heap.size + 1, 4, none⟩ = some (.slice a0' y.l.length n0') ∧ w3.cell? ⟨w.heap.size + 1, 5, none⟩ = some (.slice a1' y.d.length n1') ∧ Below W2.heap.size W2 w3)
    (first | exact HS.out _ hdr | (go_split_ands; first | exact HS.out _ (by assumption) | exact HS.out _ (below2 (by assumption) hb1) | exact HS.out _ (below2 (by assumption) (below_alloc1 _ _))))
    (first | (go_at_call 66; refine (cS _).mono ?_; rintro e w1 ⟨rfl, rfl⟩) | (go_at_call 26; refine (ih _ _ _ ?p1 ?p2).mono ?_; (go_split_ands; exact h.grow (below2 hb2 (by assumption))); (go_split_ands; exact h'.grow (below2 hb2 (by assumption))); rintro e w1 ⟨rfl, hb1⟩) | (go_at_call 70; refine (or_c m q _ _ (box_cell 0 _ rfl) (box_cell 1 _ rfl)).mono ?_; rintro e w1 ⟨rfl, rfl⟩))
  all_goals
    go_wp2_with fail
    go_ret
    go_split_ands
    exact ⟨rfl, below2 hb2 (by assumption)⟩
theorem cmpD_step {l l' : List (ByteArray × V)} {j : Nat} (h : j < l.length) (h' : j < l'.length) : cmpD (l.drop j) (l'.drop j) = if orI (cmpT l[j].1 l'[j].1) (cmpV l[j].2 l'[j].2) ≠ 0 then orI (cmpT l[j].1 l'[j].1) (cmpV l[j].2 l'[j].2) else cmpD (l.drop (j + 1)) (l'.drop (j + 1)) := by
  rw [List.drop_eq_getElem_cons h, List.drop_eq_getElem_cons h', cmpD]
theorem cmpD_done {l l' : List (ByteArray × V)} {j : Nat} (h : l.length ≤ j) (h' : j ≤ l'.length) (hj : j ≤ l.length) : cmpD (l.drop j) (l'.drop j) = if l.length < l'.length then -1 else 0 := by
  rw [List.drop_eq_nil_of_le h]
  obtain rfl : j = l.length := by omega
  by_cases h2 : l.length < l'.length
  · rw [List.drop_eq_getElem_cons h2, cmpD, if_pos h2]
  · rw [List.drop_eq_nil_of_le (by omega), cmpD, if_neg h2]
theorem cmpD_long {l l' : List (ByteArray × V)} {j : Nat} (h : j < l.length) (h' : l'.length ≤ j) : cmpD (l.drop j) (l'.drop j) = 1 := by
  rw [List.drop_eq_nil_of_le h', List.drop_eq_getElem_cons h, cmpD]
set_option maxHeartbeats 400000 in
theorem cmpfD_c (l l' : List (ByteArray × V)) (ih : ∀ p ∈ l, ∀ (y : V) (cs cs' : List Value) (w : World), RV w p.2 cs → RV w y cs' → Calls Tryd.prog 26 #[.agg cs.toArray, .agg cs'.toArray] w fun e w' => e = .returned (.int .i64 (cmpV p.2 y)) ∧ Below w.heap.size w w')
    (A A' : Option Addr) (c c' : Nat) (w : World) (h : RD w l A c) (h' : RD w l' A' c') :
    Calls Tryd.prog 68 #[.slice A l.length c, .slice A' l'.length c', .func (.func 69) #[] #[]] w fun e w' => e = .returned (.int .i64 (cmpD l l')) ∧ Below w.heap.size w w' := by
  have hl := h.1
  have hl' := h'.1
  go_enter Tryd.func68, Tryd.ntmps68
  go_wp2_with fail
  go_loopw [13] (fun i wr => ∃ j : Nat, j ≤ l.length ∧ j ≤ l'.length ∧ i = .int .i64 j ∧ Hid (cmpD (l.drop j) (l'.drop j) = cmpD l l') ∧ Below w.heap.size w wr) (fun i _ => l.length - (intOf i).toNat)
  case atStart => exact ⟨0, by omega, by omega, rfl, Lib.hid rfl, Below.refl _ _⟩
  case round =>
    obtain ⟨j, hj, hj', rfl, hrec, hb⟩ := hrel
    by_cases hlt : j < l.length
    · obtain ⟨b, off, a0, n0, a1, n1, rfl, _, hrv, f0, f1, f2, f3, f4, f5⟩ := (h.grow hb).get j hlt
      by_cases hlt' : j < l'.length
      · obtain ⟨b', off', a0', n0', a1', n1', rfl, _, hrv', g0, g1, g2, g3, g4, g5⟩ := (h'.grow hb).get j hlt'
        have Hst := Lib.hid (cmpD_step hlt hlt')
        have G0 := cell_alloc1 g0
        have G1 := cell_alloc1 g1
        have G2 := cell_alloc1 g2
        have G3 := cell_alloc1 g3
        have G4 := cell_alloc1 g4
        have G5 := cell_alloc1 g5
        have hih := fun o o' => cmpcl_c l[j].1 l'[j].1 l[j].2 l'[j].2 (ih l[j] (List.getElem_mem hlt) l'[j].2) _ _ _ (hrv.grow (below_alloc2 wr o o')) (hrv'.grow (below_alloc2 wr o o'))
        have hbb := fun o o' => below2 hb (below_alloc2 wr o o')
        by_cases hz : orI (cmpT l[j].1 l'[j].1) (cmpV l[j].2 l'[j].2) = 0
        · rw [hz] at hih
          have hz' := Lib.hid hz
          clear hz ih h h'
          go_wp2_with (go_at_call 69; refine (hih _ _).mono ?_; rintro e w1 ⟨rfl, hb1⟩)
          go_roundw
          case rel => exact ⟨j + 1, by omega, by omega, by go_num, Lib.hid (by rw [← hrec.out, Hst.out, hz'.out]; rfl), below2 (hbb _ _) hb1⟩
          case measure => simp [intOf]; omega
        · have hz' := Lib.hid hz
          have hzb : (orI (cmpT l[j].1 l'[j].1) (cmpV l[j].2 l'[j].2) == 0) = false := by simpa using hz
          clear hz ih h h'
          go_wp2_with (go_at_call 69; refine (hih _ _).mono ?_; rintro e w1 ⟨rfl, hb1⟩)
          go_ret
          exact ⟨ret_int (by rw [← hrec.out, Hst.out, if_pos hz'.out]), below2 (hbb _ _) hb1⟩
      · have Hst := Lib.hid (cmpD_long (l := l) (l' := l') hlt (by omega))
        go_wp2_with fail
        go_ret
        exact ⟨ret_int (by rw [← hrec.out, Hst.out]), hb.alloc hb.size _⟩
    · have Hst := Lib.hid (cmpD_done (l := l) (l' := l') (j := j) (by omega) hj' hj)
      by_cases h2 : l.length < l'.length
      · rw [if_pos h2] at Hst
        go_wp2_with fail
        go_ret
        exact ⟨ret_int (by rw [← hrec.out, Hst.out]), hb⟩
      · rw [if_neg h2] at Hst
        go_wp2_with fail
        go_ret
        exact ⟨ret_int (by rw [← hrec.out, Hst.out]), hb⟩
set_option maxHeartbeats 1000000 in
theorem compare_c (a : V) : ∀ (b : V) (cs cs' : List Value) (w : World), RV w a cs → RV w b cs' →
    Calls Tryd.prog 26 #[.agg cs.toArray, .agg cs'.toArray] w fun e w' => e = .returned (.int .i64 (cmpV a b)) ∧ Below w.heap.size w w' := by
  induction a using V.ind with
  | h k i t l d ihl ihd =>
    intro b cs cs' w hv hv'
    obtain ⟨k', i', t', l', d'⟩ := b
    obtain ⟨A, c, B, e, rfl, _, _, _, hA, hB⟩ := hv.inv
    obtain ⟨A', c', B', e', rfl, _, _, _, hA', hB'⟩ := hv'.inv
    have hbb : ∀ o o', Below w.heap.size w ((w.alloc o).alloc o') := below_alloc2 w
    by_cases hk : k = k'
    case neg =>
      have hkb : (k == k') = false := by simpa using hk
      have H := Lib.hid (show cmpV (.mk k i t l d) (.mk k' i' t' l' d') = cmpI k k' by rw [cmpV, if_pos hk])
      clear hk
      go_enter Tryd.func26, Tryd.ntmps26
      go_wp2_with (go_at_call 65; refine (cmpint_c _ _ _).mono ?_; rintro e w1 ⟨rfl, rfl⟩)
      go_ret
      exact ⟨ret_int H.out.symm, hbb _ _⟩
    subst hk
    by_cases h3 : k = 3 ∨ k = 9 ∨ k = 10
    · have H := Lib.hid (show cmpV (.mk k i t l d) (.mk k i' t' l' d') = cmpI i i' by rw [cmpV, if_neg (by simp), if_pos h3])
      rcases h3 with rfl | rfl | rfl
      all_goals
        go_enter Tryd.func26, Tryd.ntmps26
        go_wp2_with (go_at_call 65; refine (cmpint_c _ _ _).mono ?_; rintro e w1 ⟨rfl, rfl⟩)
        go_ret
        exact ⟨ret_int H.out.symm, hbb _ _⟩
    by_cases h4 : k = 4 ∨ k = 7 ∨ k = 8
    · have H := Lib.hid (show cmpV (.mk k i t l d) (.mk k i' t' l' d') = cmpT t t' by rw [cmpV, if_neg (by simp), if_neg h3, if_pos h4])
      clear h3
      rcases h4 with rfl | rfl | rfl
      all_goals
        go_enter Tryd.func26, Tryd.ntmps26
        go_wp2_with (go_at_call 66; refine (strcmp_c _ _ _).mono ?_; rintro e w1 ⟨rfl, rfl⟩)
        go_ret
        exact ⟨ret_int H.out.symm, hbb _ _⟩
    by_cases h6 : k = 6
    · subst h6
      have H := Lib.hid (show cmpV (.mk 6 i t l d) (.mk 6 i' t' l' d') = cmpL l l' by rw [cmpV]; simp)
      have hc := fun o o' => cmpfL_c l l' ihl A A' c c' _ (hA.grow (hbb o o')) (hA'.grow (hbb o o'))
      clear h3 h4 ihl ihd hA hA' hB hB'
      go_enter Tryd.func26, Tryd.ntmps26
      go_wp2_with (go_at_call 67; refine (hc _ _).mono ?_; rintro e w1 ⟨rfl, hb1⟩)
      go_ret
      exact ⟨ret_int H.out.symm, below2 (hbb _ _) hb1⟩
    by_cases h5 : k = 5
    · subst h5
      have H := Lib.hid (show cmpV (.mk 5 i t l d) (.mk 5 i' t' l' d') = cmpD d d' by rw [cmpV]; simp)
      have hc := fun o o' => cmpfD_c d d' ihd B B' e e' _ (hB.grow (hbb o o')) (hB'.grow (hbb o o'))
      clear h3 h4 h6 ihl ihd hA hA' hB hB'
      go_enter Tryd.func26, Tryd.ntmps26
      go_wp2_with (go_at_call 68; refine (hc _ _).mono ?_; rintro e w1 ⟨rfl, hb1⟩)
      go_ret
      exact ⟨ret_int H.out.symm, below2 (hbb _ _) hb1⟩
    have H := Lib.hid (show cmpV (.mk k i t l d) (.mk k i' t' l' d') = 0 by rw [cmpV, if_neg (by simp), if_neg h3, if_neg h4, if_neg h6, if_neg h5])
    have e3 : (k == 3) = false := by simp; omega
    have e4 : (k == 4) = false := by simp; omega
    have e5 : (k == 5) = false := by simp; omega
    have e6 : (k == 6) = false := by simp; omega
    have e7 : (k == 7) = false := by simp; omega
    have e8 : (k == 8) = false := by simp; omega
    have e9 : (k == 9) = false := by simp; omega
    have e10 : (k == 10) = false := by simp; omega
    clear h3 h4 h5 h6 ihl ihd hA hA' hB hB'
    go_enter Tryd.func26, Tryd.ntmps26
    go_wp2_with fail
    go_ret
    exact ⟨ret_int H.out.symm, hbb _ _⟩
end Go.Proofs.YthfejpldhemakaaDoor
