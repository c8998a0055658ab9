import Derived.Test.YthfejpldhemakaaDoorRx
import Derived.OwnWalk
namespace Go.Proofs.YthfejpldhemakaaDoor
open Go.RowKit Go.Sort Go.Lib
set_option maxRecDepth 100000 in
set_option maxHeartbeats 2000000 in
theorem rafter_c (A : Option Addr) (n c : Nat) (w : World) (b : List UInt8) (hA : RY w A b) (hn : b.length = n) (hc : n ≤ c) : Calls Tryd.prog 47 #[.slice A n c] w (BytesPost w (afterV b)) := by
  have hl := hA.1
  rw [hn] at hl
  have HA := Lib.hid (And.intro hA hn)
  clear hA hn
  go_enter Tryd.func47, Tryd.ntmps47
  go_wp2_with fail
  go_loopw [3] (fun ix wr => ∃ (k : Nat), k ≤ n ∧ ix = .int .i64 ((k : Int) - 1) ∧ wr = w ∧ Hid (afterV b = afterK b k)) (fun ix _ => (RowKit.intOf ix + 1).toNat)
  case atStart => exact ⟨n, Nat.le_refl _, rfl, rfl, Lib.hid (by unfold afterV; rw [HA.out.2])⟩
  case round =>
    obtain ⟨k, hk, rfl, rfl, H⟩ := hrel
    cases k with
    | zero =>
      go_wp2_with fail
      go_ret
      exact ⟨_, rfl, by rw [H.out]; exact BO.nil _, by simp [Value.ownBlock], Below.refl _ _⟩
    | succ k =>
      have hkb : k < b.length := by rw [HA.out.2]; omega
      obtain ⟨b0, off, rfl, f0⟩ := HA.out.1.get hkb
      obtain ⟨x, hx⟩ : ∃ x, b[k] = x := ⟨_, rfl⟩
      rw [hx] at f0
      have hgd : b.getD k 0 = x := by rw [← hx, List.getD_eq_getElem?_getD, List.getElem?_eq_getElem hkb]; rfl
      have e1 : ((k + 1 : Nat) : Int) - 1 = (k : Int) := by omega
      rw [e1]
      obtain ⟨ys, hys⟩ : ∃ ys, b.take (k + 1) = ys := ⟨_, rfl⟩
      have hyl : ys.length = k + 1 := by rw [← hys, List.length_take]; omega
      have hyk : ys = b.take k ++ [x] := by rw [← hys, ← hx, List.take_succ_eq_append_getElem hkb]
      have hyn := HA.out.1.news (k + 1) (by omega)
      rw [hys] at hyn
      have HY := Lib.hid (And.intro hyl (And.intro hyk hyn))
      have HX := Lib.hid hgd
      have hkt : (b.take k).length = k := by rw [List.length_take]; omega
      have HKT := Lib.hid hkt
      have hinc := wrap_u8_inc x
      clear hx hgd hkb e1 hys hyl hyk hyn hkt
      by_cases hx5 : x = 255
      · subst hx5
        go_wp2_with fail
        go_roundw
        case rel => exact ⟨k, by omega, rfl, trivial, Lib.hid (by rw [H.out, afterK, if_pos HX.out])⟩
        case measure => simp [RowKit.intOf]
      · have hne : ((x.toNat : Int) == 255) = false := u8_ne (b := 255) hx5
        have HX5 := Lib.hid hx5
        clear hx5
        go_wp2_with (refine wpList_app (by rfl) _ _ (by rfl) (.slice none 0 0) [] ys (by rfl) (BO.nil _) ⟨b0, off, none⟩ c (by rw [HY.out.1]; rfl) HY.out.2.2 (by have := HY.out.1; omega) (by have := HY.out.1; simp; omega) (k + 1) (by have := HY.out.1; simp; omega) ?_; intro g3 cap3 w3 hb3 hg3; rw [List.nil_append, HY.out.2.1] at hb3; have hcl := (hb3.cell (k := k) (by rw [List.length_append, HKT.out]; simp)).1; have hcf := (hb3.cell (k := k) (by rw [List.length_append, HKT.out]; simp)).2; rw [List.getElem_append_right (by have := HKT.out; omega)] at hcl; simp only [HKT.out, Nat.sub_self, List.getElem_cons_zero] at hcl; have HB3 := Lib.hid (hb3.set k (x + 1)); have HG3 := Lib.hid hg3)
        go_ret
        have hb4 := HB3.out
        have hg4 := HG3.out
        rw [List.set_append_right _ _ (by have := HKT.out; omega)] at hb4
        simp only [HKT.out, Nat.sub_self, List.set_cons_zero] at hb4
        refine ⟨_, rfl, ?_, ?_, ?_⟩
        · rw [H.out, afterK, HX.out, if_neg HX5.out]
          exact hb4
        · exact hg4.from_ (Nat.le_refl _) (by simp [Value.ownBlock])
        · have := hg4.below (B := wr.heap.size) (Nat.le_refl _) (by simp [Value.ownBlock])
          have h5 := hg4.from_ (B := wr.heap.size) (Nat.le_refl _) (by simp [Value.ownBlock]) g3 rfl
          exact this.setCell h5 _
/-- How two rows of bytes stand. -/
def cmpB : List UInt8 → List UInt8 → Int
  | [], [] => 0
  | [], _ :: _ => -1
  | _ :: _, [] => 1
  | x :: xs, y :: ys => if x = y then cmpB xs ys else if x.toNat < y.toNat then -1 else 1
theorem cmpB_drop {xs ys : List UInt8} {j : Nat} (hx : j < xs.length) (hy : j < ys.length) (h : xs[j] = ys[j]) : cmpB (xs.drop j) (ys.drop j) = cmpB (xs.drop (j + 1)) (ys.drop (j + 1)) := by
  rw [List.drop_eq_getElem_cons hx, List.drop_eq_getElem_cons hy, cmpB, if_pos h]
theorem cmpB_at {xs ys : List UInt8} {j : Nat} (hx : j < xs.length) (hy : j < ys.length) (h : ¬ xs[j] = ys[j]) : cmpB (xs.drop j) (ys.drop j) = if xs[j].toNat < ys[j].toNat then -1 else 1 := by
  rw [List.drop_eq_getElem_cons hx, List.drop_eq_getElem_cons hy, cmpB, if_neg h]
theorem cmpB_end {xs ys : List UInt8} {j : Nat} (h : ¬ (j < xs.length ∧ j < ys.length)) (h1 : j ≤ xs.length) (h2 : j ≤ ys.length) : cmpB (xs.drop j) (ys.drop j) = if xs.length < ys.length then -1 else if ys.length < xs.length then 1 else 0 := by
  by_cases hx : j < xs.length
  · rw [List.drop_eq_getElem_cons hx, (show ys.drop j = [] from List.drop_eq_nil_of_le (by omega)), cmpB.eq_def]
    simp only []
    rw [if_neg (by omega), if_pos (by omega)]
  · by_cases hy : j < ys.length
    · rw [(show xs.drop j = [] from List.drop_eq_nil_of_le (by omega)), List.drop_eq_getElem_cons hy, cmpB.eq_def]
      simp only []
      rw [if_pos (by omega)]
    · rw [(show xs.drop j = [] from List.drop_eq_nil_of_le (by omega)), (show ys.drop j = [] from List.drop_eq_nil_of_le (by omega)), cmpB.eq_def]
      simp only []
      rw [if_neg (by omega), if_neg (by omega)]
set_option maxRecDepth 100000 in
set_option maxHeartbeats 2000000 in
theorem comp_c (A A' : Option Addr) (c c' n m : Nat) (xs ys : List UInt8) (hn : n = xs.length) (hm : m = ys.length) (w : World) (hA : RY w A xs) (hA' : RY w A' ys) :
    Calls Tryd.prog 48 #[.slice A n c, .slice A' m c'] w fun e w' => e = .returned (.int .i64 (cmpB xs ys)) ∧ Below w.heap.size w w' := by
  have hl := hA.1
  have hl' := hA'.1
  rw [← hn] at hl
  rw [← hm] at hl'
  have HR := Lib.hid (And.intro hA (And.intro hA' (And.intro hn hm)))
  clear hA hA' hn hm
  go_enter Tryd.func48, Tryd.ntmps48
  go_wp2_with fail
  go_loopw [5] (fun ix wr => ∃ j : Nat, j ≤ n ∧ j ≤ m ∧ ix = .int .i64 j ∧ Hid (cmpB xs ys = cmpB (xs.drop j) (ys.drop j)) ∧ Below w.heap.size w wr) (fun ix _ => n - (RowKit.intOf ix).toNat)
  case atStart => exact ⟨0, by omega, by omega, rfl, Lib.hid rfl, Below.refl _ _⟩
  case round =>
    obtain ⟨j, hj, hj2, rfl, hrec, hb⟩ := hrel
    by_cases hlt : j < n ∧ j < m
    · obtain ⟨hz1, hz2⟩ := hlt
      have hx : j < xs.length := by have := HR.out.2.2.1; omega
      have hy : j < ys.length := by have := HR.out.2.2.2; omega
      obtain ⟨b, off, rfl, f0⟩ := (HR.out.1.grow hb).get hx
      obtain ⟨b', off', rfl, g0⟩ := (HR.out.2.1.grow hb).get hy
      have hy1 : (j : Int) < (n : Int) := by omega
      have hy2 : (j : Int) < (m : Int) := by omega
      obtain ⟨x, hxx⟩ : ∃ x, xs[j] = x := ⟨_, rfl⟩
      obtain ⟨y, hyy⟩ : ∃ y, ys[j] = y := ⟨_, rfl⟩
      rw [hxx] at f0
      rw [hyy] at g0
      by_cases he : x = y
      · have HE := Lib.hid (show cmpB xs ys = cmpB (xs.drop (j + 1)) (ys.drop (j + 1)) by rw [hrec.out, cmpB_drop hx hy (by rw [hxx, hyy]; exact he)])
        subst he
        clear hxx hyy hx hy
        go_wp2_with fail
        go_quiet (fail)
        go_wp2_with fail
        go_quiet (fail)
        go_wp2_with fail
        go_roundw
        case rel => exact ⟨j + 1, by omega, by omega, by go_num, HE, drewN_below2 hb _⟩
        case measure => simp [RowKit.intOf]; omega
      · have hv := cmpB_at hx hy (by rw [hxx, hyy]; exact he)
        rw [hxx, hyy, ← hrec.out] at hv
        have hne : ¬ x.toNat = y.toNat := fun h => he (UInt8.toNat_inj.1 h)
        clear hxx hyy hx hy he
        by_cases hlt : x.toNat < y.toNat
        · rw [if_pos hlt] at hv
          have HV := Lib.hid hv
          clear hv
          go_wp2_with fail
          go_quiet (fail)
          go_wp2_with fail
          go_ret
          exact ⟨ret_int HV.out.symm, drewN_below2 hb _⟩
        · rw [if_neg hlt] at hv
          have HV := Lib.hid hv
          have hgt : y.toNat < x.toNat := by omega
          clear hv
          go_wp2_with fail
          go_quiet (fail)
          go_wp2_with fail
          go_quiet (fail)
          go_wp2_with fail
          go_ret
          exact ⟨ret_int HV.out.symm, drewN_below2 (drewN_below2 hb _) _⟩
    · have hv := cmpB_end (xs := xs) (ys := ys) (j := j) (by have := HR.out.2.2; omega) (by have := HR.out.2.2; omega) (by have := HR.out.2.2; omega)
      rw [← hrec.out, ← HR.out.2.2.1, ← HR.out.2.2.2] at hv
      have HV := Lib.hid hv
      clear hv
      by_cases h1 : n < m
      · have hjn : j = n := by omega
        subst hjn
        go_wp2_with fail
        go_ret
        exact ⟨ret_int (by rw [HV.out, if_pos h1]), hb⟩
      · have hjm : j = m := by omega
        subst hjm
        by_cases h2 : j < n
        · go_wp2_with fail
          go_ret
          exact ⟨ret_int (by rw [HV.out, if_neg h1, if_pos h2]), hb⟩
        · obtain rfl : j = n := by omega
          go_wp2_with fail
          go_ret
          exact ⟨ret_int (by rw [HV.out, if_neg h1, if_neg h2]), hb⟩
end Go.Proofs.YthfejpldhemakaaDoor

namespace Go.Proofs.YthfejpldhemakaaDoor
open Go.RowKit Go.Sort Go.Lib
/-- Bytes lent: in memory of their own, two marks behind them. -/
def BLent (w : World) (xs : List UInt8) (e : Ending) (w' : World) : Prop :=
  ∃ g, e = .returned (.slice (some ⟨g, 0, none⟩) xs.length (xs.length + 2)) ∧ BO w' (.slice (some ⟨g, 0, none⟩) (xs.length + 2) (xs.length + 2)) (xs ++ [171, 172]) ∧ w.heap.size ≤ g ∧ Below w.heap.size w w'
theorem RY.nil_ {w : World} {xs : List UInt8} (h : RY w none xs) : xs = [] := by
  cases xs with
  | nil => rfl
  | cons x xs =>
    obtain ⟨b, off, e, _⟩ := h.get (j := 0) (by simp)
    cases e
theorem RY.all {w : World} {ad : Addr} {xs : List UInt8} (h : RY w (some ad) xs) : ∀ j u, (xs.map bv)[j]? = some u → w.cell? (ad.add j) = some u := by
  intro j u hu
  have hj : j < xs.length := by simpa using (List.getElem?_eq_some_iff.1 hu).1
  obtain ⟨b0, off, e, _⟩ := h.get hj
  injection e with e
  subst e
  have := h.news xs.length (Nat.le_refl _)
  rw [List.take_length] at this
  exact this j u hu
set_option maxRecDepth 100000 in
set_option maxHeartbeats 2000000 in
theorem blent_c (A : Option Addr) (c : Nat) (xs : List UInt8) (w : World) (hA : RY w A xs) (hnil : A = none → c = 0) : Calls Tryd.prog 41 #[.slice A xs.length c] w (BLent w xs) := by
  obtain ⟨i0, hi0, hz0, hz1, hz2⟩ := info_parts info5
  obtain ⟨n, hn⟩ : ∃ n, xs.length = n := ⟨_, rfl⟩
  have hl := hA.1
  rw [hn] at hl
  have HA := Lib.hid (And.intro hA (And.intro hnil hn))
  rw [hn]
  clear hA hnil hn
  go_enter Tryd.func41, Tryd.ntmps41
  go_wp2_with (first
    | (refine wpList_make_own _ (by rfl) _ _ _ (by rfl) 0 5 i0 _ 1 Tryd.underlying42 hi0 hz0 hz1 .i64 .i64 _ (n + 2) (by rfl) (by rfl) (by omega) (by rw [hz2]; omega) (by simp [maxLen]; omega) (Nat.zero_le _) ?_; intro w3 hown3 hg3; have HG3 := Lib.hid hg3)
    | (refine wpList_append_fits_any _ (by rfl) _ _ 42 (by rfl) 0 5 i0 1 Tryd.underlying42 hi0 hz1 w.heap.size 0 (n + 2) [] (by rfl) hown3 A n c (xs.map bv) (by rfl) (by rw [List.length_map, HA.out.2.2]; omega) (fun hh => ⟨by have := HA.out.1; rw [hh] at this; have := congrArg List.length this.nil_; rw [HA.out.2.2] at this; simpa using this, HA.out.2.1 hh⟩) (fun ad hh => by have h1 := HA.out.1; rw [hh] at h1; exact (h1.grow ((Only.of_grown HG3.out).below0 (fun g _ h => by cases h))).all) bv_one (by omega) ?_; intro w4 hown4 hg4; have HG4 := Lib.hid hg4)
    | (refine wpList_append_fits _ (by rfl) _ _ 42 (by rfl) 0 5 i0 1 Tryd.underlying42 hi0 hz1 w.heap.size n (n + 2) (xs.map bv) (by rfl) (by simpa using World.ownsRow.alloc hown4 (.cells #[.int .u8 171, .int .u8 172] 5)) ⟨w4.heap.size, 0, none⟩ 2 2 ([171, 172].map bv) (by rfl) (by rfl) (news2 (heap_alloc_new w4 _) rfl rfl) bv_one (by omega) ?_; intro w5 hown5 hg5; have HG5 := Lib.hid hg5))
  go_ret
  have hs5 : w.heap.size < w5.heap.size := by
    have := HG5.out.size
    have h4 := HG4.out.size
    have h3 := (World.ownsRow.lt hown3 w.heap.size rfl).2
    simp at this
    omega
  have h35 : Below w.heap.size w w5 := by
    have h3 := (Only.of_grown HG3.out).below0 (fun g _ h => by cases h)
    have hsz := h3.size
    have h4 := (Only.of_grown HG4.out).below (B := w.heap.size) (fun g hg => by injection hg with hg; omega) hsz
    have h5 := (Only.of_grown HG5.out).below (B := w.heap.size) (fun g hg => by injection hg with hg; omega) (by simp; have := h4.size; omega)
    exact (h3.trans h4).trans (((below_alloc1 w4 _).weak_ (by have := h4.size; omega)).trans h5)
  refine ⟨w.heap.size, by rw [HA.out.2.2]; rfl, ?_, Nat.le_refl _, h35⟩
  rw [HA.out.2.2]
  exact BO_of hown5 (by rw [HA.out.2.2]; rfl)
theorem BO.front {w : World} {g c m : Nat} {xs ys : List UInt8} (h : BO w (.slice (some ⟨g, 0, none⟩) m c) (xs ++ ys)) (hl : xs.length ≤ 140737488355328) : RY w (some ⟨g, 0, none⟩) xs := by
  refine ⟨hl, fun j hj => ⟨g, 0, rfl, fun q u hu => ?_⟩⟩
  obtain rfl : q = 0 := by
    have := (List.getElem?_eq_some_iff.1 hu).1
    simpa using this
  have := (h.cell (k := j) (by simp; omega)).1
  rw [List.getElem_append_left hj] at this
  simp only [List.getElem?_cons_zero, Option.some.injEq] at hu
  subst hu
  simpa [bv] using this
set_option maxRecDepth 100000 in
set_option maxHeartbeats 2000000 in
theorem bkept_c (A : Option Addr) (c g : Nat) (xs : List UInt8) (W w : World) (hA : RY W A xs) (hW : Below W.heap.size W w) (hg : W.heap.size ≤ g) (hb : BO w (.slice (some ⟨g, 0, none⟩) (xs.length + 2) (xs.length + 2)) (xs ++ [171, 172])) :
    Calls Tryd.prog 43 #[.slice (some ⟨g, 0, none⟩) xs.length (xs.length + 2), .slice A xs.length c] w fun e w' => e = .returned (.bool true) ∧ Only (· = g) w w' := by
  obtain ⟨n, hn⟩ : ∃ n, xs.length = n := ⟨_, rfl⟩
  have hl := hA.1
  rw [hn] at hl hb
  have hf := (hb.front (xs := xs) (ys := [171, 172]) (by rw [hn]; exact hl))
  have k1 := (hb.cell (k := n) (by simp; omega)).1
  have k2 := (hb.cell (k := n + 1) (by simp; omega)).1
  rw [List.getElem_append_right (by omega)] at k1 k2
  simp only [hn, Nat.sub_self, List.getElem_cons_zero, show n + 1 - n = 1 by omega, List.getElem_cons_succ] at k1 k2
  have HA := Lib.hid (And.intro hA (And.intro hW (And.intro hg (And.intro hb (And.intro hf hn)))))
  rw [hn]
  clear hA hW hg hb hn hf
  go_enter Tryd.func43, Tryd.ntmps43
  go_wp2_with fail
  refine (bsame_c (some ⟨g, 0, none⟩) A (n + 2) c n n xs xs HA.out.2.2.2.2.2.symm HA.out.2.2.2.2.2.symm w HA.out.2.2.2.2.1 (HA.out.1.grow HA.out.2.1)).mono ?_
  rintro e w1 ⟨rfl, hb1⟩
  have hdc : decide (xs = xs) = true := by simp
  have q1 : w1.cell? ⟨g, n, none⟩ = some (.int .u8 171) := cell_grow hb1 k1
  have q2 : w1.cell? ⟨g, n + 1, none⟩ = some (.int .u8 172) := cell_grow hb1 k2
  have HB1 := Lib.hid hb1
  clear k1 k2 hb1
  go_wp2_with fail
  go_loopw [7] (fun ix wr => ∃ (j : Nat) (ys : List UInt8), j ≤ n + 2 ∧ ix = .int .i64 j ∧ Hid (ys.length = n + 2 ∧ BO wr (.slice (some ⟨g, 0, none⟩) (n + 2) (n + 2)) ys ∧ Only (· = g) w wr)) (fun ix _ => n + 2 - (RowKit.intOf ix).toNat)
  case atStart => exact ⟨0, xs ++ [171, 172], by omega, rfl, Lib.hid ⟨by simp [HA.out.2.2.2.2.2], HA.out.2.2.2.1.grow HB1.out, (Only.of_below (S := fun _ => False) HB1.out).mono (fun _ _ h => h.elim)⟩⟩
  case round =>
    obtain ⟨j, ys, hj, rfl, H⟩ := hrel
    clear q1 q2
    by_cases hlt : j < n + 2
    · have hlt' : (j : Int) < (n : Int) + 2 := by omega
      obtain ⟨z1, z2⟩ := H.out.2.1.cell (k := j) (by rw [H.out.1]; exact hlt)
      go_wp2_with fail
      go_roundw
      case rel => exact ⟨j + 1, ys.set j 99, by omega, by go_num, Lib.hid ⟨by simp [H.out.1], H.out.2.1.set j 99, H.out.2.2.trans (only_set wr g j _) (fun _ _ h => h)⟩⟩
      case measure => simp [RowKit.intOf]; omega
    · obtain rfl : j = n + 2 := by omega
      go_wp2_with fail
      go_ret
      exact ⟨rfl, H.out.2.2⟩
end Go.Proofs.YthfejpldhemakaaDoor

namespace Go.Proofs.YthfejpldhemakaaDoor
theorem cmpB_same : ∀ (xs ys : List UInt8), cmpB xs ys = 0 ↔ xs = ys
  | [], [] => by simp [cmpB]
  | [], y :: ys => by simp [cmpB]
  | x :: xs, [] => by simp [cmpB]
  | x :: xs, y :: ys => by
    have ih := cmpB_same xs ys
    rw [cmpB]
    by_cases h : x = y
    · simp [h, ih]
    · rw [if_neg h]
      constructor
      · intro h2
        split at h2 <;> omega
      · intro h2
        injection h2 with h2 _
        exact absurd h2 h
theorem top_prefix : ∀ (q c : List UInt8), (∀ x ∈ q, x = 255) → (cmpB q c ≤ 0 ↔ q <+: c)
  | [], c, _ => by cases c <;> simp [cmpB]
  | x :: q, [], _ => by simp [cmpB]
  | x :: q, z :: c, h => by
    obtain rfl := h x (by simp)
    have ih := top_prefix q c (fun y hy => h y (by simp [hy]))
    rw [cmpB, List.cons_prefix_cons]
    by_cases hz : (255 : UInt8) = z
    · rw [if_pos hz, ih]; simp [hz]
    · rw [if_neg hz]
      have := z.toNat_lt
      have hn : ¬ (255 : UInt8).toNat < z.toNat := by
        show ¬ 255 < z.toNat
        omega
      rw [if_neg hn]
      simp [hz]
theorem inc_toNat {x : UInt8} (h : ¬ x = 255) : (x + 1).toNat = x.toNat + 1 := by
  have h1 : x.toNat ≠ 255 := fun he => h (UInt8.toNat_inj.1 he)
  have := x.toNat_lt
  rw [UInt8.toNat_add]
  show (x.toNat + 1) % 256 = _
  omega
/-- What begins with b stands between b and what comes after. -/
theorem between (q : List UInt8) (x : UInt8) (hx : ¬ x = 255) (hq : ∀ y ∈ q, y = 255) : ∀ (p c : List UInt8), (p ++ x :: q <+: c ↔ cmpB (p ++ x :: q) c ≤ 0 ∧ cmpB c (p ++ [x + 1]) < 0)
  | [], [] => by simp [cmpB]
  | [], z :: c => by
    have hi := inc_toNat hx
    simp only [List.nil_append, List.cons_prefix_cons, cmpB]
    by_cases hz : x = z
    · subst hz
      have hne : ¬ x = x + 1 := fun he => by have := congrArg UInt8.toNat he; omega
      rw [if_pos rfl, if_neg hne, if_pos (by omega), top_prefix q c hq]
      simp
    · rw [if_neg hz]
      have hzn : ¬ x.toNat = z.toNat := fun he => hz (UInt8.toNat_inj.1 he)
      simp only [hz, false_and, false_iff, not_and]
      intro h1
      split at h1
      · by_cases h2 : z = x + 1
        · rw [if_pos h2]
          cases c <;> simp [cmpB]
        · have h2n : ¬ z.toNat = (x + 1).toNat := fun he => h2 (UInt8.toNat_inj.1 he)
          rw [if_neg h2, if_neg (by omega)]
          omega
      · omega
  | y :: p, [] => by simp [cmpB]
  | y :: p, z :: c => by
    have ih := between q x hx hq p c
    simp only [List.cons_append, List.cons_prefix_cons, cmpB]
    by_cases hz : y = z
    · subst hz
      simp [ih]
    · have hzn : ¬ y.toNat = z.toNat := fun he => hz (UInt8.toNat_inj.1 he)
      rw [if_neg hz, if_neg (show ¬ z = y from fun h => hz h.symm)]
      simp only [hz, false_and, false_iff, not_and]
      intro h1
      split at h1
      · rw [if_neg (by omega)]; omega
      · omega
theorem afterK_form (b : List UInt8) : ∀ k, k ≤ b.length → (afterK b k = [] ∧ ∀ y ∈ b.take k, y = 255) ∨ ∃ p x q, b.take k = p ++ x :: q ∧ ¬ x = 255 ∧ (∀ y ∈ q, y = 255) ∧ afterK b k = p ++ [x + 1]
  | 0, _ => .inl ⟨rfl, by simp⟩
  | k + 1, h => by
    have hk : k < b.length := by omega
    have hg : b.getD k 0 = b[k] := by rw [List.getD_eq_getElem?_getD, List.getElem?_eq_getElem hk]; rfl
    rw [List.take_succ_eq_append_getElem hk, afterK, hg]
    by_cases hx : b[k] = 255
    · rw [if_pos hx, hx]
      rcases afterK_form b k (by omega) with ⟨h1, h2⟩ | ⟨p, x, q, h1, h2, h3, h4⟩
      · refine .inl ⟨h1, fun y hy => ?_⟩
        rcases List.mem_append.1 hy with hy | hy
        · exact h2 y hy
        · simpa using hy
      · refine .inr ⟨p, x, q ++ [255], by rw [h1]; simp, h2, fun y hy => ?_, h4⟩
        rcases List.mem_append.1 hy with hy | hy
        · exact h3 y hy
        · simpa using hy
    · rw [if_neg hx]
      exact .inr ⟨b.take k, b[k], [], rfl, hx, by simp, rfl⟩
theorem after_law (b c : List UInt8) (h : afterV b ≠ []) : (b.length ≤ c.length ∧ cmpB (c.take (min b.length c.length)) b = 0) ↔ (cmpB b c ≤ 0 ∧ cmpB c (afterV b) < 0) := by
  have hp : (b.length ≤ c.length ∧ cmpB (c.take (min b.length c.length)) b = 0) ↔ b <+: c := by
    rw [cmpB_same]
    constructor
    · rintro ⟨h1, h2⟩
      rw [← h2]
      exact List.take_prefix _ _
    · intro h1
      have hl := h1.length_le
      refine ⟨hl, ?_⟩
      rw [Nat.min_eq_left hl]
      exact (List.prefix_iff_eq_take.1 h1).symm
  rw [hp]
  rcases afterK_form b b.length (Nat.le_refl _) with ⟨h1, _⟩ | ⟨p, x, q, h1, h2, h3, h4⟩
  · exact absurd h1 h
  · rw [List.take_length] at h1
    have hb := between q x h2 h3 p c
    rw [← h1, ← h4] at hb
    exact hb
end Go.Proofs.YthfejpldhemakaaDoor

namespace Go.Proofs.YthfejpldhemakaaDoor
open Go.RowKit Go.Sort Go.Lib
theorem RY.take {w : World} {A : Option Addr} {xs : List UInt8} (h : RY w A xs) (k : Nat) : RY w A (xs.take k) := by
  refine ⟨by have := h.1; rw [List.length_take]; omega, fun j hj => ?_⟩
  have hj2 : j < xs.length := by rw [List.length_take] at hj; omega
  have := h.2 j hj2
  rwa [List.getElem_take]
set_option maxRecDepth 100000 in
set_option maxHeartbeats 4000000 in
theorem keyAfter_c (b : List UInt8) (A : Option Addr) (c : Nat) (x : List UInt8) (A2 : Option Addr) (c2 : Nat) (W : World) (hT : Tabs W) (hA : RY W A b) (hc : b.length ≤ c) (hnil : A = none → c = 0) (hX : RY W A2 x) (hc2 : x.length ≤ c2) (hnil2 : A2 = none → c2 = 0) :
    Calls Tryd.prog 9 #[.slice A b.length c, .slice A2 x.length c2] W fun e w' => e = .returned (.bool true) ∧ Below W.heap.size W w' := by
  obtain ⟨n, hn⟩ : ∃ n, b.length = n := ⟨_, rfl⟩
  obtain ⟨m, hm⟩ : ∃ m, x.length = m := ⟨_, rfl⟩
  have hl := hA.1
  have hl2 := hX.1
  have HL := Lib.hid (blent_c A c b)
  have HLaw := Lib.hid (after_law b x)
  rw [hn] at hl hc
  rw [hm] at hl2 hc2
  rw [hn] at HL
  rw [hn, hm]
  have HA := Lib.hid (And.intro hT (And.intro hA (And.intro hnil (And.intro hX (And.intro hn hm)))))
  clear hT hA hnil hX hn hm hnil2
  go_enter Tryd.func9, Tryd.ntmps9
  go_wp2_with fail
  refine (awake03_c W HA.out.1).mono ?_
  rintro e w1 ⟨rfl, hb1⟩
  have HB1 := Lib.hid hb1
  clear hb1
  go_wp2_with fail
  refine (HL.out w1 (HA.out.2.1.grow HB1.out) HA.out.2.2.1).mono ?_
  rintro e w2 ⟨g, rfl, hbo, hg, hb2⟩
  rw [HA.out.2.2.2.2.1] at hbo ⊢
  have HB2 := Lib.hid (And.intro hbo (And.intro hg hb2))
  clear hbo hg hb2
  go_wp2_with fail
  refine (after_c (some ⟨g, 0, none⟩) n (n + 2) w2 b (HB2.out.1.front (by rw [HA.out.2.2.2.2.1]; exact hl)) HA.out.2.2.2.2.1 (by omega)).mono ?_
  rintro e w3 ⟨va, rfl, hba, hfa, hb3⟩
  have HB3 := Lib.hid (And.intro hba (And.intro hfa hb3))
  clear hba hfa hb3
  go_wp2_with fail
  have hk := bkept_c A c g b w1 w3 (HA.out.2.1.grow HB1.out) (below2 HB2.out.2.2 HB3.out.2.2) HB2.out.2.1 (by rw [HA.out.2.2.2.2.1]; exact HB2.out.1.grow HB3.out.2.2)
  rw [HA.out.2.2.2.2.1] at hk
  refine hk.mono ?_
  rintro e w4 ⟨rfl, ho4⟩
  have h14 : Below w1.heap.size w1 w4 := (below2 HB2.out.2.2 HB3.out.2.2).trans (ho4.below (fun q hq => by rw [hq]; exact HB2.out.2.1) (below2 HB2.out.2.2 HB3.out.2.2).size)
  have hgl := HB2.out.1.lt (g := g) rfl
  have hba4 : BO w4 va (afterV b) := HB3.out.1.at_ fun q hq => ho4.block q (HB3.out.1.lt hq) (fun he => by have := HB3.out.2.1 q hq; omega)
  have HB4 := Lib.hid (And.intro (below2 HB1.out h14) hba4)
  clear hk ho4 h14 hgl hba4
  go_wp2_with fail
  refine (rafter_c A n c w4 b (HA.out.2.1.grow HB4.out.1) HA.out.2.2.2.2.1 hc).mono ?_
  rintro e w5 ⟨vr, rfl, hbr, _, hb5⟩
  obtain ⟨a, ha⟩ : ∃ a, afterV b = a := ⟨_, rfl⟩
  have hba5 := HB4.out.2.grow hb5
  rw [ha] at hba5 hbr
  have hal : a.length ≤ 140737488355328 := by
    rw [← ha]
    rcases afterK_form b b.length (Nat.le_refl _) with ⟨h1, _⟩ | ⟨p, y, q, h1, _, _, h4⟩
    · unfold afterV; rw [h1]; simp
    · unfold afterV; rw [h4]
      have := congrArg List.length h1
      simp at this ⊢
      have := HA.out.2.2.2.2.1
      omega
  obtain ⟨Aa, ca, rfl, _⟩ := hba5.form
  obtain ⟨Ar, cr, rfl, _⟩ := hbr.form
  have HB5 := Lib.hid (And.intro (below2 HB4.out.1 hb5) (And.intro (hba5.ry hal) (And.intro (hbr.ry hal) ha)))
  clear hba5 hbr hb5 ha
  go_wp2_with fail
  refine (bsame_c Aa Ar ca cr a.length a.length a a rfl rfl w5 HB5.out.2.1 HB5.out.2.2.1).mono ?_
  rintro e w6 ⟨rfl, hb6⟩
  have hdc : decide (a = a) = true := by simp
  have HB6 := Lib.hid (And.intro (below2 HB5.out.1 hb6) (HB5.out.2.1.grow hb6))
  clear hb6
  by_cases ha0 : a.length = 0
  · have ha0' : ((a.length : Int) == 0) = true := by simp [ha0]
    go_wp2_with fail
    go_ret
    exact ⟨rfl, HB6.out.1⟩
  · have ha0' : ((a.length : Int) == 0) = false := by simp; intro h; exact ha0 (by simp [h])
    have hlaw := HLaw.out (by rw [HB5.out.2.2.2]; intro h; exact ha0 (by simp [h]))
    rw [HB5.out.2.2.2, HA.out.2.2.2.2.1, HA.out.2.2.2.2.2] at hlaw
    have HLw := Lib.hid hlaw
    clear hlaw HLaw ha0
    by_cases hnm : n ≤ m
    · have hmin : (min (n : Int) (m : Int)).toNat = n := by omega
      have hnm' : (n : Int) ≤ (m : Int) := by omega
      have hc1 := fun (w : World) (hw : Below W.heap.size W w) => comp_c A A2 c c2 n m b x HA.out.2.2.2.2.1.symm HA.out.2.2.2.2.2.symm w (HA.out.2.1.grow hw) (HA.out.2.2.2.1.grow hw)
      have hc3 := fun (w : World) (hw : Below W.heap.size W w) (hw6 : Below w6.heap.size w6 w) => comp_c A2 Aa c2 ca m a.length x a HA.out.2.2.2.2.2.symm rfl w (HA.out.2.2.2.1.grow hw) (HB6.out.2.grow hw6)
      obtain ⟨f, hf⟩ : ∃ f, cmpB b x = f := ⟨_, rfl⟩
      obtain ⟨t, ht⟩ : ∃ t, cmpB x a = t := ⟨_, rfl⟩
      rw [hf] at hc1
      rw [ht] at hc3
      have HC := Lib.hid (And.intro hc1 hc3)
      have hlw := HLw.out
      rw [hf, ht] at hlw
      clear hc1 hc3 hf ht
      have hk := fun k (hk : k = n) => comp_c A2 A c2 c k n (x.take (min n m)) b (by rw [hk, List.length_take, HA.out.2.2.2.2.2]; omega) HA.out.2.2.2.2.1.symm w6 ((HA.out.2.2.2.1.grow HB6.out.1).take _) (HA.out.2.1.grow HB6.out.1)
      obtain ⟨K, hK⟩ : ∃ K, cmpB (x.take (min n m)) b = K := ⟨_, rfl⟩
      rw [hK] at hk hlw
      have HK := Lib.hid hk
      have HLW := Lib.hid hlw
      clear hk hK hlw
      go_wp2_with fail
      refine (HK.out n rfl).mono ?_
      rintro e w7 ⟨rfl, hb7⟩
      have HB7 := Lib.hid hb7
      clear hb7
      go_wp2_with fail
      refine (HC.out.1 w7 (below2 HB6.out.1 HB7.out)).mono ?_
      rintro e w8 ⟨rfl, hb8⟩
      have HB8 := Lib.hid hb8
      clear hb8
      go_wp2_with fail
      refine (HC.out.2 w8 (below2 (below2 HB6.out.1 HB7.out) HB8.out) (below2 HB7.out HB8.out)).mono ?_
      rintro e w9 ⟨rfl, hb9⟩
      have HB9 := Lib.hid hb9
      clear hb9
      by_cases h1 : f ≤ 0
      · by_cases h2 : t < 0
        · obtain rfl : K = 0 := (HLW.out.2 ⟨h1, h2⟩).2
          go_wp2_with fail
          go_ret
          exact ⟨rfl, below2 (below2 (below2 HB6.out.1 HB7.out) HB8.out) HB9.out⟩
        · have hK0 : ¬ K = 0 := fun h => by have := HLW.out.1 ⟨hnm, h⟩; omega
          have hK1 : (K == 0) = false := by simp [hK0]
          go_wp2_with fail
          go_ret
          exact ⟨ret_bool (by simpa using h2), below2 (below2 (below2 HB6.out.1 HB7.out) HB8.out) HB9.out⟩
      · by_cases h2 : t < 0
        · have hK0 : ¬ K = 0 := fun h => by have := HLW.out.1 ⟨hnm, h⟩; omega
          have hK1 : (K == 0) = false := by simp [hK0]
          go_wp2_with fail
          go_ret
          exact ⟨rfl, below2 (below2 (below2 HB6.out.1 HB7.out) HB8.out) HB9.out⟩
        · have hK0 : ¬ K = 0 := fun h => by have := HLW.out.1 ⟨hnm, h⟩; omega
          have hK1 : (K == 0) = false := by simp [hK0]
          go_wp2_with fail
          go_ret
          exact ⟨rfl, below2 (below2 (below2 HB6.out.1 HB7.out) HB8.out) HB9.out⟩
    · have hnm' : (m : Int) < (n : Int) := by omega
      have hc1 := fun (w : World) (hw : Below W.heap.size W w) => comp_c A A2 c c2 n m b x HA.out.2.2.2.2.1.symm HA.out.2.2.2.2.2.symm w (HA.out.2.1.grow hw) (HA.out.2.2.2.1.grow hw)
      have hc3 := fun (w : World) (hw : Below W.heap.size W w) (hw6 : Below w6.heap.size w6 w) => comp_c A2 Aa c2 ca m a.length x a HA.out.2.2.2.2.2.symm rfl w (HA.out.2.2.2.1.grow hw) (HB6.out.2.grow hw6)
      obtain ⟨f, hf⟩ : ∃ f, cmpB b x = f := ⟨_, rfl⟩
      obtain ⟨t, ht⟩ : ∃ t, cmpB x a = t := ⟨_, rfl⟩
      rw [hf] at hc1
      rw [ht] at hc3
      have HC := Lib.hid (And.intro hc1 hc3)
      have hlw := HLw.out
      rw [hf, ht] at hlw
      clear hc1 hc3 hf ht
      have HLW := Lib.hid hlw
      clear hlw
      go_wp2_with fail
      refine (HC.out.1 w6 HB6.out.1).mono ?_
      rintro e w8 ⟨rfl, hb8⟩
      have HB8 := Lib.hid hb8
      clear hb8
      go_wp2_with fail
      refine (HC.out.2 w8 (below2 HB6.out.1 HB8.out) HB8.out).mono ?_
      rintro e w9 ⟨rfl, hb9⟩
      have HB9 := Lib.hid hb9
      clear hb9
      by_cases h1 : f ≤ 0
      · by_cases h2 : t < 0
        · exact absurd (HLW.out.2 ⟨h1, h2⟩).1 hnm
        · go_wp2_with fail
          go_ret
          exact ⟨ret_bool (by simpa using h2), below2 (below2 HB6.out.1 HB8.out) HB9.out⟩
      · by_cases h2 : t < 0
        · go_wp2_with fail
          go_ret
          exact ⟨rfl, below2 (below2 HB6.out.1 HB8.out) HB9.out⟩
        · go_wp2_with fail
          go_ret
          exact ⟨rfl, below2 (below2 HB6.out.1 HB8.out) HB9.out⟩
end Go.Proofs.YthfejpldhemakaaDoor

namespace Go.Proofs.YthfejpldhemakaaDoor
open Go.ChangeShapes Go.WideShapes Go.ChangeAt Go.RowKit Go.Lib Go.Deep
theorem c5 : Tryd.prog.cellsOf 5 = 1 := by kernel_rfl
theorem by5 : Tryd.prog.bytesOf 5 = 1 := by kernel_rfl
section
set_option maxRecDepth 100000
variable {H : Type} {enc : TypeId × Value → H}
theorem u8_of_wf {n : Int} (h : (Lit.int .u8 n).wf = true) : ∃ x : UInt8, n = (x.toNat : Int) := by
  have h2 : 0 ≤ n ∧ n ≤ 255 := by
    simp [Lit.wf, IntKind.min, IntKind.max, IntKind.signed, IntKind.bits] at h
    omega
  refine ⟨UInt8.ofNat n.toNat, ?_⟩
  rw [UInt8.toNat_ofNat']
  omega
/-- An argument of type []byte. -/
theorem arg_bytes {W : World} {base : Nat} {v : Value} {d : DataW H} {p : List MemPlace} (hok : Value.okWide Tryd.prog W .any base 42 v)
    (h : DataW.Trod enc Tryd.prog W 0 (fun _ => true) true 42 v d p) (hw : (d.weights Tryd.prog 42).all (· ≤ reachBytes) = true) : ∃ (A : Option Addr) (l : List UInt8) (c : Nat), v = .slice A l.length c ∧ RY W A l ∧ l.length ≤ c ∧ (A = none → c = 0) := by
  obtain ⟨a, len, cap, rfl⟩ := okWide_slice Tryd.underlying42 hok
  obtain ⟨n, h⟩ := h
  have f3 : DataW.trod enc Tryd.prog W 0 (fun _ => true) true n 42 [.slice a len cap] = some (d, p) := by simpa [Value.cells] using h
  rcases DataW.trod_slice Tryd.underlying42 f3 with ⟨e3, _⟩ | ⟨a', len', cap', elems, rest, m, hm, e3, e3', hb, hle, hcm, hlen, hel, _, _⟩
  · simp only [List.cons.injEq, and_true] at e3
    rw [e3]
    exact ⟨none, [], 0, rfl, ⟨by simp, fun j hj => absurd hj (by simp)⟩, by simp, fun _ => rfl⟩
  · simp only [List.cons.injEq, and_true] at e3
    rw [e3]
    simp only [Prod.mk.injEq] at e3'
    obtain ⟨rfl, _⟩ := e3'
    simp only [DataW.weights, Tryd.underlying42, List.all_cons, List.all_append, Bool.and_eq_true, List.length_map, by5] at hw
    obtain ⟨h1, h2, _⟩ := hw
    have hbd := bound_le' h1
    rw [c5] at hel
    obtain ⟨C, hC⟩ := slice_place (e := 5) (by omega) hlen hel
    have hv : ∀ j, j < len' → ∃ b : UInt8, C j = [bv b] := by
      intro j hj
      obtain ⟨_, _, hj', ht⟩ := hC j hj
      obtain ⟨b, hb, _, hwf⟩ := DataW.trod_int Tryd.underlying5 ht
      obtain ⟨x, rfl⟩ := u8_of_wf hwf
      exact ⟨x, hb⟩
    obtain ⟨f, hf⟩ := choose_lt hv
    refine ⟨some a', (List.range len').map f, cap', by simp, ⟨?_, ?_⟩, by simpa using hle, fun h => by cases h⟩
    · simp only [List.length_map, List.length_range]
      omega
    · intro j hj
      have h1 := (hC j (by simpa using hj)).1
      rw [hf j (by simpa using hj)] at h1
      simpa using h1
end
/-- The walk, in the order that the row's printer hands its arguments. -/
theorem keyAfter_cc (b : List UInt8) (A : Option Addr) (c : Nat) (x : List UInt8) (A2 : Option Addr) (c2 : Nat) (W : World) (hT : Tabs W) (h : RY W A b ∧ b.length ≤ c ∧ (A = none → c = 0)) (k : RY W A2 x ∧ x.length ≤ c2 ∧ (A2 = none → c2 = 0)) :
    Calls Tryd.prog 9 #[.slice A b.length c, .slice A2 x.length c2] W fun e w' => e = .returned (.bool true) ∧ Below W.heap.size W w' := keyAfter_c b A c x A2 c2 W hT h.1 h.2.1 h.2.2 k.1 k.2.1 k.2.2
end Go.Proofs.YthfejpldhemakaaDoor
