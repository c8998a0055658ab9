import Derived.Test.YthfejpldhemakaaDoorT
import Derived.Test.YthfejpldhemakaaDoorO
import Derived.WalkSpells
import Derived.WalkLawsBesides
import Derived.KernelRfl
import Derived.BigQuiet
import Derived.Lib.ItoaMem
namespace Go.Proofs.YthfejpldhemakaaDoor
open Go.RowKit Go.Sort
theorem Only.cell {S : Nat → Prop} {w w1 : World} (h : Only S w w1) {a : Addr} {v : Value} (hc : w.cell? a = some v) (hS : ¬ S a.block) : w1.cell? a = some v :=
  (World.cell?_of_block (h.block _ (World.block_lt_of_cell? w a hc) hS)).trans hc
def digitsN (n : Nat) : Nat := if n < 10 then 1 else 1 + digitsN (n / 10)
theorem digitsN_lt {n : Nat} (h : n < 10) : digitsN n = 1 := by rw [digitsN, if_pos h]
theorem digitsN_ge {n : Nat} (h : 10 ≤ n) : digitsN n = 1 + digitsN (n / 10) := by rw [digitsN, if_neg (by omega)]
theorem digitsN_le (n : Nat) : digitsN n ≤ n + 1 := by
  induction n using Nat.strongRecOn with
  | _ n ih =>
    by_cases h : n < 10
    · rw [digitsN_lt h]; omega
    · rw [digitsN_ge (by omega)]
      have := ih (n / 10) (by omega)
      omega
theorem digitsN_small {n : Nat} (h : n < 10000000000000) : digitsN n ≤ 13 := by
  have step : ∀ k m, m < 10 ^ (k + 1) → digitsN m ≤ k + 1 := by
    intro k
    induction k with
    | zero => intro m hm; rw [digitsN_lt (by omega)]; omega
    | succ k ih =>
      intro m hm
      by_cases h : m < 10
      · rw [digitsN_lt h]; omega
      · rw [digitsN_ge (by omega)]
        have := ih (m / 10) (by rw [Nat.pow_succ] at hm; omega)
        omega
  exact step 12 n (by omega)
mutual
/-- How many bytes a value has. -/
def sizeV : V → Nat
  | .mk k _ t l d =>
    if k = 3 ∨ k = 10 then 8
    else if k = 4 ∨ k = 7 then 5 + t.size
    else if k = 8 then 12
    else if k = 9 then 1
    else if k = 5 then 5 + sizeD d
    else if k = 6 then 5 + sizeL l 0
    else 0
def sizeL : List V → Nat → Nat
  | [], _ => 0
  | x :: l, i => 2 + digitsN i + sizeV x + sizeL l (i + 1)
def sizeD : List (ByteArray × V) → Nat
  | [] => 0
  | (n, x) :: l => 2 + n.size + sizeV x + sizeD l
end
theorem sizeL_step {l : List V} {j : Nat} (h : j < l.length) : sizeL (l.drop j) j = 2 + digitsN j + sizeV l[j] + sizeL (l.drop (j + 1)) (j + 1) := by
  rw [List.drop_eq_getElem_cons h, sizeL]
theorem sizeD_step {d : List (ByteArray × V)} {j : Nat} (h : j < d.length) : sizeD (d.drop j) = 2 + d[j].1.size + sizeV d[j].2 + sizeD (d.drop (j + 1)) := by
  rw [List.drop_eq_getElem_cons h, sizeD]
set_option maxHeartbeats 400000 in
theorem take_yes (sb : Nat) (n room : Int) (w : World) (hblk : w.heap[sb]? = some (.cells #[.int .i64 room] 76 (0, 0))) (h0 : 0 ≤ n) (h : n ≤ room) (h1 : room ≤ 65536) :
    Calls Tryd.prog 93 #[.pointer (some ⟨sb, 0, none⟩), .int .i64 n] w fun e w' => e = .returned (.bool true) ∧ w'.heap[sb]? = some (.cells #[.int .i64 (room - n)] 76 (0, 0)) ∧ Only (· = sb) w w' := by
  have c0 := cell_at hblk 0 _ rfl
  have f0 := free_at hblk 0
  have HB := Lib.hid hblk
  clear hblk
  go_enter Tryd.func93, Tryd.ntmps93
  go_wp2_with fail
  go_ret
  exact ⟨rfl, setCell_block HB.out 0 _, only_set _ _ _ _⟩
set_option maxHeartbeats 400000 in
theorem take_no (sb : Nat) (n room : Int) (w : World) (hblk : w.heap[sb]? = some (.cells #[.int .i64 room] 76 (0, 0))) (h : room < n) :
    Calls Tryd.prog 93 #[.pointer (some ⟨sb, 0, none⟩), .int .i64 n] w fun e w' => e = .returned (.bool false) ∧ w'.heap[sb]? = some (.cells #[.int .i64 (-1)] 76 (0, 0)) ∧ Only (· = sb) w w' := by
  have c0 := cell_at hblk 0 _ rfl
  have f0 := free_at hblk 0
  have HB := Lib.hid hblk
  clear hblk
  go_enter Tryd.func93, Tryd.ntmps93
  go_wp2_with fail
  go_ret
  exact ⟨rfl, setCell_block HB.out 0 _, only_set _ _ _ _⟩
theorem digitsN_lib (n : Nat) : Lib.nDigits n = digitsN n := by
  induction n using Nat.strongRecOn with
  | _ n ih =>
    by_cases h : n < 10
    · rw [digitsN_lt h, Lib.nDigits_small h]
    · rw [digitsN_ge (by omega), Lib.nDigits, dif_neg h, ih (n / 10) (by omega)]
      omega
theorem len_itoa (n : Nat) : (Lib.itoa (n : Int)).length = digitsN n := by
  rw [Lib.itoa_nonneg, Lib.decDigits_length, digitsN_lib]
/-- What weighing n against room comes to. -/
def Weighed (sb : Nat) (w : World) (n : Nat) (room : Int) (e : Ending) (w' : World) : Prop :=
  (((n : Int) ≤ room ∧ e = .returned (.bool true) ∧ w'.heap[sb]? = some (.cells #[.int .i64 (room - n)] 76 (0, 0))) ∨ (room < n ∧ e = .returned (.bool false) ∧ w'.heap[sb]? = some (.cells #[.int .i64 (-1)] 76 (0, 0)))) ∧ Only (· = sb) w w'
set_option maxRecDepth 100000 in
set_option maxHeartbeats 1000000 in
theorem weigh_doc (i : Int) (t : ByteArray) (l : List V) (d : List (ByteArray × V)) (ihd : ∀ p ∈ d, ∀ (room : Int) (cs : List Value) (sb : Nat) (W w : World), Tabs W → RV W p.2 cs → Below W.heap.size W w → W.heap.size ≤ sb → w.heap[sb]? = some (.cells #[.int .i64 room] 76 (0, 0)) → 0 ≤ room → room ≤ 65536 →
      Calls Tryd.prog 62 #[.pointer (some ⟨sb, 0, none⟩), .agg cs.toArray] w (Weighed sb w (sizeV p.2) room)) :
    ∀ (room : Int) (A A' : Option Addr) (c c' : Nat) (sb : Nat) (W w : World), Tabs W → RD W d A' c' → Below W.heap.size W w → W.heap.size ≤ sb → w.heap[sb]? = some (.cells #[.int .i64 room] 76 (0, 0)) → 0 ≤ room → room ≤ 65536 →
      Calls Tryd.prog 62 #[.pointer (some ⟨sb, 0, none⟩), .agg #[.int .i64 5, .int .i64 i, .string t, .slice A l.length c, .slice A' d.length c']] w (Weighed sb w (5 + sizeD d) room) := by
  intro room A A' c c' sb W w hT hD hb hsb hblk h0 h1
  have hd0 := hD.1
  have hsw := block_lt hblk
  have hne : w.heap.size ≠ sb := by omega
  have HB := Lib.hid hblk
  clear hblk
  go_enter Tryd.func62, Tryd.ntmps62
  go_wp2_with fail
  generalize hW0 : w.alloc _ = W0
  have o0 : Only (· = sb) w W0 := by rw [← hW0]; exact Only.of_below (below_alloc1 _ _)
  have hs0 : W0.heap.size = w.heap.size + 1 := by rw [← hW0]; simp
  have hbx : W0.cell? ⟨w.heap.size, 4, none⟩ = some (.slice A' d.length c') := by rw [← hW0]; exact box_cell 4 _ rfl
  have hb0 : W0.heap[sb]? = some (.cells #[.int .i64 room] 76 (0, 0)) := by rw [← hW0, heap_alloc_old _ _ hsw]; exact HB.out
  have H0 := Lib.hid (And.intro hs0 hb0)
  clear hW0 hs0 hb0
  by_cases h5 : room < 5
  · refine (take_no sb 5 room W0 H0.out.2 h5).mono ?_
    rintro e w1 ⟨rfl, hk, ho⟩
    have HK := Lib.hid hk
    clear hk
    go_wp2_with fail
    go_ret
    exact ⟨.inr ⟨by omega, rfl, HK.out⟩, o0.trans ho (fun _ _ h => h)⟩
  · refine (take_yes sb 5 room W0 H0.out.2 (by omega) (by omega) h1).mono ?_
    rintro e w1 ⟨rfl, hk, ho⟩
    have hbx1 := ho.cell hbx hne
    have hbw1 : Below W.heap.size W w1 := hb.trans ((o0.trans ho (fun _ _ h => h)).below (fun g hg => by omega) hb.size)
    have hs1 := ho.size
    have HK := Lib.hid hk
    have HO := Lib.hid (o0.trans ho (fun _ _ h => h))
    clear hk ho hbx o0
    go_wp2_with fail
    go_loopw [44] (fun ix wr => ∃ (j : Nat) (rm : Int), j ≤ d.length ∧ ix = .int .i64 j ∧ Hid (rm - sizeD (d.drop j) = room - (5 + sizeD d)) ∧ 0 ≤ rm ∧ rm ≤ 65536 ∧ Hid (wr.heap[sb]? = some (.cells #[.int .i64 rm] 76 (0, 0))) ∧ Only (· = sb) w1 wr) (fun ix _ => d.length - (intOf ix).toNat)
    case atStart => exact ⟨0, room - 5, by omega, rfl, Lib.hid (by simp; omega), by omega, by omega, HK, Only.refl _ _⟩
    case round =>
      obtain ⟨j, rm, hj, rfl, hrec, hm0, hm1, hblk, how⟩ := hrel
      have hbwr : Below W.heap.size W wr := hbw1.trans (how.below (fun g hg => by omega) hbw1.size)
      have hsr : sb < wr.heap.size := block_lt hblk.out
      by_cases hlt : j < d.length
      · obtain ⟨b, off, a0, n0, a1, n1, rfl, hnm, hrW, g0, g1, g2, g3, g4, g5⟩ := hD.get j hlt
        have f0 := cell_grow hbwr g0
        have f1 := cell_grow hbwr g1
        have f2 := cell_grow hbwr g2
        have f3 := cell_grow hbwr g3
        have f4 := cell_grow hbwr g4
        have f5 := cell_grow hbwr g5
        clear g0 g1 g2 g3 g4 g5
        have Hst := Lib.hid (sizeD_step hlt)
        have ih := ihd d[j] (List.getElem_mem hlt)
        clear ihd
        go_wp2_with fail
        generalize hW3 : wr.alloc _ = W3
        have o3 : Only (· = sb) w1 W3 := by rw [← hW3]; exact how.trans (Only.of_below (S := (· = sb)) (below_alloc1 _ _)) (fun _ _ h => h)
        have c0 : W3.cell? ⟨wr.heap.size, 0, none⟩ = some (.string d[j].1) := by rw [← hW3]; exact box_cell 0 _ rfl
        have c1 : W3.cell? ⟨wr.heap.size, 1, none⟩ = some (.int .i64 d[j].2.k) := by rw [← hW3]; exact box_cell 1 _ rfl
        have c2 : W3.cell? ⟨wr.heap.size, 2, none⟩ = some (.int .i64 d[j].2.i) := by rw [← hW3]; exact box_cell 2 _ rfl
        have c3 : W3.cell? ⟨wr.heap.size, 3, none⟩ = some (.string d[j].2.t) := by rw [← hW3]; exact box_cell 3 _ rfl
        have c4 : W3.cell? ⟨wr.heap.size, 4, none⟩ = some (.slice a0 d[j].2.l.length n0) := by rw [← hW3]; exact box_cell 4 _ rfl
        have c5 : W3.cell? ⟨wr.heap.size, 5, none⟩ = some (.slice a1 d[j].2.d.length n1) := by rw [← hW3]; exact box_cell 5 _ rfl
        have hk3 : W3.heap[sb]? = some (.cells #[.int .i64 rm] 76 (0, 0)) := by rw [← hW3, heap_alloc_old _ _ hsr]; exact hblk.out
        have hne3 : wr.heap.size ≠ sb := by omega
        have HC : Hid (∀ w', Only (· = sb) W3 w' → w'.cell? ⟨wr.heap.size, 0, none⟩ = some (.string d[j].1) ∧ w'.cell? ⟨wr.heap.size, 1, none⟩ = some (.int .i64 d[j].2.k) ∧ w'.cell? ⟨wr.heap.size, 2, none⟩ = some (.int .i64 d[j].2.i) ∧ w'.cell? ⟨wr.heap.size, 3, none⟩ = some (.string d[j].2.t) ∧ w'.cell? ⟨wr.heap.size, 4, none⟩ = some (.slice a0 d[j].2.l.length n0) ∧ w'.cell? ⟨wr.heap.size, 5, none⟩ = some (.slice a1 d[j].2.d.length n1)) :=
          Lib.hid fun w' ho => ⟨ho.cell c0 hne3, ho.cell c1 hne3, ho.cell c2 hne3, ho.cell c3 hne3, ho.cell c4 hne3, ho.cell c5 hne3⟩
        have H3 := Lib.hid hk3
        have hbw3 : Below W.heap.size W W3 := hbw1.trans (o3.below (fun g hg => by omega) hbw1.size)
        clear hk3 hW3 f0 f1 f2 f3 f4 f5 c0 c1 c2 c3 c4 c5 hblk how hbwr
        by_cases hA : rm < 2
        · refine (take_no sb 2 rm W3 H3.out hA).mono ?_
          rintro e w2 ⟨rfl, hk, ho⟩
          have H4 := Lib.hid hk
          clear hk
          go_wp2_with fail
          go_ret
          exact ⟨.inr ⟨by have := hrec.out; have := Hst.out; omega, rfl, H4.out⟩, HO.out.trans (o3.trans ho (fun _ _ h => h)) (fun _ _ h => h)⟩
        refine (take_yes sb 2 rm W3 H3.out (by omega) (by omega) hm1).mono ?_
        rintro e w2 ⟨rfl, hk, ho⟩
        have H4 := Lib.hid hk
        obtain ⟨k0, k1, k2, k3, k4, k5⟩ := HC.out w2 ho
        clear hk
        go_wp2_with fail
        by_cases hB : rm - 2 < d[j].1.size
        · refine (take_no sb _ (rm - 2) w2 H4.out hB).mono ?_
          rintro e w3 ⟨rfl, hk, ho'⟩
          have H5 := Lib.hid hk
          clear hk
          go_wp2_with fail
          go_ret
          exact ⟨.inr ⟨by have := hrec.out; have := Hst.out; omega, rfl, H5.out⟩, HO.out.trans ((o3.trans ho (fun _ _ h => h)).trans ho' (fun _ _ h => h)) (fun _ _ h => h)⟩
        refine (take_yes sb _ (rm - 2) w2 H4.out (by omega) (by omega) (by omega)).mono ?_
        rintro e w3 ⟨rfl, hk, ho'⟩
        have H5 := Lib.hid hk
        have ho3 := ho.trans ho' (fun _ _ h => h)
        obtain ⟨k0, k1, k2, k3, k4, k5⟩ := HC.out w3 ho3
        have hbw' : Below W.heap.size W w3 := hbw3.trans (ho3.below (fun g hg => by omega) hbw3.size)
        clear hk ho ho'
        go_wp2_with fail
        refine (ih (rm - 2 - d[j].1.size) _ sb W w3 hT hrW hbw' hsb H5.out (by omega) (by omega)).mono ?_
        rintro e w4 ⟨⟨hle, rfl, hk⟩ | ⟨hgt, rfl, hk⟩, ho4⟩
        · have H6 := Lib.hid hk
          clear hk
          go_wp2_with fail
          go_roundw
          case rel => exact ⟨j + 1, rm - 2 - d[j].1.size - sizeV d[j].2, by omega, by go_num, Lib.hid (by have := hrec.out; have := Hst.out; omega), by omega, by omega, H6, (o3.trans ho3 (fun _ _ h => h)).trans ho4 (fun _ _ h => h)⟩
          case measure => simp [intOf]; omega
        · have H6 := Lib.hid hk
          clear hk
          go_wp2_with fail
          go_ret
          exact ⟨.inr ⟨by have := hrec.out; have := Hst.out; omega, rfl, H6.out⟩, HO.out.trans ((o3.trans ho3 (fun _ _ h => h)).trans ho4 (fun _ _ h => h)) (fun _ _ h => h)⟩
      · obtain rfl : j = d.length := by omega
        go_wp2_with fail
        go_ret
        have hz : sizeD (d.drop d.length) = 0 := by simp [sizeD]
        exact ⟨.inl ⟨by have := hrec.out; omega, rfl, by rw [hblk.out, show rm = room - ((5 + sizeD d : Nat) : Int) by have := hrec.out; omega]⟩, HO.out.trans how (fun _ _ h => h)⟩
theorem itoa_len (n : Nat) (w : World) (hn : n < 1000000000000000) (hT : Tabs w) :
    Calls Tryd.prog 94 #[.int .i64 (n : Int)] w fun e w' => ∃ s : ByteArray, s.size = digitsN n ∧ e = .returned (.string s) ∧ Below w.heap.size w w' :=
  (itoa_c n (by omega) (by omega) w hT).mono fun _ _ ⟨h, hb⟩ => ⟨_, by rw [← len_itoa]; simp [ByteArray.size], h, hb⟩
set_option maxRecDepth 100000 in
set_option maxHeartbeats 1000000 in
theorem weigh_list (i : Int) (t : ByteArray) (l : List V) (d : List (ByteArray × V)) (ihl : ∀ x ∈ l, ∀ (room : Int) (cs : List Value) (sb : Nat) (W w : World), Tabs W → RV W x cs → Below W.heap.size W w → W.heap.size ≤ sb → w.heap[sb]? = some (.cells #[.int .i64 room] 76 (0, 0)) → 0 ≤ room → room ≤ 65536 →
      Calls Tryd.prog 62 #[.pointer (some ⟨sb, 0, none⟩), .agg cs.toArray] w (Weighed sb w (sizeV x) room)) :
    ∀ (room : Int) (A A' : Option Addr) (c c' : Nat) (sb : Nat) (W w : World), Tabs W → RL W l A c → Below W.heap.size W w → W.heap.size ≤ sb → w.heap[sb]? = some (.cells #[.int .i64 room] 76 (0, 0)) → 0 ≤ room → room ≤ 65536 →
      Calls Tryd.prog 62 #[.pointer (some ⟨sb, 0, none⟩), .agg #[.int .i64 6, .int .i64 i, .string t, .slice A l.length c, .slice A' d.length c']] w (Weighed sb w (5 + sizeL l 0) room) := by
  intro room A A' c c' sb W w hT hD hb hsb0 hblk h0 h1
  have hl0 := hD.1
  have hsw := block_lt hblk
  have hne : w.heap.size ≠ sb := by omega
  have HB := Lib.hid hblk
  clear hblk
  go_enter Tryd.func62, Tryd.ntmps62
  go_wp2_with fail
  generalize hW0 : w.alloc _ = W0
  have o0 : Only (· = sb) w W0 := by rw [← hW0]; exact Only.of_below (below_alloc1 _ _)
  have hs0 : W0.heap.size = w.heap.size + 1 := by rw [← hW0]; simp
  have hbx : W0.cell? ⟨w.heap.size, 3, none⟩ = some (.slice A l.length c) := by rw [← hW0]; exact box_cell 3 _ rfl
  have hb0 : W0.heap[sb]? = some (.cells #[.int .i64 room] 76 (0, 0)) := by rw [← hW0, heap_alloc_old _ _ hsw]; exact HB.out
  have H0 := Lib.hid (And.intro hs0 hb0)
  clear hW0 hs0 hb0
  by_cases h5 : room < 5
  · refine (take_no sb 5 room W0 H0.out.2 h5).mono ?_
    rintro e w1 ⟨rfl, hk, ho⟩
    have HK := Lib.hid hk
    clear hk
    go_wp2_with fail
    go_ret
    exact ⟨.inr ⟨by omega, rfl, HK.out⟩, o0.trans ho (fun _ _ h => h)⟩
  · refine (take_yes sb 5 room W0 H0.out.2 (by omega) (by omega) h1).mono ?_
    rintro e w1 ⟨rfl, hk, ho⟩
    have hbx1 := ho.cell hbx hne
    have hbw1 : Below W.heap.size W w1 := hb.trans ((o0.trans ho (fun _ _ h => h)).below (fun g hg => by omega) hb.size)
    have hs1 := ho.size
    have HK := Lib.hid hk
    have HO := Lib.hid (o0.trans ho (fun _ _ h => h))
    clear hk ho hbx o0
    go_wp2_with fail
    go_loopw [75] (fun ix wr => ∃ (j : Nat) (rm : Int), j ≤ l.length ∧ ix = .int .i64 j ∧ Hid (rm - sizeL (l.drop j) j = room - (5 + sizeL l 0)) ∧ 0 ≤ rm ∧ rm ≤ 65536 ∧ Hid (wr.heap[sb]? = some (.cells #[.int .i64 rm] 76 (0, 0))) ∧ Only (· = sb) w1 wr) (fun ix _ => l.length - (intOf ix).toNat)
    case atStart => exact ⟨0, room - 5, by omega, rfl, Lib.hid (by simp; omega), by omega, by omega, HK, Only.refl _ _⟩
    case round =>
      obtain ⟨j, rm, hj, rfl, hrec, hm0, hm1, hblk, how⟩ := hrel
      have hbwr : Below W.heap.size W wr := hbw1.trans (how.below (fun g hg => by omega) hbw1.size)
      have hsr : sb < wr.heap.size := block_lt hblk.out
      by_cases hlt : j < l.length
      · obtain ⟨b, off, a0, n0, a1, n1, rfl, hrW, g0, g1, g2, g3, g4⟩ := hD.get j hlt
        have f0 := cell_grow hbwr g0
        have f1 := cell_grow hbwr g1
        have f2 := cell_grow hbwr g2
        have f3 := cell_grow hbwr g3
        have f4 := cell_grow hbwr g4
        clear g0 g1 g2 g3 g4
        have Hst := Lib.hid (sizeL_step hlt)
        have ih := ihl l[j] (List.getElem_mem hlt)
        have hdg := digitsN_small (n := j) (by omega)
        clear ihl
        go_wp2_with fail
        generalize hW3 : wr.alloc _ = W3
        have o3 : Only (· = sb) w1 W3 := by rw [← hW3]; exact how.trans (Only.of_below (S := (· = sb)) (below_alloc1 _ _)) (fun _ _ h => h)
        have c0 : W3.cell? ⟨wr.heap.size, 0, none⟩ = some (.int .i64 l[j].k) := by rw [← hW3]; exact box_cell 0 _ rfl
        have c1 : W3.cell? ⟨wr.heap.size, 1, none⟩ = some (.int .i64 l[j].i) := by rw [← hW3]; exact box_cell 1 _ rfl
        have c2 : W3.cell? ⟨wr.heap.size, 2, none⟩ = some (.string l[j].t) := by rw [← hW3]; exact box_cell 2 _ rfl
        have c3 : W3.cell? ⟨wr.heap.size, 3, none⟩ = some (.slice a0 l[j].l.length n0) := by rw [← hW3]; exact box_cell 3 _ rfl
        have c4 : W3.cell? ⟨wr.heap.size, 4, none⟩ = some (.slice a1 l[j].d.length n1) := by rw [← hW3]; exact box_cell 4 _ rfl
        have hk3 : W3.heap[sb]? = some (.cells #[.int .i64 rm] 76 (0, 0)) := by rw [← hW3, heap_alloc_old _ _ hsr]; exact hblk.out
        have hne3 : wr.heap.size ≠ sb := by omega
        have HC : Hid (∀ w', Only (· = sb) W3 w' → w'.cell? ⟨wr.heap.size, 0, none⟩ = some (.int .i64 l[j].k) ∧ w'.cell? ⟨wr.heap.size, 1, none⟩ = some (.int .i64 l[j].i) ∧ w'.cell? ⟨wr.heap.size, 2, none⟩ = some (.string l[j].t) ∧ w'.cell? ⟨wr.heap.size, 3, none⟩ = some (.slice a0 l[j].l.length n0) ∧ w'.cell? ⟨wr.heap.size, 4, none⟩ = some (.slice a1 l[j].d.length n1)) :=
          Lib.hid fun w' ho => ⟨ho.cell c0 hne3, ho.cell c1 hne3, ho.cell c2 hne3, ho.cell c3 hne3, ho.cell c4 hne3⟩
        have H3 := Lib.hid hk3
        have hbw3 : Below W.heap.size W W3 := hbw1.trans (o3.below (fun g hg => by omega) hbw1.size)
        have hT3 := hT.grow hbw3
        clear hk3 hW3 f0 f1 f2 f3 f4 c0 c1 c2 c3 c4 hblk how hbwr
        refine (itoa_len j W3 (by omega) hT3).mono ?_
        rintro e w2 ⟨s, hs, rfl, hbi⟩
        have ho : Only (· = sb) W3 w2 := Only.of_below hbi
        have H4 := Lib.hid ((hbi.block _ (block_lt H3.out)).trans H3.out)
        have hsd := Lib.hid hs
        have hsb : s.size ≤ 13 := by omega
        clear hs hbi
        go_wp2_with fail
        by_cases hB : rm < ((2 : Nat) : Int) + s.size
        · refine (take_no sb _ rm w2 H4.out (by omega)).mono ?_
          rintro e w3 ⟨rfl, hk, ho'⟩
          have H5 := Lib.hid hk
          clear hk
          go_wp2_with fail
          go_ret
          exact ⟨.inr ⟨by have := hrec.out; have := Hst.out; have := hsd.out; omega, rfl, H5.out⟩, HO.out.trans ((o3.trans ho (fun _ _ h => h)).trans ho' (fun _ _ h => h)) (fun _ _ h => h)⟩
        refine (take_yes sb _ rm w2 H4.out (by omega) (by omega) (by omega)).mono ?_
        rintro e w3 ⟨rfl, hk, ho'⟩
        have H5 := Lib.hid hk
        have ho3 := ho.trans ho' (fun _ _ h => h)
        obtain ⟨k0, k1, k2, k3, k4⟩ := HC.out w3 ho3
        have hbw' : Below W.heap.size W w3 := hbw3.trans (ho3.below (fun g hg => by omega) hbw3.size)
        clear hk ho ho'
        go_wp2_with fail
        refine (ih (rm - (2 + s.size)) _ sb W w3 hT hrW hbw' hsb0 H5.out (by omega) (by omega)).mono ?_
        rintro e w4 ⟨⟨hle, rfl, hk⟩ | ⟨hgt, rfl, hk⟩, ho4⟩
        · have H6 := Lib.hid hk
          clear hk
          go_wp2_with fail
          go_roundw
          case rel => exact ⟨j + 1, rm - (2 + s.size) - sizeV l[j], by omega, by go_num, Lib.hid (by have := hrec.out; have := Hst.out; have := hsd.out; omega), by omega, by omega, H6, (o3.trans ho3 (fun _ _ h => h)).trans ho4 (fun _ _ h => h)⟩
          case measure => simp [intOf]; omega
        · have H6 := Lib.hid hk
          clear hk
          go_wp2_with fail
          go_ret
          exact ⟨.inr ⟨by have := hrec.out; have := Hst.out; have := hsd.out; omega, rfl, H6.out⟩, HO.out.trans ((o3.trans ho3 (fun _ _ h => h)).trans ho4 (fun _ _ h => h)) (fun _ _ h => h)⟩
      · obtain rfl : j = l.length := by omega
        go_wp2_with fail
        go_ret
        have hz : sizeL (l.drop l.length) l.length = 0 := by simp [sizeL]
        exact ⟨.inl ⟨by have := hrec.out; omega, rfl, by rw [hblk.out, show rm = room - ((5 + sizeL l 0 : Nat) : Int) by have := hrec.out; omega]⟩, HO.out.trans how (fun _ _ h => h)⟩
theorem weigh_c (v : V) : ∀ (room : Int) (cs : List Value) (sb : Nat) (W w : World), Tabs W → RV W v cs → Below W.heap.size W w → W.heap.size ≤ sb → w.heap[sb]? = some (.cells #[.int .i64 room] 76 (0, 0)) → 0 ≤ room → room ≤ 65536 →
      Calls Tryd.prog 62 #[.pointer (some ⟨sb, 0, none⟩), .agg cs.toArray] w (Weighed sb w (sizeV v) room) := by
  induction v using V.ind with
  | h k i t l d ihl ihd =>
    intro room cs sb W w hT hv hb hsb hblk h0 h1
    obtain ⟨A, c, A', c', rfl, hk, hi, ht, hA, hD⟩ := hv.inv
    by_cases h5 : k = 5
    · subst h5
      rw [show sizeV (.mk 5 i t l d) = 5 + sizeD d by rw [sizeV]; simp]
      exact weigh_doc i t l d ihd room A A' c c' sb W w hT hD hb hsb hblk h0 h1
    by_cases h6 : k = 6
    · subst h6
      rw [show sizeV (.mk 6 i t l d) = 5 + sizeL l 0 by rw [sizeV]; simp]
      exact weigh_list i t l d ihl room A A' c c' sb W w hT hA hb hsb hblk h0 h1
    have hsw := block_lt hblk
    have hbo : ∀ o, (w.alloc o).heap[sb]? = some (.cells #[.int .i64 room] 76 (0, 0)) := fun o => by rw [heap_alloc_old _ _ hsw]; exact hblk
    have hoo : ∀ o, Only (· = sb) w (w.alloc o) := fun o => Only.of_below (below_alloc1 w o)
    have HB := Lib.hid hbo
    have hne : w.heap.size ≠ sb := by omega
    have HB0 := Lib.hid hblk
    clear ihl ihd hA hD hv hb hbo hblk
    have one : ∀ n : Nat, sizeV (.mk k i t l d) = n → (∀ o, Calls Tryd.prog 93 #[.pointer (some ⟨sb, 0, none⟩), .int .i64 (n : Int)] (w.alloc o) (Weighed sb (w.alloc o) n room)) := by
      intro n _ o
      by_cases hn : room < n
      · exact (take_no sb n room _ (HB.out o) hn).mono fun e w1 ⟨h1, h2, h3⟩ => ⟨.inr ⟨hn, h1, h2⟩, h3⟩
      · exact (take_yes sb n room _ (HB.out o) (by omega) (by omega) h1).mono fun e w1 ⟨h1, h2, h3⟩ => ⟨.inl ⟨by omega, h1, h2⟩, h3⟩
    by_cases h3 : k = 3 ∨ k = 10
    · have hs : sizeV (.mk k i t l d) = 8 := by rw [sizeV, if_pos h3]
      have hc := one 8 hs
      rw [hs]
      rcases h3 with rfl | rfl
      all_goals
        clear h5 h6 one hs
        go_enter Tryd.func62, Tryd.ntmps62
        go_wp2_with fail
        refine (hc _).mono ?_
        rintro e w1 ⟨⟨hle, rfl, hk⟩ | ⟨hgt, rfl, hk⟩, ho⟩
        all_goals
          have HK := Lib.hid hk
          clear hk
          go_wp2_with fail
          go_ret
        · exact ⟨.inl ⟨hle, rfl, HK.out⟩, (hoo _).trans ho (fun _ _ h => h)⟩
        · exact ⟨.inr ⟨hgt, rfl, HK.out⟩, (hoo _).trans ho (fun _ _ h => h)⟩
    by_cases h8 : k = 8
    · subst h8
      have hs : sizeV (.mk 8 i t l d) = 12 := by rw [sizeV]; simp
      have hc := one 12 hs
      rw [hs]
      clear h3 h5 h6 one hs
      go_enter Tryd.func62, Tryd.ntmps62
      go_wp2_with fail
      refine (hc _).mono ?_
      rintro e w1 ⟨⟨hle, rfl, hk⟩ | ⟨hgt, rfl, hk⟩, ho⟩
      all_goals
        have HK := Lib.hid hk
        clear hk
        go_wp2_with fail
        go_ret
      · exact ⟨.inl ⟨hle, rfl, HK.out⟩, (hoo _).trans ho (fun _ _ h => h)⟩
      · exact ⟨.inr ⟨hgt, rfl, HK.out⟩, (hoo _).trans ho (fun _ _ h => h)⟩
    by_cases h9 : k = 9
    · subst h9
      have hs : sizeV (.mk 9 i t l d) = 1 := by rw [sizeV]; simp
      have hc := one 1 hs
      rw [hs]
      clear h3 h5 h6 h8 one hs
      go_enter Tryd.func62, Tryd.ntmps62
      go_wp2_with fail
      refine (hc _).mono ?_
      rintro e w1 ⟨⟨hle, rfl, hk⟩ | ⟨hgt, rfl, hk⟩, ho⟩
      all_goals
        have HK := Lib.hid hk
        clear hk
        go_wp2_with fail
        go_ret
      · exact ⟨.inl ⟨hle, rfl, HK.out⟩, (hoo _).trans ho (fun _ _ h => h)⟩
      · exact ⟨.inr ⟨hgt, rfl, HK.out⟩, (hoo _).trans ho (fun _ _ h => h)⟩
    clear one
    by_cases h4 : k = 4 ∨ k = 7
    · have hs : sizeV (.mk k i t l d) = 5 + t.size := by rw [sizeV, if_neg h3, if_pos h4]
      rw [hs]
      clear hs h3
      rcases h4 with rfl | rfl
      all_goals
        clear h5 h6 h8 h9
        go_enter Tryd.func62, Tryd.ntmps62
        go_wp2_with fail
        generalize hW0 : w.alloc _ = W0
        have o0 : Only (· = sb) w W0 := by rw [← hW0]; exact hoo _
        have hb0 : W0.heap[sb]? = some (.cells #[.int .i64 room] 76 (0, 0)) := by rw [← hW0]; exact HB.out _
        have hbx : W0.cell? ⟨w.heap.size, 2, none⟩ = some (.string t) := by rw [← hW0]; exact box_cell 2 _ rfl
        have H0 := Lib.hid hb0
        clear hb0 hW0
        by_cases hA : room < 5
        · refine (take_no sb 5 room W0 H0.out hA).mono ?_
          rintro e w1 ⟨rfl, hk, ho⟩
          have HK := Lib.hid hk
          clear hk
          go_wp2_with fail
          go_ret
          exact ⟨.inr ⟨by omega, rfl, HK.out⟩, o0.trans ho (fun _ _ h => h)⟩
        refine (take_yes sb 5 room W0 H0.out (by omega) (by omega) h1).mono ?_
        rintro e w1 ⟨rfl, hk, ho⟩
        have HK := Lib.hid hk
        have hbx1 := ho.cell hbx hne
        clear hk
        go_wp2_with fail
        by_cases hB : room - 5 < t.size
        · refine (take_no sb _ (room - 5) w1 HK.out hB).mono ?_
          rintro e w2 ⟨rfl, hk, ho'⟩
          have HK2 := Lib.hid hk
          clear hk
          go_wp2_with fail
          go_ret
          exact ⟨.inr ⟨by omega, rfl, HK2.out⟩, (o0.trans ho (fun _ _ h => h)).trans ho' (fun _ _ h => h)⟩
        refine (take_yes sb _ (room - 5) w1 HK.out (by omega) (by omega) (by omega)).mono ?_
        rintro e w2 ⟨rfl, hk, ho'⟩
        have HK2 := Lib.hid hk
        clear hk
        go_wp2_with fail
        go_ret
        exact ⟨.inl ⟨by omega, rfl, by rw [HK2.out, show room - ((5 + t.size : Nat) : Int) = room - 5 - t.size by omega]⟩, (o0.trans ho (fun _ _ h => h)).trans ho' (fun _ _ h => h)⟩
    have hs : sizeV (.mk k i t l d) = 0 := by rw [sizeV, if_neg h3, if_neg h4, if_neg h8, if_neg h9, if_neg h5, if_neg h6]
    rw [hs]
    have e3 : (k == 3) = false := by simp; omega
    have e4 : (k == 4) = false := by simp; omega
    have e5 : (k == 5) = false := by simp; omega
    have e6 : (k == 6) = false := by simp; omega
    have e7 : (k == 7) = false := by simp; omega
    have e8 : (k == 8) = false := by simp; omega
    have e9 : (k == 9) = false := by simp; omega
    have e10 : (k == 10) = false := by simp; omega
    clear h3 h4 h5 h6 h8 h9 hs
    go_enter Tryd.func62, Tryd.ntmps62
    go_wp2_with fail
    go_ret
    exact ⟨.inl ⟨by omega, rfl, by rw [HB.out, show room - ((0 : Nat) : Int) = room by omega]⟩, hoo _⟩
set_option maxHeartbeats 400000 in
theorem size_c (v : V) (cs : List Value) (w : World) (hT : Tabs w) (hv : RV w v cs) :
    Calls Tryd.prog 22 #[.agg cs.toArray] w fun e w' => e = .returned (.int .i64 (if sizeV v ≤ 65536 then (sizeV v : Int) else 65537)) ∧ Below w.heap.size w w' := by
  obtain ⟨a0, n0, a1, n1, hsh⟩ := hv.shape
  obtain ⟨q, hq⟩ : ∃ q : Int, (if sizeV v ≤ 65536 then (sizeV v : Int) else 65537) = q := ⟨_, rfl⟩
  rw [hq]
  have HQ := Lib.hid hq
  subst hsh
  clear hq
  go_enter Tryd.func22, Tryd.ntmps22
  go_wp2_with fail
  generalize hW0 : World.alloc (w.alloc _) _ = W0
  have hb0 : Below w.heap.size w W0 := by rw [← hW0]; exact below_alloc2 _ _ _
  have hk0 : W0.heap[w.heap.size + 1]? = some (.cells #[.int .i64 65536] 76 (0, 0)) := by rw [← hW0]; exact heap2_second _ _ _ 0
  have H0 := Lib.hid hk0
  clear hk0 hW0
  refine (weigh_c v 65536 _ (w.heap.size + 1) w W0 hT hv hb0 (by omega) H0.out (by omega) (by omega)).mono ?_
  rintro e w1 ⟨⟨hle, rfl, hk⟩ | ⟨hgt, rfl, hk⟩, ho⟩
  · have c0 := cell_at hk 0 _ rfl
    have HK := Lib.hid hk
    have hsn : (0 : Int) ≤ sizeV v := by omega
    clear hk
    go_wp2_with fail
    go_ret
    exact ⟨ret_int (by rw [← HQ.out, if_pos (by omega)]; omega), hb0.trans (ho.below (fun g hg => by omega) hb0.size)⟩
  · have HK := Lib.hid hk
    clear hk
    go_wp2_with fail
    go_ret
    exact ⟨ret_int (by rw [← HQ.out, if_neg (by omega)]), hb0.trans (ho.below (fun g hg => by omega) hb0.size)⟩
end Go.Proofs.YthfejpldhemakaaDoor
