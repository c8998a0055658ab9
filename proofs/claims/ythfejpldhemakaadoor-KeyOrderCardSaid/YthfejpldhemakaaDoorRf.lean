import Derived.Test.YthfejpldhemakaaDoorS
import Derived.WalkSpells
import Derived.WalkLawsBesides
import Derived.KernelRfl
import Derived.BigQuiet
namespace Go.Proofs.YthfejpldhemakaaDoor
open Go.RowKit Go.Sort
set_option maxHeartbeats 400000 in
theorem digits_c (n : Int) (h0 : 0 ≤ n) (h1 : n ≤ 1000000000000000) (w : World) :
    Calls Tryd.prog 97 #[.int .i64 n] w fun e w' => e = .returned (.int .i64 (digitsN n.toNat)) ∧ w = w' := by
  go_enter Tryd.func97, Tryd.ntmps97
  go_wp2
  go_loop [0, 3] (fun m k => ∃ a b : Nat, a ≤ n.toNat ∧ b + digitsN a = digitsN n.toNat + 1 ∧ b ≤ n.toNat + 1 ∧ 1 ≤ b ∧ m = .int .i64 a ∧ k = .int .i64 b) (fun m _ => (intOf m).toNat)
  case atStart => exact ⟨n.toNat, 1, by omega, by omega, by omega, by omega, by congr 1; omega, rfl⟩
  case round =>
    obtain ⟨a, b, ha, hab, hb, hb1, rfl, rfl⟩ := hrel
    have hd := digitsN_le n.toNat
    by_cases h : 10 ≤ a
    · have hs := digitsN_ge h
      have hl : 1 ≤ digitsN (a / 10) := by rw [digitsN]; split <;> omega
      have H1 := Lib.hid hs
      have H2 := Lib.hid hab
      have hb2 : b ≤ 2000000000000000 := by omega
      clear hs hab
      go_wp2
      go_round
      case rel => exact ⟨a / 10, b + 1, by omega, by have := H1.out; have := H2.out; omega, by have := H1.out; have := H2.out; omega, by omega, by go_num, by go_num⟩
      case measure => simp [intOf]; omega
    · have hs := digitsN_lt (n := a) (by omega)
      have H1 := Lib.hid hs
      have H2 := Lib.hid hab
      clear hs hab
      go_wp2
      go_ret
      exact ⟨ret_int (by have := H1.out; have := H2.out; omega), rfl⟩
mutual
def leftV : V → Int → Int
  | .mk k _ t l d, room =>
    if k = 3 ∨ k = 10 then room - 8
    else if k = 4 ∨ k = 7 then if t.size > 65536 then -1 else room - 5 - t.size
    else if k = 8 then room - 12
    else if k = 9 then room - 1
    else if k = 5 then leftD d (room - 5)
    else if k = 6 then leftL l 0 (room - 5)
    else room
def leftL : List V → Nat → Int → Int
  | [], _, r => r
  | x :: l, i, r => if 0 ≤ r then leftL l (i + 1) (leftV x (r - 2 - digitsN i)) else r
def leftD : List (ByteArray × V) → Int → Int
  | [], r => r
  | (n, x) :: l, r => if 0 ≤ r then (if n.size > 65536 then -1 else leftD l (leftV x (r - 2 - n.size))) else r
end
theorem leftD_step {d : List (ByteArray × V)} {j : Nat} (h : j < d.length) (r : Int) : leftD (d.drop j) r = if 0 ≤ r then (if d[j].1.size > 65536 then -1 else leftD (d.drop (j + 1)) (leftV d[j].2 (r - 2 - d[j].1.size))) else r := by
  rw [List.drop_eq_getElem_cons h, leftD]
theorem leftL_step {l : List V} {j : Nat} (h : j < l.length) (r : Int) : leftL (l.drop j) j r = if 0 ≤ r then leftL (l.drop (j + 1)) (j + 1) (leftV l[j] (r - 2 - digitsN j)) else r := by
  rw [List.drop_eq_getElem_cons h, leftL]
theorem left_low {w : World} {v : V} {cs : List Value} (hv : RV w v cs) : ∀ r : Int, (0 ≤ r → -131100 ≤ leftV v r) ∧ (r < 0 → r - 65541 ≤ leftV v r) := by
  induction hv with
  | mk C C' hk hi ht hl hd hc hc' hn hA hA' rl rd ihl ihd =>
    rename_i k i t l d A A' c c'
    have ihl' : ∀ x ∈ l, ∀ r : Int, (0 ≤ r → -131100 ≤ leftV x r) ∧ (r < 0 → r - 65541 ≤ leftV x r) := fun x hx => by
      obtain ⟨j, hj, rfl⟩ := List.getElem_of_mem hx
      exact ihl j hj
    have ihd' : ∀ p ∈ d, ∀ r : Int, (0 ≤ r → -131100 ≤ leftV p.2 r) ∧ (r < 0 → r - 65541 ≤ leftV p.2 r) := fun x hx => by
      obtain ⟨j, hj, rfl⟩ := List.getElem_of_mem hx
      exact ihd j hj
    have hD : ∀ (d' : List (ByteArray × V)), (∀ p ∈ d', p ∈ d) → ∀ r : Int, (0 ≤ r → -131100 ≤ leftD d' r) ∧ (r < 0 → leftD d' r = r) := by
      intro d'
      induction d' with
      | nil => intro _ r; rw [leftD]; exact ⟨fun h => by omega, fun _ => rfl⟩
      | cons p d' ih =>
        intro hm r
        obtain ⟨n, x⟩ := p
        have h1 := ihd' (n, x) (hm _ (by simp))
        have h2 := ih (fun q hq => hm q (by simp [hq]))
        simp only at h1
        refine ⟨fun h => ?_, fun h => by rw [leftD, if_neg (by omega)]⟩
        rw [leftD, if_pos h]
        split
        · omega
        · rename_i hs
          have h3 := h1 (r - 2 - n.size)
          have h4 := h2 (leftV x (r - 2 - n.size))
          by_cases hc : 0 ≤ leftV x (r - 2 - n.size)
          · exact h4.1 hc
          · rw [h4.2 (by omega)]
            by_cases hc2 : 0 ≤ r - 2 - (n.size : Int)
            · exact h3.1 hc2
            · have := h3.2 (by omega); omega
    have hL : ∀ (l' : List V), (∀ p ∈ l', p ∈ l) → ∀ (i : Nat) (r : Int), i + l'.length ≤ 10000000000000 - 1 → (0 ≤ r → -131100 ≤ leftL l' i r) ∧ (r < 0 → leftL l' i r = r) := by
      intro l'
      induction l' with
      | nil => intro _ i r _; rw [leftL]; exact ⟨fun h => by omega, fun _ => rfl⟩
      | cons x l' ih =>
        intro hm i r hi
        have h1 := ihl' x (hm _ (by simp))
        simp only [List.length_cons] at hi
        have h2 := ih (fun q hq => hm q (by simp [hq])) (i + 1)
        refine ⟨fun h => ?_, fun h => by rw [leftL, if_neg (by omega)]⟩
        rw [leftL, if_pos h]
        have hdg : digitsN i ≤ 13 := digitsN_small (by omega)
        have h3 := h1 (r - 2 - digitsN i)
        have h4 := h2 (leftV x (r - 2 - digitsN i)) (by omega)
        by_cases hc : 0 ≤ leftV x (r - 2 - digitsN i)
        · exact h4.1 hc
        · rw [h4.2 (by omega)]
          by_cases hc2 : 0 ≤ r - 2 - (digitsN i : Int)
          · exact h3.1 hc2
          · have := h3.2 (by omega); omega
    have hd0 := hD d (fun _ h => h)
    have hl0 := hL l (fun _ h => h) 0
    intro r
    have e1 := hd0 (r - 5)
    have e2 := hl0 (r - 5) (by omega)
    rw [leftV]
    split
    · omega
    split
    · split <;> omega
    split
    · omega
    split
    · omega
    split
    · by_cases h : 0 ≤ r - 5
      · have := e1.1 h; omega
      · have := e1.2 (by omega); omega
    split
    · by_cases h : 0 ≤ r - 5
      · have := e2.1 h; omega
      · have := e2.2 (by omega); omega
    omega
theorem left_up (v : V) : ∀ r : Int, leftV v r ≤ r ∨ leftV v r = -1 := by
  induction v using V.ind with
  | h k i t l d ihl ihd =>
    have hD : ∀ (d' : List (ByteArray × V)), (∀ p ∈ d', p ∈ d) → ∀ r : Int, leftD d' r ≤ r ∨ leftD d' r = -1 := by
      intro d'
      induction d' with
      | nil => intro _ r; rw [leftD]; omega
      | cons p d' ih =>
        intro hm r
        obtain ⟨n, x⟩ := p
        have h1 := ihd (n, x) (hm _ (by simp)) (r - 2 - n.size)
        have h2 := ih (fun q hq => hm q (by simp [hq])) (leftV x (r - 2 - n.size))
        simp only at h1
        rw [leftD]
        split
        · split <;> omega
        · omega
    have hL : ∀ (l' : List V), (∀ p ∈ l', p ∈ l) → ∀ (i : Nat) (r : Int), leftL l' i r ≤ r ∨ leftL l' i r = -1 := by
      intro l'
      induction l' with
      | nil => intro _ i r; rw [leftL]; omega
      | cons x l' ih =>
        intro hm i r
        have h1 := ihl x (hm _ (by simp)) (r - 2 - digitsN i)
        have h2 := ih (fun q hq => hm q (by simp [hq])) (i + 1) (leftV x (r - 2 - digitsN i))
        rw [leftL]
        split <;> omega
    intro r
    have e1 := hD d (fun _ h => h) (r - 5)
    have e2 := hL l (fun _ h => h) 0 (r - 5)
    rw [leftV]
    repeat' split
    all_goals omega
theorem left_size (v : V) : ∀ r : Int, r ≤ 65536 → ((sizeV v : Int) ≤ r → leftV v r = r - sizeV v) ∧ (r < sizeV v → leftV v r < 0) := by
  induction v using V.ind with
  | h k i t l d ihl ihd =>
    have hD : ∀ (d' : List (ByteArray × V)), (∀ p ∈ d', p ∈ d) → ∀ r : Int, r ≤ 65536 → ((sizeD d' : Int) ≤ r → leftD d' r = r - sizeD d') ∧ (r < sizeD d' → leftD d' r < 0) := by
      intro d'
      induction d' with
      | nil => intro _ r _; rw [leftD, sizeD]; constructor <;> intro h <;> omega
      | cons p d' ih =>
        intro hm r hr
        obtain ⟨n, x⟩ := p
        have h1 := ihd (n, x) (hm _ (by simp)) (r - 2 - n.size) (by omega)
        have hu := left_up x (r - 2 - n.size)
        have h2 := ih (fun q hq => hm q (by simp [hq])) (leftV x (r - 2 - n.size)) (by omega)
        simp only at h1
        rw [leftD, sizeD]
        by_cases h0 : 0 ≤ r
        · rw [if_pos h0]
          by_cases hb : n.size > 65536
          · rw [if_pos hb]
            constructor <;> intro h <;> omega
          · rw [if_neg hb]
            by_cases hx : (sizeV x : Int) ≤ r - 2 - n.size
            · have h3 := h1.1 hx
              refine ⟨fun h => ?_, fun h => h2.2 (by omega)⟩
              have := h2.1 (by omega)
              omega
            · have h3 := h1.2 (by omega)
              exact ⟨fun h => by omega, fun _ => h2.2 (by omega)⟩
        · rw [if_neg h0]
          constructor <;> intro h <;> omega
    have hL : ∀ (l' : List V), (∀ p ∈ l', p ∈ l) → ∀ (i : Nat) (r : Int), r ≤ 65536 → ((sizeL l' i : Int) ≤ r → leftL l' i r = r - sizeL l' i) ∧ (r < sizeL l' i → leftL l' i r < 0) := by
      intro l'
      induction l' with
      | nil => intro _ i r _; rw [leftL, sizeL]; constructor <;> intro h <;> omega
      | cons x l' ih =>
        intro hm i r hr
        have h1 := ihl x (hm _ (by simp)) (r - 2 - digitsN i) (by omega)
        have hu := left_up x (r - 2 - digitsN i)
        have h2 := ih (fun q hq => hm q (by simp [hq])) (i + 1) (leftV x (r - 2 - digitsN i)) (by omega)
        rw [leftL, sizeL]
        by_cases h0 : 0 ≤ r
        · rw [if_pos h0]
          by_cases hx : (sizeV x : Int) ≤ r - 2 - digitsN i
          · have h3 := h1.1 hx
            refine ⟨fun h => ?_, fun h => h2.2 (by omega)⟩
            have := h2.1 (by omega)
            omega
          · have h3 := h1.2 (by omega)
            exact ⟨fun h => by omega, fun _ => h2.2 (by omega)⟩
        · rw [if_neg h0]
          constructor <;> intro h <;> omega
    intro r hr
    have e1 := hD d (fun _ h => h) (r - 5) (by omega)
    have e2 := hL l (fun _ h => h) 0 (r - 5) (by omega)
    rw [leftV, sizeV]
    by_cases h3 : k = 3 ∨ k = 10
    · rw [if_pos h3, if_pos h3]; constructor <;> intro h <;> omega
    rw [if_neg h3, if_neg h3]
    by_cases h4 : k = 4 ∨ k = 7
    · rw [if_pos h4, if_pos h4]
      by_cases hb : t.size > 65536
      · rw [if_pos hb]; constructor <;> intro h <;> omega
      · rw [if_neg hb]; constructor <;> intro h <;> omega
    rw [if_neg h4, if_neg h4]
    by_cases h8 : k = 8
    · rw [if_pos h8, if_pos h8]; constructor <;> intro h <;> omega
    rw [if_neg h8, if_neg h8]
    by_cases h9 : k = 9
    · rw [if_pos h9, if_pos h9]; constructor <;> intro h <;> omega
    rw [if_neg h9, if_neg h9]
    by_cases h5 : k = 5
    · rw [if_pos h5, if_pos h5]
      refine ⟨fun h => ?_, fun h => e1.2 (by omega)⟩
      have := e1.1 (by omega); omega
    rw [if_neg h5, if_neg h5]
    by_cases h6 : k = 6
    · rw [if_pos h6, if_pos h6]
      refine ⟨fun h => ?_, fun h => e2.2 (by omega)⟩
      have := e2.1 (by omega); omega
    rw [if_neg h6, if_neg h6]
    constructor <;> intro h <;> omega
theorem leftV_range {w : World} {v : V} {cs : List Value} (hv : RV w v cs) (r : Int) (h0 : -90000 ≤ r) (h1 : r ≤ 65536) : -200000 ≤ leftV v r ∧ leftV v r ≤ 65536 := by
  have := left_low hv r
  have := left_up v r
  omega
set_option maxHeartbeats 400000 in
theorem left_c (v : V) : ∀ (room : Int) (cs : List Value) (w : World), RV w v cs → -90000 ≤ room → room ≤ 65536 →
    Calls Tryd.prog 64 #[.agg cs.toArray, .int .i64 room] w fun e w' => e = .returned (.int .i64 (leftV v room)) ∧ Below w.heap.size w w' := by
  induction v using V.ind with
  | h k i t l d ihl ihd =>
    intro room cs w hv hr0 hr1
    cases hv with
    | mk C C' hk hi ht hl hd hc hc' hn hA hA' rl rd =>
    rename_i A A' c c'
    clear hk hi hc hc'
    by_cases h5 : k = 5
    · subst h5
      clear hA rl ihl ht
      have Hfin : Hid (leftV (.mk 5 i t l d) room = leftD d (room - 5)) := Lib.hid (by rw [leftV]; simp)
      go_enter Tryd.func64, Tryd.ntmps64
      go_wp2_with fail
      generalize hW0 : w.alloc _ = W0
      have HW0 := Lib.hid hW0
      have hsz : w.heap.size < W0.heap.size := by rw [← hW0]; simp
      clear hW0
      go_loopw [1, 5] (fun r i wr => ∃ (j : Nat) (rm : Int), j ≤ d.length ∧ i = .int .i64 j ∧ r = .int .i64 rm ∧ Hid (leftD (d.drop j) rm = leftD d (room - 5)) ∧ -200000 ≤ rm ∧ rm ≤ 65536 ∧ Below W0.heap.size W0 wr) (fun _ i _ => d.length - (intOf i).toNat)
      case atStart => exact ⟨0, room - 5, by omega, rfl, rfl, Lib.hid rfl, by omega, by omega, Below.refl _ _⟩
      case round =>
        obtain ⟨j, rm, hj, rfl, rfl, hrec, hm0, hm1, hb⟩ := hrel
        have hbox : wr.cell? ⟨w.heap.size, 4, none⟩ = some (.slice A' d.length c') := by
          rw [hb.cell (by simpa using hsz), ← HW0.out]; simp [World.cell?_alloc_new]
        have hlo : Below w.heap.size w wr := by
          refine Below.trans ?_ (hb.mono (by omega))
          rw [← HW0.out]; exact (Below.refl _ _).alloc (Nat.le_refl _) _
        by_cases hlt : j < d.length
        · have Hst := Lib.hid (leftD_step hlt rm)
          by_cases h0 : 0 ≤ rm
          · have hrv := (rd j hlt).grow hlo
            obtain ⟨b, off, rfl, hcell⟩ := (hA' j hlt).grow hlo
            obtain ⟨a0, n0, a1, n1, hshape⟩ := (rd j hlt).shape
            rw [hshape] at hcell hrv
            obtain ⟨f0, f1, f2, f3, f4, f5⟩ := field_cells hcell
            have ih := ihd d[j] (List.getElem_mem hlt)
            clear hcell hshape rd hA' ihd
            by_cases hbig : d[j].1.size ≤ 65536
            · have hrg := leftV_range hrv (rm - 2 - d[j].1.size) (by omega) (by omega)
              go_wp2_with fail
              have k4 := cell_regrown hbox
              have k0 := cell_regrown f0
              have k1 := cell_regrown f1
              have k2 := cell_regrown f2
              have k3 := cell_regrown f3
              have k5 := cell_regrown f4
              have k6 := cell_regrown f5
              have cL := fun dd os => Calls.regrown_of (ih (rm - 2 - d[j].1.size) _ _ (hrv.grow (below_regrown wr dd os)) (by omega) (by omega))
              refine wp_region_quiet_below (by kernel_rfl) (by kernel_rfl) ?_
              repeat (go_big_quiet_step (exact cL _ _))
              refine wpQuiet_nil ?_
              intro _ hw'
              obtain ⟨⟨dq, osq⟩, hw''⟩ := hw'
              subst hw''
              go_wp2_with fail
              go_roundw
              case rel => exact ⟨j + 1, _, by omega, by go_num, rfl, Lib.hid (by rw [← hrec.out, Hst.out, if_pos h0, if_neg (by omega)]), by omega, by omega, below_then hb (below_regrown wr _ _) hb.size⟩
              case measure => simp [intOf]; omega
            · go_wp2_with fail
              go_ret
              exact ⟨ret_int (by rw [Hfin.out, ← hrec.out, Hst.out, if_pos h0, if_pos (by omega)]), hlo⟩
          · go_wp2_with fail
            go_ret
            exact ⟨ret_int (by rw [Hfin.out, ← hrec.out, Hst.out, if_neg (by omega)]), hlo⟩
        · obtain rfl : j = d.length := by omega
          go_wp2_with fail
          go_ret
          exact ⟨ret_int (by rw [Hfin.out, ← hrec.out]; simp [leftD]), hlo⟩
    by_cases h6 : k = 6
    · subst h6
      clear hA' rd ihd ht hn
      have Hfin : Hid (leftV (.mk 6 i t l d) room = leftL l 0 (room - 5)) := Lib.hid (by rw [leftV]; simp)
      go_enter Tryd.func64, Tryd.ntmps64
      go_wp2_with fail
      generalize hW0 : w.alloc _ = W0
      have HW0 := Lib.hid hW0
      have hsz : w.heap.size < W0.heap.size := by rw [← hW0]; simp
      clear hW0
      go_loopw [1, 6] (fun r i wr => ∃ (j : Nat) (rm : Int), j ≤ l.length ∧ i = .int .i64 j ∧ r = .int .i64 rm ∧ Hid (leftL (l.drop j) j rm = leftL l 0 (room - 5)) ∧ -200000 ≤ rm ∧ rm ≤ 65536 ∧ Below W0.heap.size W0 wr) (fun _ i _ => l.length - (intOf i).toNat)
      case atStart => exact ⟨0, room - 5, by omega, rfl, rfl, Lib.hid rfl, by omega, by omega, Below.refl _ _⟩
      case round =>
        obtain ⟨j, rm, hj, rfl, rfl, hrec, hm0, hm1, hb⟩ := hrel
        have hbox : wr.cell? ⟨w.heap.size, 3, none⟩ = some (.slice A l.length c) := by
          rw [hb.cell (by simpa using hsz), ← HW0.out]; simp [World.cell?_alloc_new]
        have hlo : Below w.heap.size w wr := by
          refine Below.trans ?_ (hb.mono (by omega))
          rw [← HW0.out]; exact (Below.refl _ _).alloc (Nat.le_refl _) _
        by_cases hlt : j < l.length
        · have Hst := Lib.hid (leftL_step hlt rm)
          by_cases h0 : 0 ≤ rm
          · have hrv := (rl j hlt).grow hlo
            obtain ⟨b, off, rfl, hcell⟩ := (hA j hlt).grow hlo
            obtain ⟨a0, n0, a1, n1, hshape⟩ := (rl j hlt).shape
            rw [hshape] at hcell hrv
            obtain ⟨f1, f2, f3, f4, f5⟩ := value_cells hcell
            have ih := ihl l[j] (List.getElem_mem hlt)
            have hdg : digitsN j ≤ 13 := digitsN_small (by omega)
            have hrg := leftV_range hrv (rm - 2 - digitsN j) (by omega) (by omega)
            clear hcell hshape rl hA ihl
            go_wp2_with fail
            have k4 := cell_regrown hbox
            have k1 := cell_regrown f1
            have k2 := cell_regrown f2
            have k3 := cell_regrown f3
            have k5 := cell_regrown f4
            have k6 := cell_regrown f5
            have cD := fun dd os => regrown_same (digits_c (j : Int) (by omega) (by omega) (grow (redrawn wr dd) os))
            have cL := fun dd os => Calls.regrown_of (ih (rm - 2 - digitsN j) _ _ (hrv.grow (below_regrown wr dd os)) (by omega) (by omega))
            rw [Int.toNat_natCast] at cD
            refine wp_region_quiet_below (by kernel_rfl) (by kernel_rfl) ?_
            repeat (go_big_quiet_step (first | exact cD _ _ | exact cL _ _))
            refine wpQuiet_nil ?_
            intro _ hw'
            obtain ⟨⟨dq, osq⟩, hw''⟩ := hw'
            subst hw''
            go_wp2_with fail
            go_roundw
            case rel => exact ⟨j + 1, _, by omega, by go_num, rfl, Lib.hid (by rw [← hrec.out, Hst.out, if_pos h0]), by omega, by omega, below_then hb (below_regrown wr _ _) hb.size⟩
            case measure => simp [intOf]; omega
          · go_wp2_with fail
            go_ret
            exact ⟨ret_int (by rw [Hfin.out, ← hrec.out, Hst.out, if_neg (by omega)]), hlo⟩
        · obtain rfl : j = l.length := by omega
          go_wp2_with fail
          go_ret
          exact ⟨ret_int (by rw [Hfin.out, ← hrec.out]; simp [leftL]), hlo⟩
    have hbox : Below w.heap.size w (w.alloc (.cells #[.int .i64 k, .int .i64 i, .string t, .slice A l.length c, .slice A' d.length c'] 25)) := (Below.refl _ _).alloc (Nat.le_refl _) _
    clear hA hA' rl rd ihl ihd hl hd hn
    by_cases h4 : k = 4 ∨ k = 7
    · have Hfin : Hid (leftV (.mk k i t l d) room = if t.size > 65536 then -1 else room - 5 - t.size) := Lib.hid (by rw [leftV, if_neg (by omega), if_pos h4])
      by_cases hb : t.size ≤ 65536
      all_goals
        rcases h4 with rfl | rfl
        all_goals
          clear h5 h6
          go_enter Tryd.func64, Tryd.ntmps64
          go_wp2_with fail
          go_ret
          refine ⟨ret_int ?_, hbox⟩
          rw [Hfin.out]
          split <;> omega
    · have Hfin : Hid (leftV (.mk k i t l d) room = if k = 3 ∨ k = 10 then room - 8 else if k = 8 then room - 12 else if k = 9 then room - 1 else room) := Lib.hid (by rw [leftV, if_neg h4, if_neg h5, if_neg h6])
      by_cases h3 : k = 3 ∨ k = 10
      · rcases h3 with rfl | rfl
        all_goals
          clear h5 h6 h4
          go_enter Tryd.func64, Tryd.ntmps64
          go_wp2_with fail
          go_ret
          exact ⟨ret_int (by rw [Hfin.out]; simp), hbox⟩
      by_cases h8 : k = 8
      · subst h8
        clear h5 h6 h4
        go_enter Tryd.func64, Tryd.ntmps64
        go_wp2_with fail
        go_ret
        exact ⟨ret_int (by rw [Hfin.out]; simp), hbox⟩
      by_cases h9 : k = 9
      · subst h9
        clear h5 h6 h4
        go_enter Tryd.func64, Tryd.ntmps64
        go_wp2_with fail
        go_ret
        exact ⟨ret_int (by rw [Hfin.out]; simp), hbox⟩
      have HF : Hid (leftV (.mk k i t l d) room = room) := Lib.hid (by rw [Hfin.out, if_neg h3, if_neg h8, if_neg h9])
      have e3 : (k == 3) = false := by simp; omega
      have e4 : (k == 4) = false := by simp; omega
      have e5 : (k == 5) = false := by simp; omega
      have e6 : (k == 6) = false := by simp; omega
      have e7 : (k == 7) = false := by simp; omega
      have e8 : (k == 8) = false := by simp; omega
      have e9 : (k == 9) = false := by simp; omega
      have e10 : (k == 10) = false := by simp; omega
      clear h3 h4 h5 h6 h8 h9
      go_enter Tryd.func64, Tryd.ntmps64
      go_wp2_with fail
      go_ret
      exact ⟨ret_int (by rw [HF.out]), hbox⟩
end Go.Proofs.YthfejpldhemakaaDoor
