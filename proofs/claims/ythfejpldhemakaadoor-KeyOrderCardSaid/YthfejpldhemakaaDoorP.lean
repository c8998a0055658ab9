import Derived.Test.YthfejpldhemakaaDoorKc
import Derived.Test.YthfejpldhemakaaDoorC
import Derived.Test.YthfejpldhemakaaDoorE
namespace Go.Proofs.YthfejpldhemakaaDoor
/-! Compare is an order. -/
theorem cmpI_self (a : Int) : cmpI a a = 0 := by simp [cmpI]
theorem cmpI_flip (a b : Int) : cmpI b a = - cmpI a b := by unfold cmpI; split <;> split <;> (try split) <;> omega
theorem cmpI_range (a b : Int) : -1 ≤ cmpI a b ∧ cmpI a b ≤ 1 := by unfold cmpI; split <;> (try split) <;> omega
theorem cmpI_zero {a b : Int} : cmpI a b = 0 ↔ a = b := by unfold cmpI; split <;> (try split) <;> omega
theorem cmpI_ne {a b : Int} (h : ¬ a = b) : ¬ cmpI a b = 0 := fun k => h (cmpI_zero.1 k)
theorem cmpI_trans {a b c : Int} (h : cmpI a b ≤ 0) (k : cmpI b c ≤ 0) : cmpI a c ≤ 0 ∧ (cmpI a c = 0 → cmpI a b = 0 ∧ cmpI b c = 0) := by
  unfold cmpI at *
  split at h <;> (try split at h) <;> split at k <;> (try split at k) <;> split <;> (try split) <;> first | omega | (split <;> omega) | (split <;> split <;> omega)
theorem bytes_self : ∀ a : List UInt8, Lib.compareBytes a a = 0
  | [] => rfl
  | x :: a => by simp [Lib.compareBytes, bytes_self a]
theorem bytes_flip : ∀ a b : List UInt8, Lib.compareBytes b a = - Lib.compareBytes a b
  | [], [] => rfl
  | [], _ :: _ => rfl
  | _ :: _, [] => rfl
  | x :: a, y :: b => by
    simp only [Lib.compareBytes]
    by_cases h : x < y
    · have : ¬ y < x := by simp [UInt8.lt_iff_toNat_lt] at *; omega
      simp [h, this]
    · by_cases h' : y < x
      · simp [h, h']
      · simp [h, h', bytes_flip a b]
theorem bytes_range : ∀ a b : List UInt8, -1 ≤ Lib.compareBytes a b ∧ Lib.compareBytes a b ≤ 1
  | [], [] => by simp [Lib.compareBytes]
  | [], _ :: _ => by simp [Lib.compareBytes]
  | _ :: _, [] => by simp [Lib.compareBytes]
  | x :: a, y :: b => by
    simp only [Lib.compareBytes]
    split
    · omega
    · split
      · omega
      · exact bytes_range a b
theorem bytes_zero : ∀ a b : List UInt8, Lib.compareBytes a b = 0 → a = b
  | [], [], _ => rfl
  | [], _ :: _, h => by simp [Lib.compareBytes] at h
  | _ :: _, [], h => by simp [Lib.compareBytes] at h
  | x :: a, y :: b, h => by
    simp only [Lib.compareBytes] at h
    split at h
    · omega
    · split at h
      · omega
      · rename_i h1 h2
        have : x = y := by
          simp only [UInt8.lt_iff_toNat_lt, Nat.not_lt] at h1 h2
          exact UInt8.toNat_inj.1 (by omega)
        rw [this, bytes_zero a b h]
/-- What stands ahead of what stands ahead stands ahead; of a relation that answers -1, 0, 1. -/
def Tr (x y z : Int) : Prop := x ≤ 0 → y ≤ 0 → z ≤ 0 ∧ (z = 0 → x = 0 ∧ y = 0)
theorem bytes_trans : ∀ a b c : List UInt8, Tr (Lib.compareBytes a b) (Lib.compareBytes b c) (Lib.compareBytes a c)
  | [], [], [] => by simp [Tr, Lib.compareBytes]
  | [], [], _ :: _ => by simp [Tr, Lib.compareBytes]
  | [], _ :: _, [] => by simp [Tr, Lib.compareBytes]
  | [], _ :: _, _ :: _ => by simp [Tr, Lib.compareBytes]
  | _ :: _, [], [] => by simp [Tr, Lib.compareBytes]
  | _ :: _, [], _ :: _ => by simp [Tr, Lib.compareBytes]
  | _ :: _, _ :: _, [] => by simp [Tr, Lib.compareBytes]
  | x :: a, y :: b, z :: c => by
    have ih := bytes_trans a b c
    unfold Tr at *
    simp only [Lib.compareBytes, UInt8.lt_iff_toNat_lt]
    split <;> split <;> (try split) <;> (try split) <;> (try split) <;> (try split) <;> first | exact ih | omega
theorem cmpT_self (a : ByteArray) : cmpT a a = 0 := bytes_self _
theorem cmpT_flip (a b : ByteArray) : cmpT b a = - cmpT a b := bytes_flip _ _
theorem cmpT_range (a b : ByteArray) : -1 ≤ cmpT a b ∧ cmpT a b ≤ 1 := bytes_range _ _
theorem cmpT_zero {a b : ByteArray} (h : cmpT a b = 0) : a = b := ByteArray.ext (Array.toList_inj.1 (bytes_zero _ _ h))
theorem cmpT_trans (a b c : ByteArray) : Tr (cmpT a b) (cmpT b c) (cmpT a c) := bytes_trans _ _ _
/-- Two in line: the first that parts decides. -/
theorem or_trans {x x' y y' z z' : Int} (h : Tr x y z) (h' : Tr x' y' z') : Tr (orI x x') (orI y y') (orI z z') := by
  unfold Tr orI at *
  intro a b
  split at a <;> split at b <;> split <;> simp_all <;> (try omega)
theorem orI_flip (x y : Int) : orI (-x) (-y) = - orI x y := by unfold orI; split <;> split <;> omega
theorem orI_range {x y : Int} (hx : -1 ≤ x ∧ x ≤ 1) (hy : -1 ≤ y ∧ y ≤ 1) : -1 ≤ orI x y ∧ orI x y ≤ 1 := by unfold orI; split <;> assumption
theorem orI_zero {x y : Int} : orI x y = 0 ↔ x = 0 ∧ y = 0 := by unfold orI; split <;> omega
theorem cmpL_cons (x y : V) (l l' : List V) : cmpL (x :: l) (y :: l') = orI (cmpV x y) (cmpL l l') := by rw [cmpL, orI]
theorem cmpD_cons (n m : ByteArray) (x y : V) (l l' : List (ByteArray × V)) : cmpD ((n, x) :: l) ((m, y) :: l') = orI (orI (cmpT n m) (cmpV x y)) (cmpD l l') := by
  rw [cmpD]
  rfl
theorem cmpL_self : ∀ (l : List V), (∀ x ∈ l, cmpV x x = 0) → cmpL l l = 0
  | [], _ => rfl
  | x :: l, h => by rw [cmpL_cons, orI_zero]; exact ⟨h x (by simp), cmpL_self l fun y hy => h y (by simp [hy])⟩
theorem cmpD_self : ∀ (l : List (ByteArray × V)), (∀ p ∈ l, cmpV p.2 p.2 = 0) → cmpD l l = 0
  | [], _ => rfl
  | (n, x) :: l, h => by rw [cmpD_cons, orI_zero, orI_zero]; exact ⟨⟨cmpT_self n, h (n, x) (by simp)⟩, cmpD_self l fun y hy => h y (by simp [hy])⟩
theorem cmpV_self (a : V) : cmpV a a = 0 := by
  induction a using V.ind with
  | h k i t l d ihl ihd =>
    rw [cmpV]
    simp only [ne_eq, not_true_eq_false, cmpI_self, cmpT_self, cmpL_self l ihl, cmpD_self d ihd, ite_self]
theorem cmpL_flip : ∀ (l l' : List V), (∀ x ∈ l, ∀ y, cmpV y x = - cmpV x y) → cmpL l' l = - cmpL l l'
  | [], [], _ => rfl
  | [], _ :: _, _ => rfl
  | _ :: _, [], _ => rfl
  | x :: l, y :: l', h => by rw [cmpL_cons, cmpL_cons, h x (by simp), cmpL_flip l l' fun z hz => h z (by simp [hz]), orI_flip]
theorem cmpD_flip : ∀ (l l' : List (ByteArray × V)), (∀ p ∈ l, ∀ y, cmpV y p.2 = - cmpV p.2 y) → cmpD l' l = - cmpD l l'
  | [], [], _ => rfl
  | [], _ :: _, _ => rfl
  | _ :: _, [], _ => rfl
  | (n, x) :: l, (m, y) :: l', h => by rw [cmpD_cons, cmpD_cons, h (n, x) (by simp), cmpT_flip, cmpD_flip l l' fun z hz => h z (by simp [hz]), orI_flip, orI_flip]
theorem cmpV_flip (a : V) : ∀ b, cmpV b a = - cmpV a b := by
  induction a using V.ind with
  | h k i t l d ihl ihd =>
    rintro ⟨k', i', t', l', d'⟩
    rw [cmpV, cmpV]
    by_cases hk : k = k'
    · subst hk
      simp only [ne_eq, not_true_eq_false, if_false]
      rw [cmpI_flip i, cmpT_flip t, cmpL_flip l l' ihl, cmpD_flip d d' ihd]
      split
      · rfl
      · split
        · rfl
        · split
          · rfl
          · split
            · rfl
            · rfl
    · rw [if_pos hk, if_pos (fun h => hk h.symm), cmpI_flip]
theorem cmpL_range : ∀ (l l' : List V), (∀ x ∈ l, ∀ y, -1 ≤ cmpV x y ∧ cmpV x y ≤ 1) → -1 ≤ cmpL l l' ∧ cmpL l l' ≤ 1
  | [], [], _ => by simp [cmpL]
  | [], _ :: _, _ => by simp [cmpL]
  | _ :: _, [], _ => by simp [cmpL]
  | x :: l, y :: l', h => by rw [cmpL_cons]; exact orI_range (h x (by simp) y) (cmpL_range l l' fun z hz => h z (by simp [hz]))
theorem cmpD_range : ∀ (l l' : List (ByteArray × V)), (∀ p ∈ l, ∀ y, -1 ≤ cmpV p.2 y ∧ cmpV p.2 y ≤ 1) → -1 ≤ cmpD l l' ∧ cmpD l l' ≤ 1
  | [], [], _ => by simp [cmpD]
  | [], _ :: _, _ => by simp [cmpD]
  | _ :: _, [], _ => by simp [cmpD]
  | (n, x) :: l, (m, y) :: l', h => by rw [cmpD_cons]; exact orI_range (orI_range (cmpT_range n m) (h (n, x) (by simp) y)) (cmpD_range l l' fun z hz => h z (by simp [hz]))
theorem cmpV_range (a : V) : ∀ b, -1 ≤ cmpV a b ∧ cmpV a b ≤ 1 := by
  induction a using V.ind with
  | h k i t l d ihl ihd =>
    rintro ⟨k', i', t', l', d'⟩
    rw [cmpV]
    have h1 := cmpI_range k k'
    have h2 := cmpI_range i i'
    have h3 := cmpT_range t t'
    have h4 := cmpL_range l l' ihl
    have h5 := cmpD_range d d' ihd
    split
    · exact h1
    · split
      · exact h2
      · split
        · exact h3
        · split
          · exact h4
          · split
            · exact h5
            · omega
theorem cmpL_trans : ∀ (l l' l'' : List V), (∀ x ∈ l, ∀ y z, Tr (cmpV x y) (cmpV y z) (cmpV x z)) → Tr (cmpL l l') (cmpL l' l'') (cmpL l l'')
  | [], [], [], _ => by simp [Tr, cmpL]
  | [], [], _ :: _, _ => by simp [Tr, cmpL]
  | [], _ :: _, [], _ => by simp [Tr, cmpL]
  | [], _ :: _, _ :: _, _ => by simp [Tr, cmpL]
  | _ :: _, [], [], _ => by simp [Tr, cmpL]
  | _ :: _, [], _ :: _, _ => by simp [Tr, cmpL]
  | _ :: _, _ :: _, [], _ => by simp [Tr, cmpL]
  | x :: l, y :: l', z :: l'', h => by rw [cmpL_cons, cmpL_cons, cmpL_cons]; exact or_trans (h x (by simp) y z) (cmpL_trans l l' l'' fun u hu => h u (by simp [hu]))
theorem cmpD_trans : ∀ (l l' l'' : List (ByteArray × V)), (∀ p ∈ l, ∀ y z, Tr (cmpV p.2 y) (cmpV y z) (cmpV p.2 z)) → Tr (cmpD l l') (cmpD l' l'') (cmpD l l'')
  | [], [], [], _ => by simp [Tr, cmpD]
  | [], [], _ :: _, _ => by simp [Tr, cmpD]
  | [], _ :: _, [], _ => by simp [Tr, cmpD]
  | [], _ :: _, _ :: _, _ => by simp [Tr, cmpD]
  | _ :: _, [], [], _ => by simp [Tr, cmpD]
  | _ :: _, [], _ :: _, _ => by simp [Tr, cmpD]
  | _ :: _, _ :: _, [], _ => by simp [Tr, cmpD]
  | (n, x) :: l, (m, y) :: l', (o, z) :: l'', h => by rw [cmpD_cons, cmpD_cons, cmpD_cons]; exact or_trans (or_trans (cmpT_trans n m o) (h (n, x) (by simp) y z)) (cmpD_trans l l' l'' fun u hu => h u (by simp [hu]))
theorem cmpV_trans (a : V) : ∀ b c, Tr (cmpV a b) (cmpV b c) (cmpV a c) := by
  induction a using V.ind with
  | h k i t l d ihl ihd =>
    rintro ⟨k', i', t', l', d'⟩ ⟨k'', i'', t'', l'', d''⟩
    have hkt : Tr (cmpI k k') (cmpI k' k'') (cmpI k k'') := fun a b => cmpI_trans a b
    by_cases h1 : k = k'
    · subst h1
      by_cases h2 : k = k''
      · subst h2
        rw [cmpV, cmpV, cmpV]
        simp only [ne_eq, not_true_eq_false, if_false]
        split
        · exact fun a b => cmpI_trans a b
        · split
          · exact cmpT_trans t t' t''
          · split
            · exact cmpL_trans l l' l'' ihl
            · split
              · exact cmpD_trans d d' d'' ihd
              · simp [Tr]
      · have e2 : cmpV (.mk k i' t' l' d') (.mk k'' i'' t'' l'' d'') = cmpI k k'' := by rw [cmpV, if_pos h2]
        have e3 : cmpV (.mk k i t l d) (.mk k'' i'' t'' l'' d'') = cmpI k k'' := by rw [cmpV, if_pos h2]
        rw [e2, e3]
        intro _ b
        have := cmpI_ne h2
        exact ⟨b, fun h => absurd h this⟩
    · have e1 : cmpV (.mk k i t l d) (.mk k' i' t' l' d') = cmpI k k' := by rw [cmpV, if_pos h1]
      rw [e1]
      by_cases h2 : k' = k''
      · subst h2
        have e3 : cmpV (.mk k i t l d) (.mk k' i'' t'' l'' d'') = cmpI k k' := by rw [cmpV, if_pos h1]
        rw [e3]
        intro a _
        have := cmpI_ne h1
        exact ⟨a, fun h => absurd h this⟩
      · have e2 : cmpV (.mk k' i' t' l' d') (.mk k'' i'' t'' l'' d'') = cmpI k' k'' := by rw [cmpV, if_pos h2]
        rw [e2]
        intro a b
        have h3 := hkt a b
        have n1 := cmpI_ne h1
        by_cases h4 : k = k''
        · exfalso
          subst h4
          have := cmpI_flip k k'
          omega
        · rw [cmpV, if_pos h4]
          exact ⟨h3.1, fun h => absurd (h3.2 h).1 n1⟩
/-- Nothing is wrong with it, by itself and within. -/
theorem checkV_ok {k i : Int} {t : ByteArray} {l : List V} {d : List (ByteArray × V)} {deep : Int} (h : checkV (.mk k i t l d) deep = 0) :
    ¬ WrongP k i t l.length d.length ∧ checkL l (deep + 1) = 0 ∧ checkD [] d (deep + 1) = 0 := by
  rw [checkV] at h
  split at h
  · omega
  · split at h
    · omega
    · rename_i hw
      split at h
      · contradiction
      · rename_i hl
        exact ⟨hw, by simpa using hl, h⟩
theorem checkL_ok {deep : Int} : ∀ {l : List V}, checkL l deep = 0 → ∀ x ∈ l, checkV x deep = 0
  | [], _, x, hx => absurd hx (by simp)
  | y :: l, h, x, hx => by
    rw [checkL] at h
    split at h
    · contradiction
    · rename_i hy
      rcases List.mem_cons.1 hx with rfl | hx
      · simpa using hy
      · exact checkL_ok h x hx
theorem checkD_ok {deep : Int} : ∀ {d : List (ByteArray × V)} {seen : List ByteArray}, checkD seen d deep = 0 → ∀ p ∈ d, checkV p.2 deep = 0
  | [], _, _, x, hx => absurd hx (by simp)
  | (n, y) :: l, seen, h, x, hx => by
    rw [checkD] at h
    split at h
    · omega
    · split at h
      · contradiction
      · rename_i hy
        rcases List.mem_cons.1 hx with rfl | hx
        · simpa using hy
        · exact checkD_ok h x hx
theorem sameL_of : ∀ (l l' : List V), (∀ x ∈ l, ∀ y ∈ l', cmpV x y = 0 → sameV x y = true) → cmpL l l' = 0 → sameL l l' = true ∧ l.length = l'.length
  | [], [], _, _ => ⟨rfl, rfl⟩
  | [], _ :: _, _, h => by simp [cmpL] at h
  | _ :: _, [], _, h => by simp [cmpL] at h
  | x :: l, y :: l', hs, h => by
    rw [cmpL_cons, orI_zero] at h
    have := sameL_of l l' (fun u hu v hv => hs u (by simp [hu]) v (by simp [hv])) h.2
    rw [sameL, hs x (by simp) y (by simp) h.1, this.1]
    simp [this.2]
theorem sameD_of : ∀ (l l' : List (ByteArray × V)), (∀ x ∈ l, ∀ y ∈ l', cmpV x.2 y.2 = 0 → sameV x.2 y.2 = true) → cmpD l l' = 0 → sameD l l' = true ∧ l.length = l'.length
  | [], [], _, _ => ⟨rfl, rfl⟩
  | [], _ :: _, _, h => by simp [cmpD] at h
  | _ :: _, [], _, h => by simp [cmpD] at h
  | (n, x) :: l, (m, y) :: l', hs, h => by
    rw [cmpD_cons, orI_zero, orI_zero] at h
    have := sameD_of l l' (fun u hu v hv => hs u (by simp [hu]) v (by simp [hv])) h.2
    have e := hs (n, x) (by simp) (m, y) (by simp) h.1.2
    simp only at e
    rw [sameD, e, this.1]
    simp [this.2, cmpT_zero h.1.1]
theorem same_of_cmp (a : V) : ∀ (b : V) (da db : Int), checkV a da = 0 → checkV b db = 0 → cmpV a b = 0 → sameV a b = true := by
  induction a using V.ind with
  | h k i t l d ihl ihd =>
    rintro ⟨k', i', t', l', d'⟩ da db ha hb h
    obtain ⟨w1, l1, d1⟩ := checkV_ok ha
    obtain ⟨w2, l2, d2⟩ := checkV_ok hb
    have L1 := checkL_ok l1
    have L2 := checkL_ok l2
    have D1 := checkD_ok d1
    have D2 := checkD_ok d2
    by_cases hk : k = k'
    case neg => rw [cmpV, if_pos hk] at h; exact absurd (cmpI_zero.1 h) hk
    subst hk
    rw [cmpV, if_neg (by simp)] at h
    unfold WrongP at w1 w2
    have hi : i = i' := by
      by_cases q : k = 3 ∨ k = 9 ∨ k = 10
      · rw [if_pos q] at h; exact cmpI_zero.1 h
      · have a1 : i = 0 := Classical.byContradiction fun h => w1 (.inr (.inl ⟨q, h⟩))
        have a2 : i' = 0 := Classical.byContradiction fun h => w2 (.inr (.inl ⟨q, h⟩))
        rw [a1, a2]
    have ht : t = t' := by
      by_cases q : k = 4 ∨ k = 7 ∨ k = 8
      · rw [if_neg (by omega), if_pos q] at h; exact cmpT_zero h
      · have a1 : t.size = 0 := Classical.byContradiction fun h => w1 (.inr (.inr (.inl ⟨q, h⟩)))
        have a2 : t'.size = 0 := Classical.byContradiction fun h => w2 (.inr (.inr (.inl ⟨q, h⟩)))
        rw [empty_of a1, empty_of a2]
    have hl : sameL l l' = true ∧ l.length = l'.length := by
      by_cases q : k = 6
      · rw [if_neg (by omega), if_neg (by omega), if_pos q] at h
        exact sameL_of l l' (fun x hx y hy he => ihl x hx y _ _ (L1 x hx) (L2 y hy) he) h
      · have a1 : l.length = 0 := Classical.byContradiction fun h => w1 (.inr (.inr (.inr (.inr (.inl ⟨q, by omega⟩)))))
        have a2 : l'.length = 0 := Classical.byContradiction fun h => w2 (.inr (.inr (.inr (.inr (.inl ⟨q, by omega⟩)))))
        rw [List.eq_nil_of_length_eq_zero a1, List.eq_nil_of_length_eq_zero a2]
        exact ⟨rfl, rfl⟩
    have hd : sameD d d' = true ∧ d.length = d'.length := by
      by_cases q : k = 5
      · rw [if_neg (by omega), if_neg (by omega), if_neg (by omega), if_pos q] at h
        exact sameD_of d d' (fun x hx y hy he => ihd x hx y.2 _ _ (D1 x hx) (D2 y hy) he) h
      · have a1 : d.length = 0 := Classical.byContradiction fun h => w1 (.inr (.inr (.inr (.inl ⟨q, by omega⟩))))
        have a2 : d'.length = 0 := Classical.byContradiction fun h => w2 (.inr (.inr (.inr (.inl ⟨q, by omega⟩))))
        rw [List.eq_nil_of_length_eq_zero a1, List.eq_nil_of_length_eq_zero a2]
        exact ⟨rfl, rfl⟩
    rw [sameV, hl.1, hd.1]
    simp [hi, ht, hl.2, hd.2]
theorem sameL_eq : ∀ (l l' : List V), (∀ x ∈ l, ∀ y, sameV x y = true → x = y) → sameL l l' = true → l = l'
  | [], [], _, _ => rfl
  | [], _ :: _, _, h => by simp [sameL] at h
  | _ :: _, [], _, h => by simp [sameL] at h
  | x :: l, y :: l', hs, h => by
    rw [sameL, Bool.and_eq_true] at h
    rw [hs x (by simp) y h.1, sameL_eq l l' (fun u hu => hs u (by simp [hu])) h.2]
theorem sameD_eq : ∀ (l l' : List (ByteArray × V)), (∀ x ∈ l, ∀ y, sameV x.2 y = true → x.2 = y) → sameD l l' = true → l = l'
  | [], [], _, _ => rfl
  | [], _ :: _, _, h => by simp [sameD] at h
  | _ :: _, [], _, h => by simp [sameD] at h
  | (n, x) :: l, (m, y) :: l', hs, h => by
    rw [sameD, Bool.and_eq_true, Bool.and_eq_true, decide_eq_true_iff] at h
    have := hs (n, x) (by simp) y h.1.2
    simp only at this
    rw [h.1.1, this, sameD_eq l l' (fun u hu => hs u (by simp [hu])) h.2]
theorem sameV_eq (a : V) : ∀ b, sameV a b = true → a = b := by
  induction a using V.ind with
  | h k i t l d ihl ihd =>
    rintro ⟨k', i', t', l', d'⟩ h
    simp only [sameV, Bool.and_eq_true, decide_eq_true_iff] at h
    obtain ⟨⟨⟨⟨⟨⟨h1, h2⟩, h3⟩, _⟩, _⟩, h4⟩, h5⟩ := h
    rw [h1, h2, h3, sameL_eq l l' ihl h4, sameD_eq d d' ihd h5]
theorem sameL_self : ∀ (l : List V), (∀ x ∈ l, sameV x x = true) → sameL l l = true
  | [], _ => rfl
  | x :: l, h => by rw [sameL, h x (by simp), sameL_self l fun y hy => h y (by simp [hy])]; rfl
theorem sameD_self : ∀ (l : List (ByteArray × V)), (∀ p ∈ l, sameV p.2 p.2 = true) → sameD l l = true
  | [], _ => rfl
  | (n, x) :: l, h => by
    have := h (n, x) (by simp)
    simp only at this
    rw [sameD, this, sameD_self l fun y hy => h y (by simp [hy])]
    simp
theorem sameV_self (a : V) : sameV a a = true := by
  induction a using V.ind with
  | h k i t l d ihl ihd => rw [sameV, sameL_self l ihl, sameD_self d ihd]; simp
/-- Of values that are right: alike are the same. -/
theorem alike_same {a b : V} (ha : rightV a = 0) (hb : rightV b = 0) : sameV a b = decide (cmpV a b = 0) := by
  have h1 : checkV a 1 = 0 := by unfold rightV at ha; split at ha <;> first | exact ha | omega
  have h2 : checkV b 1 = 0 := by unfold rightV at hb; split at hb <;> first | exact hb | omega
  by_cases h : cmpV a b = 0
  · rw [decide_eq_true h, same_of_cmp a b 1 1 h1 h2 h]
  · rw [decide_eq_false h]
    refine Bool.eq_false_iff.2 fun hs => h ?_
    rw [sameV_eq a b hs, cmpV_self]
end Go.Proofs.YthfejpldhemakaaDoor
