import Derived.Test.YthfejpldhemakaaDoorZb
import Derived.Test.YthfejpldhemakaaDoorYe
namespace Go.Proofs.YthfejpldhemakaaDoor
/-! Keys stand as the rows do. -/
/-- They part at a byte; s tells which one is less. -/
def Dif (p q : List UInt8) (s : Int) : Prop := ∃ c x y p' q', p = c ++ x :: p' ∧ q = c ++ y :: q' ∧ ¬ x = y ∧ s = if x.toNat < y.toNat then -1 else 1
theorem Dif.app {p q : List UInt8} {s : Int} (h : Dif p q s) (r r' : List UInt8) : Dif (p ++ r) (q ++ r') s := by
  obtain ⟨c, x, y, p', q', rfl, rfl, h1, h2⟩ := h
  exact ⟨c, x, y, p' ++ r, q' ++ r', by simp, by simp, h1, h2⟩
theorem Dif.pre {p q : List UInt8} {s : Int} (h : Dif p q s) (r : List UInt8) : Dif (r ++ p) (r ++ q) s := by
  obtain ⟨c, x, y, p', q', rfl, rfl, h1, h2⟩ := h
  exact ⟨r ++ c, x, y, p', q', by simp, by simp, h1, h2⟩
theorem Dif.cons {p q : List UInt8} {s : Int} (h : Dif p q s) (c : UInt8) : Dif (c :: p) (c :: q) s := h.pre [c]
theorem Dif.lt {x y : UInt8} (h : x.toNat < y.toNat) (p q : List UInt8) : Dif (x :: p) (y :: q) (-1) := ⟨[], x, y, p, q, rfl, rfl, fun he => by rw [he] at h; omega, by rw [if_pos h]⟩
theorem Dif.gt {x y : UInt8} (h : y.toNat < x.toNat) (p q : List UInt8) : Dif (x :: p) (y :: q) 1 := ⟨[], x, y, p, q, rfl, rfl, fun he => by rw [he] at h; omega, by rw [if_neg (by omega)]⟩
theorem toNat_turn (x : UInt8) : (255 - x : UInt8).toNat = 255 - x.toNat := by
  have h : ∀ n : Fin 256, (255 - UInt8.ofNat n.val : UInt8).toNat = 255 - (UInt8.ofNat n.val).toNat := by decide +kernel
  have := h ⟨x.toNat, x.toNat_lt⟩
  simpa using this
theorem Dif.turn {p q : List UInt8} {s : Int} (h : Dif p q s) (b : Bool) : Dif (turnB b p) (turnB b q) (if b then -s else s) := by
  cases b with
  | false => exact h
  | true =>
    obtain ⟨c, x, y, p', q', rfl, rfl, h1, rfl⟩ := h
    refine ⟨c.map (255 - ·), 255 - x, 255 - y, p'.map (255 - ·), q'.map (255 - ·), by simp [turnB], by simp [turnB], fun he => h1 ?_, ?_⟩
    · have := congrArg UInt8.toNat he
      rw [toNat_turn, toNat_turn] at this
      have a := x.toNat_lt; have b := y.toNat_lt
      exact UInt8.toNat_inj.1 (by omega)
    · rw [toNat_turn, toNat_turn]
      have a := x.toNat_lt; have b := y.toNat_lt
      have hne : x.toNat ≠ y.toNat := fun he => h1 (UInt8.toNat_inj.1 he)
      simp only [if_true]
      split <;> split <;> omega
theorem cmpB_pre : ∀ (c p q : List UInt8), cmpB (c ++ p) (c ++ q) = cmpB p q
  | [], _, _ => rfl
  | x :: c, p, q => by
    simp only [List.cons_append]
    rw [cmpB, if_pos rfl, cmpB_pre c p q]
theorem Dif.cmp {p q : List UInt8} {s : Int} (h : Dif p q s) : cmpB p q = s := by
  obtain ⟨c, x, y, p', q', rfl, rfl, h1, rfl⟩ := h
  rw [cmpB_pre, cmpB, if_neg h1]
theorem dif_text : ∀ (s s' : List UInt8), ¬ Lib.compareBytes s s' = 0 → Dif (encT s) (encT s') (Lib.compareBytes s s')
  | [], [], h => absurd rfl h
  | [], y :: s', _ => by
    simp only [encT, Lib.compareBytes]
    split
    · exact (Dif.lt (by decide) _ _).cons 0
    · rename_i hy
      exact Dif.lt (by
        have : y.toNat ≠ 0 := fun he => hy (UInt8.toNat_inj.1 he)
        show 0 < y.toNat
        omega) _ _
  | x :: s, [], _ => by
    simp only [encT, Lib.compareBytes]
    split
    · exact (Dif.gt (by decide) _ _).cons 0
    · rename_i hy
      exact Dif.gt (by
        have : x.toNat ≠ 0 := fun he => hy (UInt8.toNat_inj.1 he)
        show 0 < x.toNat
        omega) _ _
  | x :: s, y :: s', h => by
    simp only [Lib.compareBytes] at h ⊢
    by_cases hlt : x < y
    · rw [if_pos hlt]
      have h1 : x.toNat < y.toNat := UInt8.lt_iff_toNat_lt.1 hlt
      have hy : ¬ y = 0 := fun he => by rw [he] at h1; exact absurd h1 (by simp)
      unfold encT
      rw [if_neg hy]
      split
      · rename_i hx; subst hx; exact Dif.lt h1 _ _
      · exact Dif.lt h1 _ _
    · by_cases hgt : y < x
      · rw [if_neg hlt, if_pos hgt]
        have h1 : y.toNat < x.toNat := UInt8.lt_iff_toNat_lt.1 hgt
        have hx : ¬ x = 0 := fun he => by rw [he] at h1; exact absurd h1 (by simp)
        unfold encT
        rw [if_neg hx]
        split
        · rename_i hy; subst hy; exact Dif.gt h1 _ _
        · exact Dif.gt h1 _ _
      · rw [if_neg hlt, if_neg hgt] at h ⊢
        have he : x = y := by
          simp only [UInt8.lt_iff_toNat_lt, Nat.not_lt] at hlt hgt
          exact UInt8.toNat_inj.1 (by omega)
        subst he
        have ih := dif_text s s' h
        unfold encT
        split
        · exact (ih.cons 255).cons 0
        · exact ih.cons x
theorem dif_raw : ∀ (s s' : List UInt8), s.length = s'.length → ¬ Lib.compareBytes s s' = 0 → Dif s s' (Lib.compareBytes s s')
  | [], [], _, h => absurd rfl h
  | [], y :: s', hl, _ => by simp at hl
  | x :: s, [], hl, _ => by simp at hl
  | x :: s, y :: s', hl, h => by
    simp only [Lib.compareBytes] at h ⊢
    by_cases hlt : x < y
    · rw [if_pos hlt]
      exact Dif.lt (UInt8.lt_iff_toNat_lt.1 hlt) _ _
    · by_cases hgt : y < x
      · rw [if_neg hlt, if_pos hgt]
        exact Dif.gt (UInt8.lt_iff_toNat_lt.1 hgt) _ _
      · rw [if_neg hlt, if_neg hgt] at h ⊢
        have he : x = y := by
          simp only [UInt8.lt_iff_toNat_lt, Nat.not_lt] at hlt hgt
          exact UInt8.toNat_inj.1 (by omega)
        subst he
        exact (dif_raw s s' (by simpa using hl) h).cons x
theorem fold_val : ∀ (l : List UInt8) (u : Nat), l.foldl (fun u c => u * 256 + c.toNat) u = u * 256 ^ l.length + val8 l
  | [], u => by simp [val8]
  | c :: l, u => by
    have e : val8 (c :: l) = c.toNat * 256 ^ l.length + val8 l := by
      have := fold_val l c.toNat
      simpa [val8] using this
    rw [List.foldl_cons, fold_val l, e, List.length_cons, Nat.pow_succ, Nat.add_mul, Nat.mul_assoc, Nat.mul_comm 256]
    omega
theorem val_cons (c : UInt8) (l : List UInt8) : val8 (c :: l) = c.toNat * 256 ^ l.length + val8 l := by
  have := fold_val l c.toNat
  simpa [val8] using this
theorem val_lt : ∀ (l : List UInt8), val8 l < 256 ^ l.length
  | [] => by simp [val8]
  | c :: l => by
    have h := val_lt l
    have hc := c.toNat_lt
    rw [val_cons, List.length_cons, Nat.pow_succ]
    have : (c.toNat + 1) * 256 ^ l.length ≤ 256 * 256 ^ l.length := Nat.mul_le_mul_right _ (by omega)
    rw [Nat.add_mul, Nat.one_mul] at this
    rw [Nat.mul_comm (256 ^ l.length) 256]
    omega
theorem dif_num : ∀ (p q : List UInt8), p.length = q.length → ¬ p = q → Dif p q (if val8 p < val8 q then -1 else 1)
  | [], [], _, h => absurd rfl h
  | [], y :: q, hl, _ => by simp at hl
  | x :: p, [], hl, _ => by simp at hl
  | x :: p, y :: q, hl, h => by
    have hl' : p.length = q.length := by simpa using hl
    rw [val_cons, val_cons, hl']
    by_cases he : x = y
    · subst he
      have := (dif_num p q hl' (fun he => h (by rw [he]))).cons x
      simpa using this
    · have a := val_lt p
      have b := val_lt q
      rw [hl'] at a
      have hne : x.toNat ≠ y.toNat := fun h => he (UInt8.toNat_inj.1 h)
      by_cases hlt : x.toNat < y.toNat
      · have : (x.toNat + 1) * 256 ^ q.length ≤ y.toNat * 256 ^ q.length := Nat.mul_le_mul_right _ (by omega)
        rw [Nat.add_mul, Nat.one_mul] at this
        rw [if_pos (by omega)]
        exact Dif.lt hlt _ _
      · have : (y.toNat + 1) * 256 ^ q.length ≤ x.toNat * 256 ^ q.length := Nat.mul_le_mul_right _ (by omega)
        rw [Nat.add_mul, Nat.one_mul] at this
        rw [if_neg (by omega)]
        exact Dif.gt (by omega) _ _
theorem dif_int {i i' : Int} (h : Rng i) (h' : Rng i') (hne : ¬ cmpI i i' = 0) : Dif (encN i) (encN i') (cmpI i i') := by
  have hii : ¬ i = i' := fun he => hne (cmpI_zero.2 he)
  obtain ⟨a1, a2⟩ := h
  obtain ⟨b1, b2⟩ := h'
  have e1 : val8 (encN i) = (i + 9223372036854775808).toNat := val8_be8 _ (by omega)
  have e2 : val8 (encN i') = (i' + 9223372036854775808).toNat := val8_be8 _ (by omega)
  have := dif_num (encN i) (encN i') rfl (fun he => by rw [he, e2] at e1; omega)
  rw [e1, e2] at this
  have hc : cmpI i i' = if (i + 9223372036854775808).toNat < (i' + 9223372036854775808).toNat then -1 else 1 := by
    unfold cmpI
    by_cases hlt : i < i'
    · rw [if_pos hlt, if_pos (by omega)]
    · rw [if_neg hlt, if_pos (by omega), if_neg (by omega)]
  rw [hc]
  exact this
theorem dif_list : ∀ (l l' : List V), (∀ x ∈ l, ∀ y ∈ l', ¬ cmpV x y = 0 → Dif (encV x) (encV y) (cmpV x y)) → (∀ x ∈ l, ∀ y ∈ l', cmpV x y = 0 → x = y) → ¬ cmpL l l' = 0 → Dif (encL l) (encL l') (cmpL l l')
  | [], [], _, _, h => absurd (by rw [cmpL]) h
  | [], _ :: _, _, _, _ => by simp only [encL, cmpL]; exact Dif.lt (by decide) _ _
  | _ :: _, [], _, _, _ => by simp only [encL, cmpL]; exact Dif.gt (by decide) _ _
  | x :: l, y :: l', h1, h2, h => by
    rw [cmpL_cons] at h ⊢
    simp only [encL]
    by_cases hv : cmpV x y = 0
    · obtain rfl := h2 x (by simp) y (by simp) hv
      have e : orI (cmpV x x) (cmpL l l') = cmpL l l' := by unfold orI; rw [hv]; rfl
      rw [e] at h ⊢
      exact ((dif_list l l' (fun u hu v hv => h1 u (by simp [hu]) v (by simp [hv])) (fun u hu v hv => h2 u (by simp [hu]) v (by simp [hv])) h).pre _).cons 1
    · have e : orI (cmpV x y) (cmpL l l') = cmpV x y := by unfold orI; rw [if_pos hv]
      rw [e]
      exact ((h1 x (by simp) y (by simp) hv).app _ _).cons 1
theorem dif_doc : ∀ (l l' : List (ByteArray × V)), (∀ x ∈ l, ∀ y ∈ l', ¬ cmpV x.2 y.2 = 0 → Dif (encV x.2) (encV y.2) (cmpV x.2 y.2)) → (∀ x ∈ l, ∀ y ∈ l', cmpV x.2 y.2 = 0 → x.2 = y.2) → ¬ cmpD l l' = 0 → Dif (encD l) (encD l') (cmpD l l')
  | [], [], _, _, h => absurd (by rw [cmpD]) h
  | [], _ :: _, _, _, _ => by simp only [encD, cmpD]; exact Dif.lt (by decide) _ _
  | _ :: _, [], _, _, _ => by simp only [encD, cmpD]; exact Dif.gt (by decide) _ _
  | (n, x) :: l, (m, y) :: l', h1, h2, h => by
    rw [cmpD_cons] at h ⊢
    simp only [encD]
    by_cases hn : cmpT n m = 0
    · obtain rfl := cmpT_zero hn
      by_cases hv : cmpV x y = 0
      · obtain rfl : x = y := h2 (n, x) (by simp) (n, y) (by simp) hv
        have e : orI (orI (cmpT n n) (cmpV x x)) (cmpD l l') = cmpD l l' := by unfold orI; rw [hv, hn]; rfl
        rw [e] at h ⊢
        exact (((dif_doc l l' (fun u hu v hv => h1 u (by simp [hu]) v (by simp [hv])) (fun u hu v hv => h2 u (by simp [hu]) v (by simp [hv])) h).pre _).pre _).cons 1
      · have e : orI (orI (cmpT n n) (cmpV x y)) (cmpD l l') = cmpV x y := by unfold orI; rw [hn]; simp [hv]
        rw [e]
        have := h1 (n, x) (by simp) (n, y) (by simp) hv
        exact ((this.app _ _).pre _).cons 1
    · have e : orI (orI (cmpT n m) (cmpV x y)) (cmpD l l') = cmpT n m := by unfold orI; simp [hn]
      rw [e]
      exact ((dif_text _ _ hn).app _ _).cons 1
theorem u8_small {k : Int} (h0 : 0 ≤ k) (h1 : k ≤ 255) : ((UInt8.ofNat k.toNat).toNat : Int) = k := by
  rw [UInt8.toNat_ofNat']
  omega
/-- Values that may be: their keys part as they do. -/
theorem dif_value (a : V) : ∀ (b : V) (da db : Int), Shape a → Shape b → checkV a da = 0 → checkV b db = 0 → ¬ cmpV a b = 0 → Dif (encV a) (encV b) (cmpV a b) := by
  induction a using V.ind with
  | h k i t l d ihl ihd =>
    rintro ⟨k', i', t', l', d'⟩ da db sa sb ha hb h
    obtain ⟨w1, l1, d1⟩ := checkV_ok ha
    obtain ⟨w2, l2, d2⟩ := checkV_ok hb
    have L1 := checkL_ok l1
    have L2 := checkL_ok l2
    have D1 := checkD_ok d1
    have D2 := checkD_ok d2
    obtain ⟨sl1, sd1⟩ := shape_inv sa
    obtain ⟨sl2, sd2⟩ := shape_inv sb
    simp only [WrongP, not_or] at w1 w2
    have r1 : 1 ≤ k ∧ k ≤ 11 := by have := w1.1; omega
    have r2 : 1 ≤ k' ∧ k' ≤ 11 := by have := w2.1; omega
    by_cases hk : k = k'
    case neg =>
      rw [cmpV, if_pos hk] at h ⊢
      rw [encV, encV]
      have a1 := u8_small (k := k) (by omega) (by omega)
      have a2 := u8_small (k := k') (by omega) (by omega)
      unfold cmpI
      by_cases hlt : k < k'
      · rw [if_pos hlt]
        exact Dif.lt (show (UInt8.ofNat k.toNat).toNat < (UInt8.ofNat k'.toNat).toNat by omega) _ _
      · have hgt : k' < k := by omega
        rw [if_neg hlt, if_pos hgt]
        exact Dif.gt (show (UInt8.ofNat k'.toNat).toNat < (UInt8.ofNat k.toNat).toNat by omega) _ _
    subst hk
    have e0 : cmpV (.mk k i t l d) (.mk k i' t' l' d') = if k = 3 ∨ k = 9 ∨ k = 10 then cmpI i i' else if k = 4 ∨ k = 7 ∨ k = 8 then cmpT t t' else if k = 6 then cmpL l l' else if k = 5 then cmpD d d' else 0 := by
      rw [cmpV, if_neg (by simp)]
    rw [encV, encV]
    by_cases q3 : k = 3 ∨ k = 10
    · have q3' : k = 3 ∨ k = 9 ∨ k = 10 := by omega
      rw [if_pos q3'] at e0
      rw [e0] at h ⊢
      rw [if_pos q3, if_pos q3]
      refine (dif_int ?_ ?_ h).cons _
      · cases sa <;> first | assumption | omega
      · cases sb <;> first | assumption | omega
    · rw [if_neg q3, if_neg q3]
      by_cases q9 : k = 9
      · have q3' : k = 3 ∨ k = 9 ∨ k = 10 := by omega
        rw [if_pos q3'] at e0
        rw [e0] at h ⊢
        rw [if_pos q9, if_pos q9]
        have b1 : i = 0 ∨ i = 1 := by have := w1.2.2.2.2.2.2.2; omega
        have b2 : i' = 0 ∨ i' = 1 := by have := w2.2.2.2.2.2.2.2; omega
        refine Dif.cons ?_ _
        rcases b1 with rfl | rfl <;> rcases b2 with rfl | rfl
        · exact absurd rfl h
        · exact Dif.lt (by decide) _ _
        · exact Dif.gt (by decide) _ _
        · exact absurd rfl h
      · rw [if_neg q9, if_neg q9]
        have q3' : ¬ (k = 3 ∨ k = 9 ∨ k = 10) := by omega
        rw [if_neg q3'] at e0
        by_cases q4 : k = 4 ∨ k = 7
        · have q4' : k = 4 ∨ k = 7 ∨ k = 8 := by omega
          rw [if_pos q4'] at e0
          rw [e0] at h ⊢
          rw [if_pos q4, if_pos q4]
          exact (dif_text _ _ h).cons _
        · rw [if_neg q4, if_neg q4]
          by_cases q8 : k = 8
          · have q4' : k = 4 ∨ k = 7 ∨ k = 8 := by omega
            rw [if_pos q4'] at e0
            rw [e0] at h ⊢
            rw [if_pos q8, if_pos q8]
            have z1 : t.size = 12 := by have := w1.2.2.2.2.2.2.1; exact Classical.byContradiction fun h => this ⟨q8, h⟩
            have z2 : t'.size = 12 := by have := w2.2.2.2.2.2.2.1; exact Classical.byContradiction fun h => this ⟨q8, h⟩
            exact (dif_raw _ _ (by rw [Array.length_toList, Array.length_toList]; exact z1.trans z2.symm) h).cons _
          · rw [if_neg q8, if_neg q8]
            have q4' : ¬ (k = 4 ∨ k = 7 ∨ k = 8) := by omega
            rw [if_neg q4'] at e0
            by_cases q6 : k = 6
            · rw [if_pos q6] at e0
              rw [e0] at h ⊢
              rw [if_pos q6, if_pos q6]
              exact (dif_list l l' (fun x hx y hy hc => ihl x hx y _ _ (sl1 x hx) (sl2 y hy) (L1 x hx) (L2 y hy) hc) (fun x hx y hy hc => sameV_eq _ _ (same_of_cmp x y _ _ (L1 x hx) (L2 y hy) hc)) h).cons _
            · rw [if_neg q6] at e0
              rw [if_neg q6, if_neg q6]
              by_cases q5 : k = 5
              · rw [if_pos q5] at e0
                rw [e0] at h ⊢
                rw [if_pos q5, if_pos q5]
                exact (dif_doc d d' (fun x hx y hy hc => ihd x hx y.2 _ _ (sd1 x hx) (sd2 y hy) (D1 x hx) (D2 y hy) hc) (fun x hx y hy hc => sameV_eq _ _ (same_of_cmp x.2 y.2 _ _ (D1 x hx) (D2 y hy) hc)) h).cons _
              · rw [if_neg q5] at e0
                exact absurd e0 h
/-- How two rows stand, some of whose values fall. -/
def wantV : List V → List V → List Bool → Int
  | x :: a, y :: b, t :: d => if ¬ cmpV x y = 0 then (if t then - cmpV x y else cmpV x y) else wantV a b d
  | _, _, _ => 0
theorem order_rows : ∀ (a b : List V) (d : List Bool), a.length = d.length → b.length = d.length → (∀ v ∈ a, Shape v ∧ rightV v = 0) → (∀ v ∈ b, Shape v ∧ rightV v = 0) → cmpB (rowsB a d) (rowsB b d) = wantV a b d
  | [], [], [], _, _, _, _ => rfl
  | [], _ :: _, _, hl, hl', _, _ => absurd (hl.trans hl'.symm) (by simp)
  | _ :: _, [], _, hl, hl', _, _ => absurd (hl.trans hl'.symm) (by simp)
  | x :: a, y :: b, t :: d, hl, hl', h, h' => by
    obtain ⟨s1, r1⟩ := h x (by simp)
    obtain ⟨s2, r2⟩ := h' y (by simp)
    have c1 : checkV x 1 = 0 := by unfold rightV at r1; split at r1 <;> first | exact r1 | omega
    have c2 : checkV y 1 = 0 := by unfold rightV at r2; split at r2 <;> first | exact r2 | omega
    rw [rowsB, rowsB, wantV]
    by_cases hv : cmpV x y = 0
    · obtain rfl := sameV_eq _ _ (same_of_cmp x y _ _ c1 c2 hv)
      rw [if_neg (by simp [hv]), cmpB_pre]
      exact order_rows a b d (by simpa using hl) (by simpa using hl') (fun v hv => h v (by simp [hv])) (fun v hv => h' v (by simp [hv]))
    · rw [if_pos hv]
      exact (((dif_value x y 1 1 s1 s2 c1 c2 hv).turn t).app _ _).cmp
/-- P3.5, THE STAGE'S THEOREM. -/
theorem order_law {a b : List V} {d : List Bool} {x y : List UInt8} (h : keyV a d = (0, x)) (k : keyV b d = (0, y)) (hs : ∀ v ∈ a, rightV v = 0 → Shape v) (ks : ∀ v ∈ b, rightV v = 0 → Shape v) : cmpB x y = wantV a b d := by
  obtain ⟨_, _, h3, h4, h5, _⟩ := keyV_zero h
  obtain ⟨_, _, k3, k4, k5, _⟩ := keyV_zero k
  rw [h5, k5]
  exact order_rows a b d h3.symm k3.symm (fun v hv => ⟨hs v hv (h4 v hv), h4 v hv⟩) (fun v hv => ⟨ks v hv (k4 v hv), k4 v hv⟩)
end Go.Proofs.YthfejpldhemakaaDoor
