import Derived.Test.YthfejpldhemakaaDoorP
import Derived.Test.YthfejpldhemakaaDoorKh
import Derived.Test.YthfejpldhemakaaDoorRx
namespace Go.Proofs.YthfejpldhemakaaDoor
/-! There and back: the plain law of keys. -/
theorem pV_step (s : Bool) (n deep : Nat) (k : UInt8) (r : List UInt8) (h : deep ≤ 21) (hs : s = true → 1 ≤ k.toNat ∧ k.toNat ≤ 11 ∧ (k = 5 ∨ k = 6 → deep ≤ 20)) : pV s (n + 1) deep (k :: r) =
    if k = 3 ∨ k = 10 then (pN r).map fun x => (.mk k.toNat x.1 ByteArray.empty [] [], x.2)
    else if k = 9 then (match r with | [] => none | c :: r' => some (.mk k.toNat c.toNat ByteArray.empty [] [], r'))
    else if k = 4 ∨ k = 7 then (pT r).map fun x => (.mk k.toNat 0 ⟨x.1.toArray⟩ [] [], x.2)
    else if k = 8 then (if 12 ≤ r.length then some (.mk k.toNat 0 ⟨(r.take 12).toArray⟩ [] [], r.drop 12) else none)
    else if k = 6 then (pL s n (deep + 1) r).map fun x => (.mk k.toNat 0 ByteArray.empty x.1 [], x.2)
    else if k = 5 then (pD s n (deep + 1) r).map fun x => (.mk k.toNat 0 ByteArray.empty [] x.1, x.2)
    else some (.mk k.toNat 0 ByteArray.empty [] [], r) := by
  rw [pV.eq_def]
  simp only []
  rw [if_neg ?_]
  · cases r <;> rfl
  · rintro (⟨h1, h2⟩ | h1)
    · obtain ⟨a, b, c⟩ := hs h1
      rcases h2 with h2 | h2 | ⟨h2, h3⟩
      · omega
      · omega
      · have := c h2; omega
    · omega
theorem pL_z (s : Bool) (n deep : Nat) (r : List UInt8) : pL s (n + 1) deep (0 :: r) = some ([], r) := by rw [pL.eq_def]; simp
theorem pL_s (s : Bool) (n deep : Nat) (r : List UInt8) : pL s (n + 1) deep (1 :: r) = (pV s n deep r).bind fun x => (pL s n deep x.2).map fun y => (x.1 :: y.1, y.2) := by rw [pL.eq_def]; simp
theorem pD_z (s : Bool) (n deep : Nat) (r : List UInt8) : pD s (n + 1) deep (0 :: r) = some ([], r) := by rw [pD.eq_def]; simp
theorem pD_s (s : Bool) (n deep : Nat) (r : List UInt8) : pD s (n + 1) deep (1 :: r) = (pT r).bind fun t => (pV s n deep t.2).bind fun x => (pD s n deep x.2).map fun y => ((⟨t.1.toArray⟩, x.1) :: y.1, y.2) := by rw [pD.eq_def]; simp
theorem encT_pos (s : List UInt8) : 2 ≤ (encT s).length := by
  induction s with
  | nil => simp [encT]
  | cons c s ih => unfold encT; split <;> simp <;> omega
theorem pL_enc (s : Bool) (deep : Nat) : ∀ (l : List V) (n : Nat) (r : List UInt8), (∀ x ∈ l, ∀ m r', (encV x ++ r').length < m → pV s m deep (encV x ++ r') = some (x, r')) → (encL l ++ r).length < n → pL s n deep (encL l ++ r) = some (l, r)
  | [], n, r, _, hn => by
    cases n with
    | zero => omega
    | succ n => simp [encL, pL_z]
  | x :: l, n, r, h, hn => by
    cases n with
    | zero => omega
    | succ n =>
      have e : encL (x :: l) ++ r = 1 :: (encV x ++ (encL l ++ r)) := by simp [encL]
      rw [e] at hn ⊢
      simp only [List.length_cons, List.length_append] at hn
      rw [pL_s, h x (by simp) n _ (by simp; omega)]
      simp only [Option.bind_some]
      rw [pL_enc s deep l n r (fun y hy => h y (by simp [hy])) (by simp; omega)]
      rfl
theorem pD_enc (s : Bool) (deep : Nat) : ∀ (l : List (ByteArray × V)) (n : Nat) (r : List UInt8), (∀ x ∈ l, ∀ m r', (encV x.2 ++ r').length < m → pV s m deep (encV x.2 ++ r') = some (x.2, r')) → (encD l ++ r).length < n → pD s n deep (encD l ++ r) = some (l, r)
  | [], n, r, _, hn => by
    cases n with
    | zero => omega
    | succ n => simp [encD, pD_z]
  | (nm, x) :: l, n, r, h, hn => by
    cases n with
    | zero => omega
    | succ n =>
      have e : encD ((nm, x) :: l) ++ r = 1 :: (encT nm.data.toList ++ (encV x ++ (encD l ++ r))) := by simp [encD]
      rw [e] at hn ⊢
      simp only [List.length_cons, List.length_append] at hn
      rw [pD_s, pT_enc]
      simp only [Option.bind_some]
      have hx := h (nm, x) (by simp) n (encD l ++ r) (by simp; omega)
      simp only at hx
      rw [hx]
      simp only [Option.bind_some]
      rw [pD_enc s deep l n r (fun y hy => h y (by simp [hy])) (by simp; omega)]
      rfl
/-- A value that may be is read back. -/
theorem pV_enc (s : Bool) {v : V} (h : Shape v) : ∀ (deep n : Nat) (r : List UInt8), deep ≤ 21 → checkV v deep = 0 → (encV v ++ r).length < n → pV s n deep (encV v ++ r) = some (v, r) := by
  induction h with
  | @num k i hk hi =>
    intro deep n r hd hc hn
    cases n with
    | zero => omega
    | succ n =>
      rcases hk with rfl | rfl
      · have e : encV (.mk 3 i ByteArray.empty [] []) ++ r = 3 :: (encN i ++ r) := by rw [encV]; rfl
        rw [e, pV_step s n deep 3 _ hd (fun _ => ⟨by decide, by decide, fun h => absurd h (by decide)⟩), if_pos (by decide), pN_enc _ hi]
        rfl
      · have e : encV (.mk 10 i ByteArray.empty [] []) ++ r = 10 :: (encN i ++ r) := by rw [encV]; rfl
        rw [e, pV_step s n deep 10 _ hd (fun _ => ⟨by decide, by decide, fun h => absurd h (by decide)⟩), if_pos (by decide), pN_enc _ hi]
        rfl
  | @flag i h0 h1 =>
    intro deep n r hd hc hn
    cases n with
    | zero => omega
    | succ n =>
      have e : encV (.mk 9 i ByteArray.empty [] []) ++ r = 9 :: UInt8.ofNat i.toNat :: r := by rw [encV]; rfl
      rw [e, pV_step s n deep 9 _ hd (fun _ => ⟨by decide, by decide, fun h => absurd h (by decide)⟩), if_neg (by decide), if_pos rfl]
      simp only [Option.some.injEq, Prod.mk.injEq, and_true]
      congr 1
      rw [UInt8.toNat_ofNat']
      omega
  | @text k t hk =>
    intro deep n r hd hc hn
    cases n with
    | zero => omega
    | succ n =>
      rcases hk with rfl | rfl
      · have e : encV (.mk 4 0 t [] []) ++ r = 4 :: (encT t.data.toList ++ r) := by rw [encV]; rfl
        rw [e, pV_step s n deep 4 _ hd (fun _ => ⟨by decide, by decide, fun h => absurd h (by decide)⟩), if_neg (by decide), if_neg (by decide), if_pos (by decide), pT_enc]
        rfl
      · have e : encV (.mk 7 0 t [] []) ++ r = 7 :: (encT t.data.toList ++ r) := by rw [encV]; rfl
        rw [e, pV_step s n deep 7 _ hd (fun _ => ⟨by decide, by decide, fun h => absurd h (by decide)⟩), if_neg (by decide), if_neg (by decide), if_pos (by decide), pT_enc]
        rfl
  | @id t ht =>
    intro deep n r hd hc hn
    cases n with
    | zero => omega
    | succ n =>
      have e : encV (.mk 8 0 t [] []) ++ r = 8 :: (t.data.toList ++ r) := by rw [encV]; rfl
      have hl : t.data.toList.length = 12 := by rw [Array.length_toList]; exact ht
      rw [e, pV_step s n deep 8 _ hd (fun _ => ⟨by decide, by decide, fun h => absurd h (by decide)⟩), if_neg (by decide), if_neg (by decide), if_neg (by decide), if_pos rfl, if_pos (by simp; omega)]
      rw [← hl, List.take_left, List.drop_left]
      rfl
  | @list l hl ih =>
    intro deep n r hd hc hn
    cases n with
    | zero => omega
    | succ n =>
      have e : encV (.mk 6 0 ByteArray.empty l []) ++ r = 6 :: (encL l ++ r) := by rw [encV]; rfl
      rw [e] at hn ⊢
      have hd20 : deep ≤ 20 := by
        rw [checkV] at hc
        split at hc
        · omega
        · omega
      obtain ⟨_, hcl, _⟩ := checkV_ok hc
      rw [pV_step s n deep 6 _ hd (fun _ => ⟨by decide, by decide, fun _ => hd20⟩), if_neg (by decide), if_neg (by decide), if_neg (by decide), if_neg (by decide), if_pos rfl,
        pL_enc s (deep + 1) l n r (fun x hx m r' hm => ih x hx (deep + 1) m r' (by omega) (by have := checkL_ok hcl x hx; simpa using this) hm) (by simp at hn ⊢; omega)]
      rfl
  | @doc l hl ih =>
    intro deep n r hd hc hn
    cases n with
    | zero => omega
    | succ n =>
      have e : encV (.mk 5 0 ByteArray.empty [] l) ++ r = 5 :: (encD l ++ r) := by rw [encV]; rfl
      rw [e] at hn ⊢
      have hd20 : deep ≤ 20 := by
        rw [checkV] at hc
        split at hc
        · omega
        · omega
      obtain ⟨_, _, hcl⟩ := checkV_ok hc
      rw [pV_step s n deep 5 _ hd (fun _ => ⟨by decide, by decide, fun _ => hd20⟩), if_neg (by decide), if_neg (by decide), if_neg (by decide), if_neg (by decide), if_neg (by decide), if_pos rfl,
        pD_enc s (deep + 1) l n r (fun x hx m r' hm => ih x hx (deep + 1) m r' (by omega) (by have := checkD_ok hcl x hx; simpa using this) hm) (by simp at hn ⊢; omega)]
      rfl
  | @other k h0 h1 h3 h4 h5 h6 h7 h8 h9 h10 =>
    intro deep n r hd hc hn
    cases n with
    | zero => omega
    | succ n =>
      obtain ⟨hw, _, _⟩ := checkV_ok hc
      have hk : 1 ≤ k ∧ k ≤ 11 := by
        simp only [WrongP, not_or] at hw
        have := hw.1
        omega
      have hk3 : k = 1 ∨ k = 2 ∨ k = 11 := by omega
      rcases hk3 with rfl | rfl | rfl
      · have e : encV (.mk 1 0 ByteArray.empty [] []) ++ r = 1 :: r := by rw [encV]; rfl
        rw [e, pV_step s n deep 1 _ hd (fun _ => ⟨by decide, by decide, fun h => absurd h (by decide)⟩)]
        rfl
      · have e : encV (.mk 2 0 ByteArray.empty [] []) ++ r = 2 :: r := by rw [encV]; rfl
        rw [e, pV_step s n deep 2 _ hd (fun _ => ⟨by decide, by decide, fun h => absurd h (by decide)⟩)]
        rfl
      · have e : encV (.mk 11 0 ByteArray.empty [] []) ++ r = 11 :: r := by rw [encV]; rfl
        rw [e, pV_step s n deep 11 _ hd (fun _ => ⟨by decide, by decide, fun h => absurd h (by decide)⟩)]
        rfl
theorem pV_none (s : Bool) (n deep : Nat) (k : UInt8) (r : List UInt8) (h : ¬ (deep ≤ 21 ∧ (s = true → 1 ≤ k.toNat ∧ k.toNat ≤ 11 ∧ (k = 5 ∨ k = 6 → deep ≤ 20)))) : pV s (n + 1) deep (k :: r) = none := by
  rw [pV.eq_def]
  simp only []
  rw [if_pos]
  by_cases h1 : deep ≤ 21
  · left
    have h2 : ¬ (s = true → 1 ≤ k.toNat ∧ k.toNat ≤ 11 ∧ (k = 5 ∨ k = 6 → deep ≤ 20)) := fun h3 => h ⟨h1, h3⟩
    by_cases hs : s = true
    · refine ⟨hs, ?_⟩
      by_cases a : k.toNat < 1
      · exact .inl a
      · by_cases b : 11 < k.toNat
        · exact .inr (.inl b)
        · by_cases c : (k = 5 ∨ k = 6)
          · refine .inr (.inr ⟨c, ?_⟩)
            by_cases d : deep ≤ 20
            · exact absurd (fun _ => ⟨by omega, by omega, fun _ => d⟩) h2
            · omega
          · exact absurd (fun _ => ⟨by omega, by omega, fun h => absurd h c⟩) h2
    · exact absurd (fun h => absurd h hs) h2
  · right; omega
/-- What is read was written so. -/
theorem enc_pV (s : Bool) : ∀ (n deep : Nat) (b : List UInt8), (∀ v r, pV s n deep b = some (v, r) → b = encV v ++ r) ∧ (∀ l r, pL s n deep b = some (l, r) → b = encL l ++ r) ∧ (∀ l r, pD s n deep b = some (l, r) → b = encD l ++ r)
  | 0, deep, b => ⟨fun v r h => (by rw [pV.eq_def] at h; cases h), fun v r h => (by rw [pL.eq_def] at h; cases h), fun v r h => (by rw [pD.eq_def] at h; cases h)⟩
  | n + 1, deep, [] => ⟨fun v r h => (by rw [pV.eq_def] at h; cases h), fun v r h => (by rw [pL.eq_def] at h; cases h), fun v r h => (by rw [pD.eq_def] at h; cases h)⟩
  | n + 1, deep, k :: b => by
    refine ⟨fun v r h => ?_, fun l r h => ?_, fun l r h => ?_⟩
    · by_cases hok : deep ≤ 21 ∧ (s = true → 1 ≤ k.toNat ∧ k.toNat ≤ 11 ∧ (k = 5 ∨ k = 6 → deep ≤ 20))
      case neg => rw [pV_none _ _ _ _ _ hok] at h; cases h
      rw [pV_step s n deep k b hok.1 hok.2] at h
      split at h
      · rename_i hk
        simp only [Option.map_eq_some_iff] at h
        obtain ⟨⟨i, r'⟩, hx, h⟩ := h
        simp only [Prod.mk.injEq] at h
        obtain ⟨rfl, rfl⟩ := h
        have := (enc_pN hx).2
        rw [encV]
        rcases hk with rfl | rfl
        · rw [this]; rfl
        · rw [this]; rfl
      · rename_i h3
        split at h
        · rename_i hk
          subst hk
          cases b with
          | nil => cases h
          | cons c b =>
            simp only [Option.some.injEq, Prod.mk.injEq] at h
            obtain ⟨rfl, rfl⟩ := h
            rw [encV]
            simp
        · rename_i h9
          split at h
          · rename_i hk
            simp only [Option.map_eq_some_iff] at h
            obtain ⟨⟨i, r'⟩, hx, h⟩ := h
            simp only [Prod.mk.injEq] at h
            obtain ⟨rfl, rfl⟩ := h
            have := enc_pT _ _ (Nat.le_refl _) _ _ hx
            rw [encV]
            rcases hk with rfl | rfl
            · rw [this]; rfl
            · rw [this]; rfl
          · rename_i h4
            split at h
            · rename_i hk
              subst hk
              split at h
              · simp only [Option.some.injEq, Prod.mk.injEq] at h
                obtain ⟨rfl, rfl⟩ := h
                rw [encV]
                have : b = b.take 12 ++ b.drop 12 := (List.take_append_drop 12 b).symm
                show 8 :: b = 8 :: (b.take 12 ++ b.drop 12)
                rw [← this]
              · cases h
            · rename_i h8
              split at h
              · rename_i hk
                subst hk
                simp only [Option.map_eq_some_iff] at h
                obtain ⟨⟨l, r'⟩, hx, h⟩ := h
                simp only [Prod.mk.injEq] at h
                obtain ⟨rfl, rfl⟩ := h
                have := (enc_pV s n (deep + 1) b).2.1 _ _ hx
                rw [encV, this]
                rfl
              · rename_i h6
                split at h
                · rename_i hk
                  subst hk
                  simp only [Option.map_eq_some_iff] at h
                  obtain ⟨⟨l, r'⟩, hx, h⟩ := h
                  simp only [Prod.mk.injEq] at h
                  obtain ⟨rfl, rfl⟩ := h
                  have := (enc_pV s n (deep + 1) b).2.2 _ _ hx
                  rw [encV, this]
                  rfl
                · rename_i h5
                  simp only [Option.some.injEq, Prod.mk.injEq] at h
                  obtain ⟨rfl, rfl⟩ := h
                  have ne : ∀ (q : UInt8) (m : Int), (m = (q.toNat : Int)) → ¬ k = q → ¬ (k.toNat : Int) = m := fun q m hm hq he => hq (UInt8.toNat_inj.1 (by omega))
                  have n3 := ne 3 3 rfl (fun h => h3 (.inl h)); have n10 := ne 10 10 rfl (fun h => h3 (.inr h)); have n9 := ne 9 9 rfl h9
                  have n4 := ne 4 4 rfl (fun h => h4 (.inl h)); have n7 := ne 7 7 rfl (fun h => h4 (.inr h)); have n8 := ne 8 8 rfl h8; have n6 := ne 6 6 rfl h6; have n5 := ne 5 5 rfl h5
                  rw [encV, if_neg (by rintro (h | h); exact n3 h; exact n10 h), if_neg n9, if_neg (by rintro (h | h); exact n4 h; exact n7 h), if_neg n8, if_neg n6, if_neg n5]
                  simp
    · by_cases h0 : k = 0
      · subst h0
        rw [pL_z] at h
        simp only [Option.some.injEq, Prod.mk.injEq] at h
        obtain ⟨rfl, rfl⟩ := h
        rw [encL]; rfl
      · by_cases h1 : k = 1
        · subst h1
          rw [pL_s] at h
          simp only [Option.bind_eq_some_iff, Option.map_eq_some_iff] at h
          obtain ⟨⟨x, b1⟩, hx, ⟨l', r'⟩, hl, h⟩ := h
          simp only [Prod.mk.injEq] at h
          obtain ⟨rfl, rfl⟩ := h
          rw [encL, (enc_pV s n deep b).1 _ _ hx, (enc_pV s n deep b1).2.1 _ _ hl]
          simp
        · rw [pL.eq_def] at h
          simp [h0, h1] at h
    · by_cases h0 : k = 0
      · subst h0
        rw [pD_z] at h
        simp only [Option.some.injEq, Prod.mk.injEq] at h
        obtain ⟨rfl, rfl⟩ := h
        rw [encD]; rfl
      · by_cases h1 : k = 1
        · subst h1
          rw [pD_s] at h
          simp only [Option.bind_eq_some_iff, Option.map_eq_some_iff] at h
          obtain ⟨⟨t, b0⟩, ht, ⟨x, b1⟩, hx, ⟨l', r'⟩, hl, h⟩ := h
          simp only [Prod.mk.injEq] at h
          obtain ⟨rfl, rfl⟩ := h
          rw [encD, enc_pT _ _ (Nat.le_refl _) _ _ ht, (enc_pV s n deep b0).1 _ _ hx, (enc_pV s n deep b1).2.2 _ _ hl]
          simp
        · rw [pD.eq_def] at h
          simp [h0, h1] at h
end Go.Proofs.YthfejpldhemakaaDoor

namespace Go.Proofs.YthfejpldhemakaaDoor
theorem turn_xor (c : UInt8) : (255 - c) ^^^ 255 = c := by
  have h : ∀ n : Fin 256, (255 - UInt8.ofNat n.val) ^^^ 255 = UInt8.ofNat n.val := by decide +kernel
  have := h ⟨c.toNat, c.toNat_lt⟩
  simpa using this
theorem xor_turn (c : UInt8) : c ^^^ 255 = 255 - c := by
  have h : ∀ n : Fin 256, UInt8.ofNat n.val ^^^ 255 = 255 - UInt8.ofNat n.val := by decide +kernel
  have := h ⟨c.toNat, c.toNat_lt⟩
  simpa using this
theorem xor_zero8 (c : UInt8) : c ^^^ 0 = c := by simp
/-- Turning is the mask's work. -/
theorem turnB_mask (b : Bool) (xs : List UInt8) : turnB b xs = xs.map (· ^^^ mk8 b) := by
  cases b with
  | false =>
    simp only [turnB, mk8]
    conv => lhs; rw [← List.map_id xs]
    exact List.map_congr_left fun c _ => (xor_zero8 c).symm
  | true =>
    simp only [turnB, mk8]
    exact List.map_congr_left fun c _ => (xor_turn c).symm
theorem mask_mask (m : UInt8) (xs : List UInt8) : (xs.map (· ^^^ m)).map (· ^^^ m) = xs := by
  rw [List.map_map]
  conv => rhs; rw [← List.map_id xs]
  exact List.map_congr_left fun c _ => by simp [UInt8.xor_assoc]
theorem rdRow_enc : ∀ (l : List V) (d : List Bool) (r : List UInt8), l.length = d.length → (∀ x ∈ l, Shape x ∧ rightV x = 0) → rdRow d (rowsB l d ++ r) = some (l, r)
  | [], [], r, _, _ => rfl
  | x :: l, b :: d, r, hl, h => by
    have e : (rowsB (x :: l) (b :: d) ++ r).map (· ^^^ mk8 b) = encV x ++ (rowsB l d ++ r).map (· ^^^ mk8 b) := by
      rw [rowsB, List.append_assoc, List.map_append, turnB_mask, mask_mask]
    obtain ⟨hs, hr⟩ := h x (by simp)
    have hc : checkV x 1 = 0 := by unfold rightV at hr; split at hr <;> first | exact hr | omega
    rw [rdRow, e, pV_enc false hs 1 _ _ (by omega) hc (by rw [← e, List.length_map]; omega)]
    simp only [hr, if_true]
    rw [mask_mask, rdRow_enc l d r (by simpa using hl) (fun y hy => h y (by simp [hy]))]
    rfl
theorem enc_rdRow : ∀ (d : List Bool) (b : List UInt8) (l : List V) (r : List UInt8), rdRow d b = some (l, r) → b = rowsB l d ++ r ∧ l.length = d.length ∧ ∀ x ∈ l, rightV x = 0
  | [], b, l, r, h => by
    simp only [rdRow, Option.some.injEq, Prod.mk.injEq] at h
    obtain ⟨rfl, rfl⟩ := h
    simp [rowsB]
  | t :: d, b, l, r, h => by
    rw [rdRow] at h
    split at h
    · cases h
    · rename_i x hx
      split at h
      · rename_i hr
        simp only [Option.map_eq_some_iff] at h
        obtain ⟨⟨l', r'⟩, hl, h⟩ := h
        simp only [Prod.mk.injEq] at h
        obtain ⟨rfl, rfl⟩ := h
        obtain ⟨h1, h2, h3⟩ := enc_rdRow d _ _ _ hl
        have he := (enc_pV false _ _ _).1 _ _ hx
        have hb := congrArg (fun z : List UInt8 => z.map (· ^^^ mk8 t)) he
        simp only [mask_mask, List.map_append, h1] at hb
        refine ⟨?_, by simp [h2], fun y hy => ?_⟩
        · rw [hb, rowsB, turnB_mask, List.append_assoc]
        · rcases List.mem_cons.1 hy with rfl | hy
          · exact hr
          · exact h3 y hy
      · cases h
theorem firstW_zero : ∀ (l : List V), firstW l = 0 ↔ ∀ x ∈ l, rightV x = 0
  | [] => by simp [firstW]
  | x :: l => by
    rw [firstW]
    by_cases h : rightV x = 0
    · simp [h, firstW_zero l]
    · simp [h]
/-- What a key without a fault says. -/
theorem keyV_zero {l : List V} {d : List Bool} {x : List UInt8} (h : keyV l d = (0, x)) : 1 ≤ l.length ∧ l.length ≤ 4 ∧ d.length = l.length ∧ (∀ v ∈ l, rightV v = 0) ∧ x = rowsB l d ∧ x.length ≤ 1000 := by
  unfold keyV at h
  split at h
  · cases h
  · rename_i h1
    split at h
    · rename_i h2
      simp only [Prod.mk.injEq] at h
      exact absurd h.1 h2
    · rename_i h2
      split at h
      · cases h
      · rename_i h3
        simp only [Prod.mk.injEq, true_and] at h
        subst h
        exact ⟨by omega, by omega, by omega, (firstW_zero l).1 (Decidable.not_not.1 h2), rfl, by omega⟩
theorem keyV_fault {l : List V} {d : List Bool} {n : Int} {x : List UInt8} (h : keyV l d = (n, x)) (hn : n ≠ 0) : x = [] := by
  unfold keyV at h
  split at h
  · cases h; rfl
  · split at h
    · cases h; rfl
    · split at h
      · cases h; rfl
      · cases h; exact absurd rfl hn
/-- P3.6: a key is read back. -/
theorem back_read {a : List V} {d : List Bool} {x : List UInt8} (h : keyV a d = (0, x)) (hs : ∀ v ∈ a, rightV v = 0 → Shape v) : readV x d = (0, a) := by
  obtain ⟨h1, h2, h3, h4, h5, h6⟩ := keyV_zero h
  have := rdRow_enc a d [] h3.symm (fun v hv => ⟨hs v hv (h4 v hv), h4 v hv⟩)
  rw [List.append_nil, ← h5] at this
  unfold readV
  rw [if_neg (by omega), if_neg (by omega), this]
  simp
/-- No key is a beginning of another one. -/
theorem back_free {a b : List V} {d : List Bool} {x y : List UInt8} (h : keyV a d = (0, x)) (k : keyV b d = (0, y)) (hs : ∀ v ∈ a, rightV v = 0 → Shape v) (ks : ∀ v ∈ b, rightV v = 0 → Shape v) (hl : x.length < y.length) : ¬ x = y.take x.length := by
  intro he
  obtain ⟨_, _, h3, h4, h5, _⟩ := keyV_zero h
  obtain ⟨_, _, k3, k4, k5, _⟩ := keyV_zero k
  have e1 := rdRow_enc a d (y.drop x.length) h3.symm (fun v hv => ⟨hs v hv (h4 v hv), h4 v hv⟩)
  have e2 := rdRow_enc b d [] k3.symm (fun v hv => ⟨ks v hv (k4 v hv), k4 v hv⟩)
  rw [List.append_nil, ← k5] at e2
  have hy : rowsB a d ++ y.drop x.length = y := by
    rw [← h5]
    conv => lhs; arg 1; rw [he]
    exact List.take_append_drop _ _
  rw [hy, e2] at e1
  simp only [Option.some.injEq, Prod.mk.injEq] at e1
  have := congrArg List.length e1.2
  simp at this
  omega
/-- What is read is written as it was. -/
theorem back_key {c : List UInt8} {d : List Bool} {l : List V} (h : readV c d = (0, l)) : keyV l d = (0, c) := by
  unfold readV at h
  split at h
  · cases h
  · rename_i h1
    split at h
    · cases h
    · rename_i h2
      split at h
      · cases h
      · rename_i x hx
        split at h
        · rename_i hr
          simp only [Prod.mk.injEq, true_and] at h
          subst h
          obtain ⟨l, r⟩ := x
          simp only at hr
          subst hr
          obtain ⟨e1, e2, e3⟩ := enc_rdRow _ _ _ _ hx
          rw [List.append_nil] at e1
          rw [keyV_ok (by omega) ((firstW_zero _).2 e3) (by rw [← e1]; exact h2), ← e1]
        · cases h
theorem readV_fault {c : List UInt8} {d : List Bool} {n : Int} {l : List V} (h : readV c d = (n, l)) (hn : n ≠ 0) : l = [] := by
  unfold readV at h
  split at h
  · cases h; rfl
  · split at h
    · cases h; rfl
    · split at h
      · cases h; rfl
      · split at h
        · cases h; exact absurd rfl hn
        · cases h; rfl
end Go.Proofs.YthfejpldhemakaaDoor
