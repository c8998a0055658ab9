import Derived.Test.YthfejpldhemakaaDoorV
namespace Go.Proofs.YthfejpldhemakaaDoor
/-- A text's bytes in a key. -/
def encT : List UInt8 → List UInt8
  | [] => [0, 0]
  | c :: s => if c = 0 then 0 :: 255 :: encT s else c :: encT s
/-- Eight bytes, the highest first. -/
def be8 (u : Nat) : List UInt8 := [UInt8.ofNat (u / 72057594037927936), UInt8.ofNat (u / 281474976710656), UInt8.ofNat (u / 1099511627776), UInt8.ofNat (u / 4294967296), UInt8.ofNat (u / 16777216), UInt8.ofNat (u / 65536), UInt8.ofNat (u / 256), UInt8.ofNat u]
def encN (n : Int) : List UInt8 := be8 (n + 9223372036854775808).toNat
mutual
def encV : V → List UInt8
  | .mk k i t l d =>
    UInt8.ofNat k.toNat ::
      (if k = 3 ∨ k = 10 then encN i
      else if k = 9 then [UInt8.ofNat i.toNat]
      else if k = 4 ∨ k = 7 then encT t.data.toList
      else if k = 8 then t.data.toList
      else if k = 6 then encL l
      else if k = 5 then encD d
      else [])
def encL : List V → List UInt8
  | [] => [0]
  | x :: l => 1 :: (encV x ++ encL l)
def encD : List (ByteArray × V) → List UInt8
  | [] => [0]
  | (n, x) :: d => 1 :: (encT n.data.toList ++ (encV x ++ encD d))
end
/-- A text out of a key's bytes; none: they are no text's. -/
def pT : List UInt8 → Option (List UInt8 × List UInt8)
  | [] => none
  | c :: r => if c = 0 then
      match r with
      | [] => none
      | z :: r' => if z = 0 then some ([], r') else if z = 255 then (pT r').map fun x => (0 :: x.1, x.2) else none
    else (pT r).map fun x => (c :: x.1, x.2)
def val8 : List UInt8 → Nat := fun b => b.foldl (fun u c => u * 256 + c.toNat) 0
def pN (b : List UInt8) : Option (Int × List UInt8) := if 8 ≤ b.length then some ((val8 (b.take 8) : Int) - 9223372036854775808, b.drop 8) else none
mutual
/-- A value out of a key's bytes. strict: as the document's own reader has it. -/
def pV (strict : Bool) : Nat → Nat → List UInt8 → Option (V × List UInt8)
  | 0, _, _ => none
  | _ + 1, _, [] => none
  | n + 1, deep, k :: r =>
    if (strict = true ∧ (k.toNat < 1 ∨ 11 < k.toNat ∨ (k = 5 ∨ k = 6) ∧ 20 < deep)) ∨ 21 < deep then none
    else if k = 3 ∨ k = 10 then (pN r).map fun x => (.mk k.toNat x.1 ByteArray.empty [] [], x.2)
    else if k = 9 then (match r with | [] => none | c :: r' => some (.mk k.toNat c.toNat ByteArray.empty [] [], r'))
    else if k = 4 ∨ k = 7 then (pT r).map fun x => (.mk k.toNat 0 ⟨x.1.toArray⟩ [] [], x.2)
    else if k = 8 then (if 12 ≤ r.length then some (.mk k.toNat 0 ⟨(r.take 12).toArray⟩ [] [], r.drop 12) else none)
    else if k = 6 then (pL strict n (deep + 1) r).map fun x => (.mk k.toNat 0 ByteArray.empty x.1 [], x.2)
    else if k = 5 then (pD strict n (deep + 1) r).map fun x => (.mk k.toNat 0 ByteArray.empty [] x.1, x.2)
    else some (.mk k.toNat 0 ByteArray.empty [] [], r)
def pL (strict : Bool) : Nat → Nat → List UInt8 → Option (List V × List UInt8)
  | 0, _, _ => none
  | _ + 1, _, [] => none
  | n + 1, deep, c :: r =>
    if c = 0 then some ([], r)
    else if c = 1 then (pV strict n deep r).bind fun x => (pL strict n deep x.2).map fun y => (x.1 :: y.1, y.2)
    else none
def pD (strict : Bool) : Nat → Nat → List UInt8 → Option (List (ByteArray × V) × List UInt8)
  | 0, _, _ => none
  | _ + 1, _, [] => none
  | n + 1, deep, c :: r =>
    if c = 0 then some ([], r)
    else if c = 1 then (pT r).bind fun t => (pV strict n deep t.2).bind fun x => (pD strict n deep x.2).map fun y => ((⟨t.1.toArray⟩, x.1) :: y.1, y.2)
    else none
end
theorem pT_ne {c : UInt8} (h : ¬ c = 0) (r : List UInt8) : pT (c :: r) = (pT r).map fun x => (c :: x.1, x.2) := by
  rw [pT.eq_def]
  simp only [if_neg h]
theorem pT_0 : pT [0] = none := by
  rw [pT.eq_def]
  simp
theorem pT_00 (r : List UInt8) : pT (0 :: 0 :: r) = some ([], r) := by
  rw [pT.eq_def]
  simp
theorem pT_0f (r : List UInt8) : pT (0 :: 255 :: r) = (pT r).map fun x => (0 :: x.1, x.2) := by
  rw [pT.eq_def]
  simp
theorem pT_0z {z : UInt8} (h : ¬ z = 0) (h' : ¬ z = 255) (r : List UInt8) : pT (0 :: z :: r) = none := by
  rw [pT.eq_def]
  simp [h, h']
theorem pT_enc (s r : List UInt8) : pT (encT s ++ r) = some (s, r) := by
  induction s with
  | nil => simp [encT, pT_00]
  | cons c s ih =>
    by_cases h : c = 0
    · subst h
      simp [encT, pT_0f, ih]
    · simp [encT, pT_ne h, h, ih]
theorem enc_pT : ∀ (n : Nat) (b : List UInt8), b.length ≤ n → ∀ s r, pT b = some (s, r) → b = encT s ++ r
  | n, [], _, s, r, h => by simp [pT] at h
  | 0, c :: b, hn, s, r, h => by simp at hn
  | n + 1, c :: b, hn, s, r, h => by
    by_cases hc : c = 0
    · subst hc
      match b, h, hn with
      | [], h, _ => rw [pT_0] at h; cases h
      | z :: b', h, hn =>
        by_cases hz : z = 0
        · subst hz
          rw [pT_00] at h
          simp only [Option.some.injEq, Prod.mk.injEq] at h
          obtain ⟨rfl, rfl⟩ := h
          simp [encT]
        · by_cases hz5 : z = 255
          · subst hz5
            rw [pT_0f] at h
            simp only [Option.map_eq_some_iff] at h
            obtain ⟨x, hx, h⟩ := h
            simp only [Prod.mk.injEq] at h
            obtain ⟨rfl, rfl⟩ := h
            have := enc_pT n b' (by simp at hn; omega) _ _ hx
            simp [encT, this]
          · rw [pT_0z hz hz5] at h
            cases h
    · rw [pT_ne hc] at h
      simp only [Option.map_eq_some_iff] at h
      obtain ⟨x, hx, h⟩ := h
      simp only [Prod.mk.injEq] at h
      obtain ⟨rfl, rfl⟩ := h
      have := enc_pT n b (by simp at hn; omega) _ _ hx
      simp [encT, hc, this]
theorem encT_len (s : List UInt8) : (encT s).length ≤ 2 * s.length + 2 := by
  induction s with
  | nil => simp [encT]
  | cons c s ih =>
    by_cases h : c = 0 <;> simp [encT, h] <;> omega
end Go.Proofs.YthfejpldhemakaaDoor
