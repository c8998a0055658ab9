import Derived.Test.YthfejpldhemakaaDoorKm
namespace Go.Proofs.YthfejpldhemakaaDoor
theorem be8_len (u : Nat) : (be8 u).length = 8 := rfl
theorem val8_be8 (u : Nat) (h : u < 18446744073709551616) : val8 (be8 u) = u := by
  simp only [val8, be8, List.foldl_cons, List.foldl_nil, UInt8.toNat_ofNat']
  omega
theorem val8_lt (b : List UInt8) (h : b.length = 8) : val8 b < 18446744073709551616 := by
  match b, h with
  | [b0, b1, b2, b3, b4, b5, b6, b7], _ =>
    have h0 := b0.toNat_lt; have h1 := b1.toNat_lt; have h2 := b2.toNat_lt; have h3 := b3.toNat_lt
    have h4 := b4.toNat_lt; have h5 := b5.toNat_lt; have h6 := b6.toNat_lt; have h7 := b7.toNat_lt
    simp only [val8, List.foldl_cons, List.foldl_nil]
    omega
theorem u8_of {n : Nat} {b : UInt8} (h : n % 256 = b.toNat) : UInt8.ofNat n = b := by
  apply UInt8.toNat_inj.1
  rw [UInt8.toNat_ofNat']
  exact h
theorem be8_val8 (b : List UInt8) (h : b.length = 8) : be8 (val8 b) = b := by
  match b, h with
  | [b0, b1, b2, b3, b4, b5, b6, b7], _ =>
    have h0 := b0.toNat_lt; have h1 := b1.toNat_lt; have h2 := b2.toNat_lt; have h3 := b3.toNat_lt
    have h4 := b4.toNat_lt; have h5 := b5.toNat_lt; have h6 := b6.toNat_lt; have h7 := b7.toNat_lt
    simp only [val8, be8, List.foldl_cons, List.foldl_nil, List.cons.injEq, and_true]
    refine ⟨u8_of ?_, u8_of ?_, u8_of ?_, u8_of ?_, u8_of ?_, u8_of ?_, u8_of ?_, u8_of ?_⟩ <;> omega
theorem encN_len (n : Int) : (encN n).length = 8 := rfl
theorem pN_enc (n : Int) (h : Rng n) (r : List UInt8) : pN (encN n ++ r) = some (n, r) := by
  obtain ⟨h1, h2⟩ := h
  unfold pN
  have e1 : (encN n ++ r).take 8 = encN n := by rw [← encN_len n, List.take_left]
  have e2 : (encN n ++ r).drop 8 = r := by rw [← encN_len n, List.drop_left]
  rw [e1, e2, if_pos (by simp [encN_len])]
  unfold encN
  rw [val8_be8 _ (by omega)]
  congr 2
  omega
theorem enc_pN {b r : List UInt8} {n : Int} (h : pN b = some (n, r)) : Rng n ∧ b = encN n ++ r := by
  unfold pN at h
  split at h
  · rename_i hl
    simp only [Option.some.injEq, Prod.mk.injEq] at h
    obtain ⟨rfl, rfl⟩ := h
    have h8 : (b.take 8).length = 8 := by rw [List.length_take]; omega
    have := val8_lt _ h8
    refine ⟨⟨by omega, by omega⟩, ?_⟩
    unfold encN
    rw [show ((val8 (b.take 8) : Int) - 9223372036854775808 + 9223372036854775808).toNat = val8 (b.take 8) by omega, be8_val8 _ h8, List.take_append_drop]
  · cases h
/-- Is a value one that a key has: its kinds, its parts that its kind does not use? -/
inductive Shape : V → Prop
  | num {k i : Int} (hk : k = 3 ∨ k = 10) (hi : Rng i) : Shape (.mk k i ByteArray.empty [] [])
  | flag {i : Int} (h0 : 0 ≤ i) (h1 : i ≤ 255) : Shape (.mk 9 i ByteArray.empty [] [])
  | text {k : Int} {t : ByteArray} (hk : k = 4 ∨ k = 7) : Shape (.mk k 0 t [] [])
  | id {t : ByteArray} (ht : t.size = 12) : Shape (.mk 8 0 t [] [])
  | list {l : List V} (hl : ∀ x ∈ l, Shape x) : Shape (.mk 6 0 ByteArray.empty l [])
  | doc {d : List (ByteArray × V)} (hd : ∀ p ∈ d, Shape p.2) : Shape (.mk 5 0 ByteArray.empty [] d)
  | other {k : Int} (h0 : 0 ≤ k) (h1 : k ≤ 255) (h3 : k ≠ 3) (h4 : k ≠ 4) (h5 : k ≠ 5) (h6 : k ≠ 6) (h7 : k ≠ 7) (h8 : k ≠ 8) (h9 : k ≠ 9) (h10 : k ≠ 10) : Shape (.mk k 0 ByteArray.empty [] [])
end Go.Proofs.YthfejpldhemakaaDoor
