import Derived.Test.YthfejpldhemakaaDoorKu
import Derived.Deep.LoopGhost
import Derived.Laws.IdiomStrings
import Derived.Test.YthfejpldhemakaaDoorLn
import Derived.Test.YthfejpldhemakaaDoorKp
import Derived.Test.YthfejpldhemakaaDoorKn
namespace Go.Proofs.YthfejpldhemakaaDoor
open Go.RowKit Go.Sort Go.Lib
/-- What does not turn while a key is read: its bytes (in memory as old as W), the mask, the blocks. -/
structure RC where
  W : World
  A : Option Addr
  c : Nat
  bytes : List UInt8
  m : UInt8
  rb : Nat
  ab : Nat
  bb : Nat
  mb : Nat
structure RC.Ok (z : RC) : Prop where
  ry : RY z.W z.A z.bytes
  len : z.bytes.length ≤ 1000
  r : z.W.heap.size ≤ z.rb
  a : z.W.heap.size ≤ z.ab
  b : z.W.heap.size ≤ z.bb
  k : z.W.heap.size ≤ z.mb
  ra : z.rb ≠ z.ab
  rb' : z.rb ≠ z.bb
  rm : z.rb ≠ z.mb
  ab' : z.ab ≠ z.bb
  am : z.ab ≠ z.mb
/-- The reader stands at a place; bad: something was wrong. -/
structure RS (z : RC) (w : World) (at_ : Nat) (bad : Bool) : Prop where
  below : Below z.W.heap.size z.W w
  r : w.heap[z.rb]? = some (.cells #[.func (.func 82) #[] #[.pointer (some ⟨z.ab, 0, none⟩), .pointer (some ⟨z.bb, 0, none⟩), .pointer (some ⟨z.mb, 0, none⟩)], .bool bad] 93 (0, 0))
  a : w.heap[z.ab]? = some (.cells #[.int .i64 (at_ : Int)] 3 (0, 0))
  b : w.heap[z.bb]? = some (.cells #[.slice z.A z.bytes.length z.c] 42 (0, 0))
  k : w.heap[z.mb]? = some (.cells #[.int .u8 (z.m.toNat : Int)] 5 (0, 0))
  le : at_ ≤ z.bytes.length
/-- The reader's own blocks. -/
def RC.own (z : RC) (q : Nat) : Prop := q = z.rb ∨ q = z.ab
theorem RS.grow {z : RC} {w w1 : World} {i : Nat} {b : Bool} (h : RS z w i b) (hb : Below w.heap.size w w1) : RS z w1 i b := by
  have hs := h.below.size
  exact ⟨h.below.trans ⟨hb.os, hb.tape, hb.output, hb.size, fun k hk => hb.block k (by omega)⟩, (hb.block _ (block_lt h.r)).trans h.r, (hb.block _ (block_lt h.a)).trans h.a, (hb.block _ (block_lt h.b)).trans h.b, (hb.block _ (block_lt h.k)).trans h.k, h.le⟩
/-- What is still to be read. -/
def RC.rest (z : RC) (i : Nat) : List UInt8 := (z.bytes.drop i).map (· ^^^ z.m)
theorem RC.rest_end {z : RC} {i : Nat} (h : z.bytes.length ≤ i) : z.rest i = [] := by unfold RC.rest; rw [List.drop_eq_nil_of_le h]; rfl
theorem RC.rest_cons {z : RC} {i : Nat} (h : i < z.bytes.length) : z.rest i = (z.bytes[i] ^^^ z.m) :: z.rest (i + 1) := by unfold RC.rest; rw [List.drop_eq_getElem_cons h]; rfl
theorem RC.rest_len (z : RC) (i : Nat) : (z.rest i).length = z.bytes.length - i := by simp [RC.rest]
set_option maxRecDepth 100000 in
set_option maxHeartbeats 1000000 in
theorem byte_bad {z : RC} {w : World} {i : Nat} (h : RS z w i true) : Calls Tryd.prog 103 #[.pointer (some ⟨z.rb, 0, none⟩)] w fun e w' => e = .returned (.int .u8 0) ∧ w = w' := by
  have c1 := cell_at h.r 1 _ rfl
  clear h
  go_enter Tryd.func103, Tryd.ntmps103
  go_wp2_with fail
  go_ret
  exact ⟨rfl, rfl⟩
theorem xor_mask (a b : UInt8) : bits BinOp.xor IntKind.u8 (a.toNat : Int) (b.toNat : Int) = ((a ^^^ b : UInt8).toNat : Int) := by
  have h1 : (BitVec.ofInt 8 (a.toNat : Int)).toNat = a.toNat := by
    rw [BitVec.ofInt_natCast, BitVec.toNat_ofNat]; exact Nat.mod_eq_of_lt a.toNat_lt
  have h2 : (BitVec.ofInt 8 (b.toNat : Int)).toNat = b.toNat := by
    rw [BitVec.ofInt_natCast, BitVec.toNat_ofNat]; exact Nat.mod_eq_of_lt b.toNat_lt
  show IntKind.u8.wrap ((BitVec.ofInt 8 (a.toNat : Int) ^^^ BitVec.ofInt 8 (b.toNat : Int)).toNat : Int) = _
  rw [BitVec.toNat_xor, h1, h2, IntKind.wrap_u8, UInt8.toNat_xor]
  have := Nat.xor_lt_two_pow (n := 8) a.toNat_lt b.toNat_lt
  omega
set_option maxRecDepth 100000 in
set_option maxHeartbeats 1000000 in
theorem next_end {z : RC} {w : World} {i : Nat} {b : Bool} (h : RS z w i b) (hi : z.bytes.length ≤ i) : Calls Tryd.prog 82 #[.pointer (some ⟨z.ab, 0, none⟩), .pointer (some ⟨z.bb, 0, none⟩), .pointer (some ⟨z.mb, 0, none⟩)] w fun e w' => e = .returned (.tuple #[.int .u8 0, .bool false]) ∧ w = w' := by
  have c1 := cell_at h.a 0 _ rfl
  have c2 := cell_at h.b 0 _ rfl
  have hle := h.le
  clear h
  obtain ⟨W, A, c, bytes, m, rb, ab, bb, mb⟩ := z
  simp only at c1 c2 hi hle ⊢
  generalize bytes.length = n at c2 hi hle
  go_enter Tryd.func82, Tryd.ntmps82
  go_wp2_with fail
  go_ret2
  exact ⟨rfl, rfl⟩

theorem RS.advance {z : RC} (ok : z.Ok) {w : World} {i : Nat} {b : Bool} (h : RS z w i b) (hi : i < z.bytes.length) : RS z (w.setCell ⟨z.ab, 0, none⟩ (.int .i64 ((i : Int) + 1))) (i + 1) b ∧ Only z.own w (w.setCell ⟨z.ab, 0, none⟩ (.int .i64 ((i : Int) + 1))) := by
  have ho := only_set w z.ab 0 (.int .i64 ((i : Int) + 1))
  have hs := ok.a
  have keep : ∀ q o, w.heap[q]? = some o → q ≠ z.ab → (w.setCell ⟨z.ab, 0, none⟩ (.int .i64 ((i : Int) + 1))).heap[q]? = some o := fun q o hq hne => (ho.block q (block_lt hq) hne).trans hq
  refine ⟨⟨h.below.trans (ho.below (fun g hg => by omega) h.below.size), keep _ _ h.r ok.ra, ?_, keep _ _ h.b ok.ab'.symm, keep _ _ h.k ok.am.symm, hi⟩, ho.mono fun q _ hq => .inr hq⟩
  have := setCell_block h.a 0 (.int .i64 ((i : Int) + 1))
  simpa using this
set_option maxRecDepth 100000 in
set_option maxHeartbeats 1000000 in
theorem next_get {z : RC} (ok : z.Ok) {w : World} {i : Nat} {b : Bool} (h : RS z w i b) (hi : i < z.bytes.length) : Calls Tryd.prog 82 #[.pointer (some ⟨z.ab, 0, none⟩), .pointer (some ⟨z.bb, 0, none⟩), .pointer (some ⟨z.mb, 0, none⟩)] w fun e w' =>
    e = .returned (.tuple #[.int .u8 ((z.bytes[i] ^^^ z.m : UInt8).toNat : Int), .bool true]) ∧ RS z w' (i + 1) b ∧ Only z.own w w' := by
  have c1 := cell_at h.a 0 _ rfl
  have c1f := free_at h.a 0
  have c2 := cell_at h.b 0 _ rfl
  have hl := ok.len
  obtain ⟨h1, h2⟩ := h.advance ok hi
  have d1 := cell_at h1.a 0 _ rfl
  have d2 := cell_at h1.b 0 _ rfl
  have d3 := cell_at h1.k 0 _ rfl
  obtain ⟨b', off, eA, f0⟩ := (ok.ry.grow h1.below).get hi
  have hx := xor_mask z.bytes[i] z.m
  have HF := Lib.hid (And.intro h1 h2)
  have e1 : ((i + 1 : Nat) : Int) = (i : Int) + 1 := by omega
  rw [e1] at d1
  generalize hW1 : w.setCell ⟨z.ab, 0, none⟩ (.int .i64 ((i : Int) + 1)) = W1 at d1 d2 d3 f0 HF
  have HW1 := Lib.hid hW1
  clear h h1 h2 e1 ok hW1
  obtain ⟨x, hx0⟩ : ∃ x, z.bytes[i] = x := ⟨_, rfl⟩
  rw [hx0] at hx f0 ⊢
  clear hx0
  obtain ⟨W, A, c, bytes, m, rb, ab, bb, mb⟩ := z
  simp only at *
  subst eA
  generalize bytes.length = n at *
  have hz : (i : Int) < (n : Int) := by omega
  go_enter Tryd.func82, Tryd.ntmps82
  go_wp2_with fail
  rw [HW1.out]
  clear c1 c1f c2
  go_quiet (fail)
  go_wp2_with fail
  go_ret2
  refine ⟨rfl, HF.out.1.grow (drewN_below2 (Below.refl _ _) _), HF.out.2.trans (Only.of_below (S := fun _ => False) (drewN_below2 (Below.refl _ _) _)) (fun _ _ h => h.elim)⟩
end Go.Proofs.YthfejpldhemakaaDoor

namespace Go.Proofs.YthfejpldhemakaaDoor
open Go.RowKit Go.Sort Go.Lib
theorem RS.setBad {z : RC} (ok : z.Ok) {w : World} {i : Nat} {b : Bool} (h : RS z w i b) (b' : Bool) : RS z (w.setCell ⟨z.rb, 1, none⟩ (.bool b')) i b' ∧ Only z.own w (w.setCell ⟨z.rb, 1, none⟩ (.bool b')) := by
  have ho := only_set w z.rb 1 (.bool b')
  have hs := ok.r
  have keep : ∀ q o, w.heap[q]? = some o → q ≠ z.rb → (w.setCell ⟨z.rb, 1, none⟩ (.bool b')).heap[q]? = some o := fun q o hq hne => (ho.block q (block_lt hq) hne).trans hq
  refine ⟨⟨h.below.trans (ho.below (fun g hg => by omega) h.below.size), ?_, keep _ _ h.a ok.ra.symm, keep _ _ h.b ok.rb'.symm, keep _ _ h.k ok.rm.symm, h.le⟩, ho.mono fun q _ hq => .inl hq⟩
  exact setCell_block h.r 1 (.bool b')
set_option maxRecDepth 100000 in
set_option maxHeartbeats 1000000 in
theorem byte_end {z : RC} (ok : z.Ok) {w : World} {i : Nat} (h : RS z w i false) (hi : z.bytes.length ≤ i) : Calls Tryd.prog 103 #[.pointer (some ⟨z.rb, 0, none⟩)] w fun e w' => e = .returned (.int .u8 0) ∧ RS z w' i true ∧ Only z.own w w' := by
  have c0 := cell_at h.r 0 _ rfl
  have c1 := cell_at h.r 1 _ rfl
  have cf := free_at h.r 1
  have hn := next_end h hi
  have HS := Lib.hid (h.setBad ok true)
  clear h
  obtain ⟨W, A, c, bytes, m, rb, ab, bb, mb⟩ := z
  simp only at *
  go_enter Tryd.func103, Tryd.ntmps103
  go_wp2_with fail
  refine hn.mono ?_
  rintro e w1 ⟨rfl, rfl⟩
  go_wp2_with fail
  go_ret
  exact ⟨rfl, HS.out.1, HS.out.2⟩
set_option maxRecDepth 100000 in
set_option maxHeartbeats 1000000 in
theorem byte_next {z : RC} (ok : z.Ok) {w : World} {i : Nat} (h : RS z w i false) (hi : i < z.bytes.length) : Calls Tryd.prog 103 #[.pointer (some ⟨z.rb, 0, none⟩)] w fun e w' =>
    e = .returned (.int .u8 ((z.bytes[i] ^^^ z.m : UInt8).toNat : Int)) ∧ RS z w' (i + 1) false ∧ Only z.own w w' := by
  have c0 := cell_at h.r 0 _ rfl
  have c1 := cell_at h.r 1 _ rfl
  have hn := next_get ok h hi
  clear h
  obtain ⟨x, hx⟩ : ∃ x, z.bytes[i] ^^^ z.m = x := ⟨_, rfl⟩
  rw [hx] at hn ⊢
  have HK := Lib.hid (fun (w1 : World) (h1 : RS z w1 (i + 1) false) => And.intro (cell_at h1.r 1 _ rfl) (And.intro (free_at h1.r 1) (h1.setBad ok false)))
  clear ok hi hx
  obtain ⟨W, A, c, bytes, m, rb, ab, bb, mb⟩ := z
  simp only at *
  go_enter Tryd.func103, Tryd.ntmps103
  go_wp2_with fail
  refine hn.mono ?_
  rintro e w1 ⟨rfl, h1, ho⟩
  obtain ⟨d1, df, h2, ho2⟩ := HK.out w1 h1
  have HF := Lib.hid (And.intro h2 (ho.trans ho2 (fun _ _ h => h)))
  clear h1 ho h2 ho2
  go_wp2_with fail
  go_ret
  exact ⟨rfl, HF.out.1, HF.out.2⟩
/-- What reading a byte comes to: from bs, the byte, and what is left; none: there is none. -/
theorem byte_c {z : RC} (ok : z.Ok) {w : World} {i : Nat} (h : RS z w i false) : Calls Tryd.prog 103 #[.pointer (some ⟨z.rb, 0, none⟩)] w fun e w' => ∃ (c : UInt8) (i' : Nat) (b : Bool), e = .returned (.int .u8 (c.toNat : Int)) ∧ RS z w' i' b ∧ Only z.own w w' ∧
    ((b = true ∧ c = 0 ∧ z.rest i = [] ∧ i' = i) ∨ (b = false ∧ z.rest i = c :: z.rest i' ∧ i' = i + 1)) := by
  by_cases hi : i < z.bytes.length
  · exact (byte_next ok h hi).mono fun e w' ⟨he, h1, h2⟩ => ⟨_, i + 1, false, he, h1, h2, .inr ⟨rfl, RC.rest_cons hi, rfl⟩⟩
  · exact (byte_end ok h (by omega)).mono fun e w' ⟨he, h1, h2⟩ => ⟨0, i, true, he, h1, h2, .inl ⟨rfl, rfl, RC.rest_end (by omega), rfl⟩⟩
/-- Whatever went before. -/
theorem byte_any {z : RC} (ok : z.Ok) {w : World} {i : Nat} {b0 : Bool} (h : RS z w i b0) : Calls Tryd.prog 103 #[.pointer (some ⟨z.rb, 0, none⟩)] w fun e w' => ∃ (c : UInt8) (i' : Nat) (b : Bool), e = .returned (.int .u8 (c.toNat : Int)) ∧ RS z w' i' b ∧ Only z.own w w' ∧
    ((b = true ∧ c = 0 ∧ (b0 = true ∨ z.rest i = [])) ∨ (b0 = false ∧ b = false ∧ z.rest i = c :: z.rest i' ∧ i' = i + 1)) := by
  cases b0 with
  | true => exact (byte_bad h).mono fun e w' ⟨he, hw⟩ => ⟨0, i, true, he, hw ▸ h, hw ▸ Only.refl _ _, .inl ⟨rfl, rfl, .inl rfl⟩⟩
  | false =>
    refine (byte_c ok h).mono fun e w' ⟨c, i', b, he, h1, h2, h3⟩ => ⟨c, i', b, he, h1, h2, ?_⟩
    rcases h3 with ⟨h3, h4, h5, _⟩ | ⟨h3, h4, h5⟩
    · exact .inl ⟨h3, h4, .inr h5⟩
    · exact .inr ⟨rfl, h3, h4, h5⟩
end Go.Proofs.YthfejpldhemakaaDoor

namespace Go.Proofs.YthfejpldhemakaaDoor
open Go.RowKit Go.Sort Go.Lib
/-- What 'does another part follow' comes to. -/
def MoreP (z : RC) (b0 : Bool) (i : Nat) (r : Bool) (i' : Nat) (b : Bool) : Prop :=
  (r = true ∧ b = false ∧ b0 = false ∧ z.rest i = 1 :: z.rest i' ∧ i' = i + 1) ∨ (r = false ∧ b = false ∧ b0 = false ∧ z.rest i = 0 :: z.rest i' ∧ i' = i + 1) ∨
    (r = false ∧ b = true ∧ (b0 = true ∨ z.rest i = [] ∨ ∃ c t, z.rest i = c :: t ∧ ¬ c = 0 ∧ ¬ c = 1))
set_option maxRecDepth 100000 in
set_option maxHeartbeats 2000000 in
theorem more_c {z : RC} (ok : z.Ok) {w : World} {i : Nat} {b0 : Bool} (h : RS z w i b0) : Calls Tryd.prog 105 #[.pointer (some ⟨z.rb, 0, none⟩)] w fun e w' => ∃ (r : Bool) (i' : Nat) (b : Bool), e = .returned (.bool r) ∧ RS z w' i' b ∧ Only z.own w w' ∧ MoreP z b0 i r i' b := by
  have hby := byte_any ok h
  have HK := Lib.hid (fun (w1 : World) (i' : Nat) (b b' : Bool) (h1 : RS z w1 i' b) => And.intro (cell_at h1.r 1 _ rfl) (And.intro (free_at h1.r 1) (h1.setBad ok b')))
  clear h ok
  go_enter Tryd.func105, Tryd.ntmps105
  go_wp2_with fail
  refine hby.mono ?_
  rintro e w1 ⟨c, i', b, rfl, h1, ho, hc⟩
  rcases hc with ⟨rfl, rfl, hc⟩ | ⟨hb0, rfl, hr, hi'⟩
  · obtain ⟨d1, df, h2, ho2⟩ := HK.out w1 i' true true h1
    have HF := Lib.hid (And.intro h2 (And.intro (ho.trans ho2 (fun _ _ h => h)) hc))
    clear h1 ho h2 ho2 hc hby
    go_wp2_with fail
    go_ret
    refine ⟨false, i', true, rfl, HF.out.1, HF.out.2.1, .inr (.inr ⟨rfl, rfl, ?_⟩)⟩
    rcases HF.out.2.2 with h | h
    · exact .inl h
    · exact .inr (.inl h)
  · by_cases h0 : c = 0
    · subst h0
      obtain ⟨d1, df, h2, ho2⟩ := HK.out w1 i' false false h1
      have HF := Lib.hid (And.intro h2 (And.intro (ho.trans ho2 (fun _ _ h => h)) (And.intro hb0 (And.intro hr hi'))))
      clear h1 ho h2 ho2 hb0 hr hi' hby
      go_wp2_with fail
      go_ret
      exact ⟨false, i', false, rfl, HF.out.1, HF.out.2.1, .inr (.inl ⟨rfl, rfl, HF.out.2.2⟩)⟩
    · by_cases h1' : c = 1
      · subst h1'
        obtain ⟨d1, df, h2, ho2⟩ := HK.out w1 i' false false h1
        have HF := Lib.hid (And.intro h2 (And.intro (ho.trans ho2 (fun _ _ h => h)) (And.intro hb0 (And.intro hr hi'))))
        clear h1 ho h2 ho2 hb0 hr hi' h0 hby
        go_wp2_with fail
        go_ret
        exact ⟨true, i', false, rfl, HF.out.1, HF.out.2.1, .inl ⟨rfl, rfl, HF.out.2.2⟩⟩
      · obtain ⟨d1, df, h2, ho2⟩ := HK.out w1 i' false true h1
        have HF := Lib.hid (And.intro h2 (And.intro (ho.trans ho2 (fun _ _ h => h)) (And.intro hr (And.intro h0 h1'))))
        have hgt : (1 : Int) < (c.toNat : Int) := by
          have e0 : c.toNat ≠ 0 := fun he => h0 (UInt8.toNat_inj.1 he)
          have e1 : c.toNat ≠ 1 := fun he => h1' (UInt8.toNat_inj.1 he)
          omega
        have hne : ((c.toNat : Int) == 1) = false := by
          rw [beq_eq_false_iff_ne]
          omega
        clear h1 ho h2 ho2 hb0 hr hi' h0 h1' hby
        go_wp2_with fail
        go_ret
        exact ⟨false, i', true, rfl, HF.out.1, HF.out.2.1, .inr (.inr ⟨rfl, rfl, .inr (.inr ⟨c, _, HF.out.2.2⟩)⟩)⟩
end Go.Proofs.YthfejpldhemakaaDoor

namespace Go.Proofs.YthfejpldhemakaaDoor
open Go.RowKit Go.Sort Go.Lib
/-- What reading a text comes to. -/
def TextP (z : RC) (b0 : Bool) (i : Nat) (s : List UInt8) (i' : Nat) (b : Bool) : Prop :=
  (b = false → b0 = false ∧ pT (z.rest i) = some (s, z.rest i')) ∧ (b = true → b0 = true ∨ pT (z.rest i) = none) ∧ s.length ≤ z.bytes.length
def TextPost (z : RC) (b0 : Bool) (w : World) (i : Nat) (e : Ending) (w' : World) : Prop :=
  ∃ (s : List UInt8) (i' : Nat) (b : Bool), e = .returned (.string ⟨s.toArray⟩) ∧ RS z w' i' b ∧ Only z.own w w' ∧ TextP z b0 i s i' b
theorem str_back (w : World) (v : Value) (xs : List UInt8) (h : BO w v xs) : (convert 42 9 v).run Tryd.prog w = .ok (.string ⟨xs.toArray⟩) w := by
  rcases h.2 with ⟨rfl, hn⟩ | ⟨g, cap, cur, rfl, hrest⟩
  · obtain rfl : xs = [] := List.eq_nil_of_length_eq_zero hn
    rw [run_convert_bytes_string w 42 9 5 none 0 0 Tryd.underlying42 Tryd.underlying5 Tryd.underlying9]
    rfl
  · exact run_convert_bytes_back w 42 9 5 ⟨g, 0, none⟩ cap xs Tryd.underlying42 Tryd.underlying5 Tryd.underlying9 (fun j hj => World.ownsRow.cells h (g := g) rfl j (bv xs[j]) (by simp [hj]))
set_option maxRecDepth 100000 in
set_option maxHeartbeats 4000000 in
theorem rdtext_c {z : RC} (ok : z.Ok) {w : World} {i : Nat} {b0 : Bool} (h : RS z w i b0) : Calls Tryd.prog 104 #[.pointer (some ⟨z.rb, 0, none⟩)] w (TextPost z b0 w i) := by
  have hl := ok.len
  have HO := Lib.hid ok
  have H0 := Lib.hid h
  clear h ok
  go_enter Tryd.func104, Tryd.ntmps104
  go_wp2_with fail
  go_loopg [3] (z.bytes.length + 1) (fun gg vv wr => ∃ (i' : Nat) (b : Bool) (acc : List UInt8), Hid (RS z wr i' b ∧ Only z.own w wr ∧ BO wr vv acc ∧ (∀ g, vv.ownBlock = some g → w.heap.size ≤ g) ∧ (b = false → b0 = false ∧ pT (z.rest i) = (pT (z.rest i')).map fun x => (acc ++ x.1, x.2)) ∧ (b = true → b0 = true ∨ pT (z.rest i) = none) ∧ i ≤ i' ∧ acc.length ≤ i') ∧ z.bytes.length - i' + (if b then 0 else 1) ≤ gg)
  case atStart => 
    refine ⟨i, b0, [], Lib.hid ⟨H0.out, Only.refl _ _, BO.nil w, by simp [Value.ownBlock], fun hb => ⟨hb, by simp⟩, fun hb => .inl hb, Nat.le_refl _, by simp⟩, ?_⟩
    cases b0 <;> simp <;> omega
  case round =>
    obtain ⟨i', b, acc, H, hgg⟩ := hrel
    have hc1 := cell_at H.out.1.r 1 _ rfl
    have H6 := Lib.hid H.out.2.2.2.2.2.1
    have H5 := Lib.hid H.out.2.2.2.2.1
    cases b with
    | true =>
      go_wp2_with fail
      go_ret
      obtain ⟨h1, h2, _, _, _, h6, _⟩ := H.out
      exact ⟨[], i', true, rfl, h1, h2, fun hb => (by cases hb), fun _ => H6.out (by simp), by simp⟩
    | false =>
      go_wp2_with fail
      clear hc1
      have hgg' : z.bytes.length - i' + 1 ≤ gk := by simpa using hgg
      clear hgg
      refine (byte_any HO.out H.out.1).mono ?_
      rintro e w1 ⟨c, i1, b1, rfl, h1, ho1, hc⟩
      obtain ⟨hrs, how, hbo, hfr, hpf, _, hii, hal⟩ := H.out
      have hle := h1.le
      have hown : ∀ q, z.own q → q < w.heap.size := fun q hq => by
        rcases hq with rfl | rfl
        · exact block_lt H0.out.r
        · exact block_lt H0.out.a
      obtain ⟨hb0, hpf⟩ := H5.out (by simp)
      have HB : Hid (∀ u, Only z.own wr u → BO u u3 acc) := Lib.hid fun u hu => hbo.at_ fun g hg => hu.block g (hbo.lt hg) (fun hq => by have := hown g hq; have := hfr g hg; omega)
      have HF := Lib.hid (And.intro how (And.intro hfr (And.intro hb0 (And.intro hpf (And.intro hown hii)))))
      have halb : acc.length ≤ 1000 := by have := hrs.le; omega
      have hlr := hrs.le
      clear hbo hrs how hfr hpf hb0 hown hii H
      have hstep : Hid (∀ (g3 cap3 n3 : Nat) (u w3 : World) (ys : List UInt8) (i2 : Nat) (b2 : Bool), RS z u i2 b2 → Only z.own wr u → Gr u w3 u3 (.slice (some ⟨g3, 0, none⟩) n3 cap3) → RS z w3 i2 b2 ∧ Only z.own w w3 ∧ (∀ g, (Value.slice (some ⟨g3, 0, none⟩) n3 cap3).ownBlock = some g → w.heap.size ≤ g)) := Lib.hid fun g3 cap3 n3 u w3 ys i2 b2 hru hou hg => by
        obtain ⟨how, hfr, _, _, hown, _⟩ := HF.out
        have hwu := how.trans hou (fun _ _ h => h)
        have hkeep : ∀ q o, u.heap[q]? = some o → q < w.heap.size → w3.heap[q]? = some o := fun q o hq hlt => (hg.block (block_lt hq) (fun he => by have := hfr _ he; omega)).trans hq
        refine ⟨⟨hru.below.trans (hg.below hru.below.size (fun g hg => by have := hfr g hg; have := H0.out.below.size; omega)), hkeep _ _ hru.r (block_lt H0.out.r), hkeep _ _ hru.a (block_lt H0.out.a), hkeep _ _ hru.b (block_lt H0.out.b), hkeep _ _ hru.k (block_lt H0.out.k), hru.le⟩, hwu.trans (Only.of_grown hg.grown) (fun q hq he => by have := hfr q he.symm; omega), hg.from_ hwu.size hfr⟩
      rcases hc with ⟨rfl, rfl, hc⟩ | ⟨_, rfl, hr, hi1⟩
      · have HC := Lib.hid (And.intro h1 (And.intro ho1 hc))
        clear h1 ho1 hc
        go_wp2_with fail
        refine (byte_bad HC.out.1).mono ?_
        rintro e w2 ⟨rfl, rfl⟩
        have hcv := str_back w1 u3 acc (HB.out w1 HC.out.2.1)
        go_wp2_with fail
        go_ret
        obtain ⟨how, hfr, hb0, hpf, hown, hii⟩ := HF.out
        refine ⟨acc, i1, true, rfl, HC.out.1, how.trans HC.out.2.1 (fun _ _ h => h), fun hb => (by cases hb), fun _ => .inr ?_, by omega⟩
        rcases HC.out.2.2 with h | h
        · cases h
        · rw [hpf, h]; simp [pT]
      · by_cases h0 : c = 0
        · subst h0
          have HC := Lib.hid (And.intro h1 (And.intro ho1 (And.intro hr hi1)))
          clear h1 ho1 hr hi1
          go_wp2_with fail
          refine (byte_any HO.out HC.out.1).mono ?_
          rintro e w2 ⟨d, i2, b2, rfl, h2, ho2, hd⟩
          have hle2 := h2.le
          rcases hd with ⟨rfl, rfl, hd⟩ | ⟨_, rfl, hr2, hi2⟩
          · have HD := Lib.hid (And.intro h2 (And.intro (HC.out.2.1.trans ho2 (fun _ _ h => h)) hd))
            clear h2 ho2 hd
            have hcv := str_back w2 u3 acc (HB.out w2 HD.out.2.1)
            go_wp2_with fail
            go_ret
            obtain ⟨how, hfr, hb0, hpf, hown, hii⟩ := HF.out
            refine ⟨acc, i2, true, rfl, HD.out.1, how.trans HD.out.2.1 (fun _ _ h => h), fun hb => (by cases hb), fun _ => .inr ?_, by omega⟩
            rcases HD.out.2.2 with h | h
            · cases h
            · rw [hpf, HC.out.2.2.1, h, pT_0]; rfl
          · have HD := Lib.hid (And.intro h2 (And.intro (HC.out.2.1.trans ho2 (fun _ _ h => h)) (And.intro hr2 hi2)))
            have hgi : i2 = i' + 2 := by have := HC.out.2.2.2; omega
            clear h2 ho2 hr2 hi2
            by_cases hd0 : d = 0
            · subst hd0
              have hcv := str_back w2 u3 acc (HB.out w2 HD.out.2.1)
              clear hgi
              go_wp2_with fail
              go_ret
              obtain ⟨how, hfr, hb0, hpf, hown, hii⟩ := HF.out
              refine ⟨acc, i2, false, rfl, HD.out.1, how.trans HD.out.2.1 (fun _ _ h => h), fun _ => ⟨hb0, ?_⟩, fun hb => (by cases hb), by omega⟩
              rw [hpf, HC.out.2.2.1, HD.out.2.2.1, pT_00]; simp
            · have hne0 := u8_ne0 hd0
              have HBu := HB.out w2 HD.out.2.1
              by_cases hd5 : d = 255
              · subst hd5
                have HG := Lib.hid hgi
                clear hgi hd0
                go_wp2_with (refine wpList_app (by rfl) _ _ (by rfl) u3 acc [0] (by rfl) (HBu.grow (below_alloc1 _ _)) ⟨w2.heap.size, 0, none⟩ 1 (by rfl) (news1 (heap_alloc_new w2 _) rfl) (by simp) (by simp; omega) (acc.length + 1) (by simp) ?_; intro g3 cap3 w3 hb3 hg3)
                go_roundg (z.bytes.length - i2 + 1)
                case measure => have := HG.out; omega
                case rel =>
                  obtain ⟨how, hfr, hb0, hpf, hown, hii⟩ := HF.out
                  obtain ⟨q1, q2, q3⟩ := hstep.out g3 cap3 _ _ w3 acc i2 false (HD.out.1.grow (below_alloc1 _ _)) (HD.out.2.1.trans (Only.of_below (below_alloc1 _ _)) (fun _ _ h => h)) hg3
                  have := HG.out
                  refine ⟨i2, false, acc ++ [0], Lib.hid ⟨q1, q2, hb3, q3, fun _ => ⟨hb0, ?_⟩, fun hb => (by cases hb), by omega, by simp; omega⟩, by simp⟩
                  rw [hpf, HC.out.2.2.1, HD.out.2.2.1, pT_0f, Option.map_map]
                  congr 1
                  funext x
                  simp
              · have hne5 : ((d.toNat : Int) == 255) = false := u8_ne (b := 255) hd5
                have cf := free_at HD.out.1.r 1
                have cc := cell_at HD.out.1.r 1 _ rfl
                have HS := Lib.hid (HD.out.1.setBad HO.out true)
                have HN := Lib.hid (And.intro hd0 (And.intro hd5 hgi))
                have HB2 : BO (w2.setCell ⟨z.rb, 1, none⟩ (.bool true)) u3 acc := HB.out _ (HD.out.2.1.trans HS.out.2 (fun _ _ h => h))
                clear hd0 hd5 hgi
                go_wp2_with (refine wpList_app (by rfl) _ _ (by rfl) u3 acc [0] (by rfl) (HB2.grow (below_alloc1 _ _)) ⟨w2.heap.size, 0, none⟩ 1 (by rfl) (news1 (by simpa [World.setCell] using heap_alloc_new (w2.setCell ⟨z.rb, 1, none⟩ (.bool true)) (.cells #[.int .u8 0] 5)) rfl) (by simp) (by simp; omega) (acc.length + 1) (by simp) ?_; intro g3 cap3 w3 hb3 hg3)
                go_roundg (z.bytes.length - i2)
                case measure => have := HN.out.2.2; omega
                case rel =>
                  obtain ⟨how, hfr, hb0, hpf, hown, hii⟩ := HF.out
                  obtain ⟨q1, q2, q3⟩ := hstep.out g3 cap3 _ _ w3 acc i2 true (HS.out.1.grow (below_alloc1 _ _)) ((HD.out.2.1.trans HS.out.2 (fun _ _ h => h)).trans (Only.of_below (below_alloc1 _ _)) (fun _ _ h => h)) hg3
                  have := HN.out.2.2
                  refine ⟨i2, true, acc ++ [0], Lib.hid ⟨q1, q2, hb3, q3, fun hb => (by cases hb), fun _ => .inr ?_, by omega, by simp; omega⟩, by simp⟩
                  rw [hpf, HC.out.2.2.1, HD.out.2.2.1, pT_0z HN.out.1 HN.out.2.1]
                  rfl
        · have hne0 := u8_ne0 h0
          have HC := Lib.hid (And.intro h1 (And.intro ho1 (And.intro hr (And.intro hi1 h0))))
          have HB1 := HB.out w1 ho1
          clear h1 ho1 hr hi1 h0
          go_wp2_with (refine wpList_app (by rfl) _ _ (by rfl) u3 acc [c] (by rfl) (HB1.grow (below_alloc1 _ _)) ⟨w1.heap.size, 0, none⟩ 1 (by rfl) (news1 (heap_alloc_new w1 _) rfl) (by simp) (by simp; omega) (acc.length + 1) (by simp) ?_; intro g3 cap3 w3 hb3 hg3)
          go_roundg (z.bytes.length - i1 + 1)
          case measure => have := HC.out.2.2.2.1; omega
          case rel =>
            obtain ⟨how, hfr, hb0, hpf, hown, hii⟩ := HF.out
            obtain ⟨q1, q2, q3⟩ := hstep.out g3 cap3 _ _ w3 acc i1 false (HC.out.1.grow (below_alloc1 _ _)) (HC.out.2.1.trans (Only.of_below (below_alloc1 _ _)) (fun _ _ h => h)) hg3
            have := HC.out.2.2.2.1
            refine ⟨i1, false, acc ++ [c], Lib.hid ⟨q1, q2, hb3, q3, fun _ => ⟨hb0, ?_⟩, fun hb => (by cases hb), by omega, by simp; omega⟩, by simp⟩
            rw [hpf, HC.out.2.2.1, pT_ne HC.out.2.2.2.2, Option.map_map]
            congr 1
            funext x
            simp
end Go.Proofs.YthfejpldhemakaaDoor

namespace Go.Proofs.YthfejpldhemakaaDoor
open Go.RowKit Go.Sort Go.Lib
/-- What reading a value comes to. -/
def VP (z : RC) (b0 : Bool) (deep i : Nat) (v : V) (i' : Nat) (b : Bool) : Prop :=
  (b = false → b0 = false ∧ i < i' ∧ ∀ n, (z.rest i).length < n → pV false n deep (z.rest i) = some (v, z.rest i')) ∧ (b = true → b0 = true ∨ ∀ n, (z.rest i).length < n → pV false n deep (z.rest i) = none)
def ValPost (z : RC) (b0 : Bool) (deep : Nat) (w : World) (i : Nat) (e : Ending) (w' : World) : Prop :=
  ∃ (v : V) (cs : List Value) (F : List Nat) (i' : Nat) (b : Bool), e = .returned (.agg cs.toArray) ∧ OV false w' v cs F ∧ F.Nodup ∧ (∀ g ∈ F, w.heap.size ≤ g) ∧ RS z w' i' b ∧ Only z.own w w' ∧ VP z b0 deep i v i' b
/-- Half way: the value's box at vb, the result's box at the old memory's end. -/
structure VS (z : RC) (w wr : World) (i : Nat) (b : Bool) (vb : Nat) (cs : Array Value) : Prop where
  rs : RS z wr i b
  only : Only z.own w wr
  hv : wr.heap[vb]? = some (.cells cs 25 (0, 0))
  hr : wr.heap[w.heap.size]? = some (.cells #[.int .i64 0, .int .i64 0, .string ByteArray.empty, .slice none 0 0, .slice none 0 0] 25 (0, 0))
  lt : w.heap.size < vb
  r : z.rb < w.heap.size
  a : z.ab < w.heap.size
  bb : z.bb < w.heap.size
  k : z.mb < w.heap.size
  W : z.W.heap.size ≤ w.heap.size
theorem VS.own {z : RC} {w wr : World} {i : Nat} {b : Bool} {vb : Nat} {cs : Array Value} (h : VS z w wr i b vb cs) (q : Nat) (hq : z.own q) : q < w.heap.size := by
  have := h.r; have := h.a
  rcases hq with rfl | rfl <;> omega
theorem VS.call {z : RC} {w wr w1 : World} {i i2 : Nat} {b b2 : Bool} {vb : Nat} {cs : Array Value} (h : VS z w wr i b vb cs) (hr : RS z w1 i2 b2) (ho : Only z.own wr w1) : VS z w w1 i2 b2 vb cs :=
  ⟨hr, h.only.trans ho (fun _ _ h => h), (ho.block vb (block_lt h.hv) (fun hq => by have := h.own vb hq; have := h.lt; omega)).trans h.hv, (ho.block _ (block_lt h.hr) (fun hq => by have := h.own _ hq; omega)).trans h.hr, h.lt, h.r, h.a, h.bb, h.k, h.W⟩
theorem VS.grow {z : RC} {w wr w1 : World} {i : Nat} {b : Bool} {vb : Nat} {cs : Array Value} (h : VS z w wr i b vb cs) (hb : Below wr.heap.size wr w1) : VS z w w1 i b vb cs := h.call (h.rs.grow hb) ((Only.of_below (S := z.own) hb))
theorem RS.keep {z : RC} {w w1 : World} {i : Nat} {b : Bool} {S : Nat → Prop} (h : RS z w i b) (ho : Only S w w1) (hS : ∀ q, S q → z.rb ≠ q ∧ z.ab ≠ q ∧ z.bb ≠ q ∧ z.mb ≠ q ∧ z.W.heap.size ≤ q) : RS z w1 i b :=
  ⟨h.below.trans (ho.below (fun g hg => (hS g hg).2.2.2.2) h.below.size), (ho.block _ (block_lt h.r) (fun hq => (hS _ hq).1 rfl)).trans h.r, (ho.block _ (block_lt h.a) (fun hq => (hS _ hq).2.1 rfl)).trans h.a, (ho.block _ (block_lt h.b) (fun hq => (hS _ hq).2.2.1 rfl)).trans h.b, (ho.block _ (block_lt h.k) (fun hq => (hS _ hq).2.2.2.1 rfl)).trans h.k, h.le⟩
theorem VS.keep {z : RC} {w wr w1 : World} {i : Nat} {b : Bool} {vb : Nat} {cs : Array Value} {S : Nat → Prop} (h : VS z w wr i b vb cs) (ho : Only S wr w1) (hS : ∀ q, S q → w.heap.size < q ∧ q ≠ vb) : VS z w w1 i b vb cs := by
  have := h.r; have := h.a; have := h.bb; have := h.k; have := h.W
  exact ⟨h.rs.keep ho (fun q hq => by have := (hS q hq).1; omega), h.only.trans (ho.mono fun q _ hq => hq) (fun q hlt hq => absurd (hS q hq).1 (by omega)), (ho.block vb (block_lt h.hv) (fun hq => (hS vb hq).2 rfl)).trans h.hv, (ho.block _ (block_lt h.hr) (fun hq => by have := (hS _ hq).1; omega)).trans h.hr, h.lt, h.r, h.a, h.bb, h.k, h.W⟩
theorem VS.set {z : RC} {w wr : World} {i : Nat} {b : Bool} {vb : Nat} {cs : Array Value} (h : VS z w wr i b vb cs) (j : Nat) (v : Value) : VS z w (wr.setCell ⟨vb, j, none⟩ v) i b vb (cs.setIfInBounds j v) := by
  have ho := only_set wr vb j v
  have := h.r; have := h.a; have := h.bb; have := h.k; have := h.W; have := h.lt
  exact ⟨h.rs.keep ho (fun q hq => by omega), h.only.trans ho (fun q hlt hq => by omega), setCell_block h.hv j v, (ho.block _ (block_lt h.hr) (fun hq => by omega)).trans h.hr, h.lt, h.r, h.a, h.bb, h.k, h.W⟩
theorem VS.bad {z : RC} {w wr : World} {i : Nat} {b : Bool} {vb : Nat} {cs : Array Value} (ok : z.Ok) (h : VS z w wr i b vb cs) (b' : Bool) : VS z w (wr.setCell ⟨z.rb, 1, none⟩ (.bool b')) i b' vb cs := by
  obtain ⟨h1, h2⟩ := h.rs.setBad ok b'
  exact h.call h1 h2
/-- The end: the value in the result's box. -/
theorem VS.done {z : RC} {w wr : World} {i0 deep i : Nat} {b0 b : Bool} {vb : Nat} {v : V} {c0 c1 c2 c3 c4 : Value} {F : List Nat} (h : VS z w wr i b vb #[c0, c1, c2, c3, c4]) (ho : OV false wr v [c0, c1, c2, c3, c4] F) (hn : F.Nodup) (hF : ∀ g ∈ F, vb < g) (hp : VP z b0 deep i0 v i b) :
    ValPost z b0 deep w i0 (.returned (.agg #[c0, c1, c2, c3, c4])) (set5 wr w.heap.size c0 c1 c2 c3 c4) := by
  have hs := set5_only wr w.heap.size c0 c1 c2 c3 c4
  have := h.r; have := h.a; have := h.bb; have := h.k; have := h.W; have := h.lt
  refine ⟨v, _, F, i, b, rfl, ho.at_ fun g hg => hs.block g (ho.lt g hg) (by have := hF g hg; omega), hn, fun g hg => by have := hF g hg; omega, h.rs.keep hs (fun q hq => by omega), h.only.trans hs (fun q hlt hq => by omega), hp⟩
/-- A value without lists. -/
theorem OV.leaf (w : World) {k i : Int} {t : ByteArray} (hk : Rng k) (hi : Rng i) (ht : t.size ≤ 140737488355328) : OV false w (.mk k i t [] []) [.int .i64 k, .int .i64 i, .string t, .slice none 0 0, .slice none 0 0] [] := by
  have := OV.mk (m := false) (w := w) (k := k) (i := i) (t := t) (sl := .slice none 0 0) (sd := .slice none 0 0) [] [] hk hi ht (by simp) (by simp) (by simp) ⟨⟨rfl, .inl ⟨rfl, rfl⟩⟩, fun h => (by cases h)⟩ ⟨⟨rfl, .inl ⟨rfl, rfl⟩⟩, fun h => by cases h⟩ (by simp) (by simp)
  simpa [Value.ownBlock] using this
/-- After the kind's byte and the look at the depth. -/
def HeadP (z : RC) (b0 : Bool) (deep i : Nat) (c : UInt8) (i1 : Nat) (b1 : Bool) : Prop :=
  (b1 = false → b0 = false ∧ z.rest i = c :: z.rest i1 ∧ i1 = i + 1 ∧ deep ≤ 21) ∧ (b1 = true → b0 = true ∨ ∀ n, pV false n deep (z.rest i) = none)
theorem pV_nil (n deep : Nat) : pV false n deep [] = none := by cases n <;> rfl
theorem pV_deep (n deep : Nat) (r : List UInt8) (h : 21 < deep) : pV false n deep r = none := by
  cases n with
  | zero => rfl
  | succ n =>
    cases r with
    | nil => rfl
    | cons k r =>
      rw [pV.eq_def]
      simp only []
      rw [if_pos (.inr h)]
theorem pV_cons (n deep : Nat) (k : UInt8) (r : List UInt8) (h : deep ≤ 21) : pV false (n + 1) deep (k :: r) =
    if k = 3 ∨ k = 10 then (pN r).map fun x => (.mk k.toNat x.1 ByteArray.empty [] [], x.2)
    else if k = 9 then (match r with | [] => none | c :: r' => some (.mk k.toNat c.toNat ByteArray.empty [] [], r'))
    else if k = 4 ∨ k = 7 then (pT r).map fun x => (.mk k.toNat 0 ⟨x.1.toArray⟩ [] [], x.2)
    else if k = 8 then (if 12 ≤ r.length then some (.mk k.toNat 0 ⟨(r.take 12).toArray⟩ [] [], r.drop 12) else none)
    else if k = 6 then (pL false n (deep + 1) r).map fun x => (.mk k.toNat 0 ByteArray.empty x.1 [], x.2)
    else if k = 5 then (pD false n (deep + 1) r).map fun x => (.mk k.toNat 0 ByteArray.empty [] x.1, x.2)
    else some (.mk k.toNat 0 ByteArray.empty [] [], r) := by
  rw [pV.eq_def]
  simp only []
  rw [if_neg (by simp; omega)]
  cases r <;> rfl
theorem HeadP.of {z : RC} {b0 : Bool} {i i' : Nat} {c : UInt8} {b : Bool} (deep : Nat) (h : (b = true ∧ c = 0 ∧ (b0 = true ∨ z.rest i = [])) ∨ (b0 = false ∧ b = false ∧ z.rest i = c :: z.rest i' ∧ i' = i + 1)) (hd : deep ≤ 21) : HeadP z b0 deep i c i' b := by
  rcases h with ⟨rfl, _, h⟩ | ⟨h1, rfl, h2, h3⟩
  · refine ⟨fun h => (by cases h), fun _ => h.imp id fun h n => ?_⟩
    rw [h, pV_nil]
  · exact ⟨fun _ => ⟨h1, h2, h3, hd⟩, fun h => (by cases h)⟩
theorem HeadP.deep {z : RC} {b0 : Bool} {i i' deep : Nat} {c : UInt8} (hd : 21 < deep) : HeadP z b0 deep i c i' true :=
  ⟨fun h => (by cases h), fun _ => .inr fun n => pV_deep n deep _ hd⟩
/-- From the head and the tail to the whole. -/
theorem HeadP.vp {z : RC} {b0 : Bool} {deep i i1 i' : Nat} {c : UInt8} {b1 b : Bool} {v : V} (h : HeadP z b0 deep i c i1 b1) (hg : b = false → b1 = false ∧ i1 ≤ i' ∧ (deep ≤ 21 → ∀ n, (z.rest i1).length < n → pV false (n + 1) deep (c :: z.rest i1) = some (v, z.rest i'))) (hb : b = true → b1 = true ∨ (deep ≤ 21 → ∀ n, (z.rest i1).length < n → pV false (n + 1) deep (c :: z.rest i1) = none)) : VP z b0 deep i v i' b := by
  refine ⟨fun hbf => ?_, fun hbt => ?_⟩
  · obtain ⟨h1, h2, h3⟩ := hg hbf
    obtain ⟨h4, h5, h6, h7⟩ := h.1 h1
    refine ⟨h4, by omega, fun n hn => ?_⟩
    rw [h5] at hn ⊢
    cases n with
    | zero => simp at hn
    | succ n => exact h3 h7 n (by simpa using hn)
  · rcases hb hbt with h1 | h1
    · exact (h.2 h1).imp id fun h n _ => h n
    · cases b1 with
      | true => exact (h.2 rfl).imp id fun h n _ => h n
      | false =>
        obtain ⟨h4, h5, h6, h7⟩ := h.1 rfl
        refine .inr fun n hn => ?_
        rw [h5] at hn ⊢
        cases n with
        | zero => rfl
        | succ n => exact h1 h7 n (by simpa using hn)
end Go.Proofs.YthfejpldhemakaaDoor

namespace Go.Proofs.YthfejpldhemakaaDoor
open Go.RowKit Go.Sort Go.Lib
/-- Bytes read one after another. -/
def BytesP (z : RC) (b1 : Bool) (i1 : Nat) (l : List UInt8) (i2 : Nat) (b2 : Bool) : Prop :=
  (b2 = false → b1 = false ∧ z.rest i1 = l ++ z.rest i2 ∧ i2 = i1 + l.length) ∧ (b2 = true → b1 = true ∨ (z.rest i1).length < l.length)
theorem BytesP.nil (z : RC) (b1 : Bool) (i1 : Nat) : BytesP z b1 i1 [] i1 b1 := ⟨fun h => ⟨h, rfl, rfl⟩, fun h => .inl h⟩
theorem BytesP.snoc {z : RC} {b1 b2 b3 : Bool} {i1 i2 i3 : Nat} {l : List UInt8} {c : UInt8} (h : BytesP z b1 i1 l i2 b2) (hc : (b3 = true ∧ c = 0 ∧ (b2 = true ∨ z.rest i2 = [])) ∨ (b2 = false ∧ b3 = false ∧ z.rest i2 = c :: z.rest i3 ∧ i3 = i2 + 1)) : BytesP z b1 i1 (l ++ [c]) i3 b3 := by
  rcases hc with ⟨rfl, _, hc⟩ | ⟨h1, rfl, h2, h3⟩
  · refine ⟨fun h => (by cases h), fun _ => ?_⟩
    cases b2 with
    | true => exact (h.2 rfl).imp id fun h => by simp; omega
    | false =>
      obtain ⟨h1, h2, _⟩ := h.1 rfl
      rcases hc with hc | hc
      · cases hc
      · exact .inr (by rw [h2, hc]; simp)
  · obtain ⟨h4, h5, h6⟩ := h.1 h1
    exact ⟨fun _ => ⟨h4, by rw [h5, h2]; simp, by simp; omega⟩, fun h => (by cases h)⟩
theorem val8_snoc (l : List UInt8) (c : UInt8) : val8 (l ++ [c]) = val8 l * 256 + c.toNat := by simp [val8]
theorem val8_pow : ∀ (l : List UInt8), l.length ≤ 8 → val8 l < 256 ^ l.length := by
  intro l
  suffices h : ∀ (l : List UInt8) (u k : Nat), u < 256 ^ k → l.foldl (fun u c => u * 256 + c.toNat) u < 256 ^ (k + l.length) by
    intro _
    have := h l 0 0 (by simp)
    simpa [val8] using this
  intro l
  induction l with
  | nil => intro u k h; simpa using h
  | cons c l ih =>
    intro u k h
    have := ih (u * 256 + c.toNat) (k + 1) (by have := c.toNat_lt; rw [Nat.pow_succ]; omega)
    simpa [Nat.add_assoc, Nat.add_comm 1] using this
theorem rng_u8 (c : UInt8) : Rng (c.toNat : Int) := by have := c.toNat_lt; exact ⟨by omega, by omega⟩
theorem rng_0 : Rng 0 := ⟨by decide, by decide⟩
theorem vp_other {z : RC} {b0 : Bool} {deep i i1 : Nat} {c : UInt8} {b1 : Bool} (h : HeadP z b0 deep i c i1 b1) (h3 : ¬ c = 3) (h4 : ¬ c = 4) (h5 : ¬ c = 5) (h6 : ¬ c = 6) (h7 : ¬ c = 7) (h8 : ¬ c = 8) (h9 : ¬ c = 9) (h10 : ¬ c = 10) : VP z b0 deep i (.mk c.toNat 0 ByteArray.empty [] []) i1 b1 :=
  h.vp (fun hb => ⟨hb, Nat.le_refl _, fun hd n _ => by rw [pV_cons _ _ _ _ hd]; simp [h3, h4, h5, h6, h7, h8, h9, h10]⟩) fun hb => .inl hb
theorem vp_flag {z : RC} {b0 : Bool} {deep i i1 i2 : Nat} {d : UInt8} {b1 b2 : Bool} (h : HeadP z b0 deep i 9 i1 b1) (hc : (b2 = true ∧ d = 0 ∧ (b1 = true ∨ z.rest i1 = [])) ∨ (b1 = false ∧ b2 = false ∧ z.rest i1 = d :: z.rest i2 ∧ i2 = i1 + 1)) : VP z b0 deep i (.mk 9 d.toNat ByteArray.empty [] []) i2 b2 := by
  rcases hc with ⟨rfl, _, hc⟩ | ⟨h1, rfl, h2, h3⟩
  · refine h.vp (fun hb => (by cases hb)) fun _ => hc.imp id fun hc hd n _ => ?_
    rw [pV_cons _ _ _ _ hd, hc]
    simp
  · refine h.vp (fun _ => ⟨h1, by omega, fun hd n _ => ?_⟩) fun hb => (by cases hb)
    rw [pV_cons _ _ _ _ hd, h2]
    simp
theorem vp_text {z : RC} {b0 : Bool} {deep i i1 i2 : Nat} {c : UInt8} (hk : c = 4 ∨ c = 7) {s : List UInt8} {b1 b2 : Bool} (h : HeadP z b0 deep i c i1 b1) (hc : TextP z b1 i1 s i2 b2) (hle : i2 ≤ z.bytes.length) : VP z b0 deep i (.mk c.toNat 0 ⟨s.toArray⟩ [] []) i2 b2 := by
  have e : ∀ n, deep ≤ 21 → pV false (n + 1) deep (c :: z.rest i1) = (pT (z.rest i1)).map fun x => (.mk c.toNat 0 ⟨x.1.toArray⟩ [] [], x.2) := fun n hd => by
    rw [pV_cons _ _ _ _ hd]
    rcases hk with rfl | rfl <;> simp
  refine h.vp (fun hb => ⟨(hc.1 hb).1, ?_, fun hd n _ => ?_⟩) fun hb => (hc.2.1 hb).imp id fun hp hd n _ => ?_
  · have := congrArg List.length (enc_pT _ _ (Nat.le_refl _) _ _ (hc.1 hb).2)
    have h1 : 1 ≤ (encT s).length := by cases s <;> unfold encT <;> (try split) <;> simp
    rw [RC.rest_len, List.length_append, RC.rest_len] at this
    omega
  · rw [e n hd, (hc.1 hb).2]; rfl
  · rw [e n hd, hp]; rfl
theorem vp_num {z : RC} {b0 : Bool} {deep i i1 i2 : Nat} {c : UInt8} (hk : c = 3 ∨ c = 10) {l : List UInt8} {b1 b2 : Bool} (h : HeadP z b0 deep i c i1 b1) (hc : BytesP z b1 i1 l i2 b2) (hl : l.length = 8) : VP z b0 deep i (.mk c.toNat ((val8 l : Int) - 9223372036854775808) ByteArray.empty [] []) i2 b2 := by
  have e : ∀ n, deep ≤ 21 → pV false (n + 1) deep (c :: z.rest i1) = (pN (z.rest i1)).map fun x => (.mk c.toNat x.1 ByteArray.empty [] [], x.2) := fun n hd => by
    rw [pV_cons _ _ _ _ hd]
    rcases hk with rfl | rfl <;> simp
  refine h.vp (fun hb => ⟨(hc.1 hb).1, ?_, fun hd n _ => ?_⟩) fun hb => (hc.2 hb).imp id fun hp hd n _ => ?_
  · have := (hc.1 hb).2.2; omega
  · rw [e n hd, (hc.1 hb).2.1]
    unfold pN
    rw [if_pos (by simp; omega), ← hl, List.take_left, List.drop_left]; rfl
  · rw [e n hd]
    unfold pN
    rw [if_neg (by omega)]; rfl
theorem vp_id {z : RC} {b0 : Bool} {deep i i1 i2 : Nat} {l : List UInt8} {b1 b2 : Bool} (h : HeadP z b0 deep i 8 i1 b1) (hc : BytesP z b1 i1 l i2 b2) (hl : l.length = 12) : VP z b0 deep i (.mk 8 0 ⟨l.toArray⟩ [] []) i2 b2 := by
  refine h.vp (fun hb => ⟨(hc.1 hb).1, ?_, fun hd n _ => ?_⟩) fun hb => (hc.2 hb).imp id fun hp hd n _ => ?_
  · have := (hc.1 hb).2.2; omega
  · rw [pV_cons _ _ _ _ hd, (hc.1 hb).2.1]
    simp only [show ¬ ((8 : UInt8) = 3 ∨ (8 : UInt8) = 10) by decide, show ¬ ((8 : UInt8) = 9) by decide, show ¬ ((8 : UInt8) = 4 ∨ (8 : UInt8) = 7) by decide, if_false, if_true]
    rw [if_pos (by simp; omega), ← hl, List.take_left, List.drop_left]; rfl
  · rw [pV_cons _ _ _ _ hd]
    simp only [show ¬ ((8 : UInt8) = 3 ∨ (8 : UInt8) = 10) by decide, show ¬ ((8 : UInt8) = 9) by decide, show ¬ ((8 : UInt8) = 4 ∨ (8 : UInt8) = 7) by decide, if_false, if_true]
    rw [if_neg (by omega)]
/-- A list's parts read so far. -/
def ListP (z : RC) (deep : Nat) (b1 : Bool) (i1 : Nat) (L : List V) (i2 : Nat) (b2 : Bool) : Prop :=
  (b2 = false → b1 = false ∧ i1 ≤ i2 ∧ ∀ n, (z.rest i1).length < n → ∃ m, (z.rest i2).length < m ∧ pL false n deep (z.rest i1) = (pL false m deep (z.rest i2)).map fun y => (L ++ y.1, y.2)) ∧ (b2 = true → b1 = true ∨ ∀ n, (z.rest i1).length < n → pL false n deep (z.rest i1) = none)
theorem ListP.nil (z : RC) (deep : Nat) (b1 : Bool) (i1 : Nat) : ListP z deep b1 i1 [] i1 b1 :=
  ⟨fun h => ⟨h, Nat.le_refl _, fun n hn => ⟨n, hn, by cases pL false n deep (z.rest i1) <;> rfl⟩⟩, fun h => .inl h⟩
theorem pL_0 (n deep : Nat) (r : List UInt8) : pL false (n + 1) deep (0 :: r) = some ([], r) := by rw [pL.eq_def]; simp
theorem pL_1 (n deep : Nat) (r : List UInt8) : pL false (n + 1) deep (1 :: r) = (pV false n deep r).bind fun x => (pL false n deep x.2).map fun y => (x.1 :: y.1, y.2) := by rw [pL.eq_def]; simp
theorem pL_x (n deep : Nat) {c : UInt8} (r : List UInt8) (h0 : ¬ c = 0) (h1 : ¬ c = 1) : pL false n deep (c :: r) = none := by cases n <;> rw [pL.eq_def]; simp [h0, h1]
theorem pL_nil (n deep : Nat) : pL false n deep [] = none := by cases n <;> rfl
theorem ListP.more {z : RC} {deep : Nat} {b1 b2 b4 : Bool} {i1 i2 i3 i4 : Nat} {L : List V} {v : V} (h : ListP z deep b1 i1 L i2 b2) (hb : b2 = false) (hm : z.rest i2 = 1 :: z.rest i3) (h3 : i3 = i2 + 1) (hv : VP z false deep i3 v i4 b4) (hle : i4 ≤ z.bytes.length) : ListP z deep b1 i1 (L ++ [v]) i4 b4 := by
  obtain ⟨h1, h2, h4⟩ := h.1 hb
  refine ⟨fun hb4 => ?_, fun hb4 => ?_⟩
  · obtain ⟨_, h5, h6⟩ := hv.1 hb4
    refine ⟨h1, by omega, fun n hn => ?_⟩
    obtain ⟨m, hm1, hm2⟩ := h4 n hn
    rw [hm] at hm1 hm2
    cases m with
    | zero => simp at hm1
    | succ m =>
      have hm3 : (z.rest i3).length < m := by simpa using hm1
      refine ⟨m, by rw [RC.rest_len] at hm3 ⊢; omega, ?_⟩
      rw [hm2, pL_1, h6 m hm3]
      simp only [Option.bind_some, Option.map_map]
      congr 1
      funext x
      simp
  · rcases hv.2 hb4 with h | h
    · cases h
    · refine .inr fun n hn => ?_
      obtain ⟨m, hm1, hm2⟩ := h4 n hn
      rw [hm] at hm1 hm2
      cases m with
      | zero => simp at hm1
      | succ m =>
        rw [hm2, pL_1, h m (by simpa using hm1)]
        rfl
theorem ListP.stop {z : RC} {deep : Nat} {b1 b2 b3 : Bool} {i1 i2 i3 : Nat} {L : List V} (h : ListP z deep b1 i1 L i2 b2) (hm : (b3 = false ∧ b2 = false ∧ z.rest i2 = 0 :: z.rest i3 ∧ i3 = i2 + 1) ∨ (b3 = true ∧ (b2 = true ∨ z.rest i2 = [] ∨ ∃ c t, z.rest i2 = c :: t ∧ ¬ c = 0 ∧ ¬ c = 1))) :
    (b3 = false → b1 = false ∧ i1 ≤ i3 ∧ ∀ n, (z.rest i1).length < n → pL false n deep (z.rest i1) = some (L, z.rest i3)) ∧ (b3 = true → b1 = true ∨ ∀ n, (z.rest i1).length < n → pL false n deep (z.rest i1) = none) := by
  rcases hm with ⟨rfl, h2, h3, h4⟩ | ⟨rfl, hm⟩
  · obtain ⟨h5, h6, h7⟩ := h.1 h2
    refine ⟨fun _ => ⟨h5, by omega, fun n hn => ?_⟩, fun h => (by cases h)⟩
    obtain ⟨m, hm1, hm2⟩ := h7 n hn
    rw [h3] at hm1 hm2
    cases m with
    | zero => simp at hm1
    | succ m => rw [hm2, pL_0]; simp
  · refine ⟨fun h => (by cases h), fun _ => ?_⟩
    cases b2 with
    | true => exact h.2 rfl
    | false =>
      obtain ⟨h5, h6, h7⟩ := h.1 rfl
      refine .inr fun n hn => ?_
      obtain ⟨m, hm1, hm2⟩ := h7 n hn
      rcases hm with hm | hm | ⟨c, t, hm, hc0, hc1⟩
      · cases hm
      · rw [hm2, hm, pL_nil]; rfl
      · rw [hm2, hm, pL_x _ _ _ hc0 hc1]; rfl
theorem vp_list {z : RC} {b0 : Bool} {deep i i1 i2 i3 : Nat} {L : List V} {b1 b2 b3 : Bool} (h : HeadP z b0 deep i 6 i1 b1) (hl : ListP z (deep + 1) b1 i1 L i2 b2) (hm : (b3 = false ∧ b2 = false ∧ z.rest i2 = 0 :: z.rest i3 ∧ i3 = i2 + 1) ∨ (b3 = true ∧ (b2 = true ∨ z.rest i2 = [] ∨ ∃ c t, z.rest i2 = c :: t ∧ ¬ c = 0 ∧ ¬ c = 1))) : VP z b0 deep i (.mk 6 0 ByteArray.empty L []) i3 b3 := by
  have e : ∀ n, deep ≤ 21 → pV false (n + 1) deep (6 :: z.rest i1) = (pL false n (deep + 1) (z.rest i1)).map fun x => (.mk 6 0 ByteArray.empty x.1 [], x.2) := fun n hd => by
    rw [pV_cons _ _ _ _ hd]
    simp
  have hs := hl.stop hm
  refine h.vp (fun hb => ⟨(hs.1 hb).1, (hs.1 hb).2.1, fun hd n hn => ?_⟩) fun hb => (hs.2 hb).imp id fun hp hd n hn => ?_
  · rw [e n hd, (hs.1 hb).2.2 n hn]; rfl
  · rw [e n hd, hp n hn]; rfl
/-- The same of fields. -/
def DocP (z : RC) (deep : Nat) (b1 : Bool) (i1 : Nat) (D : List (ByteArray × V)) (i2 : Nat) (b2 : Bool) : Prop :=
  (b2 = false → b1 = false ∧ i1 ≤ i2 ∧ ∀ n, (z.rest i1).length < n → ∃ m, (z.rest i2).length < m ∧ pD false n deep (z.rest i1) = (pD false m deep (z.rest i2)).map fun y => (D ++ y.1, y.2)) ∧ (b2 = true → b1 = true ∨ ∀ n, (z.rest i1).length < n → pD false n deep (z.rest i1) = none)
theorem DocP.nil (z : RC) (deep : Nat) (b1 : Bool) (i1 : Nat) : DocP z deep b1 i1 [] i1 b1 :=
  ⟨fun h => ⟨h, Nat.le_refl _, fun n hn => ⟨n, hn, by cases pD false n deep (z.rest i1) <;> rfl⟩⟩, fun h => .inl h⟩
theorem pD_0 (n deep : Nat) (r : List UInt8) : pD false (n + 1) deep (0 :: r) = some ([], r) := by rw [pD.eq_def]; simp
theorem pD_1 (n deep : Nat) (r : List UInt8) : pD false (n + 1) deep (1 :: r) = (pT r).bind fun t => (pV false n deep t.2).bind fun x => (pD false n deep x.2).map fun y => ((⟨t.1.toArray⟩, x.1) :: y.1, y.2) := by rw [pD.eq_def]; simp
theorem pD_x (n deep : Nat) {c : UInt8} (r : List UInt8) (h0 : ¬ c = 0) (h1 : ¬ c = 1) : pD false n deep (c :: r) = none := by cases n <;> rw [pD.eq_def]; simp [h0, h1]
theorem pD_nil (n deep : Nat) : pD false n deep [] = none := by cases n <;> rfl
theorem TextP.lt {z : RC} {b0 b : Bool} {i i' : Nat} {s : List UInt8} (h : TextP z b0 i s i' b) (hb : b = false) (hle : i' ≤ z.bytes.length) : i < i' := by
  have := congrArg List.length (enc_pT _ _ (Nat.le_refl _) _ _ (h.1 hb).2)
  have h1 : 1 ≤ (encT s).length := by cases s <;> unfold encT <;> (try split) <;> simp
  rw [RC.rest_len, List.length_append, RC.rest_len] at this
  omega
theorem DocP.more {z : RC} {deep : Nat} {b1 b2 bt b4 : Bool} {i1 i2 i3 it i4 : Nat} {D : List (ByteArray × V)} {s : List UInt8} {v : V} (h : DocP z deep b1 i1 D i2 b2) (hb : b2 = false) (hm : z.rest i2 = 1 :: z.rest i3) (h3 : i3 = i2 + 1) (ht : TextP z false i3 s it bt) (hlt : it ≤ z.bytes.length) (hv : VP z bt deep it v i4 b4) (hle : i4 ≤ z.bytes.length) : DocP z deep b1 i1 (D ++ [(⟨s.toArray⟩, v)]) i4 b4 := by
  obtain ⟨h1, h2, h4⟩ := h.1 hb
  refine ⟨fun hb4 => ?_, fun hb4 => ?_⟩
  · obtain ⟨hbt, h5, h6⟩ := hv.1 hb4
    have hlt' := ht.lt hbt hlt
    obtain ⟨_, h7⟩ := ht.1 hbt
    refine ⟨h1, by omega, fun n hn => ?_⟩
    obtain ⟨m, hm1, hm2⟩ := h4 n hn
    rw [hm] at hm1 hm2
    cases m with
    | zero => simp at hm1
    | succ m =>
      have hm3 : (z.rest i3).length < m := by simpa using hm1
      refine ⟨m, by rw [RC.rest_len] at hm3 ⊢; omega, ?_⟩
      rw [hm2, pD_1, h7]
      simp only [Option.bind_some]
      rw [h6 m (by rw [RC.rest_len] at hm3 ⊢; omega)]
      simp only [Option.bind_some, Option.map_map]
      congr 1
      funext x
      simp
  · refine .inr fun n hn => ?_
    obtain ⟨m, hm1, hm2⟩ := h4 n hn
    rw [hm] at hm1 hm2
    cases m with
    | zero => simp at hm1
    | succ m =>
      have hm3 : (z.rest i3).length < m := by simpa using hm1
      rw [hm2, pD_1]
      cases bt with
      | true =>
        rcases ht.2.1 rfl with h | h
        · cases h
        · rw [h]; rfl
      | false =>
        have hlt' := ht.lt rfl hlt
        rw [(ht.1 rfl).2]
        simp only [Option.bind_some]
        rcases hv.2 hb4 with h | h
        · cases h
        · rw [h m (by rw [RC.rest_len] at hm3 ⊢; omega)]; rfl
theorem DocP.stop {z : RC} {deep : Nat} {b1 b2 b3 : Bool} {i1 i2 i3 : Nat} {L : List (ByteArray × V)} (h : DocP z deep b1 i1 L i2 b2) (hm : (b3 = false ∧ b2 = false ∧ z.rest i2 = 0 :: z.rest i3 ∧ i3 = i2 + 1) ∨ (b3 = true ∧ (b2 = true ∨ z.rest i2 = [] ∨ ∃ c t, z.rest i2 = c :: t ∧ ¬ c = 0 ∧ ¬ c = 1))) :
    (b3 = false → b1 = false ∧ i1 ≤ i3 ∧ ∀ n, (z.rest i1).length < n → pD false n deep (z.rest i1) = some (L, z.rest i3)) ∧ (b3 = true → b1 = true ∨ ∀ n, (z.rest i1).length < n → pD false n deep (z.rest i1) = none) := by
  rcases hm with ⟨rfl, h2, h3, h4⟩ | ⟨rfl, hm⟩
  · obtain ⟨h5, h6, h7⟩ := h.1 h2
    refine ⟨fun _ => ⟨h5, by omega, fun n hn => ?_⟩, fun h => (by cases h)⟩
    obtain ⟨m, hm1, hm2⟩ := h7 n hn
    rw [h3] at hm1 hm2
    cases m with
    | zero => simp at hm1
    | succ m => rw [hm2, pD_0]; simp
  · refine ⟨fun h => (by cases h), fun _ => ?_⟩
    cases b2 with
    | true => exact h.2 rfl
    | false =>
      obtain ⟨h5, h6, h7⟩ := h.1 rfl
      refine .inr fun n hn => ?_
      obtain ⟨m, hm1, hm2⟩ := h7 n hn
      rcases hm with hm | hm | ⟨c, t, hm, hc0, hc1⟩
      · cases hm
      · rw [hm2, hm, pD_nil]; rfl
      · rw [hm2, hm, pD_x _ _ _ hc0 hc1]; rfl
theorem vp_doc {z : RC} {b0 : Bool} {deep i i1 i2 i3 : Nat} {L : List (ByteArray × V)} {b1 b2 b3 : Bool} (h : HeadP z b0 deep i 5 i1 b1) (hl : DocP z (deep + 1) b1 i1 L i2 b2) (hm : (b3 = false ∧ b2 = false ∧ z.rest i2 = 0 :: z.rest i3 ∧ i3 = i2 + 1) ∨ (b3 = true ∧ (b2 = true ∨ z.rest i2 = [] ∨ ∃ c t, z.rest i2 = c :: t ∧ ¬ c = 0 ∧ ¬ c = 1))) : VP z b0 deep i (.mk 5 0 ByteArray.empty [] L) i3 b3 := by
  have e : ∀ n, deep ≤ 21 → pV false (n + 1) deep (5 :: z.rest i1) = (pD false n (deep + 1) (z.rest i1)).map fun x => (.mk 5 0 ByteArray.empty [] x.1, x.2) := fun n hd => by
    rw [pV_cons _ _ _ _ hd]
    simp
  have hs := hl.stop hm
  refine h.vp (fun hb => ⟨(hs.1 hb).1, (hs.1 hb).2.1, fun hd n hn => ?_⟩) fun hb => (hs.2 hb).imp id fun hp hd n hn => ?_
  · rw [e n hd, (hs.1 hb).2.2 n hn]; rfl
  · rw [e n hd, hp n hn]; rfl
end Go.Proofs.YthfejpldhemakaaDoor
