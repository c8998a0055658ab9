import Derived.Test.YthfejpldhemakaaDoorRg
import Derived.Test.YthfejpldhemakaaDoorZb
import Derived.Test.YthfejpldhemakaaDoorRo
import Derived.Deep.LoopGhost
import Derived.Test.YthfejpldhemakaaDoorRx
import Derived.Test.YthfejpldhemakaaDoorL3
namespace Go.Proofs.YthfejpldhemakaaDoor
open Go.RowKit Go.Sort Go.Lib
/-! The document's own reader of keys. -/
/-- A mask by its turn. -/
def mkQ (d : Bool) : UInt8 := if d then 255 else 0
/-- What does not turn while a value is read. -/
structure QC where
  W : World
  A : Option Addr
  c : Nat
  bytes : List UInt8
  d : Bool
  rb : Nat
/-- The same for the plain laws. -/
def QC.rc (z : QC) : RC := ⟨z.W, z.A, z.c, z.bytes, mkQ z.d, z.rb, z.rb, z.rb, z.rb⟩
structure QC.Ok (z : QC) : Prop where
  ry : RY z.W z.A z.bytes
  len : z.bytes.length ≤ 1000
  r : z.W.heap.size ≤ z.rb
/-- The reader stands at a place; bad: something was wrong. -/
structure QS (z : QC) (w : World) (at_ : Nat) (bad : Bool) : Prop where
  below : Below z.W.heap.size z.W w
  r : w.heap[z.rb]? = some (.cells #[.slice z.A z.bytes.length z.c, .int .i64 (at_ : Int), .bool z.d, .bool bad] 96 (0, 0))
  le : at_ ≤ z.bytes.length
theorem QS.grow {z : QC} {w w1 : World} {i : Nat} {b : Bool} (h : QS z w i b) (hb : Below w.heap.size w w1) : QS z w1 i b := by
  have hs := h.below.size
  exact ⟨h.below.trans ⟨hb.os, hb.tape, hb.output, hb.size, fun k hk => hb.block k (by omega)⟩, (hb.block _ (block_lt h.r)).trans h.r, h.le⟩
theorem QS.keep {z : QC} {w w1 : World} {i : Nat} {b : Bool} {S : Nat → Prop} (h : QS z w i b) (ho : Only S w w1) (hS : ∀ q, S q → z.rb ≠ q ∧ z.W.heap.size ≤ q) : QS z w1 i b :=
  ⟨h.below.trans (ho.below (fun g hg => (hS g hg).2) h.below.size), (ho.block _ (block_lt h.r) (fun hq => (hS _ hq).1 rfl)).trans h.r, h.le⟩
theorem QS.setBad {z : QC} (ok : z.Ok) {w : World} {i : Nat} {b : Bool} (h : QS z w i b) (b' : Bool) : QS z (w.setCell ⟨z.rb, 3, none⟩ (.bool b')) i b' ∧ Only (· = z.rb) w (w.setCell ⟨z.rb, 3, none⟩ (.bool b')) := by
  have ho := only_set w z.rb 3 (.bool b')
  have hs := ok.r
  exact ⟨⟨h.below.trans (ho.below (fun g hg => by omega) h.below.size), setCell_block h.r 3 (.bool b'), h.le⟩, ho⟩
theorem QS.advance {z : QC} (ok : z.Ok) {w : World} {i : Nat} {b : Bool} (h : QS z w i b) (hi : i < z.bytes.length) : QS z (w.setCell ⟨z.rb, 1, none⟩ (.int .i64 ((i : Int) + 1))) (i + 1) b ∧ Only (· = z.rb) w (w.setCell ⟨z.rb, 1, none⟩ (.int .i64 ((i : Int) + 1))) := by
  have ho := only_set w z.rb 1 (.int .i64 ((i : Int) + 1))
  have hs := ok.r
  refine ⟨⟨h.below.trans (ho.below (fun g hg => by omega) h.below.size), ?_, hi⟩, ho⟩
  exact setCell_block h.r 1 (.int .i64 ((i : Int) + 1))
theorem mask_true (x : UInt8) : IntKind.u8.wrap (255 - (x.toNat : Int)) = ((x ^^^ 255 : UInt8).toNat : Int) := by
  have h : ∀ n : Fin 256, IntKind.u8.wrap (255 - (n.val : Int)) = ((UInt8.ofNat n.val ^^^ 255 : UInt8).toNat : Int) := by decide +kernel
  have := h ⟨x.toNat, x.toNat_lt⟩
  simpa using this
theorem mask_false (x : UInt8) : x ^^^ 0 = x := by
  have h : ∀ n : Fin 256, UInt8.ofNat n.val ^^^ 0 = UInt8.ofNat n.val := by decide +kernel
  have := h ⟨x.toNat, x.toNat_lt⟩
  simp only [UInt8.ofNat_toNat] at this; exact this
def NextP (z : QC) (b0 : Bool) (w : World) (i : Nat) (e : Ending) (w' : World) : Prop :=
  ∃ (c : UInt8) (i' : Nat) (b : Bool), e = .returned (.int .u8 (c.toNat : Int)) ∧ QS z w' i' b ∧ Only (· = z.rb) w w' ∧
    ((b = true ∧ c = 0 ∧ (b0 = true ∨ z.rc.rest i = [])) ∨ (b0 = false ∧ b = false ∧ z.rc.rest i = c :: z.rc.rest i' ∧ i' = i + 1))
theorem QS.drawBad {z : QC} (ok : z.Ok) {w : World} {i : Nat} {b : Bool} (h : QS z w i b) (n : Nat) : QS z ((w.drewN n).setCell ⟨z.rb, 3, none⟩ (.bool true)) i true ∧ Only (· = z.rb) w ((w.drewN n).setCell ⟨z.rb, 3, none⟩ (.bool true)) := by
  have hb := drewN_below2 (Below.refl w.heap.size w) n
  obtain ⟨h1, h2⟩ := (h.grow hb).setBad ok true
  exact ⟨h1, (Only.of_below (S := (· = z.rb)) hb).trans h2 (fun _ _ h => h)⟩
set_option maxRecDepth 100000 in
set_option maxHeartbeats 1000000 in
theorem next_bad {z : QC} (ok : z.Ok) {w : World} {i : Nat} (h : QS z w i true) : Calls Tryd.prog 106 #[.pointer (some ⟨z.rb, 0, none⟩)] w (NextP z true w i) := by
  have c3 := cell_at h.r 3 _ rfl
  have cf := free_at h.r 3
  have HS := Lib.hid (fun n => h.drawBad ok n)
  clear h ok
  go_enter Tryd.func106, Tryd.ntmps106
  go_wp2_with fail
  go_quiet (fail)
  go_wp2_with fail
  go_ret
  exact ⟨0, i, true, rfl, (HS.out _).1, (HS.out _).2, .inl ⟨rfl, rfl, .inl rfl⟩⟩
set_option maxRecDepth 100000 in
set_option maxHeartbeats 1000000 in
theorem next_stop {z : QC} (ok : z.Ok) {w : World} {i : Nat} (h : QS z w i false) (hi : z.bytes.length ≤ i) : Calls Tryd.prog 106 #[.pointer (some ⟨z.rb, 0, none⟩)] w (NextP z false w i) := by
  have c0 := cell_at h.r 0 _ rfl
  have c1 := cell_at h.r 1 _ rfl
  have c3 := cell_at h.r 3 _ rfl
  have cf := free_at h.r 3
  have HS := Lib.hid (fun n => h.drawBad ok n)
  have HE := Lib.hid (show z.rc.rest i = [] from RC.rest_end hi)
  have hl := ok.len
  have hle := h.le
  clear h ok
  obtain ⟨W, A, c, bytes, d, rb⟩ := z
  simp only at c0 c1 c3 cf hi hl hle ⊢
  generalize bytes.length = n at c0 hi hl hle
  go_enter Tryd.func106, Tryd.ntmps106
  go_wp2_with fail
  go_quiet (fail)
  go_wp2_with fail
  go_ret
  exact ⟨0, i, true, rfl, (HS.out _).1, (HS.out _).2, .inl ⟨rfl, rfl, .inr HE.out⟩⟩
set_option maxRecDepth 100000 in
set_option maxHeartbeats 2000000 in
theorem next_go {z : QC} (ok : z.Ok) {w : World} {i : Nat} (h : QS z w i false) (hi : i < z.bytes.length) : Calls Tryd.prog 106 #[.pointer (some ⟨z.rb, 0, none⟩)] w (NextP z false w i) := by
  have c0 := cell_at h.r 0 _ rfl
  have c1 := cell_at h.r 1 _ rfl
  have c3 := cell_at h.r 3 _ rfl
  have cf := free_at h.r 1
  obtain ⟨b', off, eA, f0⟩ := (ok.ry.grow h.below).get hi
  have HS := Lib.hid (fun (n : Nat) => by
    have hb := drewN_below2 (Below.refl w.heap.size w) n
    obtain ⟨h1, h2⟩ := (h.grow hb).advance ok hi
    exact And.intro h1 ((Only.of_below (S := (· = z.rb)) hb).trans h2 (fun _ _ h => h)))
  have HC := Lib.hid (show z.rc.rest i = (z.bytes[i] ^^^ mkQ z.d) :: z.rc.rest (i + 1) from RC.rest_cons hi)
  have hl := ok.len
  have hle := h.le
  clear h ok
  obtain ⟨W, A, c, bytes, d, rb⟩ := z
  simp only at c0 c1 c3 cf hi hl hle f0 HC ⊢
  obtain ⟨x, hx0⟩ : ∃ x, bytes[i] = x := ⟨_, rfl⟩
  rw [hx0] at f0 HC
  clear hx0
  simp only at eA
  subst eA
  have c2 : ∀ n, ((w.drewN n).setCell ⟨rb, 1, none⟩ (.int .i64 ((i : Int) + 1))).cell? ⟨rb, 2, none⟩ = some (.bool d) := fun n => cell_at (HS.out n).1.r 2 _ rfl
  have hm : (d = false → (x.toNat : Int) = ((x ^^^ mkQ d : UInt8).toNat : Int)) ∧ (d = true → IntKind.u8.wrap (255 - (x.toNat : Int)) = ((x ^^^ mkQ d : UInt8).toNat : Int)) :=
    ⟨fun h => by subst h; rw [show mkQ false = 0 from rfl, mask_false], fun h => by subst h; exact mask_true x⟩
  obtain ⟨y, hy⟩ : ∃ y, x ^^^ mkQ d = y := ⟨_, rfl⟩
  rw [hy] at hm HC
  clear hy
  generalize hbl : bytes.length = n at c0 hi hl hle
  have hz : (i : Int) < (n : Int) := by omega
  cases d
  · have HM := Lib.hid (hm.1 rfl)
    clear hm
    go_enter Tryd.func106, Tryd.ntmps106
    go_wp2_with fail
    go_quiet (fail)
    go_wp2_with fail
    go_quiet (fail)
    go_wp2_with fail
    go_ret
    exact ⟨y, i + 1, false, ret_int HM.out, (HS.out _).1, (HS.out _).2, .inr ⟨rfl, rfl, HC.out, rfl⟩⟩
  · have hm := hm.2 rfl
    go_enter Tryd.func106, Tryd.ntmps106
    go_wp2_with fail
    go_quiet (fail)
    go_wp2_with fail
    go_quiet (fail)
    go_wp2_with fail
    go_ret
    exact ⟨y, i + 1, false, rfl, (HS.out _).1, (HS.out _).2, .inr ⟨rfl, rfl, HC.out, rfl⟩⟩
/-- What the next byte comes to, whatever went before. -/
theorem next_c {z : QC} (ok : z.Ok) {w : World} {i : Nat} {b0 : Bool} (h : QS z w i b0) : Calls Tryd.prog 106 #[.pointer (some ⟨z.rb, 0, none⟩)] w (NextP z b0 w i) := by
  cases b0 with
  | true => exact next_bad ok h
  | false =>
    by_cases hi : i < z.bytes.length
    · exact next_go ok h hi
    · exact next_stop ok h (by omega)
set_option maxRecDepth 100000 in
set_option maxHeartbeats 2000000 in
theorem rmore_c {z : QC} (ok : z.Ok) {w : World} {i : Nat} {b0 : Bool} (h : QS z w i b0) : Calls Tryd.prog 108 #[.pointer (some ⟨z.rb, 0, none⟩)] w fun e w' => ∃ (r : Bool) (i' : Nat) (b : Bool), e = .returned (.bool r) ∧ QS z w' i' b ∧ Only (· = z.rb) w w' ∧ MoreP z.rc b0 i r i' b := by
  have hby := next_c ok h
  have HK := Lib.hid (fun (w1 : World) (i' : Nat) (b b' : Bool) (h1 : QS z w1 i' b) => And.intro (cell_at h1.r 3 _ rfl) (And.intro (free_at h1.r 3) (h1.setBad ok b')))
  clear h ok
  go_enter Tryd.func108, Tryd.ntmps108
  go_wp2_with fail
  refine hby.mono ?_
  rintro e w1 ⟨c, i', b, rfl, h1, ho, hc⟩
  rcases hc with ⟨rfl, rfl, hc⟩ | ⟨hb0, rfl, hr, hi'⟩
  · obtain ⟨d1, df, h2, ho2⟩ := HK.out w1 i' true true h1
    have HF := Lib.hid (And.intro h1 (And.intro ho hc))
    clear h1 ho h2 ho2 hc hby
    go_wp2_with fail
    go_ret
    refine ⟨false, i', true, rfl, HF.out.1, HF.out.2.1, .inr (.inr ⟨rfl, rfl, ?_⟩)⟩
    rcases HF.out.2.2 with h | h
    · exact .inl h
    · exact .inr (.inl h)
  · by_cases h0 : c = 0
    · subst h0
      have d1 := (HK.out w1 i' false false h1).1
      have HF := Lib.hid (And.intro h1 (And.intro ho (And.intro hb0 (And.intro hr hi'))))
      clear h1 ho hb0 hr hi' hby
      go_wp2_with fail
      go_ret
      exact ⟨false, i', false, rfl, HF.out.1, HF.out.2.1, .inr (.inl ⟨rfl, rfl, HF.out.2.2⟩)⟩
    · by_cases h1' : c = 1
      · subst h1'
        have d1 := (HK.out w1 i' false false h1).1
        have HF := Lib.hid (And.intro h1 (And.intro ho (And.intro hb0 (And.intro hr hi'))))
        clear h1 ho hb0 hr hi' h0 hby
        go_wp2_with fail
        go_ret
        exact ⟨true, i', false, rfl, HF.out.1, HF.out.2.1, .inl ⟨rfl, rfl, HF.out.2.2⟩⟩
      · obtain ⟨d1, df, h2, ho2⟩ := HK.out w1 i' false true h1
        have HF := Lib.hid (And.intro h2 (And.intro (ho.trans ho2 (fun _ _ h => h)) (And.intro hr (And.intro h0 h1'))))
        have hgt : (1 : Int) < (c.toNat : Int) := by
          have e0 : c.toNat ≠ 0 := fun he => h0 (UInt8.toNat_inj.1 he)
          have e1 : c.toNat ≠ 1 := fun he => h1' (UInt8.toNat_inj.1 he)
          omega
        have hne : ((c.toNat : Int) == 1) = false := by
          rw [beq_eq_false_iff_ne]
          omega
        clear h1 ho h2 ho2 hb0 hr hi' h0 h1' hby
        go_wp2_with fail
        go_ret
        exact ⟨false, i', true, rfl, HF.out.1, HF.out.2.1, .inr (.inr ⟨rfl, rfl, .inr (.inr ⟨c, _, HF.out.2.2⟩)⟩)⟩
end Go.Proofs.YthfejpldhemakaaDoor

namespace Go.Proofs.YthfejpldhemakaaDoor
open Go.RowKit Go.Sort Go.Lib
def RTextPost (z : QC) (b0 : Bool) (w : World) (i : Nat) (e : Ending) (w' : World) : Prop :=
  ∃ (s : List UInt8) (i' : Nat) (b : Bool), e = .returned (.string ⟨s.toArray⟩) ∧ QS z w' i' b ∧ Only (· = z.rb) w w' ∧ TextP z.rc b0 i s i' b
set_option maxRecDepth 100000 in
set_option maxHeartbeats 4000000 in
theorem rdtextQ_c {z : QC} (ok : z.Ok) {w : World} {i : Nat} {b0 : Bool} (h : QS z w i b0) : Calls Tryd.prog 107 #[.pointer (some ⟨z.rb, 0, none⟩)] w (RTextPost z b0 w i) := by
  have hl := ok.len
  have HO := Lib.hid ok
  have H0 := Lib.hid h
  clear h ok
  go_enter Tryd.func107, Tryd.ntmps107
  go_wp2_with fail
  go_loopg [3] (z.bytes.length + 1) (fun gg vv wr => ∃ (i' : Nat) (b : Bool) (acc : List UInt8), Hid (QS z wr i' b ∧ Only (· = z.rb) w wr ∧ BO wr vv acc ∧ (∀ g, vv.ownBlock = some g → w.heap.size ≤ g) ∧ (b = false → b0 = false ∧ pT (z.rc.rest i) = (pT (z.rc.rest i')).map fun x => (acc ++ x.1, x.2)) ∧ (b = true → b0 = true ∨ pT (z.rc.rest i) = none) ∧ i ≤ i' ∧ acc.length ≤ i') ∧ z.bytes.length - i' + (if b then 0 else 1) ≤ gg)
  case atStart => 
    refine ⟨i, b0, [], Lib.hid ⟨H0.out, Only.refl _ _, BO.nil w, by simp [Value.ownBlock], fun hb => ⟨hb, by simp⟩, fun hb => .inl hb, Nat.le_refl _, by simp⟩, ?_⟩
    cases b0 <;> simp <;> omega
  case round =>
    obtain ⟨i', b, acc, H, hgg⟩ := hrel
    have hc1 := cell_at H.out.1.r 3 _ rfl
    have H6 := Lib.hid H.out.2.2.2.2.2.1
    have H5 := Lib.hid H.out.2.2.2.2.1
    cases b with
    | true =>
      have hcv := str_back wr u3 acc H.out.2.2.1
      go_wp2_with fail
      go_ret
      obtain ⟨h1, h2, _, _, _, h6, _, h8⟩ := H.out
      have hle := h1.le
      exact ⟨acc, i', true, rfl, h1, h2, fun hb => (by cases hb), fun _ => H6.out (by simp), Nat.le_trans h8 hle⟩
    | false =>
      go_wp2_with fail
      clear hc1
      have hgg' : z.bytes.length - i' + 1 ≤ gk := by simpa using hgg
      clear hgg
      refine (next_c HO.out H.out.1).mono ?_
      rintro e w1 ⟨c, i1, b1, rfl, h1, ho1, hc⟩
      obtain ⟨hrs, how, hbo, hfr, hpf, _, hii, hal⟩ := H.out
      have hle := h1.le
      have hown : z.rb < w.heap.size := block_lt H0.out.r
      obtain ⟨hb0, hpf⟩ := H5.out (by simp)
      have HB : Hid (∀ u, Only (· = z.rb) wr u → BO u u3 acc) := Lib.hid fun u hu => hbo.at_ fun g hg => hu.block g (hbo.lt hg) (fun hq => by have := hfr g hg; omega)
      have HF := Lib.hid (And.intro how (And.intro hfr (And.intro hb0 (And.intro hpf (And.intro hown hii)))))
      have halb : acc.length ≤ 1000 := by have := hrs.le; omega
      have hlr := hrs.le
      clear hbo hrs how hfr hpf hb0 hown hii H
      have hstep : Hid (∀ (g3 cap3 n3 : Nat) (u w3 : World) (i2 : Nat) (b2 : Bool), QS z u i2 b2 → Only (· = z.rb) wr u → Gr u w3 u3 (.slice (some ⟨g3, 0, none⟩) n3 cap3) → QS z w3 i2 b2 ∧ Only (· = z.rb) w w3 ∧ (∀ g, (Value.slice (some ⟨g3, 0, none⟩) n3 cap3).ownBlock = some g → w.heap.size ≤ g)) := Lib.hid fun g3 cap3 n3 u w3 i2 b2 hru hou hg => by
        obtain ⟨how, hfr, _, _, hown, _⟩ := HF.out
        have hwu := how.trans hou (fun _ _ h => h)
        have hkeep : ∀ q o, u.heap[q]? = some o → q < w.heap.size → w3.heap[q]? = some o := fun q o hq hlt => (hg.block (block_lt hq) (fun he => by have := hfr _ he; omega)).trans hq
        refine ⟨⟨hru.below.trans (hg.below hru.below.size (fun g hg => by have := hfr g hg; have := H0.out.below.size; omega)), hkeep _ _ hru.r (block_lt H0.out.r), hru.le⟩, hwu.trans (Only.of_grown hg.grown) (fun q hq he => by have := hfr q he.symm; omega), hg.from_ hwu.size hfr⟩
      rcases hc with ⟨rfl, rfl, hc⟩ | ⟨_, rfl, hr, hi1⟩
      · have HC := Lib.hid (And.intro h1 (And.intro ho1 hc))
        clear h1 ho1 hc
        go_wp2_with fail
        refine (next_c HO.out HC.out.1).mono ?_
        rintro e w2 ⟨d, i2, b2, rfl, h2, ho2, hd⟩
        have hle2 := h2.le
        rcases hd with ⟨rfl, rfl, _⟩ | ⟨hd, _⟩
        case inr => cases hd
        have HD := Lib.hid (And.intro h2 (HC.out.2.1.trans ho2 (fun _ _ h => h)))
        clear h2 ho2
        have hcv := str_back w2 u3 acc (HB.out w2 HD.out.2)
        go_wp2_with fail
        go_ret
        obtain ⟨how, hfr, hb0, hpf, hown, hii⟩ := HF.out
        refine ⟨acc, i2, true, rfl, HD.out.1, how.trans HD.out.2 (fun _ _ h => h), fun hb => (by cases hb), fun _ => .inr ?_, Nat.le_trans hal hlr⟩
        rcases HC.out.2.2 with h | h
        · cases h
        · rw [hpf, h]; simp [pT]
      · by_cases h0 : c = 0
        · subst h0
          have HC := Lib.hid (And.intro h1 (And.intro ho1 (And.intro hr hi1)))
          clear h1 ho1 hr hi1
          go_wp2_with fail
          refine (next_c HO.out HC.out.1).mono ?_
          rintro e w2 ⟨d, i2, b2, rfl, h2, ho2, hd⟩
          have hle2 := h2.le
          rcases hd with ⟨rfl, rfl, hd⟩ | ⟨_, rfl, hr2, hi2⟩
          · have HD := Lib.hid (And.intro h2 (And.intro (HC.out.2.1.trans ho2 (fun _ _ h => h)) hd))
            clear h2 ho2 hd
            have hcv := str_back w2 u3 acc (HB.out w2 HD.out.2.1)
            go_wp2_with fail
            go_ret
            obtain ⟨how, hfr, hb0, hpf, hown, hii⟩ := HF.out
            refine ⟨acc, i2, true, rfl, HD.out.1, how.trans HD.out.2.1 (fun _ _ h => h), fun hb => (by cases hb), fun _ => .inr ?_, Nat.le_trans hal hlr⟩
            rcases HD.out.2.2 with h | h
            · cases h
            · rw [hpf, HC.out.2.2.1, h, pT_0]; rfl
          · have HD := Lib.hid (And.intro h2 (And.intro (HC.out.2.1.trans ho2 (fun _ _ h => h)) (And.intro hr2 hi2)))
            have hgi : i2 = i' + 2 := by have := HC.out.2.2.2; omega
            clear h2 ho2 hr2 hi2
            by_cases hd0 : d = 0
            · subst hd0
              have hcv := str_back w2 u3 acc (HB.out w2 HD.out.2.1)
              clear hgi
              go_wp2_with fail
              go_ret
              obtain ⟨how, hfr, hb0, hpf, hown, hii⟩ := HF.out
              refine ⟨acc, i2, false, rfl, HD.out.1, how.trans HD.out.2.1 (fun _ _ h => h), fun _ => ⟨hb0, ?_⟩, fun hb => (by cases hb), Nat.le_trans hal hlr⟩
              rw [hpf, HC.out.2.2.1, HD.out.2.2.1, pT_00]; simp
            · have hne0 := u8_ne0 hd0
              have HBu := HB.out w2 HD.out.2.1
              by_cases hd5 : d = 255
              · subst hd5
                have HG := Lib.hid hgi
                clear hgi hd0
                go_wp2_with (refine wpList_app (by rfl) _ _ (by rfl) u3 acc [0] (by rfl) (HBu.grow (below_alloc1 _ _)) ⟨w2.heap.size, 0, none⟩ 1 (by rfl) (news1 (heap_alloc_new w2 _) rfl) (by simp) (by simp; omega) (acc.length + 1) (by simp) ?_; intro g3 cap3 w3 hb3 hg3)
                go_roundg (z.bytes.length - i2 + 1)
                case measure => have := HG.out; omega
                case rel =>
                  obtain ⟨how, hfr, hb0, hpf, hown, hii⟩ := HF.out
                  obtain ⟨q1, q2, q3⟩ := hstep.out g3 cap3 _ _ w3 i2 false (HD.out.1.grow (below_alloc1 _ _)) (HD.out.2.1.trans (Only.of_below (below_alloc1 _ _)) (fun _ _ h => h)) hg3
                  have := HG.out
                  refine ⟨i2, false, acc ++ [0], Lib.hid ⟨q1, q2, hb3, q3, fun _ => ⟨hb0, ?_⟩, fun hb => (by cases hb), by omega, by simp; omega⟩, by simp⟩
                  rw [hpf, HC.out.2.2.1, HD.out.2.2.1, pT_0f, Option.map_map]
                  congr 1
                  funext x
                  simp
              · have hne5 : ((d.toNat : Int) == 255) = false := u8_ne (b := 255) hd5
                have cf := free_at HD.out.1.r 3
                have cc := cell_at HD.out.1.r 3 _ rfl
                have HS := Lib.hid (HD.out.1.setBad HO.out true)
                have HN := Lib.hid (And.intro hd0 (And.intro hd5 hgi))
                have HB2 : BO (w2.setCell ⟨z.rb, 3, none⟩ (.bool true)) u3 acc := HB.out _ (HD.out.2.1.trans HS.out.2 (fun _ _ h => h))
                clear hd0 hd5 hgi
                go_wp2_with (refine wpList_app (by rfl) _ _ (by rfl) u3 acc [0] (by rfl) (HB2.grow (below_alloc1 _ _)) ⟨w2.heap.size, 0, none⟩ 1 (by rfl) (news1 (by simpa [World.setCell] using heap_alloc_new (w2.setCell ⟨z.rb, 3, none⟩ (.bool true)) (.cells #[.int .u8 0] 5)) rfl) (by simp) (by simp; omega) (acc.length + 1) (by simp) ?_; intro g3 cap3 w3 hb3 hg3)
                go_roundg (z.bytes.length - i2)
                case measure => have := HN.out.2.2; omega
                case rel =>
                  obtain ⟨how, hfr, hb0, hpf, hown, hii⟩ := HF.out
                  obtain ⟨q1, q2, q3⟩ := hstep.out g3 cap3 _ _ w3 i2 true (HS.out.1.grow (below_alloc1 _ _)) ((HD.out.2.1.trans HS.out.2 (fun _ _ h => h)).trans (Only.of_below (below_alloc1 _ _)) (fun _ _ h => h)) hg3
                  have := HN.out.2.2
                  refine ⟨i2, true, acc ++ [0], Lib.hid ⟨q1, q2, hb3, q3, fun hb => (by cases hb), fun _ => .inr ?_, by omega, by simp; omega⟩, by simp⟩
                  rw [hpf, HC.out.2.2.1, HD.out.2.2.1, pT_0z HN.out.1 HN.out.2.1]
                  rfl
        · have hne0 := u8_ne0 h0
          have HC := Lib.hid (And.intro h1 (And.intro ho1 (And.intro hr (And.intro hi1 h0))))
          have HB1 := HB.out w1 ho1
          clear h1 ho1 hr hi1 h0
          go_wp2_with (refine wpList_app (by rfl) _ _ (by rfl) u3 acc [c] (by rfl) (HB1.grow (below_alloc1 _ _)) ⟨w1.heap.size, 0, none⟩ 1 (by rfl) (news1 (heap_alloc_new w1 _) rfl) (by simp) (by simp; omega) (acc.length + 1) (by simp) ?_; intro g3 cap3 w3 hb3 hg3)
          go_roundg (z.bytes.length - i1 + 1)
          case measure => have := HC.out.2.2.2.1; omega
          case rel =>
            obtain ⟨how, hfr, hb0, hpf, hown, hii⟩ := HF.out
            obtain ⟨q1, q2, q3⟩ := hstep.out g3 cap3 _ _ w3 i1 false (HC.out.1.grow (below_alloc1 _ _)) (HC.out.2.1.trans (Only.of_below (below_alloc1 _ _)) (fun _ _ h => h)) hg3
            have := HC.out.2.2.2.1
            refine ⟨i1, false, acc ++ [c], Lib.hid ⟨q1, q2, hb3, q3, fun _ => ⟨hb0, ?_⟩, fun hb => (by cases hb), by omega, by simp; omega⟩, by simp⟩
            rw [hpf, HC.out.2.2.1, pT_ne HC.out.2.2.2.2, Option.map_map]
            congr 1
            funext x
            simp
end Go.Proofs.YthfejpldhemakaaDoor

namespace Go.Proofs.YthfejpldhemakaaDoor
open Go.RowKit Go.Sort Go.Lib
/-- May a value of that kind stand in that depth? -/
def OkS (deep : Nat) (k : UInt8) : Prop := deep ≤ 21 ∧ 1 ≤ k.toNat ∧ k.toNat ≤ 11 ∧ (k = 5 ∨ k = 6 → deep ≤ 20)
theorem pV_consS (n deep : Nat) (k : UInt8) (r : List UInt8) (h : OkS deep k) : pV true (n + 1) deep (k :: r) =
    if k = 3 ∨ k = 10 then (pN r).map fun x => (.mk k.toNat x.1 ByteArray.empty [] [], x.2)
    else if k = 9 then (match r with | [] => none | c :: r' => some (.mk k.toNat c.toNat ByteArray.empty [] [], r'))
    else if k = 4 ∨ k = 7 then (pT r).map fun x => (.mk k.toNat 0 ⟨x.1.toArray⟩ [] [], x.2)
    else if k = 8 then (if 12 ≤ r.length then some (.mk k.toNat 0 ⟨(r.take 12).toArray⟩ [] [], r.drop 12) else none)
    else if k = 6 then (pL true n (deep + 1) r).map fun x => (.mk k.toNat 0 ByteArray.empty x.1 [], x.2)
    else if k = 5 then (pD true n (deep + 1) r).map fun x => (.mk k.toNat 0 ByteArray.empty [] x.1, x.2)
    else some (.mk k.toNat 0 ByteArray.empty [] [], r) := pV_step true n deep k r h.1 fun _ => h.2
theorem pLs_x (n deep : Nat) {c : UInt8} (r : List UInt8) (h0 : ¬ c = 0) (h1 : ¬ c = 1) : pL true n deep (c :: r) = none := by cases n <;> rw [pL.eq_def]; simp [h0, h1]
theorem pLs_nil (n deep : Nat) : pL true n deep [] = none := by cases n <;> rfl
theorem pDs_x (n deep : Nat) {c : UInt8} (r : List UInt8) (h0 : ¬ c = 0) (h1 : ¬ c = 1) : pD true n deep (c :: r) = none := by cases n <;> rw [pD.eq_def]; simp [h0, h1]
theorem pDs_nil (n deep : Nat) : pD true n deep [] = none := by cases n <;> rfl
/-- What reading a value comes to. -/
def VPs (z : RC) (b0 : Bool) (deep i : Nat) (v : V) (i' : Nat) (b : Bool) : Prop :=
  (b = false → b0 = false ∧ i < i' ∧ ∀ n, (z.rest i).length < n → pV true n deep (z.rest i) = some (v, z.rest i')) ∧ (b = true → b0 = true ∨ ∀ n, (z.rest i).length < n → pV true n deep (z.rest i) = none)
/-- After the kind's byte and the look at the depth. -/
def HeadS (z : RC) (b0 : Bool) (deep i : Nat) (c : UInt8) (i1 : Nat) (b1 : Bool) : Prop :=
  (b1 = false → b0 = false ∧ z.rest i = c :: z.rest i1 ∧ i1 = i + 1 ∧ OkS deep c) ∧ (b1 = true → b0 = true ∨ ∀ n, pV true n deep (z.rest i) = none)
/-- From the head and the tail to the whole. -/
theorem HeadS.vs {z : RC} {b0 : Bool} {deep i i1 i' : Nat} {c : UInt8} {b1 b : Bool} {v : V} (h : HeadS z b0 deep i c i1 b1) (hg : b = false → b1 = false ∧ i1 ≤ i' ∧ (OkS deep c → ∀ n, (z.rest i1).length < n → pV true (n + 1) deep (c :: z.rest i1) = some (v, z.rest i'))) (hb : b = true → b1 = true ∨ (OkS deep c → ∀ n, (z.rest i1).length < n → pV true (n + 1) deep (c :: z.rest i1) = none)) : VPs z b0 deep i v i' b := by
  refine ⟨fun hbf => ?_, fun hbt => ?_⟩
  · obtain ⟨h1, h2, h3⟩ := hg hbf
    obtain ⟨h4, h5, h6, h7⟩ := h.1 h1
    refine ⟨h4, by omega, fun n hn => ?_⟩
    rw [h5] at hn ⊢
    cases n with
    | zero => simp at hn
    | succ n => exact h3 h7 n (by simpa using hn)
  · rcases hb hbt with h1 | h1
    · exact (h.2 h1).imp id fun h n _ => h n
    · cases b1 with
      | true => exact (h.2 rfl).imp id fun h n _ => h n
      | false =>
        obtain ⟨h4, h5, h6, h7⟩ := h.1 rfl
        refine .inr fun n hn => ?_
        rw [h5] at hn ⊢
        cases n with
        | zero => rfl
        | succ n => exact h1 h7 n (by simpa using hn)
theorem vs_other {z : RC} {b0 : Bool} {deep i i1 : Nat} {c : UInt8} {b1 : Bool} (h : HeadS z b0 deep i c i1 b1) (h3 : ¬ c = 3) (h4 : ¬ c = 4) (h5 : ¬ c = 5) (h6 : ¬ c = 6) (h7 : ¬ c = 7) (h8 : ¬ c = 8) (h9 : ¬ c = 9) (h10 : ¬ c = 10) : VPs z b0 deep i (.mk c.toNat 0 ByteArray.empty [] []) i1 b1 :=
  h.vs (fun hb => ⟨hb, Nat.le_refl _, fun hd n _ => by rw [pV_consS _ _ _ _ hd]; simp [h3, h4, h5, h6, h7, h8, h9, h10]⟩) fun hb => .inl hb
theorem vs_flag {z : RC} {b0 : Bool} {deep i i1 i2 : Nat} {d : UInt8} {b1 b2 : Bool} (h : HeadS z b0 deep i 9 i1 b1) (hc : (b2 = true ∧ d = 0 ∧ (b1 = true ∨ z.rest i1 = [])) ∨ (b1 = false ∧ b2 = false ∧ z.rest i1 = d :: z.rest i2 ∧ i2 = i1 + 1)) : VPs z b0 deep i (.mk 9 d.toNat ByteArray.empty [] []) i2 b2 := by
  rcases hc with ⟨rfl, _, hc⟩ | ⟨h1, rfl, h2, h3⟩
  · refine h.vs (fun hb => (by cases hb)) fun _ => hc.imp id fun hc hd n _ => ?_
    rw [pV_consS _ _ _ _ hd, hc]
    simp
  · refine h.vs (fun _ => ⟨h1, by omega, fun hd n _ => ?_⟩) fun hb => (by cases hb)
    rw [pV_consS _ _ _ _ hd, h2]
    simp
theorem vs_text {z : RC} {b0 : Bool} {deep i i1 i2 : Nat} {c : UInt8} (hk : c = 4 ∨ c = 7) {s : List UInt8} {b1 b2 : Bool} (h : HeadS z b0 deep i c i1 b1) (hc : TextP z b1 i1 s i2 b2) (hle : i2 ≤ z.bytes.length) : VPs z b0 deep i (.mk c.toNat 0 ⟨s.toArray⟩ [] []) i2 b2 := by
  have e : ∀ n, OkS deep c → pV true (n + 1) deep (c :: z.rest i1) = (pT (z.rest i1)).map fun x => (.mk c.toNat 0 ⟨x.1.toArray⟩ [] [], x.2) := fun n hd => by
    rw [pV_consS _ _ _ _ hd]
    rcases hk with rfl | rfl <;> simp
  refine h.vs (fun hb => ⟨(hc.1 hb).1, ?_, fun hd n _ => ?_⟩) fun hb => (hc.2.1 hb).imp id fun hp hd n _ => ?_
  · have := congrArg List.length (enc_pT _ _ (Nat.le_refl _) _ _ (hc.1 hb).2)
    have h1 : 1 ≤ (encT s).length := by cases s <;> unfold encT <;> (try split) <;> simp
    rw [RC.rest_len, List.length_append, RC.rest_len] at this
    omega
  · rw [e n hd, (hc.1 hb).2]; rfl
  · rw [e n hd, hp]; rfl
theorem vs_num {z : RC} {b0 : Bool} {deep i i1 i2 : Nat} {c : UInt8} (hk : c = 3 ∨ c = 10) {l : List UInt8} {b1 b2 : Bool} (h : HeadS z b0 deep i c i1 b1) (hc : BytesP z b1 i1 l i2 b2) (hl : l.length = 8) : VPs z b0 deep i (.mk c.toNat ((val8 l : Int) - 9223372036854775808) ByteArray.empty [] []) i2 b2 := by
  have e : ∀ n, OkS deep c → pV true (n + 1) deep (c :: z.rest i1) = (pN (z.rest i1)).map fun x => (.mk c.toNat x.1 ByteArray.empty [] [], x.2) := fun n hd => by
    rw [pV_consS _ _ _ _ hd]
    rcases hk with rfl | rfl <;> simp
  refine h.vs (fun hb => ⟨(hc.1 hb).1, ?_, fun hd n _ => ?_⟩) fun hb => (hc.2 hb).imp id fun hp hd n _ => ?_
  · have := (hc.1 hb).2.2; omega
  · rw [e n hd, (hc.1 hb).2.1]
    unfold pN
    rw [if_pos (by simp; omega), ← hl, List.take_left, List.drop_left]; rfl
  · rw [e n hd]
    unfold pN
    rw [if_neg (by omega)]; rfl
theorem vs_id {z : RC} {b0 : Bool} {deep i i1 i2 : Nat} {l : List UInt8} {b1 b2 : Bool} (h : HeadS z b0 deep i 8 i1 b1) (hc : BytesP z b1 i1 l i2 b2) (hl : l.length = 12) : VPs z b0 deep i (.mk 8 0 ⟨l.toArray⟩ [] []) i2 b2 := by
  refine h.vs (fun hb => ⟨(hc.1 hb).1, ?_, fun hd n _ => ?_⟩) fun hb => (hc.2 hb).imp id fun hp hd n _ => ?_
  · have := (hc.1 hb).2.2; omega
  · rw [pV_consS _ _ _ _ hd, (hc.1 hb).2.1]
    simp only [show ¬ ((8 : UInt8) = 3 ∨ (8 : UInt8) = 10) by decide, show ¬ ((8 : UInt8) = 9) by decide, show ¬ ((8 : UInt8) = 4 ∨ (8 : UInt8) = 7) by decide, if_false, if_true]
    rw [if_pos (by simp; omega), ← hl, List.take_left, List.drop_left]; rfl
  · rw [pV_consS _ _ _ _ hd]
    simp only [show ¬ ((8 : UInt8) = 3 ∨ (8 : UInt8) = 10) by decide, show ¬ ((8 : UInt8) = 9) by decide, show ¬ ((8 : UInt8) = 4 ∨ (8 : UInt8) = 7) by decide, if_false, if_true]
    rw [if_neg (by omega)]
/-- A list's parts read so far. -/
def ListS (z : RC) (deep : Nat) (b1 : Bool) (i1 : Nat) (L : List V) (i2 : Nat) (b2 : Bool) : Prop :=
  (b2 = false → b1 = false ∧ i1 ≤ i2 ∧ ∀ n, (z.rest i1).length < n → ∃ m, (z.rest i2).length < m ∧ pL true n deep (z.rest i1) = (pL true m deep (z.rest i2)).map fun y => (L ++ y.1, y.2)) ∧ (b2 = true → b1 = true ∨ ∀ n, (z.rest i1).length < n → pL true n deep (z.rest i1) = none)
theorem ListS.nil (z : RC) (deep : Nat) (b1 : Bool) (i1 : Nat) : ListS z deep b1 i1 [] i1 b1 :=
  ⟨fun h => ⟨h, Nat.le_refl _, fun n hn => ⟨n, hn, by cases pL true n deep (z.rest i1) <;> rfl⟩⟩, fun h => .inl h⟩
theorem ListS.more {z : RC} {deep : Nat} {b1 b2 b4 : Bool} {i1 i2 i3 i4 : Nat} {L : List V} {v : V} (h : ListS z deep b1 i1 L i2 b2) (hb : b2 = false) (hm : z.rest i2 = 1 :: z.rest i3) (h3 : i3 = i2 + 1) (hv : VPs z false deep i3 v i4 b4) (hle : i4 ≤ z.bytes.length) : ListS z deep b1 i1 (L ++ [v]) i4 b4 := by
  obtain ⟨h1, h2, h4⟩ := h.1 hb
  refine ⟨fun hb4 => ?_, fun hb4 => ?_⟩
  · obtain ⟨_, h5, h6⟩ := hv.1 hb4
    refine ⟨h1, by omega, fun n hn => ?_⟩
    obtain ⟨m, hm1, hm2⟩ := h4 n hn
    rw [hm] at hm1 hm2
    cases m with
    | zero => simp at hm1
    | succ m =>
      have hm3 : (z.rest i3).length < m := by simpa using hm1
      refine ⟨m, by rw [RC.rest_len] at hm3 ⊢; omega, ?_⟩
      rw [hm2, pL_s true _ _ _, h6 m hm3]
      simp only [Option.bind_some, Option.map_map]
      congr 1
      funext x
      simp
  · rcases hv.2 hb4 with h | h
    · cases h
    · refine .inr fun n hn => ?_
      obtain ⟨m, hm1, hm2⟩ := h4 n hn
      rw [hm] at hm1 hm2
      cases m with
      | zero => simp at hm1
      | succ m =>
        rw [hm2, pL_s true _ _ _, h m (by simpa using hm1)]
        rfl
theorem ListS.stop {z : RC} {deep : Nat} {b1 b2 b3 : Bool} {i1 i2 i3 : Nat} {L : List V} (h : ListS z deep b1 i1 L i2 b2) (hm : (b3 = false ∧ b2 = false ∧ z.rest i2 = 0 :: z.rest i3 ∧ i3 = i2 + 1) ∨ (b3 = true ∧ (b2 = true ∨ z.rest i2 = [] ∨ ∃ c t, z.rest i2 = c :: t ∧ ¬ c = 0 ∧ ¬ c = 1))) :
    (b3 = false → b1 = false ∧ i1 ≤ i3 ∧ ∀ n, (z.rest i1).length < n → pL true n deep (z.rest i1) = some (L, z.rest i3)) ∧ (b3 = true → b1 = true ∨ ∀ n, (z.rest i1).length < n → pL true n deep (z.rest i1) = none) := by
  rcases hm with ⟨rfl, h2, h3, h4⟩ | ⟨rfl, hm⟩
  · obtain ⟨h5, h6, h7⟩ := h.1 h2
    refine ⟨fun _ => ⟨h5, by omega, fun n hn => ?_⟩, fun h => (by cases h)⟩
    obtain ⟨m, hm1, hm2⟩ := h7 n hn
    rw [h3] at hm1 hm2
    cases m with
    | zero => simp at hm1
    | succ m => rw [hm2, pL_z true _ _ _]; simp
  · refine ⟨fun h => (by cases h), fun _ => ?_⟩
    cases b2 with
    | true => exact h.2 rfl
    | false =>
      obtain ⟨h5, h6, h7⟩ := h.1 rfl
      refine .inr fun n hn => ?_
      obtain ⟨m, hm1, hm2⟩ := h7 n hn
      rcases hm with hm | hm | ⟨c, t, hm, hc0, hc1⟩
      · cases hm
      · rw [hm2, hm, pLs_nil]; rfl
      · rw [hm2, hm, pLs_x _ _ _ hc0 hc1]; rfl
theorem vs_list {z : RC} {b0 : Bool} {deep i i1 i2 i3 : Nat} {L : List V} {b1 b2 b3 : Bool} (h : HeadS z b0 deep i 6 i1 b1) (hl : ListS z (deep + 1) b1 i1 L i2 b2) (hm : (b3 = false ∧ b2 = false ∧ z.rest i2 = 0 :: z.rest i3 ∧ i3 = i2 + 1) ∨ (b3 = true ∧ (b2 = true ∨ z.rest i2 = [] ∨ ∃ c t, z.rest i2 = c :: t ∧ ¬ c = 0 ∧ ¬ c = 1))) : VPs z b0 deep i (.mk 6 0 ByteArray.empty L []) i3 b3 := by
  have e : ∀ n, OkS deep 6 → pV true (n + 1) deep (6 :: z.rest i1) = (pL true n (deep + 1) (z.rest i1)).map fun x => (.mk 6 0 ByteArray.empty x.1 [], x.2) := fun n hd => by
    rw [pV_consS _ _ _ _ hd]
    simp
  have hs := hl.stop hm
  refine h.vs (fun hb => ⟨(hs.1 hb).1, (hs.1 hb).2.1, fun hd n hn => ?_⟩) fun hb => (hs.2 hb).imp id fun hp hd n hn => ?_
  · rw [e n hd, (hs.1 hb).2.2 n hn]; rfl
  · rw [e n hd, hp n hn]; rfl
/-- The same of fields. -/
def DocS (z : RC) (deep : Nat) (b1 : Bool) (i1 : Nat) (D : List (ByteArray × V)) (i2 : Nat) (b2 : Bool) : Prop :=
  (b2 = false → b1 = false ∧ i1 ≤ i2 ∧ ∀ n, (z.rest i1).length < n → ∃ m, (z.rest i2).length < m ∧ pD true n deep (z.rest i1) = (pD true m deep (z.rest i2)).map fun y => (D ++ y.1, y.2)) ∧ (b2 = true → b1 = true ∨ ∀ n, (z.rest i1).length < n → pD true n deep (z.rest i1) = none)
theorem DocS.nil (z : RC) (deep : Nat) (b1 : Bool) (i1 : Nat) : DocS z deep b1 i1 [] i1 b1 :=
  ⟨fun h => ⟨h, Nat.le_refl _, fun n hn => ⟨n, hn, by cases pD true n deep (z.rest i1) <;> rfl⟩⟩, fun h => .inl h⟩
theorem DocS.more {z : RC} {deep : Nat} {b1 b2 bt b4 : Bool} {i1 i2 i3 it i4 : Nat} {D : List (ByteArray × V)} {s : List UInt8} {v : V} (h : DocS z deep b1 i1 D i2 b2) (hb : b2 = false) (hm : z.rest i2 = 1 :: z.rest i3) (h3 : i3 = i2 + 1) (ht : TextP z false i3 s it bt) (hlt : it ≤ z.bytes.length) (hv : VPs z bt deep it v i4 b4) (hle : i4 ≤ z.bytes.length) : DocS z deep b1 i1 (D ++ [(⟨s.toArray⟩, v)]) i4 b4 := by
  obtain ⟨h1, h2, h4⟩ := h.1 hb
  refine ⟨fun hb4 => ?_, fun hb4 => ?_⟩
  · obtain ⟨hbt, h5, h6⟩ := hv.1 hb4
    have hlt' := ht.lt hbt hlt
    obtain ⟨_, h7⟩ := ht.1 hbt
    refine ⟨h1, by omega, fun n hn => ?_⟩
    obtain ⟨m, hm1, hm2⟩ := h4 n hn
    rw [hm] at hm1 hm2
    cases m with
    | zero => simp at hm1
    | succ m =>
      have hm3 : (z.rest i3).length < m := by simpa using hm1
      refine ⟨m, by rw [RC.rest_len] at hm3 ⊢; omega, ?_⟩
      rw [hm2, pD_s true _ _ _, h7]
      simp only [Option.bind_some]
      rw [h6 m (by rw [RC.rest_len] at hm3 ⊢; omega)]
      simp only [Option.bind_some, Option.map_map]
      congr 1
      funext x
      simp
  · refine .inr fun n hn => ?_
    obtain ⟨m, hm1, hm2⟩ := h4 n hn
    rw [hm] at hm1 hm2
    cases m with
    | zero => simp at hm1
    | succ m =>
      have hm3 : (z.rest i3).length < m := by simpa using hm1
      rw [hm2, pD_s true _ _ _]
      cases bt with
      | true =>
        rcases ht.2.1 rfl with h | h
        · cases h
        · rw [h]; rfl
      | false =>
        have hlt' := ht.lt rfl hlt
        rw [(ht.1 rfl).2]
        simp only [Option.bind_some]
        rcases hv.2 hb4 with h | h
        · cases h
        · rw [h m (by rw [RC.rest_len] at hm3 ⊢; omega)]; rfl
theorem DocS.stop {z : RC} {deep : Nat} {b1 b2 b3 : Bool} {i1 i2 i3 : Nat} {L : List (ByteArray × V)} (h : DocS z deep b1 i1 L i2 b2) (hm : (b3 = false ∧ b2 = false ∧ z.rest i2 = 0 :: z.rest i3 ∧ i3 = i2 + 1) ∨ (b3 = true ∧ (b2 = true ∨ z.rest i2 = [] ∨ ∃ c t, z.rest i2 = c :: t ∧ ¬ c = 0 ∧ ¬ c = 1))) :
    (b3 = false → b1 = false ∧ i1 ≤ i3 ∧ ∀ n, (z.rest i1).length < n → pD true n deep (z.rest i1) = some (L, z.rest i3)) ∧ (b3 = true → b1 = true ∨ ∀ n, (z.rest i1).length < n → pD true n deep (z.rest i1) = none) := by
  rcases hm with ⟨rfl, h2, h3, h4⟩ | ⟨rfl, hm⟩
  · obtain ⟨h5, h6, h7⟩ := h.1 h2
    refine ⟨fun _ => ⟨h5, by omega, fun n hn => ?_⟩, fun h => (by cases h)⟩
    obtain ⟨m, hm1, hm2⟩ := h7 n hn
    rw [h3] at hm1 hm2
    cases m with
    | zero => simp at hm1
    | succ m => rw [hm2, pD_z true _ _ _]; simp
  · refine ⟨fun h => (by cases h), fun _ => ?_⟩
    cases b2 with
    | true => exact h.2 rfl
    | false =>
      obtain ⟨h5, h6, h7⟩ := h.1 rfl
      refine .inr fun n hn => ?_
      obtain ⟨m, hm1, hm2⟩ := h7 n hn
      rcases hm with hm | hm | ⟨c, t, hm, hc0, hc1⟩
      · cases hm
      · rw [hm2, hm, pDs_nil]; rfl
      · rw [hm2, hm, pDs_x _ _ _ hc0 hc1]; rfl
theorem vs_doc {z : RC} {b0 : Bool} {deep i i1 i2 i3 : Nat} {L : List (ByteArray × V)} {b1 b2 b3 : Bool} (h : HeadS z b0 deep i 5 i1 b1) (hl : DocS z (deep + 1) b1 i1 L i2 b2) (hm : (b3 = false ∧ b2 = false ∧ z.rest i2 = 0 :: z.rest i3 ∧ i3 = i2 + 1) ∨ (b3 = true ∧ (b2 = true ∨ z.rest i2 = [] ∨ ∃ c t, z.rest i2 = c :: t ∧ ¬ c = 0 ∧ ¬ c = 1))) : VPs z b0 deep i (.mk 5 0 ByteArray.empty [] L) i3 b3 := by
  have e : ∀ n, OkS deep 5 → pV true (n + 1) deep (5 :: z.rest i1) = (pD true n (deep + 1) (z.rest i1)).map fun x => (.mk 5 0 ByteArray.empty [] x.1, x.2) := fun n hd => by
    rw [pV_consS _ _ _ _ hd]
    simp
  have hs := hl.stop hm
  refine h.vs (fun hb => ⟨(hs.1 hb).1, (hs.1 hb).2.1, fun hd n hn => ?_⟩) fun hb => (hs.2 hb).imp id fun hp hd n hn => ?_
  · rw [e n hd, (hs.1 hb).2.2 n hn]; rfl
  · rw [e n hd, hp n hn]; rfl
end Go.Proofs.YthfejpldhemakaaDoor

namespace Go.Proofs.YthfejpldhemakaaDoor
open Go.RowKit Go.Sort Go.Lib
def ValPostQ (z : QC) (b0 : Bool) (deep : Nat) (w : World) (i : Nat) (e : Ending) (w' : World) : Prop :=
  ∃ (v : V) (cs : List Value) (F : List Nat) (i' : Nat) (b : Bool), e = .returned (.agg cs.toArray) ∧ OV false w' v cs F ∧ F.Nodup ∧ (∀ g ∈ F, w.heap.size ≤ g) ∧ QS z w' i' b ∧ Only (· = z.rb) w w' ∧ VPs z.rc b0 deep i v i' b
/-- Half way: the value's box at vb, the result's box at the old memory's end. -/
structure VQ (z : QC) (w wr : World) (i : Nat) (b : Bool) (vb : Nat) (cs : Array Value) : Prop where
  rs : QS z wr i b
  only : Only (· = z.rb) w wr
  hv : wr.heap[vb]? = some (.cells cs 25 (0, 0))
  hr : wr.heap[w.heap.size]? = some (.cells #[.int .i64 0, .int .i64 0, .string ByteArray.empty, .slice none 0 0, .slice none 0 0] 25 (0, 0))
  lt : w.heap.size < vb
  r : z.rb < w.heap.size
  W : z.W.heap.size ≤ w.heap.size
theorem VQ.call {z : QC} {w wr w1 : World} {i i2 : Nat} {b b2 : Bool} {vb : Nat} {cs : Array Value} (h : VQ z w wr i b vb cs) (hr : QS z w1 i2 b2) (ho : Only (· = z.rb) wr w1) : VQ z w w1 i2 b2 vb cs :=
  ⟨hr, h.only.trans ho (fun _ _ h => h), (ho.block vb (block_lt h.hv) (fun hq => by have := h.r; have := h.lt; omega)).trans h.hv, (ho.block _ (block_lt h.hr) (fun hq => by have := h.r; omega)).trans h.hr, h.lt, h.r, h.W⟩
theorem VQ.grow {z : QC} {w wr w1 : World} {i : Nat} {b : Bool} {vb : Nat} {cs : Array Value} (h : VQ z w wr i b vb cs) (hb : Below wr.heap.size wr w1) : VQ z w w1 i b vb cs := h.call (h.rs.grow hb) (Only.of_below (S := (· = z.rb)) hb)
theorem VQ.keep {z : QC} {w wr w1 : World} {i : Nat} {b : Bool} {vb : Nat} {cs : Array Value} {S : Nat → Prop} (h : VQ z w wr i b vb cs) (ho : Only S wr w1) (hS : ∀ q, S q → w.heap.size < q ∧ q ≠ vb) : VQ z w w1 i b vb cs := by
  have := h.r; have := h.W
  exact ⟨h.rs.keep ho (fun q hq => by have := (hS q hq).1; omega), h.only.trans (ho.mono fun q _ hq => hq) (fun q hlt hq => absurd (hS q hq).1 (by omega)), (ho.block vb (block_lt h.hv) (fun hq => (hS vb hq).2 rfl)).trans h.hv, (ho.block _ (block_lt h.hr) (fun hq => by have := (hS _ hq).1; omega)).trans h.hr, h.lt, h.r, h.W⟩
theorem VQ.set {z : QC} {w wr : World} {i : Nat} {b : Bool} {vb : Nat} {cs : Array Value} (h : VQ z w wr i b vb cs) (j : Nat) (v : Value) : VQ z w (wr.setCell ⟨vb, j, none⟩ v) i b vb (cs.setIfInBounds j v) := by
  have ho := only_set wr vb j v
  have := h.r; have := h.W; have := h.lt
  exact ⟨h.rs.keep ho (fun q hq => by omega), h.only.trans ho (fun q hlt hq => by omega), setCell_block h.hv j v, (ho.block _ (block_lt h.hr) (fun hq => by omega)).trans h.hr, h.lt, h.r, h.W⟩
/-- The end: the value in the result's box. -/
theorem VQ.done {z : QC} {w wr : World} {i0 deep i : Nat} {b0 b : Bool} {vb : Nat} {v : V} {c0 c1 c2 c3 c4 : Value} {F : List Nat} (h : VQ z w wr i b vb #[c0, c1, c2, c3, c4]) (ho : OV false wr v [c0, c1, c2, c3, c4] F) (hn : F.Nodup) (hF : ∀ g ∈ F, vb < g) (hp : VPs z.rc b0 deep i0 v i b) :
    ValPostQ z b0 deep w i0 (.returned (.agg #[c0, c1, c2, c3, c4])) (set5 wr w.heap.size c0 c1 c2 c3 c4) := by
  have hs := set5_only wr w.heap.size c0 c1 c2 c3 c4
  have := h.r; have := h.W; have := h.lt
  refine ⟨v, _, F, i, b, rfl, ho.at_ fun g hg => hs.block g (ho.lt g hg) (by have := hF g hg; omega), hn, fun g hg => by have := hF g hg; omega, h.rs.keep hs (fun q hq => by omega), h.only.trans hs (fun q hlt hq => by omega), hp⟩
/-- A refused head: the empty value, and bad. -/
theorem vq_refused {z : QC} (ok : z.Ok) {w w1 W1 : World} {i0 deep i1 : Nat} {b0 b : Bool} (h0 : z.rb < w.heap.size) (hW : z.W.heap.size ≤ w.heap.size) (hbw : Below w.heap.size w W1) (hs1 : W1.heap.size = w.heap.size + 1) (h1 : QS z w1 i1 b) (ho1 : Only (· = z.rb) W1 w1) (hp : ∀ v, VPs z.rc b0 deep i0 v i1 true) :
    ValPostQ z b0 deep w i0 (.returned (.agg #[.int .i64 0, .int .i64 0, .string ByteArray.empty, .slice none 0 0, .slice none 0 0])) (set5 (w1.setCell ⟨z.rb, 3, none⟩ (.bool true)) w.heap.size (.int .i64 0) (.int .i64 0) (.string ByteArray.empty) (.slice none 0 0) (.slice none 0 0)) := by
  obtain ⟨h2, ho2⟩ := h1.setBad ok true
  have hs := set5_only (w1.setCell ⟨z.rb, 3, none⟩ (.bool true)) w.heap.size (.int .i64 0) (.int .i64 0) (.string ByteArray.empty) (.slice none 0 0) (.slice none 0 0)
  refine ⟨.mk 0 0 ByteArray.empty [] [], _, [], i1, true, rfl, OV.leaf _ rng_0 rng_0 (by simp), List.nodup_nil, by simp, h2.keep hs (fun q hq => by omega), (((Only.of_below (S := (· = z.rb)) hbw).trans ho1 (fun _ _ h => h)).trans ho2 (fun _ _ h => h)).trans hs (fun q hlt hq => by omega), hp _⟩
theorem vq_start {z : QC} {w w1 W1 : World} {i i1 : Nat} {b0 b : Bool} (H0 : QS z w i b0) (hbw : Below w.heap.size w W1) (hr1 : W1.heap[w.heap.size]? = some (.cells #[.int .i64 0, .int .i64 0, .string ByteArray.empty, .slice none 0 0, .slice none 0 0] 25 (0, 0))) (h1 : QS z w1 i1 b) (ho1 : Only (· = z.rb) W1 w1) (k : Int) :
    VQ z w (w1.alloc (.cells #[.int .i64 k, .int .i64 0, .string ⟨#[]⟩, .slice none 0 0, .slice none 0 0] 25)) i1 b w1.heap.size #[.int .i64 k, .int .i64 0, .string ⟨#[]⟩, .slice none 0 0, .slice none 0 0] := by
  have q1 := block_lt H0.r
  have q3 := ho1.size
  have q4 := block_lt hr1
  have hb2 : ∀ o, Below w1.heap.size w1 (w1.alloc o) := fun o => below_alloc1 _ _
  refine ⟨h1.grow (hb2 _), ((Only.of_below hbw).trans ho1 (fun _ _ h => h)).trans (Only.of_below (hb2 _)) (fun _ _ h => h), heap_alloc_new _ _, ?_, by omega, q1, H0.below.size⟩
  exact ((hb2 _).block _ (by omega)).trans ((ho1.block _ (by omega) fun hq => by omega).trans hr1)
theorem kind_is2 {z : RC} {i i' : Nat} {b0 b : Bool} {c k : UInt8} {r : List UInt8} (h : (b = true ∧ c = 0 ∧ (b0 = true ∨ z.rest i = [])) ∨ (b0 = false ∧ b = false ∧ z.rest i = c :: z.rest i' ∧ i' = i + 1)) (hb : b0 = false) (hr : z.rest i = k :: r) : c = k ∧ b = false ∧ z.rest i' = r ∧ i' = i + 1 := by
  rcases h with ⟨_, _, h | h⟩ | ⟨_, h2, h, h3⟩
  · rw [hb] at h; cases h
  · rw [hr] at h; cases h
  · rw [hr] at h; injection h with h h4; exact ⟨h.symm, h2, h4.symm, h3⟩
theorem headS_go {z : RC} {i i' : Nat} {b0 : Bool} {c : UInt8} (deep : Nat) (h : b0 = false ∧ z.rest i = c :: z.rest i' ∧ i' = i + 1) (hok : OkS deep c) : HeadS z b0 deep i c i' false :=
  ⟨fun _ => ⟨h.1, h.2.1, h.2.2, hok⟩, fun h => by cases h⟩
theorem refused_none {z : RC} {i i' deep : Nat} {b0 b : Bool} {c : UInt8} (h : (b = true ∧ c = 0 ∧ (b0 = true ∨ z.rest i = [])) ∨ (b0 = false ∧ b = false ∧ z.rest i = c :: z.rest i' ∧ i' = i + 1)) (hok : b = false → ¬ OkS deep c) : ∀ v, VPs z b0 deep i v i' true := by
  intro v
  refine ⟨fun h => (by cases h), fun _ => ?_⟩
  rcases h with ⟨_, _, h | h⟩ | ⟨_, h2, h, h3⟩
  · exact .inl h
  · refine .inr fun n _ => ?_
    rw [h]; cases n <;> rfl
  · refine .inr fun n _ => ?_
    rw [h]
    cases n with
    | zero => rfl
    | succ n => exact pV_none true n deep c _ (fun ⟨a, b⟩ => hok h2 ⟨a, b rfl⟩)
set_option maxRecDepth 100000 in
set_option maxHeartbeats 4000000 in
theorem valueQ_refuse {z : QC} (ok : z.Ok) (deep : Nat) {w : World} {i : Nat} {b0 : Bool} (h : QS z w i b0) (hno : b0 = false → ∀ k r, z.rc.rest i = k :: r → ¬ OkS deep k) (hd : deep ≤ 21) : Calls Tryd.prog 84 #[.pointer (some ⟨z.rb, 0, none⟩), .int .i64 (deep : Int)] w (ValPostQ z b0 deep w i) := by
  have HO := Lib.hid ok
  have H0 := Lib.hid h
  clear h ok
  go_enter Tryd.func84, Tryd.ntmps84
  go_wp2_with fail
  generalize hW1 : World.alloc w _ = W1
  have hbw : Below w.heap.size w W1 := by rw [← hW1]; exact below_alloc1 _ _
  have hr1 : W1.heap[w.heap.size]? = some (.cells #[.int .i64 0, .int .i64 0, .string ByteArray.empty, .slice none 0 0, .slice none 0 0] 25 (0, 0)) := by rw [← hW1]; exact heap_alloc_new _ _
  have hs1 : W1.heap.size = w.heap.size + 1 := by rw [← hW1]; simp
  clear hW1
  refine (next_c HO.out (H0.out.grow hbw)).mono ?_
  rintro e w1 ⟨c, i1, b, rfl, h1, ho1, hc⟩
  have hno2 : b = false → ¬ OkS deep c := by
    rcases hc with ⟨h, _⟩ | ⟨h0, h2, h, h3⟩
    · intro hb; rw [h] at hb; cases hb
    · exact fun _ => hno h0 _ _ h
  have HR := Lib.hid (vq_refused HO.out (deep := deep) (i0 := i) (block_lt H0.out.r) H0.out.below.size hbw hs1 h1 ho1 (refused_none hc hno2))
  have hcb : w1.cell? ⟨z.rb, 3, none⟩ = some (.bool b) := cell_at h1.r 3 _ rfl
  have hfb := free_at h1.r 3
  have hb1 := (ho1.block _ (by omega) (fun hq => by have := block_lt H0.out.r; omega)).trans hr1
  have r0 := cell_at hb1 0 _ rfl
  have r1 := cell_at hb1 1 _ rfl
  have r2 := cell_at hb1 2 _ rfl
  have r3 := cell_at hb1 3 _ rfl
  have r4 := cell_at hb1 4 _ rfl
  have g0 := free_at hb1 0
  have g1 := free_at hb1 1
  have g2 := free_at hb1 2
  have g3 := free_at hb1 3
  have g4 := free_at hb1 4
  have hne : ¬ w.heap.size = z.rb := by have := block_lt H0.out.r; omega
  have hne' : ¬ z.rb = w.heap.size := by have := block_lt H0.out.r; omega
  have hw64 := wrap64_u8 c
  have hlt := c.toNat_lt
  have cases3 : b = true ∨ (b = false ∧ ((c.toNat : Int) < 1 ∨ (1 ≤ (c.toNat : Int) ∧ 11 < (c.toNat : Int)) ∨ (((c.toNat : Int) = 5 ∨ (c.toNat : Int) = 6) ∧ 20 < (deep : Int)))) := by
    cases b with
    | true => exact .inl rfl
    | false =>
      refine .inr ⟨rfl, ?_⟩
      have hn := hno2 rfl
      by_cases a1 : (c.toNat : Int) < 1
      · exact .inl a1
      · by_cases a2 : 11 < (c.toNat : Int)
        · exact .inr (.inl ⟨by omega, a2⟩)
        · refine .inr (.inr ?_)
          by_cases a3 : c = 5 ∨ c = 6
          · refine ⟨?_, ?_⟩
            · rcases a3 with rfl | rfl
              · exact .inl rfl
              · exact .inr rfl
            · by_cases a4 : 20 < (deep : Int)
              · exact a4
              · exact absurd ⟨hd, by omega, by omega, fun _ => by omega⟩ hn
          · exact absurd ⟨hd, by omega, by omega, fun h => absurd h a3⟩ hn
  obtain ⟨m, hm⟩ : ∃ m : Int, (c.toNat : Int) = m := ⟨_, rfl⟩
  clear hbw hr1 hs1 h1 ho1 hc hno hno2 hb1
  rw [hm] at hw64 cases3 ⊢
  clear hm hlt
  rcases cases3 with rfl | ⟨rfl, h | ⟨h, h'⟩ | ⟨rfl | rfl, h⟩⟩
  all_goals
    go_wp2_with fail
    exact bodyPost_ret (v := .agg #[.int .i64 0, .int .i64 0, .string ⟨#[]⟩, .slice none 0 0, .slice none 0 0]) (by simp [results, Tryd.results84, go_sem, r0, r1, r2, r3, r4]) rfl HR.out
set_option maxRecDepth 100000 in
set_option maxHeartbeats 4000000 in
theorem valueQ_k1 {z : QC} (ok : z.Ok) (deep : Nat) (hd : deep ≤ 21) {w : World} {i : Nat} {b0 : Bool} (h : QS z w i b0) {r : List UInt8} (hb : b0 = false) (hr : z.rc.rest i = 1 :: r) : Calls Tryd.prog 84 #[.pointer (some ⟨z.rb, 0, none⟩), .int .i64 (deep : Int)] w (ValPostQ z b0 deep w i) := by
  have HO := Lib.hid ok
  have H0 := Lib.hid h
  clear h ok
  go_enter Tryd.func84, Tryd.ntmps84
  go_wp2_with fail
  generalize hW1 : World.alloc w _ = W1
  have hbw : Below w.heap.size w W1 := by rw [← hW1]; exact below_alloc1 _ _
  have hr1 : W1.heap[w.heap.size]? = some (.cells #[.int .i64 0, .int .i64 0, .string ByteArray.empty, .slice none 0 0, .slice none 0 0] 25 (0, 0)) := by rw [← hW1]; exact heap_alloc_new _ _
  have hs1 : W1.heap.size = w.heap.size + 1 := by rw [← hW1]; simp
  clear hW1
  refine (next_c HO.out (H0.out.grow hbw)).mono ?_
  rintro e w1 ⟨c, i1, b, rfl, h1, ho1, hc⟩
  obtain ⟨rfl, rfl, hr2, hi1⟩ := kind_is2 hc hb hr
  have hcb : w1.cell? ⟨z.rb, 3, none⟩ = some (.bool false) := cell_at h1.r 3 _ rfl
  have HV := Lib.hid (vq_start H0.out hbw hr1 h1 ho1 1)
  have HH := Lib.hid (headS_go (z := z.rc) (b0 := b0) deep ⟨hb, hr.trans (by rw [hr2]), hi1⟩ (show OkS deep 1 from ⟨hd, by decide, by decide, fun h => absurd h (by decide)⟩))
  have hne : ¬ w.heap.size = w1.heap.size := by have := HV.out.lt; omega
  have hne' : ¬ w1.heap.size = w.heap.size := by have := HV.out.lt; omega
  clear hbw hr1 hs1 h1 ho1 hc hr2 hi1
  have HP := Lib.hid (vs_other HH.out (by decide) (by decide) (by decide) (by decide) (by decide) (by decide) (by decide) (by decide))
  have HD := Lib.hid (HV.out.done (OV.leaf _ (rng_u8 1) rng_0 (t := ByteArray.empty) (by simp)) List.nodup_nil (by simp) HP.out)
  have y0 := cell_at (HV.out).hv 0 _ rfl
  have y1 := cell_at (HV.out).hv 1 _ rfl
  have y2 := cell_at (HV.out).hv 2 _ rfl
  have y3 := cell_at (HV.out).hv 3 _ rfl
  have y4 := cell_at (HV.out).hv 4 _ rfl
  have r0 := cell_at (HV.out).hr 0 _ rfl
  have r1 := cell_at (HV.out).hr 1 _ rfl
  have r2 := cell_at (HV.out).hr 2 _ rfl
  have r3 := cell_at (HV.out).hr 3 _ rfl
  have r4 := cell_at (HV.out).hr 4 _ rfl
  have g0 := free_at (HV.out).hr 0
  have g1 := free_at (HV.out).hr 1
  have g2 := free_at (HV.out).hr 2
  have g3 := free_at (HV.out).hr 3
  have g4 := free_at (HV.out).hr 4
  go_wp2_with fail
  exact bodyPost_ret (v := .agg #[.int .i64 1, .int .i64 0, .string ⟨#[]⟩, .slice none 0 0, .slice none 0 0]) (by simp [results, Tryd.results84, go_sem, r0, r1, r2, r3, r4]) rfl HD.out
set_option maxRecDepth 100000 in
set_option maxHeartbeats 4000000 in
theorem valueQ_k2 {z : QC} (ok : z.Ok) (deep : Nat) (hd : deep ≤ 21) {w : World} {i : Nat} {b0 : Bool} (h : QS z w i b0) {r : List UInt8} (hb : b0 = false) (hr : z.rc.rest i = 2 :: r) : Calls Tryd.prog 84 #[.pointer (some ⟨z.rb, 0, none⟩), .int .i64 (deep : Int)] w (ValPostQ z b0 deep w i) := by
  have HO := Lib.hid ok
  have H0 := Lib.hid h
  clear h ok
  go_enter Tryd.func84, Tryd.ntmps84
  go_wp2_with fail
  generalize hW1 : World.alloc w _ = W1
  have hbw : Below w.heap.size w W1 := by rw [← hW1]; exact below_alloc1 _ _
  have hr1 : W1.heap[w.heap.size]? = some (.cells #[.int .i64 0, .int .i64 0, .string ByteArray.empty, .slice none 0 0, .slice none 0 0] 25 (0, 0)) := by rw [← hW1]; exact heap_alloc_new _ _
  have hs1 : W1.heap.size = w.heap.size + 1 := by rw [← hW1]; simp
  clear hW1
  refine (next_c HO.out (H0.out.grow hbw)).mono ?_
  rintro e w1 ⟨c, i1, b, rfl, h1, ho1, hc⟩
  obtain ⟨rfl, rfl, hr2, hi1⟩ := kind_is2 hc hb hr
  have hcb : w1.cell? ⟨z.rb, 3, none⟩ = some (.bool false) := cell_at h1.r 3 _ rfl
  have HV := Lib.hid (vq_start H0.out hbw hr1 h1 ho1 2)
  have HH := Lib.hid (headS_go (z := z.rc) (b0 := b0) deep ⟨hb, hr.trans (by rw [hr2]), hi1⟩ (show OkS deep 2 from ⟨hd, by decide, by decide, fun h => absurd h (by decide)⟩))
  have hne : ¬ w.heap.size = w1.heap.size := by have := HV.out.lt; omega
  have hne' : ¬ w1.heap.size = w.heap.size := by have := HV.out.lt; omega
  clear hbw hr1 hs1 h1 ho1 hc hr2 hi1
  have HP := Lib.hid (vs_other HH.out (by decide) (by decide) (by decide) (by decide) (by decide) (by decide) (by decide) (by decide))
  have HD := Lib.hid (HV.out.done (OV.leaf _ (rng_u8 2) rng_0 (t := ByteArray.empty) (by simp)) List.nodup_nil (by simp) HP.out)
  have y0 := cell_at (HV.out).hv 0 _ rfl
  have y1 := cell_at (HV.out).hv 1 _ rfl
  have y2 := cell_at (HV.out).hv 2 _ rfl
  have y3 := cell_at (HV.out).hv 3 _ rfl
  have y4 := cell_at (HV.out).hv 4 _ rfl
  have r0 := cell_at (HV.out).hr 0 _ rfl
  have r1 := cell_at (HV.out).hr 1 _ rfl
  have r2 := cell_at (HV.out).hr 2 _ rfl
  have r3 := cell_at (HV.out).hr 3 _ rfl
  have r4 := cell_at (HV.out).hr 4 _ rfl
  have g0 := free_at (HV.out).hr 0
  have g1 := free_at (HV.out).hr 1
  have g2 := free_at (HV.out).hr 2
  have g3 := free_at (HV.out).hr 3
  have g4 := free_at (HV.out).hr 4
  go_wp2_with fail
  exact bodyPost_ret (v := .agg #[.int .i64 2, .int .i64 0, .string ⟨#[]⟩, .slice none 0 0, .slice none 0 0]) (by simp [results, Tryd.results84, go_sem, r0, r1, r2, r3, r4]) rfl HD.out
set_option maxRecDepth 100000 in
set_option maxHeartbeats 4000000 in
theorem valueQ_k11 {z : QC} (ok : z.Ok) (deep : Nat) (hd : deep ≤ 21) {w : World} {i : Nat} {b0 : Bool} (h : QS z w i b0) {r : List UInt8} (hb : b0 = false) (hr : z.rc.rest i = 11 :: r) : Calls Tryd.prog 84 #[.pointer (some ⟨z.rb, 0, none⟩), .int .i64 (deep : Int)] w (ValPostQ z b0 deep w i) := by
  have HO := Lib.hid ok
  have H0 := Lib.hid h
  clear h ok
  go_enter Tryd.func84, Tryd.ntmps84
  go_wp2_with fail
  generalize hW1 : World.alloc w _ = W1
  have hbw : Below w.heap.size w W1 := by rw [← hW1]; exact below_alloc1 _ _
  have hr1 : W1.heap[w.heap.size]? = some (.cells #[.int .i64 0, .int .i64 0, .string ByteArray.empty, .slice none 0 0, .slice none 0 0] 25 (0, 0)) := by rw [← hW1]; exact heap_alloc_new _ _
  have hs1 : W1.heap.size = w.heap.size + 1 := by rw [← hW1]; simp
  clear hW1
  refine (next_c HO.out (H0.out.grow hbw)).mono ?_
  rintro e w1 ⟨c, i1, b, rfl, h1, ho1, hc⟩
  obtain ⟨rfl, rfl, hr2, hi1⟩ := kind_is2 hc hb hr
  have hcb : w1.cell? ⟨z.rb, 3, none⟩ = some (.bool false) := cell_at h1.r 3 _ rfl
  have HV := Lib.hid (vq_start H0.out hbw hr1 h1 ho1 11)
  have HH := Lib.hid (headS_go (z := z.rc) (b0 := b0) deep ⟨hb, hr.trans (by rw [hr2]), hi1⟩ (show OkS deep 11 from ⟨hd, by decide, by decide, fun h => absurd h (by decide)⟩))
  have hne : ¬ w.heap.size = w1.heap.size := by have := HV.out.lt; omega
  have hne' : ¬ w1.heap.size = w.heap.size := by have := HV.out.lt; omega
  clear hbw hr1 hs1 h1 ho1 hc hr2 hi1
  have HP := Lib.hid (vs_other HH.out (by decide) (by decide) (by decide) (by decide) (by decide) (by decide) (by decide) (by decide))
  have HD := Lib.hid (HV.out.done (OV.leaf _ (rng_u8 11) rng_0 (t := ByteArray.empty) (by simp)) List.nodup_nil (by simp) HP.out)
  have y0 := cell_at (HV.out).hv 0 _ rfl
  have y1 := cell_at (HV.out).hv 1 _ rfl
  have y2 := cell_at (HV.out).hv 2 _ rfl
  have y3 := cell_at (HV.out).hv 3 _ rfl
  have y4 := cell_at (HV.out).hv 4 _ rfl
  have r0 := cell_at (HV.out).hr 0 _ rfl
  have r1 := cell_at (HV.out).hr 1 _ rfl
  have r2 := cell_at (HV.out).hr 2 _ rfl
  have r3 := cell_at (HV.out).hr 3 _ rfl
  have r4 := cell_at (HV.out).hr 4 _ rfl
  have g0 := free_at (HV.out).hr 0
  have g1 := free_at (HV.out).hr 1
  have g2 := free_at (HV.out).hr 2
  have g3 := free_at (HV.out).hr 3
  have g4 := free_at (HV.out).hr 4
  go_wp2_with fail
  exact bodyPost_ret (v := .agg #[.int .i64 11, .int .i64 0, .string ⟨#[]⟩, .slice none 0 0, .slice none 0 0]) (by simp [results, Tryd.results84, go_sem, r0, r1, r2, r3, r4]) rfl HD.out
set_option maxRecDepth 100000 in
set_option maxHeartbeats 4000000 in
theorem valueQ_flag {z : QC} (ok : z.Ok) (deep : Nat) (hd : deep ≤ 21) {w : World} {i : Nat} {b0 : Bool} (h : QS z w i b0) {r : List UInt8} (hb : b0 = false) (hr : z.rc.rest i = 9 :: r) : Calls Tryd.prog 84 #[.pointer (some ⟨z.rb, 0, none⟩), .int .i64 (deep : Int)] w (ValPostQ z b0 deep w i) := by
  have HO := Lib.hid ok
  have H0 := Lib.hid h
  clear h ok
  go_enter Tryd.func84, Tryd.ntmps84
  go_wp2_with fail
  generalize hW1 : World.alloc w _ = W1
  have hbw : Below w.heap.size w W1 := by rw [← hW1]; exact below_alloc1 _ _
  have hr1 : W1.heap[w.heap.size]? = some (.cells #[.int .i64 0, .int .i64 0, .string ByteArray.empty, .slice none 0 0, .slice none 0 0] 25 (0, 0)) := by rw [← hW1]; exact heap_alloc_new _ _
  have hs1 : W1.heap.size = w.heap.size + 1 := by rw [← hW1]; simp
  clear hW1
  refine (next_c HO.out (H0.out.grow hbw)).mono ?_
  rintro e w1 ⟨c, i1, b, rfl, h1, ho1, hc⟩
  obtain ⟨rfl, rfl, hr2, hi1⟩ := kind_is2 hc hb hr
  have hcb : w1.cell? ⟨z.rb, 3, none⟩ = some (.bool false) := cell_at h1.r 3 _ rfl
  have HV := Lib.hid (vq_start H0.out hbw hr1 h1 ho1 9)
  have HH := Lib.hid (headS_go (z := z.rc) (b0 := b0) deep ⟨hb, hr.trans (by rw [hr2]), hi1⟩ (show OkS deep 9 from ⟨hd, by decide, by decide, fun h => absurd h (by decide)⟩))
  have hne : ¬ w.heap.size = w1.heap.size := by have := HV.out.lt; omega
  have hne' : ¬ w1.heap.size = w.heap.size := by have := HV.out.lt; omega
  clear hbw hr1 hs1 h1 ho1 hc hr2 hi1
  go_wp2_with fail
  refine (next_c HO.out HV.out.rs).mono ?_
  rintro e w3 ⟨d, i2, b2, rfl, h3, ho3, hc3⟩
  have HV3 := Lib.hid (HV.out.call h3 ho3)
  have HP := Lib.hid (vs_flag HH.out hc3)
  clear h3 ho3 hc3 HV HH hcb
  have hw64 := wrap64_u8 d
  have HV4 := Lib.hid (HV3.out.set 1 (.int .i64 d.toNat))
  have e3 := free_at HV3.out.hv 1
  have HD := Lib.hid (HV4.out.done (OV.leaf _ (rng_u8 9) (rng_u8 d) (t := ByteArray.empty) (by simp)) List.nodup_nil (by simp) HP.out)
  have y0 := cell_at (HV3.out).hv 0 _ rfl
  have y1 := cell_at (HV3.out).hv 1 _ rfl
  have y2 := cell_at (HV3.out).hv 2 _ rfl
  have y3 := cell_at (HV3.out).hv 3 _ rfl
  have y4 := cell_at (HV3.out).hv 4 _ rfl
  have r0 := cell_at (HV3.out).hr 0 _ rfl
  have r1 := cell_at (HV3.out).hr 1 _ rfl
  have r2 := cell_at (HV3.out).hr 2 _ rfl
  have r3 := cell_at (HV3.out).hr 3 _ rfl
  have r4 := cell_at (HV3.out).hr 4 _ rfl
  have g0 := free_at (HV3.out).hr 0
  have g1 := free_at (HV3.out).hr 1
  have g2 := free_at (HV3.out).hr 2
  have g3 := free_at (HV3.out).hr 3
  have g4 := free_at (HV3.out).hr 4
  go_wp2_with fail
  exact bodyPost_ret (v := .agg #[.int .i64 9, .int .i64 d.toNat, .string ⟨#[]⟩, .slice none 0 0, .slice none 0 0]) (by simp [results, Tryd.results84, go_sem, r0, r1, r2, r3, r4]) rfl HD.out
set_option maxRecDepth 100000 in
set_option maxHeartbeats 4000000 in
theorem valueQ_text4 {z : QC} (ok : z.Ok) (deep : Nat) (hd : deep ≤ 21) {w : World} {i : Nat} {b0 : Bool} (h : QS z w i b0) {r : List UInt8} (hb : b0 = false) (hr : z.rc.rest i = 4 :: r) : Calls Tryd.prog 84 #[.pointer (some ⟨z.rb, 0, none⟩), .int .i64 (deep : Int)] w (ValPostQ z b0 deep w i) := by
  have hlen := ok.len
  have HO := Lib.hid ok
  have H0 := Lib.hid h
  clear h ok
  go_enter Tryd.func84, Tryd.ntmps84
  go_wp2_with fail
  generalize hW1 : World.alloc w _ = W1
  have hbw : Below w.heap.size w W1 := by rw [← hW1]; exact below_alloc1 _ _
  have hr1 : W1.heap[w.heap.size]? = some (.cells #[.int .i64 0, .int .i64 0, .string ByteArray.empty, .slice none 0 0, .slice none 0 0] 25 (0, 0)) := by rw [← hW1]; exact heap_alloc_new _ _
  have hs1 : W1.heap.size = w.heap.size + 1 := by rw [← hW1]; simp
  clear hW1
  refine (next_c HO.out (H0.out.grow hbw)).mono ?_
  rintro e w1 ⟨c, i1, b, rfl, h1, ho1, hc⟩
  obtain ⟨rfl, rfl, hr2, hi1⟩ := kind_is2 hc hb hr
  have hcb : w1.cell? ⟨z.rb, 3, none⟩ = some (.bool false) := cell_at h1.r 3 _ rfl
  have HV := Lib.hid (vq_start H0.out hbw hr1 h1 ho1 4)
  have HH := Lib.hid (headS_go (z := z.rc) (b0 := b0) deep ⟨hb, hr.trans (by rw [hr2]), hi1⟩ (show OkS deep 4 from ⟨hd, by decide, by decide, fun h => absurd h (by decide)⟩))
  have hne : ¬ w.heap.size = w1.heap.size := by have := HV.out.lt; omega
  have hne' : ¬ w1.heap.size = w.heap.size := by have := HV.out.lt; omega
  clear hbw hr1 hs1 h1 ho1 hc hr2 hi1
  go_wp2_with fail
  refine (rdtextQ_c HO.out HV.out.rs).mono ?_
  rintro e w3 ⟨d, i2, b2, rfl, h3, ho3, hc3⟩
  have HV3 := Lib.hid (HV.out.call h3 ho3)
  have HP := Lib.hid (vs_text (.inl rfl) HH.out hc3 h3.le)
  have hd3 : d.length ≤ z.bytes.length := hc3.2.2
  clear h3 ho3 hc3 HV HH hcb
  have e3 := free_at HV3.out.hv 2
  have HV4 := Lib.hid (HV3.out.set 2 (.string ⟨d.toArray⟩))
  have HD := Lib.hid (HV4.out.done (OV.leaf _ (rng_u8 4) rng_0 (t := ⟨d.toArray⟩) (show d.toArray.size ≤ _ by rw [List.size_toArray]; omega)) List.nodup_nil (by simp) HP.out)
  clear hd3
  have y0 := cell_at (HV3.out).hv 0 _ rfl
  have y1 := cell_at (HV3.out).hv 1 _ rfl
  have y2 := cell_at (HV3.out).hv 2 _ rfl
  have y3 := cell_at (HV3.out).hv 3 _ rfl
  have y4 := cell_at (HV3.out).hv 4 _ rfl
  have r0 := cell_at (HV3.out).hr 0 _ rfl
  have r1 := cell_at (HV3.out).hr 1 _ rfl
  have r2 := cell_at (HV3.out).hr 2 _ rfl
  have r3 := cell_at (HV3.out).hr 3 _ rfl
  have r4 := cell_at (HV3.out).hr 4 _ rfl
  have g0 := free_at (HV3.out).hr 0
  have g1 := free_at (HV3.out).hr 1
  have g2 := free_at (HV3.out).hr 2
  have g3 := free_at (HV3.out).hr 3
  have g4 := free_at (HV3.out).hr 4
  go_wp2_with fail
  exact bodyPost_ret (v := .agg #[.int .i64 4, .int .i64 0, .string ⟨d.toArray⟩, .slice none 0 0, .slice none 0 0]) (by simp [results, Tryd.results84, go_sem, r0, r1, r2, r3, r4]) rfl HD.out
set_option maxRecDepth 100000 in
set_option maxHeartbeats 4000000 in
theorem valueQ_text7 {z : QC} (ok : z.Ok) (deep : Nat) (hd : deep ≤ 21) {w : World} {i : Nat} {b0 : Bool} (h : QS z w i b0) {r : List UInt8} (hb : b0 = false) (hr : z.rc.rest i = 7 :: r) : Calls Tryd.prog 84 #[.pointer (some ⟨z.rb, 0, none⟩), .int .i64 (deep : Int)] w (ValPostQ z b0 deep w i) := by
  have hlen := ok.len
  have HO := Lib.hid ok
  have H0 := Lib.hid h
  clear h ok
  go_enter Tryd.func84, Tryd.ntmps84
  go_wp2_with fail
  generalize hW1 : World.alloc w _ = W1
  have hbw : Below w.heap.size w W1 := by rw [← hW1]; exact below_alloc1 _ _
  have hr1 : W1.heap[w.heap.size]? = some (.cells #[.int .i64 0, .int .i64 0, .string ByteArray.empty, .slice none 0 0, .slice none 0 0] 25 (0, 0)) := by rw [← hW1]; exact heap_alloc_new _ _
  have hs1 : W1.heap.size = w.heap.size + 1 := by rw [← hW1]; simp
  clear hW1
  refine (next_c HO.out (H0.out.grow hbw)).mono ?_
  rintro e w1 ⟨c, i1, b, rfl, h1, ho1, hc⟩
  obtain ⟨rfl, rfl, hr2, hi1⟩ := kind_is2 hc hb hr
  have hcb : w1.cell? ⟨z.rb, 3, none⟩ = some (.bool false) := cell_at h1.r 3 _ rfl
  have HV := Lib.hid (vq_start H0.out hbw hr1 h1 ho1 7)
  have HH := Lib.hid (headS_go (z := z.rc) (b0 := b0) deep ⟨hb, hr.trans (by rw [hr2]), hi1⟩ (show OkS deep 7 from ⟨hd, by decide, by decide, fun h => absurd h (by decide)⟩))
  have hne : ¬ w.heap.size = w1.heap.size := by have := HV.out.lt; omega
  have hne' : ¬ w1.heap.size = w.heap.size := by have := HV.out.lt; omega
  clear hbw hr1 hs1 h1 ho1 hc hr2 hi1
  go_wp2_with fail
  refine (rdtextQ_c HO.out HV.out.rs).mono ?_
  rintro e w3 ⟨d, i2, b2, rfl, h3, ho3, hc3⟩
  have HV3 := Lib.hid (HV.out.call h3 ho3)
  have HP := Lib.hid (vs_text (.inr rfl) HH.out hc3 h3.le)
  have hd3 : d.length ≤ z.bytes.length := hc3.2.2
  clear h3 ho3 hc3 HV HH hcb
  have e3 := free_at HV3.out.hv 2
  have HV4 := Lib.hid (HV3.out.set 2 (.string ⟨d.toArray⟩))
  have HD := Lib.hid (HV4.out.done (OV.leaf _ (rng_u8 7) rng_0 (t := ⟨d.toArray⟩) (show d.toArray.size ≤ _ by rw [List.size_toArray]; omega)) List.nodup_nil (by simp) HP.out)
  clear hd3
  have y0 := cell_at (HV3.out).hv 0 _ rfl
  have y1 := cell_at (HV3.out).hv 1 _ rfl
  have y2 := cell_at (HV3.out).hv 2 _ rfl
  have y3 := cell_at (HV3.out).hv 3 _ rfl
  have y4 := cell_at (HV3.out).hv 4 _ rfl
  have r0 := cell_at (HV3.out).hr 0 _ rfl
  have r1 := cell_at (HV3.out).hr 1 _ rfl
  have r2 := cell_at (HV3.out).hr 2 _ rfl
  have r3 := cell_at (HV3.out).hr 3 _ rfl
  have r4 := cell_at (HV3.out).hr 4 _ rfl
  have g0 := free_at (HV3.out).hr 0
  have g1 := free_at (HV3.out).hr 1
  have g2 := free_at (HV3.out).hr 2
  have g3 := free_at (HV3.out).hr 3
  have g4 := free_at (HV3.out).hr 4
  go_wp2_with fail
  exact bodyPost_ret (v := .agg #[.int .i64 7, .int .i64 0, .string ⟨d.toArray⟩, .slice none 0 0, .slice none 0 0]) (by simp [results, Tryd.results84, go_sem, r0, r1, r2, r3, r4]) rfl HD.out
end Go.Proofs.YthfejpldhemakaaDoor

namespace Go.Proofs.YthfejpldhemakaaDoor
open Go.RowKit Go.Sort Go.Lib
theorem add_byte (u : Nat) (d : UInt8) (h : u < 72057594037927936) : IntKind.u64.wrap (IntKind.u64.wrap ((u : Int) * 256) + IntKind.u64.wrap (d.toNat : Int)) = ((u * 256 + d.toNat : Nat) : Int) := by
  have hd := d.toNat_lt
  simp only [IntKind.wrap_u64]
  omega
theorem sub_back (u : Nat) (h : u < 18446744073709551616) : wrap64 (IntKind.u64.wrap ((u : Int) - 9223372036854775808)) = (u : Int) - 9223372036854775808 := by
  rw [IntKind.wrap_u64]
  unfold wrap64
  omega
set_option maxRecDepth 100000 in
set_option maxHeartbeats 4000000 in
theorem valueQ_num3 {z : QC} (ok : z.Ok) (deep : Nat) (hd : deep ≤ 21) {w : World} {i : Nat} {b0 : Bool} (h : QS z w i b0) {r : List UInt8} (hb : b0 = false) (hr : z.rc.rest i = 3 :: r) : Calls Tryd.prog 84 #[.pointer (some ⟨z.rb, 0, none⟩), .int .i64 (deep : Int)] w (ValPostQ z b0 deep w i) := by
  have HO := Lib.hid ok
  have H0 := Lib.hid h
  clear h ok
  go_enter Tryd.func84, Tryd.ntmps84
  go_wp2_with fail
  generalize hW1 : World.alloc w _ = W1
  have hbw : Below w.heap.size w W1 := by rw [← hW1]; exact below_alloc1 _ _
  have hr1 : W1.heap[w.heap.size]? = some (.cells #[.int .i64 0, .int .i64 0, .string ByteArray.empty, .slice none 0 0, .slice none 0 0] 25 (0, 0)) := by rw [← hW1]; exact heap_alloc_new _ _
  have hs1 : W1.heap.size = w.heap.size + 1 := by rw [← hW1]; simp
  clear hW1
  refine (next_c HO.out (H0.out.grow hbw)).mono ?_
  rintro e w1 ⟨c, i1, b, rfl, h1, ho1, hc⟩
  obtain ⟨rfl, rfl, hr2, hi1⟩ := kind_is2 hc hb hr
  have hcb : w1.cell? ⟨z.rb, 3, none⟩ = some (.bool false) := cell_at h1.r 3 _ rfl
  have HV := Lib.hid (vq_start H0.out hbw hr1 h1 ho1 3)
  have HH := Lib.hid (headS_go (z := z.rc) (b0 := b0) deep ⟨hb, hr.trans (by rw [hr2]), hi1⟩ (show OkS deep 3 from ⟨hd, by decide, by decide, fun h => absurd h (by decide)⟩))
  have hne : ¬ w.heap.size = w1.heap.size := by have := HV.out.lt; omega
  have hne' : ¬ w1.heap.size = w.heap.size := by have := HV.out.lt; omega
  clear hbw hr1 hs1 h1 ho1 hc hr2 hi1
  go_wp2_with fail
  clear hcb
  generalize hW2 : World.alloc w1 _ = W2
  have HV2 : Hid (VQ z w W2 i1 false w1.heap.size #[.int .i64 3, .int .i64 0, .string ⟨#[]⟩, .slice none 0 0, .slice none 0 0]) := Lib.hid (by rw [← hW2]; exact HV.out)
  clear hW2 HV
  go_loopw [7, 8] (fun uu ix wr => ∃ (j : Nat) (l : List UInt8) (i2 : Nat) (b2 : Bool), j ≤ 8 ∧ ix = .int .i64 (j:Int) ∧ uu = .int .u64 (val8 l : Int) ∧ Hid (l.length = j ∧ VQ z w wr i2 b2 w1.heap.size #[.int .i64 3, .int .i64 0, .string ⟨#[]⟩, .slice none 0 0, .slice none 0 0] ∧ BytesP z.rc false i1 l i2 b2)) (fun _ ix _ => 8 - (RowKit.intOf ix).toNat)
  case atStart => exact ⟨0, [], i1, false, by omega, rfl, rfl, Lib.hid ⟨rfl, HV2.out, BytesP.nil _ _ _⟩⟩
  case round =>
    obtain ⟨j, l, i2, b2, hj, rfl, rfl, H⟩ := hrel
    by_cases hlt : j < 8
    · go_wp2_with fail
      refine (next_c HO.out H.out.2.1.rs).mono ?_
      rintro e w3 ⟨d, i3, b3, rfl, h3, ho3, hc3⟩
      have hv8 : val8 l < 72057594037927936 := by
        have h1 := val8_pow l (by have := H.out.1; omega)
        have h2 : 256 ^ l.length ≤ 256 ^ 7 := Nat.pow_le_pow_right (by decide) (by have := H.out.1; omega)
        have h3 : (256 : Nat) ^ 7 = 72057594037927936 := by decide
        omega
      have hor := add_byte (val8 l) d hv8
      have H' := Lib.hid (And.intro (H.out.2.1.call h3 ho3) (H.out.2.2.snoc hc3))
      clear hv8 h3 ho3 hc3
      go_wp2_with fail
      go_roundw
      case rel => exact ⟨j + 1, l ++ [d], i3, b3, by omega, by go_num, by rw [val8_snoc]; simp, Lib.hid ⟨by simp [H.out.1], H'.out.1, H'.out.2⟩⟩
      case measure => simp [RowKit.intOf]; omega
    · obtain rfl : j = 8 := by omega
      have hv8 := val8_lt l H.out.1
      have hx := sub_back (val8 l) hv8
      obtain ⟨U, hU⟩ : ∃ U : Int, (val8 l : Int) - 9223372036854775808 = U := ⟨_, rfl⟩
      have hrn : Rng U := ⟨by omega, by omega⟩
      have HP := vs_num (.inl rfl) HH.out H.out.2.2 H.out.1
      rw [hU] at HP hx
      have HP := Lib.hid HP
      clear HH hlt
      have e3 := free_at H.out.2.1.hv 1
      have HV4 := Lib.hid (H.out.2.1.set 1 (.int .i64 U))
      have HD := Lib.hid (HV4.out.done (OV.leaf _ (rng_u8 3) hrn (t := ByteArray.empty) (by simp)) List.nodup_nil (by simp) HP.out)
      clear hrn hv8
      have y0 := cell_at (H.out.2.1).hv 0 _ rfl
      have y1 := cell_at (H.out.2.1).hv 1 _ rfl
      have y2 := cell_at (H.out.2.1).hv 2 _ rfl
      have y3 := cell_at (H.out.2.1).hv 3 _ rfl
      have y4 := cell_at (H.out.2.1).hv 4 _ rfl
      have r0 := cell_at (H.out.2.1).hr 0 _ rfl
      have r1 := cell_at (H.out.2.1).hr 1 _ rfl
      have r2 := cell_at (H.out.2.1).hr 2 _ rfl
      have r3 := cell_at (H.out.2.1).hr 3 _ rfl
      have r4 := cell_at (H.out.2.1).hr 4 _ rfl
      have g0 := free_at (H.out.2.1).hr 0
      have g1 := free_at (H.out.2.1).hr 1
      have g2 := free_at (H.out.2.1).hr 2
      have g3 := free_at (H.out.2.1).hr 3
      have g4 := free_at (H.out.2.1).hr 4
      go_wp2_with fail
      exact bodyPost_ret (v := .agg #[.int .i64 3, .int .i64 U, .string ⟨#[]⟩, .slice none 0 0, .slice none 0 0]) (by simp [results, Tryd.results84, go_sem, r0, r1, r2, r3, r4]) rfl HD.out
set_option maxRecDepth 100000 in
set_option maxHeartbeats 4000000 in
theorem valueQ_num10 {z : QC} (ok : z.Ok) (deep : Nat) (hd : deep ≤ 21) {w : World} {i : Nat} {b0 : Bool} (h : QS z w i b0) {r : List UInt8} (hb : b0 = false) (hr : z.rc.rest i = 10 :: r) : Calls Tryd.prog 84 #[.pointer (some ⟨z.rb, 0, none⟩), .int .i64 (deep : Int)] w (ValPostQ z b0 deep w i) := by
  have HO := Lib.hid ok
  have H0 := Lib.hid h
  clear h ok
  go_enter Tryd.func84, Tryd.ntmps84
  go_wp2_with fail
  generalize hW1 : World.alloc w _ = W1
  have hbw : Below w.heap.size w W1 := by rw [← hW1]; exact below_alloc1 _ _
  have hr1 : W1.heap[w.heap.size]? = some (.cells #[.int .i64 0, .int .i64 0, .string ByteArray.empty, .slice none 0 0, .slice none 0 0] 25 (0, 0)) := by rw [← hW1]; exact heap_alloc_new _ _
  have hs1 : W1.heap.size = w.heap.size + 1 := by rw [← hW1]; simp
  clear hW1
  refine (next_c HO.out (H0.out.grow hbw)).mono ?_
  rintro e w1 ⟨c, i1, b, rfl, h1, ho1, hc⟩
  obtain ⟨rfl, rfl, hr2, hi1⟩ := kind_is2 hc hb hr
  have hcb : w1.cell? ⟨z.rb, 3, none⟩ = some (.bool false) := cell_at h1.r 3 _ rfl
  have HV := Lib.hid (vq_start H0.out hbw hr1 h1 ho1 10)
  have HH := Lib.hid (headS_go (z := z.rc) (b0 := b0) deep ⟨hb, hr.trans (by rw [hr2]), hi1⟩ (show OkS deep 10 from ⟨hd, by decide, by decide, fun h => absurd h (by decide)⟩))
  have hne : ¬ w.heap.size = w1.heap.size := by have := HV.out.lt; omega
  have hne' : ¬ w1.heap.size = w.heap.size := by have := HV.out.lt; omega
  clear hbw hr1 hs1 h1 ho1 hc hr2 hi1
  go_wp2_with fail
  clear hcb
  generalize hW2 : World.alloc w1 _ = W2
  have HV2 : Hid (VQ z w W2 i1 false w1.heap.size #[.int .i64 10, .int .i64 0, .string ⟨#[]⟩, .slice none 0 0, .slice none 0 0]) := Lib.hid (by rw [← hW2]; exact HV.out)
  clear hW2 HV
  go_loopw [7, 8] (fun uu ix wr => ∃ (j : Nat) (l : List UInt8) (i2 : Nat) (b2 : Bool), j ≤ 8 ∧ ix = .int .i64 (j:Int) ∧ uu = .int .u64 (val8 l : Int) ∧ Hid (l.length = j ∧ VQ z w wr i2 b2 w1.heap.size #[.int .i64 10, .int .i64 0, .string ⟨#[]⟩, .slice none 0 0, .slice none 0 0] ∧ BytesP z.rc false i1 l i2 b2)) (fun _ ix _ => 8 - (RowKit.intOf ix).toNat)
  case atStart => exact ⟨0, [], i1, false, by omega, rfl, rfl, Lib.hid ⟨rfl, HV2.out, BytesP.nil _ _ _⟩⟩
  case round =>
    obtain ⟨j, l, i2, b2, hj, rfl, rfl, H⟩ := hrel
    by_cases hlt : j < 8
    · go_wp2_with fail
      refine (next_c HO.out H.out.2.1.rs).mono ?_
      rintro e w3 ⟨d, i3, b3, rfl, h3, ho3, hc3⟩
      have hv8 : val8 l < 72057594037927936 := by
        have h1 := val8_pow l (by have := H.out.1; omega)
        have h2 : 256 ^ l.length ≤ 256 ^ 7 := Nat.pow_le_pow_right (by decide) (by have := H.out.1; omega)
        have h3 : (256 : Nat) ^ 7 = 72057594037927936 := by decide
        omega
      have hor := add_byte (val8 l) d hv8
      have H' := Lib.hid (And.intro (H.out.2.1.call h3 ho3) (H.out.2.2.snoc hc3))
      clear hv8 h3 ho3 hc3
      go_wp2_with fail
      go_roundw
      case rel => exact ⟨j + 1, l ++ [d], i3, b3, by omega, by go_num, by rw [val8_snoc]; simp, Lib.hid ⟨by simp [H.out.1], H'.out.1, H'.out.2⟩⟩
      case measure => simp [RowKit.intOf]; omega
    · obtain rfl : j = 8 := by omega
      have hv8 := val8_lt l H.out.1
      have hx := sub_back (val8 l) hv8
      obtain ⟨U, hU⟩ : ∃ U : Int, (val8 l : Int) - 9223372036854775808 = U := ⟨_, rfl⟩
      have hrn : Rng U := ⟨by omega, by omega⟩
      have HP := vs_num (.inr rfl) HH.out H.out.2.2 H.out.1
      rw [hU] at HP hx
      have HP := Lib.hid HP
      clear HH hlt
      have e3 := free_at H.out.2.1.hv 1
      have HV4 := Lib.hid (H.out.2.1.set 1 (.int .i64 U))
      have HD := Lib.hid (HV4.out.done (OV.leaf _ (rng_u8 10) hrn (t := ByteArray.empty) (by simp)) List.nodup_nil (by simp) HP.out)
      clear hrn hv8
      have y0 := cell_at (H.out.2.1).hv 0 _ rfl
      have y1 := cell_at (H.out.2.1).hv 1 _ rfl
      have y2 := cell_at (H.out.2.1).hv 2 _ rfl
      have y3 := cell_at (H.out.2.1).hv 3 _ rfl
      have y4 := cell_at (H.out.2.1).hv 4 _ rfl
      have r0 := cell_at (H.out.2.1).hr 0 _ rfl
      have r1 := cell_at (H.out.2.1).hr 1 _ rfl
      have r2 := cell_at (H.out.2.1).hr 2 _ rfl
      have r3 := cell_at (H.out.2.1).hr 3 _ rfl
      have r4 := cell_at (H.out.2.1).hr 4 _ rfl
      have g0 := free_at (H.out.2.1).hr 0
      have g1 := free_at (H.out.2.1).hr 1
      have g2 := free_at (H.out.2.1).hr 2
      have g3 := free_at (H.out.2.1).hr 3
      have g4 := free_at (H.out.2.1).hr 4
      go_wp2_with fail
      exact bodyPost_ret (v := .agg #[.int .i64 10, .int .i64 U, .string ⟨#[]⟩, .slice none 0 0, .slice none 0 0]) (by simp [results, Tryd.results84, go_sem, r0, r1, r2, r3, r4]) rfl HD.out
set_option maxRecDepth 100000 in
set_option maxHeartbeats 4000000 in
theorem valueQ_id {z : QC} (ok : z.Ok) (deep : Nat) (hd : deep ≤ 21) {w : World} {i : Nat} {b0 : Bool} (h : QS z w i b0) {r : List UInt8} (hb : b0 = false) (hr : z.rc.rest i = 8 :: r) : Calls Tryd.prog 84 #[.pointer (some ⟨z.rb, 0, none⟩), .int .i64 (deep : Int)] w (ValPostQ z b0 deep w i) := by
  have HO := Lib.hid ok
  have H0 := Lib.hid h
  clear h ok
  go_enter Tryd.func84, Tryd.ntmps84
  go_wp2_with fail
  generalize hW1 : World.alloc w _ = W1
  have hbw : Below w.heap.size w W1 := by rw [← hW1]; exact below_alloc1 _ _
  have hr1 : W1.heap[w.heap.size]? = some (.cells #[.int .i64 0, .int .i64 0, .string ByteArray.empty, .slice none 0 0, .slice none 0 0] 25 (0, 0)) := by rw [← hW1]; exact heap_alloc_new _ _
  have hs1 : W1.heap.size = w.heap.size + 1 := by rw [← hW1]; simp
  clear hW1
  refine (next_c HO.out (H0.out.grow hbw)).mono ?_
  rintro e w1 ⟨c, i1, b, rfl, h1, ho1, hc⟩
  obtain ⟨rfl, rfl, hr2, hi1⟩ := kind_is2 hc hb hr
  have hcb : w1.cell? ⟨z.rb, 3, none⟩ = some (.bool false) := cell_at h1.r 3 _ rfl
  have HV := Lib.hid (vq_start H0.out hbw hr1 h1 ho1 8)
  have HH := Lib.hid (headS_go (z := z.rc) (b0 := b0) deep ⟨hb, hr.trans (by rw [hr2]), hi1⟩ (show OkS deep 8 from ⟨hd, by decide, by decide, fun h => absurd h (by decide)⟩))
  have hne : ¬ w.heap.size = w1.heap.size := by have := HV.out.lt; omega
  have hne' : ¬ w1.heap.size = w.heap.size := by have := HV.out.lt; omega
  clear hbw hr1 hs1 h1 ho1 hc hr2 hi1
  go_wp2_with fail
  clear hcb
  generalize hW2 : World.alloc w1 _ = W2
  have HV2 : Hid (VQ z w W2 i1 false w1.heap.size #[.int .i64 8, .int .i64 0, .string ⟨#[]⟩, .slice none 0 0, .slice none 0 0]) := Lib.hid (by rw [← hW2]; exact HV.out)
  clear hW2 HV
  go_loopw [9, 10] (fun vv ix wr => ∃ (j : Nat) (l : List UInt8) (i2 : Nat) (b2 : Bool), j ≤ 12 ∧ ix = .int .i64 (j:Int) ∧ Hid (l.length = j ∧ VQ z w wr i2 b2 w1.heap.size #[.int .i64 8, .int .i64 0, .string ⟨#[]⟩, .slice none 0 0, .slice none 0 0] ∧ BytesP z.rc false i1 l i2 b2 ∧ BO wr vv l ∧ (∀ g, vv.ownBlock = some g → w1.heap.size < g))) (fun _ ix _ => 12 - (RowKit.intOf ix).toNat)
  case atStart => exact ⟨0, [], i1, false, by omega, rfl, Lib.hid ⟨rfl, HV2.out, BytesP.nil _ _ _, BO.nil _, by simp [Value.ownBlock]⟩⟩
  case round =>
    obtain ⟨j, l, i2, b2, hj, rfl, H⟩ := hrel
    by_cases hlt : j < 12
    · go_wp2_with fail
      refine (next_c HO.out H.out.2.1.rs).mono ?_
      rintro e w3 ⟨d, i3, b3, rfl, h3, ho3, hc3⟩
      have hbo : BO w3 u9 l := H.out.2.2.2.1.at_ fun g hg => ho3.block g (H.out.2.2.2.1.lt hg) (fun hq => by have := H.out.2.2.2.2 g hg; have := H.out.2.1.r; have := H.out.2.1.lt; omega)
      have H' := Lib.hid (And.intro (H.out.2.1.call h3 ho3) (And.intro (H.out.2.2.1.snoc hc3) hbo))
      have hl12 : l.length ≤ 11 := by have := H.out.1; omega
      clear h3 ho3 hc3
      go_wp2_with (refine wpList_app (by rfl) _ _ (by rfl) u9 l [d] (by rfl) (hbo.grow (below_alloc1 _ _)) ⟨w3.heap.size, 0, none⟩ 1 (by rfl) (news1 (heap_alloc_new w3 _) rfl) (by simp) (by simp; omega) (l.length + 1) (by simp) ?_; intro g3 cap3 w5 hb5 hg5)
      go_roundw
      case rel =>
        have hv := (H'.out.1.grow (below_alloc1 w3 (.cells #[.int .u8 (d.toNat : Int)] 5))).keep (Only.of_grown hg5.grown) (fun q hq => by have := H.out.2.2.2.2 q hq.symm; have := H.out.2.1.lt; omega)
        exact ⟨j + 1, l ++ [d], i3, b3, by omega, by go_num, Lib.hid ⟨by simp [H.out.1], hv, H'.out.2.1, hb5, hg5.from_ (B := w1.heap.size + 1) (by have := block_lt H'.out.1.hv; simp; omega) H.out.2.2.2.2⟩⟩
      case measure => simp [RowKit.intOf]; omega
    · obtain rfl : j = 12 := by omega
      have hcv := str_back wr u9 l H.out.2.2.2.1
      have HP := Lib.hid (vs_id HH.out H.out.2.2.1 H.out.1)
      clear HH hlt
      have e3 := free_at H.out.2.1.hv 2
      have HV4 := Lib.hid (H.out.2.1.set 2 (.string ⟨l.toArray⟩))
      have HD := Lib.hid (HV4.out.done (OV.leaf _ (rng_u8 8) rng_0 (t := ⟨l.toArray⟩) (show l.toArray.size ≤ _ by rw [List.size_toArray, H.out.1]; decide)) List.nodup_nil (by simp) HP.out)
      have y0 := cell_at (H.out.2.1).hv 0 _ rfl
      have y1 := cell_at (H.out.2.1).hv 1 _ rfl
      have y2 := cell_at (H.out.2.1).hv 2 _ rfl
      have y3 := cell_at (H.out.2.1).hv 3 _ rfl
      have y4 := cell_at (H.out.2.1).hv 4 _ rfl
      have r0 := cell_at (H.out.2.1).hr 0 _ rfl
      have r1 := cell_at (H.out.2.1).hr 1 _ rfl
      have r2 := cell_at (H.out.2.1).hr 2 _ rfl
      have r3 := cell_at (H.out.2.1).hr 3 _ rfl
      have r4 := cell_at (H.out.2.1).hr 4 _ rfl
      have g0 := free_at (H.out.2.1).hr 0
      have g1 := free_at (H.out.2.1).hr 1
      have g2 := free_at (H.out.2.1).hr 2
      have g3 := free_at (H.out.2.1).hr 3
      have g4 := free_at (H.out.2.1).hr 4
      go_wp2_with fail
      exact bodyPost_ret (v := .agg #[.int .i64 8, .int .i64 0, .string ⟨l.toArray⟩, .slice none 0 0, .slice none 0 0]) (by simp [results, Tryd.results84, go_sem, r0, r1, r2, r3, r4]) rfl HD.out
end Go.Proofs.YthfejpldhemakaaDoor

namespace Go.Proofs.YthfejpldhemakaaDoor
open Go.RowKit Go.Sort Go.Lib
/-- One more value in the list that is being read. -/
theorem list_roundQ {z : QC} {w w3 w4 w5 : World} {i3 i4 : Nat} {b3 b4 : Bool} {vb g cap : Nat} {o : Obj} {L : List (V × List Value × List Nat)} {sl : Value} {x : V} {cx : List Value} {F : List Nat} {k : Int}
    (hv : VQ z w w3 i3 b3 vb #[.int .i64 k, .int .i64 0, .string ⟨#[]⟩, sl, .slice none 0 0]) (hpl : PL w3 (vb + 1) L sl) (hr : QS z w4 i4 b4) (ho : Only (· = z.rb) w3 w4)
    (hov : OV false w4 x cx F) (hnd : F.Nodup) (hfr : ∀ g ∈ F, w3.heap.size ≤ g)
    (hown : w5.ownsRow 0 25 5 (.slice (some ⟨g, 0, none⟩) (L.length + 1) cap) (L.length + 1) (L.flatMap (·.2.1) ++ cx)) (hgrow : (w4.alloc o).grownBy w5 sl.ownBlock) (hat : sl.ownBlock = some g ∨ g = w4.heap.size + 1) :
    PL (w5.setCell ⟨vb, 3, none⟩ (.slice (some ⟨g, 0, none⟩) (L.length + 1) cap)) (vb + 1) (L ++ [(x, cx, F)]) (.slice (some ⟨g, 0, none⟩) (L.length + 1) cap) ∧
      VQ z w (w5.setCell ⟨vb, 3, none⟩ (.slice (some ⟨g, 0, none⟩) (L.length + 1) cap)) i4 b4 vb #[.int .i64 k, .int .i64 0, .string ⟨#[]⟩, .slice (some ⟨g, 0, none⟩) (L.length + 1) cap, .slice none 0 0] := by
  have hlt := block_lt hv.hv
  have h0 := hv.lt
  have hs := ho.size
  have hpl4 := hpl.only ho (fun g hg => by have := hv.r; omega)
  have hnew := PL.snoc (w := w4.alloc o) (hpl4.grow (below_alloc1 _ _)) (hov.grow (below_alloc1 _ _)) hnd (fun g hg => ⟨by have := hfr g hg; omega, fun hm => by have := hpl.lt g hm; have := hfr g hg; omega⟩) hown hgrow (hat.imp id (fun h => h)) (by simp) (by simp; omega)
  refine ⟨hnew.only (only_set w5 vb 3 _) (fun k hk => by omega), ?_⟩
  have h1 := ((hv.call hr ho).grow (below_alloc1 w4 o)).keep (Only.of_grown hgrow) (fun q hq => by
    have := hpl.from_ q (List.mem_append_left _ (by rw [← hq]; simp))
    omega)
  exact h1.set 3 _
/-- One more field in the document that is being read. -/
theorem doc_roundQ {z : QC} {w w3 w4 w5 : World} {i3 i4 : Nat} {b3 b4 : Bool} {vb g cap : Nat} {o : Obj} {L : List (ByteArray × V × List Value × List Nat)} {sl : Value} {nm : ByteArray} {x : V} {cx : List Value} {F : List Nat} {k : Int}
    (hv : VQ z w w3 i3 b3 vb #[.int .i64 k, .int .i64 0, .string ⟨#[]⟩, .slice none 0 0, sl]) (hpl : PD w3 (vb + 1) L sl) (hr : QS z w4 i4 b4) (ho : Only (· = z.rb) w3 w4)
    (hov : OV false w4 x cx F) (hnd : F.Nodup) (hfr : ∀ g ∈ F, w3.heap.size ≤ g)
    (hown : w5.ownsRow 0 72 6 (.slice (some ⟨g, 0, none⟩) (L.length + 1) cap) (L.length + 1) ((L.flatMap fun c => .string c.1 :: c.2.2.1) ++ .string nm :: cx)) (hgrow : (w4.alloc o).grownBy w5 sl.ownBlock) (hat : sl.ownBlock = some g ∨ g = w4.heap.size + 1) :
    PD (w5.setCell ⟨vb, 4, none⟩ (.slice (some ⟨g, 0, none⟩) (L.length + 1) cap)) (vb + 1) (L ++ [(nm, x, cx, F)]) (.slice (some ⟨g, 0, none⟩) (L.length + 1) cap) ∧
      VQ z w (w5.setCell ⟨vb, 4, none⟩ (.slice (some ⟨g, 0, none⟩) (L.length + 1) cap)) i4 b4 vb #[.int .i64 k, .int .i64 0, .string ⟨#[]⟩, .slice none 0 0, .slice (some ⟨g, 0, none⟩) (L.length + 1) cap] := by
  have hlt := block_lt hv.hv
  have h0 := hv.lt
  have hs := ho.size
  have hpl4 := hpl.only ho (fun g hg => by have := hv.r; omega)
  have hnew := PD.snoc (w := w4.alloc o) (hpl4.grow (below_alloc1 _ _)) (hov.grow (below_alloc1 _ _)) hnd (fun g hg => ⟨by have := hfr g hg; omega, fun hm => by have := hpl.lt g hm; have := hfr g hg; omega⟩) hown hgrow (hat.imp id (fun h => h)) (by simp) (by simp; omega)
  refine ⟨hnew.only (only_set w5 vb 4 _) (fun k hk => by omega), ?_⟩
  have h1 := ((hv.call hr ho).grow (below_alloc1 w4 o)).keep (Only.of_grown hgrow) (fun q hq => by
    have := hpl.from_ q (List.mem_append_left _ (by rw [← hq]; simp))
    omega)
  exact h1.set 4 _
set_option maxRecDepth 100000 in
set_option maxHeartbeats 4000000 in
theorem valueQ_list {z : QC} (ok : z.Ok) (deep : Nat) (hd : deep ≤ 21) {w : World} {i : Nat} {b0 : Bool} (h : QS z w i b0) {r : List UInt8} (hb : b0 = false) (hr : z.rc.rest i = 6 :: r) (hd20 : deep ≤ 20)
    (ih : ∀ (w : World) (i : Nat) (b0 : Bool), QS z w i b0 → Calls Tryd.prog 84 #[.pointer (some ⟨z.rb, 0, none⟩), .int .i64 ((deep : Int) + 1)] w (ValPostQ z b0 (deep + 1) w i)) : Calls Tryd.prog 84 #[.pointer (some ⟨z.rb, 0, none⟩), .int .i64 (deep : Int)] w (ValPostQ z b0 deep w i) := by
  have IH := Lib.hid ih
  have HZ := Lib.hid ok.len
  have HD20 := Lib.hid hd20
  have hdi : (deep : Int) ≤ 20 := by omega
  have hdn : ¬ (20 : Int) < (deep : Int) := by omega
  clear ih hd20
  obtain ⟨i0, hi0, hz0, hz1, hz2⟩ := info_parts info25
  have HO := Lib.hid ok
  have H0 := Lib.hid h
  clear h ok
  go_enter Tryd.func84, Tryd.ntmps84
  go_wp2_with fail
  generalize hW1 : World.alloc w _ = W1
  have hbw : Below w.heap.size w W1 := by rw [← hW1]; exact below_alloc1 _ _
  have hr1 : W1.heap[w.heap.size]? = some (.cells #[.int .i64 0, .int .i64 0, .string ByteArray.empty, .slice none 0 0, .slice none 0 0] 25 (0, 0)) := by rw [← hW1]; exact heap_alloc_new _ _
  have hs1 : W1.heap.size = w.heap.size + 1 := by rw [← hW1]; simp
  clear hW1
  refine (next_c HO.out (H0.out.grow hbw)).mono ?_
  rintro e w1 ⟨c, i1, b, rfl, h1, ho1, hc⟩
  obtain ⟨rfl, rfl, hr2, hi1⟩ := kind_is2 hc hb hr
  have hcb : w1.cell? ⟨z.rb, 3, none⟩ = some (.bool false) := cell_at h1.r 3 _ rfl
  have HV := Lib.hid (vq_start H0.out hbw hr1 h1 ho1 6)
  have HH := Lib.hid (headS_go (z := z.rc) (b0 := b0) deep ⟨hb, hr.trans (by rw [hr2]), hi1⟩ (show OkS deep 6 from ⟨hd, by decide, by decide, fun _ => HD20.out⟩))
  have hne : ¬ w.heap.size = w1.heap.size := by have := HV.out.lt; omega
  have hne' : ¬ w1.heap.size = w.heap.size := by have := HV.out.lt; omega
  clear hbw hr1 hs1 h1 ho1 hc hr2 hi1
  go_wp2_with fail
  clear hcb
  generalize hW2 : World.alloc w1 _ = W2
  have HV2 : Hid (VQ z w W2 i1 false w1.heap.size #[.int .i64 6, .int .i64 0, .string ⟨#[]⟩, .slice none 0 0, .slice none 0 0]) := Lib.hid (by rw [← hW2]; exact HV.out)
  clear hW2 HV
  go_loopg [] (z.bytes.length + 1) (fun gg wr => ∃ (L : List (V × List Value × List Nat)) (sl : Value) (i2 : Nat) (b2 : Bool), Hid (VQ z w wr i2 b2 w1.heap.size #[.int .i64 6, .int .i64 0, .string ⟨#[]⟩, sl, .slice none 0 0] ∧ PL wr (w1.heap.size + 1) L sl ∧ ListS z.rc (deep + 1) false i1 (L.map (·.1)) i2 b2 ∧ L.length ≤ 1000 ∧ (b2 = false → L.length ≤ i2)) ∧ (if b2 then 0 else z.bytes.length - i2 + 1) ≤ gg)
  case atStart =>
    refine ⟨[], _, i1, false, Lib.hid ⟨HV2.out, PL.nil _ _, ListS.nil _ _ _ _, by simp, by simp⟩, ?_⟩
    simp
  case round =>
    obtain ⟨L, sl, i2, b2, H, hgg⟩ := hrel
    have HGG := Lib.hid hgg
    clear hgg HV2
    go_wp2_with fail
    refine (rmore_c HO.out H.out.1.rs).mono ?_
    rintro e w3 ⟨r', i3, b3, rfl, h3, ho3, hm⟩
    have HV3 := Lib.hid (H.out.1.call h3 ho3)
    have HP3 := Lib.hid (H.out.2.1.only ho3 (fun g hg => by have := H.out.1.r; have := H.out.1.lt; omega))
    clear h3 ho3
    rcases hm with ⟨rfl, rfl, hb2, hr1, hi3⟩ | hm
    · have HM := Lib.hid (And.intro hb2 (And.intro hr1 hi3))
      have HL := Lib.hid (show L.length ≤ 999 by have := H.out.2.2.2.2 hb2; have := HV3.out.rs.le; have := HZ.out; omega)
      clear hb2 hr1 hi3
      have hcall := IH.out w3 i3 false HV3.out.rs
      go_wp2_with fail
      refine hcall.mono ?_
      clear hcall
      rintro e w4 ⟨x, cs', F', i4, b4, rfl, hov, hnd, hfr, hrs4, ho4, hvp⟩
      obtain ⟨xk, xi, xt, xl, xd⟩ := x
      obtain ⟨p0, q0, p1, q1, rfl, _, _, _, _, _⟩ := hov.rv.inv
      have HV4 := Lib.hid (HV3.out.call hrs4 ho4)
      have HP4 := Lib.hid (HP3.out.only ho4 (fun g hg => by have := HV3.out.r; have := HV3.out.lt; omega))
      have cb1 := cell_alloc1 (cell_at HV4.out.hv 3 _ rfl)
      have cb2 := cell_alloc2 (cell_at HV4.out.hv 3 _ rfl)
      have HX4 := Lib.hid (And.intro hov (And.intro hnd (And.intro hfr (And.intro hrs4 (And.intro ho4 hvp)))))
      clear hov hnd hfr hrs4 ho4 hvp
      go_wp2_with (refine wpList_append_lies _ (by rfl) _ _ 22 (by rfl) 0 25 i0 _ 5 80 Tryd.underlying22 hi0 hz0 hz1 hz2 rfl (by omega) sl L.length (L.flatMap (·.2.1)) (by rfl) ((HP4.out.row.alloc _).alloc _) ⟨w4.heap.size + 1, 0, none⟩ 1 1 [.int .i64 xk, .int .i64 xi, .string xt, .slice p0 xl.length q0, .slice p1 xd.length q1] (by rfl) (by rfl) (World.news_of_block (heap_new1 w4 _ _)) (by simp [Value.oneCell']) (by omega) (by have := HL.out; simp [maxLen]; omega) (by have := HL.out; omega) (by omega) (w4.heap.size + 2) (by simp) ?_; intro g cap w5 hown hgrow hat hlt2; have hbx := Lib.hid ((HP4.out.grow (below_alloc1 w4 _)).box (((below_alloc1 w4 _).block _ (block_lt HV4.out.hv)).trans HV4.out.hv) hgrow (by omega)); have cb3 := cell_at hbx.out 3 _ rfl; have fb3 := free_at hbx.out 3)
      go_roundg (if b4 then 0 else z.bytes.length - i4 + 1)
      case measure =>
        have h1 := HGG.out
        rw [HM.out.1] at h1
        have h2 := HM.out.2.2
        have h3 := HV4.out.rs.le
        have h4 := HX4.out.2.2.2.2.2.1
        cases b4
        · have := (h4 rfl).2.1
          simp at h1 ⊢
          omega
        · simp at h1 ⊢
          omega
      case rel =>
        have ha := below_alloc1 w4 (.cells #[.int .i64 xk, .int .i64 xi, .string xt, .slice p0 xl.length q0, .slice p1 xd.length q1] 25)
        have R := list_roundQ HV3.out HP3.out (HX4.out.2.2.2.1.grow ha) (HX4.out.2.2.2.2.1.trans (Only.of_below (S := (· = z.rb)) ha) (fun _ _ h => h)) (HX4.out.1.grow ha) HX4.out.2.1 HX4.out.2.2.1 hown hgrow (by simpa using hat)
        refine ⟨L ++ [(.mk xk xi xt xl xd, [.int .i64 xk, .int .i64 xi, .string xt, .slice p0 xl.length q0, .slice p1 xd.length q1], F')], _, i4, b4, Lib.hid ⟨R.2, R.1, ?_, by have := HL.out; simp; omega, fun hb4 => ?_⟩, Nat.le_refl _⟩
        · have := H.out.2.2.1.more HM.out.1 HM.out.2.1 HM.out.2.2 HX4.out.2.2.2.2.2 HV4.out.rs.le
          simpa using this
        · have h1 := H.out.2.2.2.2 HM.out.1
          have h2 := (HX4.out.2.2.2.2.2.1 hb4).2.1
          have h3 := HM.out.2.2
          simp; omega
    · have hr' : r' = false := by rcases hm with ⟨h, _⟩ | ⟨h, _⟩ <;> exact h
      subst hr'
      have hP := vs_list HH.out H.out.2.2.1 (hm.imp (fun h => h.2) (fun h => h.2))
      obtain ⟨A1, c1, rfl, _⟩ := ownsRow_slice H.out.2.1.row
      obtain ⟨F, o1, o2, o3⟩ := OV.of_rows (rng_u8 6) rng_0 (t := ByteArray.empty) (by simp) (by have := H.out.2.2.2.1; omega) (by simp) (by simp) HP3.out (PD.nil w3 (w1.heap.size + 1)) (by simp [Value.ownBlock])
      have HD := Lib.hid (HV3.out.done o1 o2 (fun g hg => by have := o3 g hg; omega) hP)
      clear o1 o2 o3 hP hm
      have y0 := cell_at (HV3.out).hv 0 _ rfl
      have y1 := cell_at (HV3.out).hv 1 _ rfl
      have y2 := cell_at (HV3.out).hv 2 _ rfl
      have y3 := cell_at (HV3.out).hv 3 _ rfl
      have y4 := cell_at (HV3.out).hv 4 _ rfl
      have r0 := cell_at (HV3.out).hr 0 _ rfl
      have r1 := cell_at (HV3.out).hr 1 _ rfl
      have r2 := cell_at (HV3.out).hr 2 _ rfl
      have r3 := cell_at (HV3.out).hr 3 _ rfl
      have r4 := cell_at (HV3.out).hr 4 _ rfl
      have g0 := free_at (HV3.out).hr 0
      have g1 := free_at (HV3.out).hr 1
      have g2 := free_at (HV3.out).hr 2
      have g3 := free_at (HV3.out).hr 3
      have g4 := free_at (HV3.out).hr 4
      go_wp2_with fail
      exact bodyPost_ret (v := .agg #[.int .i64 6, .int .i64 0, .string ⟨#[]⟩, .slice A1 L.length c1, .slice none 0 0]) (by simp [results, Tryd.results84, go_sem, r0, r1, r2, r3, r4]) rfl HD.out
set_option maxRecDepth 100000 in
set_option maxHeartbeats 4000000 in
theorem valueQ_doc {z : QC} (ok : z.Ok) (deep : Nat) (hd : deep ≤ 21) {w : World} {i : Nat} {b0 : Bool} (h : QS z w i b0) {r : List UInt8} (hb : b0 = false) (hr : z.rc.rest i = 5 :: r) (hd20 : deep ≤ 20)
    (ih : ∀ (w : World) (i : Nat) (b0 : Bool), QS z w i b0 → Calls Tryd.prog 84 #[.pointer (some ⟨z.rb, 0, none⟩), .int .i64 ((deep : Int) + 1)] w (ValPostQ z b0 (deep + 1) w i)) : Calls Tryd.prog 84 #[.pointer (some ⟨z.rb, 0, none⟩), .int .i64 (deep : Int)] w (ValPostQ z b0 deep w i) := by
  have IH := Lib.hid ih
  have HZ := Lib.hid ok.len
  have HD20 := Lib.hid hd20
  have hdi : (deep : Int) ≤ 20 := by omega
  have hdn : ¬ (20 : Int) < (deep : Int) := by omega
  clear ih hd20
  obtain ⟨i0, hi0, hz0, hz1, hz2⟩ := info_parts info72
  have HO := Lib.hid ok
  have H0 := Lib.hid h
  clear h ok
  go_enter Tryd.func84, Tryd.ntmps84
  go_wp2_with fail
  generalize hW1 : World.alloc w _ = W1
  have hbw : Below w.heap.size w W1 := by rw [← hW1]; exact below_alloc1 _ _
  have hr1 : W1.heap[w.heap.size]? = some (.cells #[.int .i64 0, .int .i64 0, .string ByteArray.empty, .slice none 0 0, .slice none 0 0] 25 (0, 0)) := by rw [← hW1]; exact heap_alloc_new _ _
  have hs1 : W1.heap.size = w.heap.size + 1 := by rw [← hW1]; simp
  clear hW1
  refine (next_c HO.out (H0.out.grow hbw)).mono ?_
  rintro e w1 ⟨c, i1, b, rfl, h1, ho1, hc⟩
  obtain ⟨rfl, rfl, hr2, hi1⟩ := kind_is2 hc hb hr
  have hcb : w1.cell? ⟨z.rb, 3, none⟩ = some (.bool false) := cell_at h1.r 3 _ rfl
  have HV := Lib.hid (vq_start H0.out hbw hr1 h1 ho1 5)
  have HH := Lib.hid (headS_go (z := z.rc) (b0 := b0) deep ⟨hb, hr.trans (by rw [hr2]), hi1⟩ (show OkS deep 5 from ⟨hd, by decide, by decide, fun _ => HD20.out⟩))
  have hne : ¬ w.heap.size = w1.heap.size := by have := HV.out.lt; omega
  have hne' : ¬ w1.heap.size = w.heap.size := by have := HV.out.lt; omega
  clear hbw hr1 hs1 h1 ho1 hc hr2 hi1
  go_wp2_with fail
  clear hcb
  generalize hW2 : World.alloc w1 _ = W2
  have HV2 : Hid (VQ z w W2 i1 false w1.heap.size #[.int .i64 5, .int .i64 0, .string ⟨#[]⟩, .slice none 0 0, .slice none 0 0]) := Lib.hid (by rw [← hW2]; exact HV.out)
  clear hW2 HV
  go_loopg [] (z.bytes.length + 1) (fun gg wr => ∃ (L : List (ByteArray × V × List Value × List Nat)) (sl : Value) (i2 : Nat) (b2 : Bool), Hid (VQ z w wr i2 b2 w1.heap.size #[.int .i64 5, .int .i64 0, .string ⟨#[]⟩, .slice none 0 0, sl] ∧ PD wr (w1.heap.size + 1) L sl ∧ DocS z.rc (deep + 1) false i1 (L.map fun c => (c.1, c.2.1)) i2 b2 ∧ L.length ≤ 1000 ∧ (b2 = false → L.length ≤ i2) ∧ ∀ c ∈ L, c.1.size ≤ 140737488355328) ∧ (if b2 then 0 else z.bytes.length - i2 + 1) ≤ gg)
  case atStart =>
    refine ⟨[], _, i1, false, Lib.hid ⟨HV2.out, PD.nil _ _, DocS.nil _ _ _ _, by simp, by simp, by simp⟩, ?_⟩
    simp
  case round =>
    obtain ⟨L, sl, i2, b2, H, hgg⟩ := hrel
    have HGG := Lib.hid hgg
    clear hgg HV2
    go_wp2_with fail
    refine (rmore_c HO.out H.out.1.rs).mono ?_
    rintro e w3 ⟨r', i3, b3, rfl, h3, ho3, hm⟩
    have HV3 := Lib.hid (H.out.1.call h3 ho3)
    have HP3 := Lib.hid (H.out.2.1.only ho3 (fun g hg => by have := H.out.1.r; have := H.out.1.lt; omega))
    clear h3 ho3
    rcases hm with ⟨rfl, rfl, hb2, hr1, hi3⟩ | hm
    · have HM := Lib.hid (And.intro hb2 (And.intro hr1 hi3))
      have HL := Lib.hid (show L.length ≤ 999 by have := H.out.2.2.2.2.1 hb2; have := HV3.out.rs.le; have := HZ.out; omega)
      clear hb2 hr1 hi3
      go_wp2_with fail
      refine (rdtextQ_c HO.out HV3.out.rs).mono ?_
      rintro e wt ⟨s, it, bt, rfl, ht, hot, htp⟩
      have HVt := Lib.hid (HV3.out.call ht hot)
      have HPt := Lib.hid (HP3.out.only hot (fun g hg => by have := HV3.out.r; have := HV3.out.lt; omega))
      have hslen : s.length ≤ 1000 := by have h1 : s.length ≤ z.bytes.length := htp.2.2; have := HZ.out; omega
      have HT := Lib.hid (And.intro htp hslen)
      clear ht hot htp hslen
      have hcall := IH.out wt it bt HVt.out.rs
      go_wp2_with fail
      refine hcall.mono ?_
      clear hcall
      rintro e w4 ⟨x, cs', F', i4, b4, rfl, hov, hnd, hfr, hrs4, ho4, hvp⟩
      obtain ⟨xk, xi, xt, xl, xd⟩ := x
      obtain ⟨p0, q0, p1, q1, rfl, _, _, _, _, _⟩ := hov.rv.inv
      have HV4 := Lib.hid (HVt.out.call hrs4 ho4)
      have HP4 := Lib.hid (HPt.out.only ho4 (fun g hg => by have := HVt.out.r; have := HVt.out.lt; omega))
      have cb1 := cell_alloc1 (cell_at HV4.out.hv 4 _ rfl)
      have cb2 := cell_alloc2 (cell_at HV4.out.hv 4 _ rfl)
      have HX4 := Lib.hid (And.intro hov (And.intro hnd (And.intro hfr (And.intro hrs4 (And.intro ho4 hvp)))))
      clear hov hnd hfr hrs4 ho4 hvp
      go_wp2_with (refine wpList_append_lies _ (by rfl) _ _ 23 (by rfl) 0 72 i0 _ 6 96 Tryd.underlying23 hi0 hz0 hz1 hz2 rfl (by omega) sl L.length (L.flatMap fun c => .string c.1 :: c.2.2.1) (by rfl) ((HP4.out.row.alloc _).alloc _) ⟨w4.heap.size + 1, 0, none⟩ 1 1 [.string ⟨s.toArray⟩, .int .i64 xk, .int .i64 xi, .string xt, .slice p0 xl.length q0, .slice p1 xd.length q1] (by rfl) (by rfl) (World.news_of_block (heap_new1 w4 _ _)) (by simp [Value.oneCell']) (by omega) (by have := HL.out; simp [maxLen]; omega) (by have := HL.out; omega) (by omega) (w4.heap.size + 2) (by simp) ?_; intro g cap w5 hown hgrow hat hlt2; have hbx := Lib.hid ((HP4.out.grow (below_alloc1 w4 _)).box (((below_alloc1 w4 _).block _ (block_lt HV4.out.hv)).trans HV4.out.hv) hgrow (by omega)); have cb3 := cell_at hbx.out 4 _ rfl; have fb3 := free_at hbx.out 4)
      go_roundg (if b4 then 0 else z.bytes.length - i4 + 1)
      case measure =>
        have h1 := HGG.out
        rw [HM.out.1] at h1
        have h2 := HM.out.2.2
        have h3 := HV4.out.rs.le
        have h4 := HX4.out.2.2.2.2.2.1
        cases b4
        · have := (h4 rfl).2.1
          have := HT.out.1.lt (h4 rfl).1 HVt.out.rs.le
          simp at h1 ⊢
          omega
        · simp at h1 ⊢
          omega
      case rel =>
        have ha := below_alloc1 w4 (.cells #[.int .i64 xk, .int .i64 xi, .string xt, .slice p0 xl.length q0, .slice p1 xd.length q1] 25)
        have R := doc_roundQ HVt.out HPt.out (HX4.out.2.2.2.1.grow ha) (HX4.out.2.2.2.2.1.trans (Only.of_below (S := (· = z.rb)) ha) (fun _ _ h => h)) (HX4.out.1.grow ha) HX4.out.2.1 HX4.out.2.2.1 hown hgrow (by simpa using hat)
        refine ⟨L ++ [(⟨s.toArray⟩, .mk xk xi xt xl xd, [.int .i64 xk, .int .i64 xi, .string xt, .slice p0 xl.length q0, .slice p1 xd.length q1], F')], _, i4, b4, Lib.hid ⟨R.2, R.1, ?_, by have := HL.out; simp; omega, fun hb4 => ?_, fun c hc => ?_⟩, Nat.le_refl _⟩
        · have := H.out.2.2.1.more HM.out.1 HM.out.2.1 HM.out.2.2 HT.out.1 HVt.out.rs.le HX4.out.2.2.2.2.2 HV4.out.rs.le
          simpa using this
        · have h1 := H.out.2.2.2.2.1 HM.out.1
          have h2 := HX4.out.2.2.2.2.2.1 hb4
          have h4 := HT.out.1.lt h2.1 HVt.out.rs.le
          have h3 := HM.out.2.2
          simp; omega
        · rcases List.mem_append.1 hc with hc | hc
          · exact H.out.2.2.2.2.2 c hc
          · rw [List.mem_singleton.1 hc]
            show s.toArray.size ≤ _
            rw [List.size_toArray]
            have := HT.out.2
            omega
    · have hr' : r' = false := by rcases hm with ⟨h, _⟩ | ⟨h, _⟩ <;> exact h
      subst hr'
      have hP := vs_doc HH.out H.out.2.2.1 (hm.imp (fun h => h.2) (fun h => h.2))
      obtain ⟨A1, c1, rfl, _⟩ := ownsRow_slice H.out.2.1.row
      obtain ⟨F, o1, o2, o3⟩ := OV.of_rows (rng_u8 5) rng_0 (t := ByteArray.empty) (by simp) (by simp) (by have := H.out.2.2.2.1; omega) H.out.2.2.2.2.2 (PL.nil w3 (w1.heap.size + 1)) HP3.out (by simp [Value.ownBlock])
      have HD := Lib.hid (HV3.out.done o1 o2 (fun g hg => by have := o3 g hg; omega) hP)
      clear o1 o2 o3 hP hm
      have y0 := cell_at (HV3.out).hv 0 _ rfl
      have y1 := cell_at (HV3.out).hv 1 _ rfl
      have y2 := cell_at (HV3.out).hv 2 _ rfl
      have y3 := cell_at (HV3.out).hv 3 _ rfl
      have y4 := cell_at (HV3.out).hv 4 _ rfl
      have r0 := cell_at (HV3.out).hr 0 _ rfl
      have r1 := cell_at (HV3.out).hr 1 _ rfl
      have r2 := cell_at (HV3.out).hr 2 _ rfl
      have r3 := cell_at (HV3.out).hr 3 _ rfl
      have r4 := cell_at (HV3.out).hr 4 _ rfl
      have g0 := free_at (HV3.out).hr 0
      have g1 := free_at (HV3.out).hr 1
      have g2 := free_at (HV3.out).hr 2
      have g3 := free_at (HV3.out).hr 3
      have g4 := free_at (HV3.out).hr 4
      go_wp2_with fail
      exact bodyPost_ret (v := .agg #[.int .i64 5, .int .i64 0, .string ⟨#[]⟩, .slice none 0 0, .slice A1 L.length c1]) (by simp [results, Tryd.results84, go_sem, r0, r1, r2, r3, r4]) rfl HD.out
/-- Reading a value, as the document's own reader does. -/
theorem valueQ_c {z : QC} (ok : z.Ok) : ∀ (m deep : Nat), deep ≤ 21 → 22 - deep ≤ m → ∀ (w : World) (i : Nat) (b0 : Bool), QS z w i b0 → Calls Tryd.prog 84 #[.pointer (some ⟨z.rb, 0, none⟩), .int .i64 (deep : Int)] w (ValPostQ z b0 deep w i) := by
  intro m
  induction m with
  | zero => intro deep hd hm; omega
  | succ m ih =>
    intro deep hd hm w i b0 h
    have ih' : deep ≤ 20 → ∀ (w : World) (i : Nat) (b0 : Bool), QS z w i b0 → Calls Tryd.prog 84 #[.pointer (some ⟨z.rb, 0, none⟩), .int .i64 ((deep : Int) + 1)] w (ValPostQ z b0 (deep + 1) w i) := fun hd20 w i b0 h => by
      have := ih (deep + 1) (by omega) (by omega) w i b0 h
      simpa using this
    by_cases hb : b0 = false
    · cases hr : z.rc.rest i with
      | nil => exact valueQ_refuse ok deep h (fun _ k r he => by rw [hr] at he; cases he) hd
      | cons k r =>
        by_cases hok : OkS deep k
        · by_cases h3 : k = 3
          · subst h3; exact valueQ_num3 ok deep hd h hb hr
          by_cases h10 : k = 10
          · subst h10; exact valueQ_num10 ok deep hd h hb hr
          by_cases h9 : k = 9
          · subst h9; exact valueQ_flag ok deep hd h hb hr
          by_cases h4 : k = 4
          · subst h4; exact valueQ_text4 ok deep hd h hb hr
          by_cases h7 : k = 7
          · subst h7; exact valueQ_text7 ok deep hd h hb hr
          by_cases h8 : k = 8
          · subst h8; exact valueQ_id ok deep hd h hb hr
          by_cases h6 : k = 6
          · subst h6; exact valueQ_list ok deep hd h hb hr (hok.2.2.2 (.inr rfl)) (ih' (hok.2.2.2 (.inr rfl)))
          by_cases h5 : k = 5
          · subst h5; exact valueQ_doc ok deep hd h hb hr (hok.2.2.2 (.inl rfl)) (ih' (hok.2.2.2 (.inl rfl)))
          by_cases h1 : k = 1
          · subst h1; exact valueQ_k1 ok deep hd h hb hr
          by_cases h2 : k = 2
          · subst h2; exact valueQ_k2 ok deep hd h hb hr
          by_cases h11 : k = 11
          · subst h11; exact valueQ_k11 ok deep hd h hb hr
          exfalso
          obtain ⟨_, a, b, _⟩ := hok
          have ne : ∀ q : UInt8, ¬ k = q → k.toNat ≠ q.toNat := fun q hq he => hq (UInt8.toNat_inj.1 he)
          have e1 : k.toNat ≠ 1 := ne 1 h1
          have e2 : k.toNat ≠ 2 := ne 2 h2
          have e3 : k.toNat ≠ 3 := ne 3 h3
          have e4 : k.toNat ≠ 4 := ne 4 h4
          have e5 : k.toNat ≠ 5 := ne 5 h5
          have e6 : k.toNat ≠ 6 := ne 6 h6
          have e7 : k.toNat ≠ 7 := ne 7 h7
          have e8 : k.toNat ≠ 8 := ne 8 h8
          have e9 : k.toNat ≠ 9 := ne 9 h9
          have e10 : k.toNat ≠ 10 := ne 10 h10
          have e11 : k.toNat ≠ 11 := ne 11 h11
          omega
        · refine valueQ_refuse ok deep h (fun _ k' r' he => ?_) hd
          rw [hr] at he
          injection he with he _
          subst he
          exact hok
    · exact valueQ_refuse ok deep h (fun hb' => absurd hb' hb) hd
end Go.Proofs.YthfejpldhemakaaDoor

namespace Go.Proofs.YthfejpldhemakaaDoor
open Go.RowKit Go.Sort Go.Lib
/-! The strict reading and the loose one: of values that may be they are the same. -/
theorem strict_loose : ∀ (n deep : Nat) (b : List UInt8), (∀ x, pV true n deep b = some x → pV false n deep b = some x) ∧ (∀ x, pL true n deep b = some x → pL false n deep b = some x) ∧ (∀ x, pD true n deep b = some x → pD false n deep b = some x)
  | 0, deep, b => ⟨fun v h => (by rw [pV.eq_def] at h; cases h), fun v h => (by rw [pL.eq_def] at h; cases h), fun v h => (by rw [pD.eq_def] at h; cases h)⟩
  | n + 1, deep, [] => ⟨fun v h => (by rw [pV.eq_def] at h; cases h), fun v h => (by rw [pL.eq_def] at h; cases h), fun v h => (by rw [pD.eq_def] at h; cases h)⟩
  | n + 1, deep, k :: b => by
    refine ⟨fun x h => ?_, fun x h => ?_, fun x h => ?_⟩
    · by_cases hok : deep ≤ 21 ∧ (true = true → 1 ≤ k.toNat ∧ k.toNat ≤ 11 ∧ (k = 5 ∨ k = 6 → deep ≤ 20))
      case neg => rw [pV_none _ _ _ _ _ hok] at h; cases h
      rw [pV_step true n deep k b hok.1 hok.2] at h
      rw [pV_step false n deep k b hok.1 (fun h => by cases h)]
      split at h
      · rw [if_pos (by assumption)]; exact h
      · rw [if_neg (by assumption)]
        split at h
        · rw [if_pos (by assumption)]; exact h
        · rw [if_neg (by assumption)]
          split at h
          · rw [if_pos (by assumption)]; exact h
          · rw [if_neg (by assumption)]
            split at h
            · rw [if_pos (by assumption)]; exact h
            · rw [if_neg (by assumption)]
              split at h
              · rw [if_pos (by assumption)]
                simp only [Option.map_eq_some_iff] at h ⊢
                obtain ⟨y, hy, h⟩ := h
                exact ⟨y, (strict_loose n (deep + 1) b).2.1 _ hy, h⟩
              · rw [if_neg (by assumption)]
                split at h
                · rw [if_pos (by assumption)]
                  simp only [Option.map_eq_some_iff] at h ⊢
                  obtain ⟨y, hy, h⟩ := h
                  exact ⟨y, (strict_loose n (deep + 1) b).2.2 _ hy, h⟩
                · rw [if_neg (by assumption)]; exact h
    · by_cases h0 : k = 0
      · subst h0; rw [pL_z] at h ⊢; exact h
      · by_cases h1 : k = 1
        · subst h1
          rw [pL_s] at h ⊢
          simp only [Option.bind_eq_some_iff, Option.map_eq_some_iff] at h ⊢
          obtain ⟨y, hy, z, hz, h⟩ := h
          exact ⟨y, (strict_loose n deep b).1 _ hy, z, (strict_loose n deep _).2.1 _ hz, h⟩
        · rw [pL.eq_def] at h
          simp [h0, h1] at h
    · by_cases h0 : k = 0
      · subst h0; rw [pD_z] at h ⊢; exact h
      · by_cases h1 : k = 1
        · subst h1
          rw [pD_s] at h ⊢
          simp only [Option.bind_eq_some_iff, Option.map_eq_some_iff] at h ⊢
          obtain ⟨t, ht, y, hy, z, hz, h⟩ := h
          exact ⟨t, ht, y, (strict_loose n deep _).1 _ hy, z, (strict_loose n deep _).2.2 _ hz, h⟩
        · rw [pD.eq_def] at h
          simp [h0, h1] at h
theorem kind_of {s : Bool} {n deep : Nat} {k : UInt8} {b : List UInt8} {x : V × List UInt8} (h : pV s (n + 1) deep (k :: b) = some x) : x.1.k = k.toNat := by
  by_cases hok : deep ≤ 21 ∧ (s = true → 1 ≤ k.toNat ∧ k.toNat ≤ 11 ∧ (k = 5 ∨ k = 6 → deep ≤ 20))
  case neg => rw [pV_none _ _ _ _ _ hok] at h; cases h
  rw [pV_step s n deep k b hok.1 hok.2] at h
  split at h
  · simp only [Option.map_eq_some_iff] at h; obtain ⟨y, hy, rfl⟩ := h; rfl
  · split at h
    · cases b with
      | nil => cases h
      | cons c b => simp only [Option.some.injEq] at h; subst h; rfl
    · split at h
      · simp only [Option.map_eq_some_iff] at h; obtain ⟨y, hy, rfl⟩ := h; rfl
      · split at h
        · split at h
          · simp only [Option.some.injEq] at h; subst h; rfl
          · cases h
        · split at h
          · simp only [Option.map_eq_some_iff] at h; obtain ⟨y, hy, rfl⟩ := h; rfl
          · split at h
            · simp only [Option.map_eq_some_iff] at h; obtain ⟨y, hy, rfl⟩ := h; rfl
            · simp only [Option.some.injEq] at h; subst h; rfl
theorem loose_deep {n deep : Nat} {k : UInt8} {b : List UInt8} {x : V × List UInt8} (h : pV false (n + 1) deep (k :: b) = some x) : deep ≤ 21 := by
  by_cases hok : deep ≤ 21
  · exact hok
  · rw [pV_none _ _ _ _ _ (fun h => hok h.1)] at h; cases h
theorem loose_strict : ∀ (n deep : Nat) (b : List UInt8), (∀ x, pV false n deep b = some x → checkV x.1 deep = 0 → pV true n deep b = some x) ∧ (∀ x, pL false n deep b = some x → (∀ y ∈ x.1, checkV y deep = 0) → pL true n deep b = some x) ∧ (∀ x, pD false n deep b = some x → (∀ y ∈ x.1, checkV y.2 deep = 0) → pD true n deep b = some x)
  | 0, deep, b => ⟨fun v h => (by rw [pV.eq_def] at h; cases h), fun v h => (by rw [pL.eq_def] at h; cases h), fun v h => (by rw [pD.eq_def] at h; cases h)⟩
  | n + 1, deep, [] => ⟨fun v h => (by rw [pV.eq_def] at h; cases h), fun v h => (by rw [pL.eq_def] at h; cases h), fun v h => (by rw [pD.eq_def] at h; cases h)⟩
  | n + 1, deep, k :: b => by
    refine ⟨fun x h hc => ?_, fun x h hc => ?_, fun x h hc => ?_⟩
    · have hd := loose_deep h
      have hk := kind_of h
      have hL := (loose_strict n (deep + 1) b).2.1
      have hD := (loose_strict n (deep + 1) b).2.2
      obtain ⟨⟨xk, xi, xt, xl, xd⟩, r⟩ := x
      simp only [V.k] at hk
      subst hk
      simp only at hc
      obtain ⟨hw, hcl, hcd⟩ := checkV_ok hc
      have hcl := checkL_ok hcl
      have hcd := checkD_ok hcd
      have e1 : ((deep : Int) + 1) = ((deep + 1 : Nat) : Int) := by omega
      rw [e1] at hcl hcd
      have hkr : 1 ≤ k.toNat ∧ k.toNat ≤ 11 := by
        simp only [WrongP, not_or] at hw
        have := hw.1
        omega
      have h56 : k = 5 ∨ k = 6 → deep ≤ 20 := by
        intro h5
        rw [checkV] at hc
        split at hc
        · omega
        · rename_i hno
          have : (k.toNat : Int) = 5 ∨ (k.toNat : Int) = 6 := by
            rcases h5 with rfl | rfl
            · exact .inl rfl
            · exact .inr rfl
          omega
      rw [pV_step false n deep k b hd (fun h => by cases h)] at h
      rw [pV_step true n deep k b hd (fun _ => ⟨hkr.1, hkr.2, h56⟩)]
      split at h
      · rw [if_pos (by assumption)]; exact h
      · rw [if_neg (by assumption)]
        split at h
        · rw [if_pos (by assumption)]; exact h
        · rw [if_neg (by assumption)]
          split at h
          · rw [if_pos (by assumption)]; exact h
          · rw [if_neg (by assumption)]
            split at h
            · rw [if_pos (by assumption)]; exact h
            · rw [if_neg (by assumption)]
              split at h
              · rw [if_pos (by assumption)]
                simp only [Option.map_eq_some_iff] at h ⊢
                obtain ⟨y, hy, h⟩ := h
                refine ⟨y, hL _ hy ?_, h⟩
                simp only [Prod.mk.injEq, V.mk.injEq] at h
                obtain ⟨⟨_, _, _, h, _⟩, _⟩ := h
                rw [h]; exact hcl
              · rw [if_neg (by assumption)]
                split at h
                · rw [if_pos (by assumption)]
                  simp only [Option.map_eq_some_iff] at h ⊢
                  obtain ⟨y, hy, h⟩ := h
                  refine ⟨y, hD _ hy ?_, h⟩
                  simp only [Prod.mk.injEq, V.mk.injEq] at h
                  obtain ⟨⟨_, _, _, _, h⟩, _⟩ := h
                  rw [h]; exact hcd
                · rw [if_neg (by assumption)]; exact h
    · by_cases h0 : k = 0
      · subst h0; rw [pL_z] at h ⊢; exact h
      · by_cases h1 : k = 1
        · subst h1
          rw [pL_s] at h ⊢
          simp only [Option.bind_eq_some_iff, Option.map_eq_some_iff] at h ⊢
          obtain ⟨y, hy, z, hz, rfl⟩ := h
          exact ⟨y, (loose_strict n deep b).1 _ hy (hc _ (by simp)), z, (loose_strict n deep _).2.1 _ hz (fun u hu => hc _ (by simp [hu])), rfl⟩
        · rw [pL.eq_def] at h
          simp [h0, h1] at h
    · by_cases h0 : k = 0
      · subst h0; rw [pD_z] at h ⊢; exact h
      · by_cases h1 : k = 1
        · subst h1
          rw [pD_s] at h ⊢
          simp only [Option.bind_eq_some_iff, Option.map_eq_some_iff] at h ⊢
          obtain ⟨t, ht, y, hy, z, hz, rfl⟩ := h
          exact ⟨t, ht, y, (loose_strict n deep _).1 _ hy (hc (⟨t.1.toArray⟩, y.1) (by simp)), z, (loose_strict n deep _).2.2 _ hz (fun u hu => hc _ (by simp [hu])), rfl⟩
        · rw [pD.eq_def] at h
          simp [h0, h1] at h
/-- Values out of a key's bytes, as the document reads them. -/
def rdRowS : List Bool → List UInt8 → Option (List V × List UInt8)
  | [], b => some ([], b)
  | d :: ds, b => match pV true (b.length + 1) 1 (b.map (· ^^^ mk8 d)) with
    | none => none
    | some x => if rightV x.1 = 0 then (rdRowS ds (x.2.map (· ^^^ mk8 d))).map fun y => (x.1 :: y.1, y.2) else none
theorem check_right {v : V} (h : rightV v = 0) : checkV v 1 = 0 := by unfold rightV at h; split at h <;> first | exact h | omega
theorem rdRow_strict : ∀ (d : List Bool) (b : List UInt8), rdRowS d b = rdRow d b
  | [], _ => rfl
  | t :: d, b => by
    rw [rdRowS, rdRow]
    cases h : pV true (b.length + 1) 1 (b.map (· ^^^ mk8 t)) with
    | some x =>
      rw [(strict_loose _ _ _).1 _ h]
      simp only []
      split
      · rw [rdRow_strict d]
      · rfl
    | none =>
      cases h2 : pV false (b.length + 1) 1 (b.map (· ^^^ mk8 t)) with
      | none => rfl
      | some x =>
        simp only []
        rw [if_neg fun hr => ?_]
        have := (loose_strict _ _ _).1 _ h2 (check_right hr)
        rw [h] at this
        cases this
theorem rdS_step {d : List Bool} {b : List UInt8} {j i i' : Nat} {v : V} (hj : j < d.length) (m : UInt8) (hm : m = mk8 d[j]) (h : pV true ((b.drop i).length + 1) 1 ((b.drop i).map (· ^^^ m)) = some (v, (b.drop i').map (· ^^^ m))) (hr : rightV v = 0) :
    rdRow (d.drop j) (b.drop i) = (rdRow (d.drop (j + 1)) (b.drop i')).map fun y => (v :: y.1, y.2) := rdRow_step hj m hm ((strict_loose _ _ _).1 _ h) hr
theorem rdS_bad {d : List Bool} {b : List UInt8} {j i : Nat} (hj : j < d.length) (m : UInt8) (hm : m = mk8 d[j]) (h : pV true ((b.drop i).length + 1) 1 ((b.drop i).map (· ^^^ m)) = none) :
    rdRow (d.drop j) (b.drop i) = none := by
  rw [← rdRow_strict]
  subst hm
  rw [List.drop_eq_getElem_cons hj, rdRowS, h]
theorem rdS_wrong {d : List Bool} {b : List UInt8} {j i : Nat} {x : V × List UInt8} (hj : j < d.length) (m : UInt8) (hm : m = mk8 d[j]) (h : pV true ((b.drop i).length + 1) 1 ((b.drop i).map (· ^^^ m)) = some x) (hr : ¬ rightV x.1 = 0) :
    rdRow (d.drop j) (b.drop i) = none := rdRow_wrong hj m hm ((strict_loose _ _ _).1 _ h) hr
end Go.Proofs.YthfejpldhemakaaDoor

namespace Go.Proofs.YthfejpldhemakaaDoor
open Go.RowKit Go.Sort Go.Lib
theorem fault1 (w : World) (x y : Value) : (w.alloc (.cells #[x, y] 49)).cell? ⟨w.heap.size, 0, none⟩ = some x ∧ (w.alloc (.cells #[x, y] 49)).cell? ⟨w.heap.size, 1, none⟩ = some y := by
  have h := heap_alloc_new w (.cells #[x, y] 49)
  exact ⟨cell_at h 0 _ rfl, cell_at h 1 _ rfl⟩
set_option maxRecDepth 100000 in
set_option maxHeartbeats 1000000 in
theorem rread_desc (A A2 : Option Addr) (n c m c2 : Nat) (w : World) (h : m < 1 ∨ 4 < m) (hm : m ≤ 140737488355328) (b : List UInt8) (d : List Bool) (hd : d.length = m) : Calls Tryd.prog 44 #[.slice A n c, .slice A2 m c2] w (ReadPost w (readV b d)) := by
  have HR := Lib.hid (show readV b d = (1, []) by unfold readV; rw [if_pos (by omega)])
  clear hd
  rcases h with h | h
  · obtain rfl : m = 0 := by omega
    clear h
    go_enter Tryd.func44, Tryd.ntmps44
    go_wp2_with fail
    rw [HR.out]
    have hf := fault1 w (.int .i64 1) (.int .i64 (-1))
    exact bodyPost_ret (v := .tuple #[.slice none 0 0, .agg #[.int .i64 1, .int .i64 (-1)]]) (by simp [results, Tryd.results44, go_sem, hf.1, hf.2]) rfl (readPost_nil (by decide) (below_alloc1 _ _))
  · have h1 : ¬ m < 1 := by omega
    go_enter Tryd.func44, Tryd.ntmps44
    go_wp2_with fail
    rw [HR.out]
    have hf := fault1 w (.int .i64 1) (.int .i64 (-1))
    exact bodyPost_ret (v := .tuple #[.slice none 0 0, .agg #[.int .i64 1, .int .i64 (-1)]]) (by simp [results, Tryd.results44, go_sem, hf.1, hf.2]) rfl (readPost_nil (by decide) (below_alloc1 _ _))
set_option maxRecDepth 100000 in
set_option maxHeartbeats 1000000 in
theorem rread_long (A A2 : Option Addr) (n c m c2 : Nat) (w : World) (h1 : 1 ≤ m) (h2 : m ≤ 4) (hn : 1000 < n) (hn2 : n ≤ 140737488355328) (b : List UInt8) (d : List Bool) (hd : d.length = m) (hb : b.length = n) : Calls Tryd.prog 44 #[.slice A n c, .slice A2 m c2] w (ReadPost w (readV b d)) := by
  have HR := Lib.hid (show readV b d = (30, []) by unfold readV; rw [if_neg (by omega), if_pos (by omega)])
  clear hd hb
  go_enter Tryd.func44, Tryd.ntmps44
  go_wp2_with fail
  rw [HR.out]
  have hf := fault1 w (.int .i64 30) (.int .i64 (-1))
  exact bodyPost_ret (v := .tuple #[.slice none 0 0, .agg #[.int .i64 30, .int .i64 (-1)]]) (by simp [results, Tryd.results44, go_sem, hf.1, hf.2]) rfl (readPost_nil (by decide) (below_alloc1 _ _))
/-- Reading so far. -/
structure RdQ (w wr : World) (A : Option Addr) (c : Nat) (b : List UInt8) (d : List Bool) (j i : Nat) (L : List (V × List Value × List Nat)) (sl : Value) : Prop where
  len : L.length = j
  row : PL wr (w.heap.size + 2) L sl
  from_ : rdRow d b = (rdRow (d.drop j) (b.drop i)).map fun x => (L.map (·.1) ++ x.1, x.2)
  fb : wr.heap[w.heap.size]? = some (.cells #[.int .i64 0, .int .i64 0] 49 (0, 0))
  rb : ∃ t : Bool, wr.heap[w.heap.size + 1]? = some (.cells #[.slice A b.length c, .int .i64 (i : Int), .bool t, .bool false] 96 (0, 0))
  le : i ≤ b.length
  below : Below w.heap.size w wr
def rqZ (w : World) (A : Option Addr) (c : Nat) (b : List UInt8) (d : Bool) : QC := ⟨w, A, c, b, d, w.heap.size + 1⟩
theorem rq_start {w wr : World} {A : Option Addr} {c : Nat} {b : List UInt8} {d : List Bool} {j i : Nat} {L : List (V × List Value × List Nat)} {sl : Value} (h : RdQ w wr A c b d j i L sl) (hA : RY w A b) (hn : b.length ≤ 1000) (t : Bool) :
    (rqZ w A c b t).Ok ∧ QS (rqZ w A c b t) (wr.setCell ⟨w.heap.size + 1, 2, none⟩ (.bool t)) i false ∧ Only (· = w.heap.size + 1) wr (wr.setCell ⟨w.heap.size + 1, 2, none⟩ (.bool t)) := by
  obtain ⟨t0, hr⟩ := h.rb
  have ho := only_set wr (w.heap.size + 1) 2 (.bool t)
  refine ⟨⟨hA, hn, by simp only [rqZ]; omega⟩, ⟨h.below.trans (ho.below (fun g hg => by show w.heap.size ≤ g; omega) h.below.size), ?_, h.le⟩, ho⟩
  exact setCell_block hr 2 (.bool t)
/-- What is known behind the reading of one value. -/
structure RqM (w w4 : World) (A : Option Addr) (c : Nat) (b : List UInt8) (t : Bool) (i' : Nat) (bd : Bool) (L : List (V × List Value × List Nat)) (sl : Value) : Prop where
  row : PL w4 (w.heap.size + 2) L sl
  fb : w4.heap[w.heap.size]? = some (.cells #[.int .i64 0, .int .i64 0] 49 (0, 0))
  rb : w4.heap[w.heap.size + 1]? = some (.cells #[.slice A b.length c, .int .i64 (i' : Int), .bool t, .bool bd] 96 (0, 0))
  le : i' ≤ b.length
  below : Below w.heap.size w w4
theorem rq_mem {w wr w1 w4 : World} {A : Option Addr} {c : Nat} {b : List UInt8} {d : List Bool} {j i i' : Nat} {t bd : Bool} {L : List (V × List Value × List Nat)} {sl : Value} (h : RdQ w wr A c b d j i L sl) (h1 : Only (· = w.heap.size + 1) wr w1) (hr : QS (rqZ w A c b t) w4 i' bd) (ho : Only (· = (rqZ w A c b t).rb) w1 w4) : RqM w w4 A c b t i' bd L sl := by
  have hs := h.below.size
  have hall : Only (· = w.heap.size + 1) wr w4 := h1.trans ho (fun _ _ h => h)
  exact ⟨h.row.only hall (fun g hg => by omega), (hall.block _ (block_lt h.fb) (fun hq => by omega)).trans h.fb, hr.r, hr.le, hr.below⟩
theorem RqM.grow {w w4 w5 : World} {A : Option Addr} {c : Nat} {b : List UInt8} {t : Bool} {i' : Nat} {bd : Bool} {L : List (V × List Value × List Nat)} {sl : Value} (h : RqM w w4 A c b t i' bd L sl) (hb : Below w4.heap.size w4 w5) : RqM w w5 A c b t i' bd L sl :=
  ⟨h.row.grow hb, (hb.block _ (block_lt h.fb)).trans h.fb, (hb.block _ (block_lt h.rb)).trans h.rb, h.le, below2 h.below hb⟩
theorem rq_next {w wr w6 w7 : World} {A : Option Addr} {c : Nat} {b : List UInt8} {d : List Bool} {j i i' g cap : Nat} {t : Bool} {o : Obj} {L : List (V × List Value × List Nat)} {sl : Value} {x : V} {cx : List Value} {F : List Nat} (h : RdQ w wr A c b d j i L sl)
    (hm : RqM w w6 A c b t i' false L sl) (hov : OV false w6 x cx F) (hnd : F.Nodup) (hF : ∀ g ∈ F, wr.heap.size ≤ g) (hstep : rdRow (d.drop j) (b.drop i) = (rdRow (d.drop (j + 1)) (b.drop i')).map fun y => (x :: y.1, y.2))
    (hown : w7.ownsRow 0 25 5 (.slice (some ⟨g, 0, none⟩) (L.length + 1) cap) (L.length + 1) (L.flatMap (·.2.1) ++ cx)) (hgrow : (w6.alloc o).grownBy w7 sl.ownBlock) (hat : sl.ownBlock = some g ∨ g = w6.heap.size + 1) :
    RdQ w w7 A c b d (j + 1) i' (L ++ [(x, cx, F)]) (.slice (some ⟨g, 0, none⟩) (L.length + 1) cap) := by
  obtain ⟨t0, hr0⟩ := h.rb
  have h2 := block_lt hr0
  have h6 := block_lt hm.rb
  have hnew := PL.snoc (w := w6.alloc o) (hm.row.grow (below_alloc1 _ _)) (hov.grow (below_alloc1 _ _)) hnd (fun g hg => ⟨by have := hF g hg; omega, fun hq => by have := h.row.lt g hq; have := hF g hg; omega⟩) hown hgrow (hat.imp id (fun h => h)) (by simp) (by simp; omega)
  have hsl : ∀ q, some q = sl.ownBlock → w.heap.size + 2 ≤ q := fun q hq => hm.row.from_ q (List.mem_append_left _ (by rw [← hq]; simp))
  have keep : ∀ q ob, w6.heap[q]? = some ob → q < w.heap.size + 2 → w7.heap[q]? = some ob := fun q ob hq hlt => by
    rw [hgrow.block q (by simp; have := block_lt hq; omega) (fun he => by have := hsl q he; omega), heap_alloc_old _ _ (block_lt hq), hq]
  refine ⟨by simp [h.len], hnew, ?_, keep _ _ hm.fb (by omega), ⟨t, keep _ _ hm.rb (by omega)⟩, hm.le, ?_⟩
  · rw [h.from_, hstep, Option.map_map]
    congr 1
    funext y
    simp
  · have ha := below_alloc1 w6 o
    have hbs := hm.below.size
    have hb1 : Below w.heap.size w6 (w6.alloc o) := ⟨ha.os, ha.tape, ha.output, ha.size, fun k hk => ha.block k (by omega)⟩
    exact hm.below.trans (hb1.trans (Only.below (Only.of_grown hgrow) (fun g hg => by have := hsl g hg; omega) (by simp; omega)))
theorem rq_fail {w W : World} {b : List UInt8} {d : List Bool} (hr : readV b d = match rdRow d b with | none => (31, []) | some x => if x.2 = [] then (0, x.1) else (31, [])) (hn : rdRow d b = none) (hb : Below w.heap.size w W) :
    ReadPost w (readV b d) (.returned (.tuple #[.slice none 0 0, .agg #[.int .i64 31, .int .i64 (-1)]])) ((W.setCell ⟨w.heap.size, 0, none⟩ (.int .i64 31)).setCell ⟨w.heap.size, 1, none⟩ (.int .i64 (-1))) := by
  rw [hr, hn]
  exact readPost_nil (by decide) ((hb.setCell (by simp) _).setCell (by simp) _)
theorem rq_done {w W : World} {b : List UInt8} {d : List Bool} {i : Nat} {L : List (V × List Value × List Nat)} {sl : Value} (hr : readV b d = match rdRow d b with | none => (31, []) | some x => if x.2 = [] then (0, x.1) else (31, [])) (hx : rdRow d b = some (L.map (·.1), b.drop i)) (hL : PL W (w.heap.size + 2) L sl) (hb : Below w.heap.size w W) :
    (¬ b.drop i = [] → ReadPost w (readV b d) (.returned (.tuple #[.slice none 0 0, .agg #[.int .i64 31, .int .i64 (-1)]])) ((W.setCell ⟨w.heap.size, 0, none⟩ (.int .i64 31)).setCell ⟨w.heap.size, 1, none⟩ (.int .i64 (-1)))) ∧
    (b.drop i = [] → ReadPost w (readV b d) (.returned (.tuple #[sl, .agg #[.int .i64 0, .int .i64 0]])) ((W.setCell ⟨w.heap.size, 0, none⟩ (.int .i64 0)).setCell ⟨w.heap.size, 1, none⟩ (.int .i64 0))) := by
  rw [hr, hx]
  refine ⟨fun h => ?_, fun h => ?_⟩
  · simp only [if_neg h]
    exact readPost_nil (by decide) ((hb.setCell (by simp) _).setCell (by simp) _)
  · simp only [if_pos h]
    have ho := (only_set W w.heap.size 0 (.int .i64 0)).trans (only_set _ w.heap.size 1 (.int .i64 0)) (fun _ _ h => h)
    refine ⟨L, sl, rfl, rfl, (hL.only ho (fun g hg => by omega)).weak (by omega), (hb.setCell (by simp) _).setCell (by simp) _⟩
set_option maxRecDepth 100000 in
set_option maxHeartbeats 2000000 in
theorem rread_main (A A2 : Option Addr) (c c2 : Nat) (w : World) (hT : Tabs w) (b : List UInt8) (d : List Bool) (hA : RY w A b) (hD : RB w A2 d) (h1 : 1 ≤ d.length) (h2 : d.length ≤ 4) (hn : b.length ≤ 1000) : Calls Tryd.prog 44 #[.slice A b.length c, .slice A2 d.length c2] w (ReadPost w (readV b d)) := by
  have HR := Lib.hid (show readV b d = match rdRow d b with | none => (31, []) | some x => if x.2 = [] then (0, x.1) else (31, []) by unfold readV; rw [if_neg (by omega), if_neg (by omega)] <;> (cases rdRow d b <;> rfl))
  have HA := Lib.hid (And.intro hT (And.intro hA hD))
  clear hT hA hD
  go_enter Tryd.func44, Tryd.ntmps44
  go_wp2_with fail
  generalize hW0 : World.alloc (World.alloc w _) _ = W0
  have HW0 : Hid (RdQ w W0 A c b d 0 0 [] (.slice none 0 0)) := by
    refine Lib.hid ⟨rfl, PL.nil _ _, ?_, ?_, ⟨false, ?_⟩, by omega, ?_⟩
    · rw [List.drop_zero, List.drop_zero]; cases rdRow d b <;> rfl
    · rw [← hW0, heap_alloc_old _ _ (by simp), heap_alloc_new]
    · rw [← hW0]; exact heap_new1 w _ _
    · rw [← hW0]; exact below_alloc2 _ _ _
  clear hW0
  go_loopw [7, 8] (fun vv ix wr => ∃ (j i : Nat) (L : List (V × List Value × List Nat)), j ≤ d.length ∧ ix = .int .i64 (j : Int) ∧ Hid (RdQ w wr A c b d j i L vv)) (fun _ ix _ => d.length - (RowKit.intOf ix).toNat)
  case atStart => exact ⟨0, 0, [], by omega, rfl, HW0⟩
  case round =>
    obtain ⟨j, i, L, hj, rfl, H⟩ := hrel
    clear HW0
    by_cases hlt : j < d.length
    · obtain ⟨b2, off2, rfl, y0⟩ := (HA.out.2.2.grow H.out.below).get hlt
      obtain ⟨t0, hrb⟩ := H.out.rb
      have fr2 := free_at hrb 2
      have cr2 := cell_at hrb 2 _ rfl
      have HM : Hid (mkQ d[j] = mk8 d[j]) := Lib.hid rfl
      obtain ⟨t, ht⟩ : ∃ t, d[j] = t := ⟨_, rfl⟩
      rw [ht] at y0
      have HZ := Lib.hid (rq_start H.out HA.out.2.1 hn t)
      have HTT := Lib.hid ht
      clear hrb ht
      go_wp2_with fail
      have hvc : Calls Tryd.prog 84 #[.pointer (some ⟨w.heap.size + 1, 0, none⟩), .int .i64 1] (wr.setCell ⟨w.heap.size + 1, 2, none⟩ (.bool t)) _ := valueQ_c HZ.out.1 21 1 (by omega) (by omega) _ i false HZ.out.2.1
      refine hvc.mono ?_
      clear hvc
      rintro e w4 ⟨x, cs, F, i', bd, rfl, hov, hnd, hfr, hrs4, ho4, hvp⟩
      obtain ⟨xk, xi, xt, xl, xd⟩ := x
      obtain ⟨p0, q0, p1, q1, rfl, _, _, _, _, _⟩ := hov.rv.inv
      have HME := Lib.hid (rq_mem H.out HZ.out.2.2 hrs4 ho4)
      have hfr' : ∀ g ∈ F, wr.heap.size ≤ g := fun g hg => Nat.le_trans HZ.out.2.2.size (hfr g hg)
      have HX := Lib.hid (And.intro hov (And.intro hnd (And.intro hfr' hvp)))
      clear hov hnd hfr hfr' hrs4 ho4 hvp
      have hgo : Hid (∀ o, Calls Tryd.prog 24 #[.agg #[.int .i64 xk, .int .i64 xi, .string xt, .slice p0 xl.length q0, .slice p1 xd.length q1]] (w4.alloc o) fun e w' => e = .returned (.int .i64 (rightV (.mk xk xi xt xl xd))) ∧ Below (w4.alloc o).heap.size (w4.alloc o) w') := Lib.hid fun o => rright_c _ _ _ (HA.out.1.grow (below2 HME.out.below (below_alloc1 w4 o))) (HX.out.1.rv.grow (below_alloc1 w4 o))
      go_wp2_with fail
      refine (hgo.out _).mono ?_
      rintro e w5 ⟨rfl, hb5⟩
      obtain ⟨rr, hrr⟩ : ∃ r, rightV (.mk xk xi xt xl xd) = r := ⟨_, rfl⟩
      rw [hrr]
      have HRR := Lib.hid hrr
      have HB5 := Lib.hid (below2 (below_alloc1 w4 _) hb5)
      have HM5 := Lib.hid (HME.out.grow HB5.out)
      have hbox := (hb5.block _ (by simp)).trans (heap_alloc_new w4 (.cells #[.int .i64 xk, .int .i64 xi, .string xt, .slice p0 xl.length q0, .slice p1 xd.length q1] 25))
      have c0 := cell_at hbox 0 _ rfl
      have c1 := cell_at hbox 1 _ rfl
      have c2 := cell_at hbox 2 _ rfl
      have c3 := cell_at hbox 3 _ rfl
      have c4 := cell_at hbox 4 _ rfl
      have cbad := cell_at HM5.out.rb 3 _ rfl
      clear hrr hgo hb5 hbox
      have fc0 := cell_at HM5.out.fb 0 _ rfl
      have fc1 := cell_at HM5.out.fb 1 _ rfl
      have ff0 := free_at HM5.out.fb 0
      have ff1 := free_at HM5.out.fb 1
      cases bd with
      | true =>
        have hnone : rdRow d b = none := by
          rw [H.out.from_, rdS_bad hlt _ (by rw [← HM.out, HTT.out]; try rfl)]
          · rfl
          · rcases HX.out.2.2.2.2 rfl with h | h
            · cases h
            · exact h _ (by rw [RC.rest_len]; simp [rqZ, QC.rc])
        have HV31 := Lib.hid (rq_fail (W := w5) HR.out hnone HM5.out.below)
        clear hnone
        go_wp2_with fail
        exact bodyPost_ret (v := .tuple #[.slice none 0 0, .agg #[.int .i64 31, .int .i64 (-1)]]) (by simp [results, Tryd.results44, go_sem, fc0, fc1]) rfl HV31.out
      | false =>
        by_cases hr0 : rr = 0
        · subst hr0
          have HL := Lib.hid (show L.length ≤ 3 by have := H.out.len; omega)
          obtain ⟨i0, hi0, hz0, hz1, hz2⟩ := info_parts info25
          clear fc0 fc1 ff0 ff1
          go_wp2_with (refine wpList_append_lies _ (by rfl) _ _ 22 (by rfl) 0 25 i0 _ 5 80 Tryd.underlying22 hi0 hz0 hz1 hz2 rfl (by omega) u7 L.length (L.flatMap (·.2.1)) (by rfl) (HM5.out.row.row.alloc _) ⟨w5.heap.size, 0, none⟩ 1 1 [.int .i64 xk, .int .i64 xi, .string xt, .slice p0 xl.length q0, .slice p1 xd.length q1] (by rfl) (by rfl) (World.news_of_block (heap_alloc_new w5 _)) (by simp [Value.oneCell']) (by omega) (by have := HL.out; simp [maxLen]; omega) (by have := HL.out; omega) (by omega) (w5.heap.size + 1) (by simp) ?_; intro g cap w7 hown hgrow hat hlt2)
          go_roundw
          case rel =>
            obtain ⟨_, hi', hp⟩ := HX.out.2.2.2.1 rfl
            exact ⟨j + 1, i', _, by omega, by go_num, Lib.hid (rq_next H.out HM5.out (HX.out.1.grow HB5.out) HX.out.2.1 HX.out.2.2.1 (rdS_step hlt _ (by rw [← HM.out, HTT.out]; try rfl) (hp _ (by rw [RC.rest_len]; simp [rqZ, QC.rc])) HRR.out) hown hgrow hat)⟩
          case measure => simp [RowKit.intOf]; omega
        · have hnone : rdRow d b = none := by
            obtain ⟨_, _, hp⟩ := HX.out.2.2.2.1 rfl
            rw [H.out.from_, rdS_wrong (b := b) (i := i) hlt _ (by rw [← HM.out, HTT.out]; try rfl) (hp _ (by rw [RC.rest_len]; simp [rqZ, QC.rc])) (by rw [HRR.out]; exact hr0)]
            rfl
          have HV31 := Lib.hid (rq_fail (W := w5) HR.out hnone HM5.out.below)
          have hrn : (rr != 0) = true := by simp [hr0]
          clear hnone
          go_wp2_with fail
          exact bodyPost_ret (v := .tuple #[.slice none 0 0, .agg #[.int .i64 31, .int .i64 (-1)]]) (by simp [results, Tryd.results44, go_sem, fc0, fc1]) rfl HV31.out
    · obtain rfl : j = d.length := by omega
      have hex : rdRow d b = some (L.map (·.1), b.drop i) := by
        rw [H.out.from_, List.drop_eq_nil_of_le (Nat.le_refl _)]
        simp [rdRow]
      obtain ⟨t0, hrb⟩ := H.out.rb
      have cab := cell_at hrb 1 _ rfl
      have hle := H.out.le
      have fc0 := cell_at H.out.fb 0 _ rfl
      have fc1 := cell_at H.out.fb 1 _ rfl
      have ff0 := free_at H.out.fb 0
      have ff1 := free_at H.out.fb 1
      have HDN := Lib.hid (rq_done HR.out hex H.out.row H.out.below)
      clear hex hrb
      by_cases hlt2 : i < b.length
      · go_wp2_with fail
        exact bodyPost_ret (v := .tuple #[.slice none 0 0, .agg #[.int .i64 31, .int .i64 (-1)]]) (by simp [results, Tryd.results44, go_sem, fc0, fc1]) rfl (HDN.out.1 (by intro hx; have := congrArg List.length hx; simp at this; omega))
      · go_wp2_with fail
        exact bodyPost_ret (v := .tuple #[u7, .agg #[.int .i64 0, .int .i64 0]]) (by simp [results, Tryd.results44, go_sem, fc0, fc1]) rfl (HDN.out.2 (List.drop_eq_nil_of_le (by omega)))
/-- The document's Read. -/
theorem rread_c (A A2 : Option Addr) (c c2 : Nat) (w : World) (hT : Tabs w) (b : List UInt8) (d : List Bool) (hA : RY w A b) (hD : RB w A2 d) : Calls Tryd.prog 44 #[.slice A b.length c, .slice A2 d.length c2] w (ReadPost w (readV b d)) := by
  by_cases h : d.length < 1 ∨ 4 < d.length
  · exact rread_desc A A2 b.length c d.length c2 w h hD.1 b d rfl
  · by_cases hn : 1000 < b.length
    · exact rread_long A A2 b.length c d.length c2 w (by omega) (by omega) hn hA.1 b d rfl rfl
    · exact rread_main A A2 c c2 w hT b d hA hD (by omega) (by omega) (by omega)
end Go.Proofs.YthfejpldhemakaaDoor
