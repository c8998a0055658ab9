import Derived.Test.YthfejpldhemakaaDoorCl
import Derived.Test.YthfejpldhemakaaDoorKn
import Derived.Lib.AppendStr
namespace Go.Proofs.YthfejpldhemakaaDoor
open Go.RowKit Go.Sort Go.Lib
/-- A byte's cell. -/
def bv (b : UInt8) : Value := .int .u8 (b.toNat : Int)
/-- A slice of bytes in a row of the call's own. -/
def BO (w : World) (v : Value) (xs : List UInt8) : Prop := w.ownsRow 0 5 1 v xs.length (xs.map bv)
theorem info5 : (Tryd.prog.info? 5).map (fun i => (i.zero, i.size, i.bytes)) = some (some (.int .u8 0), 1, 1) := by kernel_rfl
theorem BO.at_ {w w1 : World} {v : Value} {xs : List UInt8} (h : BO w v xs) (hb : ∀ g, v.ownBlock = some g → w1.heap[g]? = w.heap[g]?) : BO w1 v xs := ownsRow_at h hb
theorem BO.lt {w : World} {v : Value} {xs : List UInt8} (h : BO w v xs) {g : Nat} (hg : v.ownBlock = some g) : g < w.heap.size := (World.ownsRow.lt h g hg).2
theorem BO.grow {w w1 : World} {v : Value} {xs : List UInt8} (h : BO w v xs) (hb : Below w.heap.size w w1) : BO w1 v xs := h.at_ fun g hg => hb.block g (h.lt hg)
theorem BO.nil (w : World) : BO w (.slice none 0 0) [] := ⟨rfl, .inl ⟨rfl, rfl⟩⟩
theorem BO.form {w : World} {v : Value} {xs : List UInt8} (h : BO w v xs) : ∃ A c, v = .slice A xs.length c ∧ xs.length ≤ c := ownsRow_slice h
/-- What an append to v that answers v' leaves. -/
structure Gr (w w' : World) (v v' : Value) : Prop where
  grown : w.grownBy w' v.ownBlock
  row : ∀ g, v'.ownBlock = some g → v.ownBlock = some g ∨ w.heap.size ≤ g
theorem Gr.refl (w : World) (v : Value) : Gr w w v v := ⟨World.grownBy.refl _ _, fun _ h => .inl h⟩
theorem Gr.trans {a b c : World} {u v x : Value} (h : Gr a b u v) (k : Gr b c v x) : Gr a c u x := by
  refine ⟨⟨k.grown.os.trans h.grown.os, k.grown.tape.trans h.grown.tape, k.grown.output.trans h.grown.output, Nat.le_trans h.grown.size k.grown.size, fun q hq hne => ?_⟩, fun g hg => ?_⟩
  · refine (k.grown.block q (Nat.lt_of_lt_of_le hq h.grown.size) fun he => ?_).trans (h.grown.block q hq hne)
    rcases h.row q he.symm with h1 | h1
    · exact hne h1.symm
    · omega
  · rcases k.row g hg with h1 | h1
    · exact h.row g h1
    · exact .inr (Nat.le_trans h.grown.size h1)
theorem Gr.pre {a b c : World} {u v : Value} (h : Below a.heap.size a b) (k : Gr b c u v) : Gr a c u v :=
  ⟨⟨k.grown.os.trans h.os, k.grown.tape.trans h.tape, k.grown.output.trans h.output, Nat.le_trans h.size k.grown.size, fun q hq hne => (k.grown.block q (Nat.lt_of_lt_of_le hq h.size) hne).trans (h.block q hq)⟩, fun g hg => (k.row g hg).imp id fun h1 => Nat.le_trans h.size h1⟩
theorem Gr.post {a b c : World} {u v : Value} (k : Gr a b u v) (h : Below b.heap.size b c) : Gr a c u v :=
  ⟨⟨h.os.trans k.grown.os, h.tape.trans k.grown.tape, h.output.trans k.grown.output, Nat.le_trans k.grown.size h.size, fun q hq hne => (h.block q (Nat.lt_of_lt_of_le hq k.grown.size)).trans (k.grown.block q hq hne)⟩, k.row⟩
theorem Gr.below {B : Nat} {w w' : World} {u v : Value} (k : Gr w w' u v) (hB : B ≤ w.heap.size) (hu : ∀ g, u.ownBlock = some g → B ≤ g) : Below B w w' :=
  ⟨k.grown.os, k.grown.tape, k.grown.output, k.grown.size, fun q hq => k.grown.block q (Nat.lt_of_lt_of_le hq hB) (fun he => by have := hu q he.symm; omega)⟩
theorem Gr.block {w w' : World} {u v : Value} (k : Gr w w' u v) {q : Nat} (hq : q < w.heap.size) (hne : u.ownBlock ≠ some q) : w'.heap[q]? = w.heap[q]? := k.grown.block q hq (fun he => hne he.symm)
theorem Gr.from_ {B : Nat} {w w' : World} {u v : Value} (k : Gr w w' u v) (hB : B ≤ w.heap.size) (hu : ∀ g, u.ownBlock = some g → B ≤ g) : ∀ g, v.ownBlock = some g → B ≤ g := fun g hg => by
  rcases k.row g hg with h | h
  · exact hu g h
  · omega
theorem news1 {w : World} {nb : Nat} {c : Int} {b : UInt8} {fr : Nat × Nat} (h : w.heap[nb]? = some (.cells #[.int .u8 c] 5 fr)) (hc : c = (b.toNat : Int)) : ∀ j u, ([b].map bv)[j]? = some u → w.cell? ((⟨nb, 0, none⟩ : Addr).add j) = some u := by
  subst hc
  exact World.news_of_block h
theorem news2 {w : World} {nb : Nat} {c d : Int} {b b' : UInt8} {fr : Nat × Nat} (h : w.heap[nb]? = some (.cells #[.int .u8 c, .int .u8 d] 5 fr)) (hc : c = (b.toNat : Int)) (hd : d = (b'.toNat : Int)) : ∀ j u, ([b, b'].map bv)[j]? = some u → w.cell? ((⟨nb, 0, none⟩ : Addr).add j) = some u := by
  subst hc hd
  exact World.news_of_block h
/-- The bytes of an owned slice, as an append's source. -/
theorem BO.news {w : World} {g c : Nat} {xs : List UInt8} (h : BO w (.slice (some ⟨g, 0, none⟩) xs.length c) xs) : ∀ j u, (xs.map bv)[j]? = some u → w.cell? ((⟨g, 0, none⟩ : Addr).add j) = some u := World.ownsRow.cells h rfl
theorem BO_of {w : World} {g n c : Nat} {xs ys : List UInt8} (h : w.ownsRow 0 5 1 (.slice (some ⟨g, 0, none⟩) n c) n (xs.map bv ++ ys.map bv)) (hn : n = xs.length + ys.length) : BO w (.slice (some ⟨g, 0, none⟩) n c) (xs ++ ys) := by
  unfold BO
  rw [List.length_append, ← hn, List.map_append]
  exact h
theorem bv_one {xs : List UInt8} : ∀ u ∈ xs.map bv, u.oneCell' = true := by
  intro u hu
  obtain ⟨b, _, rfl⟩ := List.mem_map.1 hu
  rfl
theorem wpList_app {ops : Array Oper} {rest : List Oper} {o : Oper} {a : Act} {Q : Exit → Act → World → Prop} {w : World} (hgd : o.guard = none) (s x : Operand)
    (ho : o.op = .call { callee := .builtin .append, args := #[s, x], argTypes := #[42, 42] }) (v : Value) (xs ys : List UInt8) (hs : a.eval s = v) (hb : BO w v xs) (ad : Addr) (c : Nat) (hx : a.eval x = .slice (some ad) ys.length c)
    (hn : ∀ j u, (ys.map bv)[j]? = some u → w.cell? (ad.add j) = some u) (hm : 0 < ys.length) (hlen : xs.length + ys.length ≤ 140737488355328) (n : Nat) (hnn : n = xs.length + ys.length)
    (h : ∀ g cap w', BO w' (.slice (some ⟨g, 0, none⟩) n cap) (xs ++ ys) → Gr w w' v (.slice (some ⟨g, 0, none⟩) n cap) → wpList Tryd.prog ops Q rest (a.put o.dst (.slice (some ⟨g, 0, none⟩) n cap)) w') : wpList Tryd.prog ops Q (o :: rest) a w := by
  subst hnn
  obtain ⟨i0, hi0, hz0, hz1, hz2⟩ := info_parts info5
  refine wpList_append_lies w hgd s x 42 ho 0 5 i0 _ 1 1 Tryd.underlying42 hi0 hz0 hz1 hz2 rfl (by omega) v xs.length (xs.map bv) hs hb ad ys.length c (ys.map bv) hx (by simp) hn bv_one hm (by unfold maxLen; omega) (by omega) (by omega) w.heap.size rfl ?_
  intro g cap w' h1 h2 h3 _
  exact h g cap w' (BO_of h1 rfl) ⟨h2, fun q hq => by
    have hq : g = q := Option.some.inj hq
    subst hq
    exact h3.imp id (fun h => Nat.le_of_eq h.symm)⟩
theorem step_app {ops : Array Oper} {o : Oper} {a : Act} {K : Act → World → Prop} {Q : Exit → Act → World → Prop} {E : Prop} {w : World} (hgd : o.guard = none) (s x : Operand)
    (ho : o.op = .call { callee := .builtin .append, args := #[s, x], argTypes := #[42, 42] }) (v : Value) (xs ys : List UInt8) (hs : a.eval s = v) (hb : BO w v xs) (ad : Addr) (c : Nat) (hx : a.eval x = .slice (some ad) ys.length c)
    (hn : ∀ j u, (ys.map bv)[j]? = some u → w.cell? (ad.add j) = some u) (hm : 0 < ys.length) (hlen : xs.length + ys.length ≤ 140737488355328) (n : Nat) (hnn : n = xs.length + ys.length)
    (h : ∀ g cap w', BO w' (.slice (some ⟨g, 0, none⟩) n cap) (xs ++ ys) → Gr w w' v (.slice (some ⟨g, 0, none⟩) n cap) → K (a.put o.dst (.slice (some ⟨g, 0, none⟩) n cap)) w') :
    if Region.wanted o (yielded ops a.tmps) = true then Oper.wp Tryd.prog o a w K Q else E := by
  subst hnn
  obtain ⟨i0, hi0, hz0, hz1, hz2⟩ := info_parts info5
  refine step_append_lies w hgd s x 42 ho 0 5 i0 _ 1 1 Tryd.underlying42 hi0 hz0 hz1 hz2 rfl (by omega) v xs.length (xs.map bv) hs hb ad ys.length c (ys.map bv) hx (by simp) hn bv_one hm (by unfold maxLen; omega) (by omega) (by omega) w.heap.size rfl ?_
  intro g cap w' h1 h2 h3 _
  exact h g cap w' (BO_of h1 rfl) ⟨h2, fun q hq => by
    have hq : g = q := Option.some.inj hq
    subst hq
    exact h3.imp id (fun h => Nat.le_of_eq h.symm)⟩
/-- A string's bytes appended, and where the new slice lies. -/
theorem run_str_lies (w : World) (ty : TypeId) (v : Value) (xs : List UInt8) (hb : BO w v xs) (s : ByteArray) (hs0 : 0 < s.size) (hlen : xs.length + s.size ≤ 140737488355328) :
    ∃ g cap w', (Builtin.append_ #[42, 9] ty #[v, .string s]).run Tryd.prog w = .ok (.slice (some ⟨g, 0, none⟩) (xs.length + s.size) cap) w' ∧ BO w' (.slice (some ⟨g, 0, none⟩) (xs.length + s.size) cap) (xs ++ s.data.toList) ∧ Gr w w' v (.slice (some ⟨g, 0, none⟩) (xs.length + s.size) cap) := by
  obtain ⟨i0, hi0, hz0, hz1, hz2⟩ := info_parts info5
  obtain ⟨v', w', hr, h1, h2, _⟩ := run_append_own_string (P := Tryd.prog) w 0 42 9 ty 5 i0 Tryd.underlying42 Tryd.underlying9 hi0 hz0 hz1 hz2 v xs.length (xs.map bv) hb s (by unfold maxLen; omega) hlen (by omega)
  have hat : ∃ g cap, v' = .slice (some ⟨g, 0, none⟩) (xs.length + s.size) cap ∧ (v.ownBlock = some g ∨ g = w.heap.size) := by
    have hl := hb.1
    rcases hb.2 with ⟨rfl, hn⟩ | ⟨g, cap, cur, rfl, _, h4, h5, h6, h7, h8⟩
    · have hr2 := run_append_nil_string (P := Tryd.prog) w 42 9 ty 5 i0 _ Tryd.underlying42 Tryd.underlying9 hi0 hz0 s hs0 (by omega) (by rw [hz2]; omega)
      rw [hr2] at hr
      injection hr with hr _
      exact ⟨_, _, by rw [← hr, hn, Nat.zero_add], .inr rfl⟩
    · by_cases hroom : xs.length + s.size ≤ cap
      · have hr2 := run_append_room_string (P := Tryd.prog) w 42 9 ty 5 i0 Tryd.underlying42 Tryd.underlying9 hi0 hz1 g xs.length cap cur h4 s hroom (by omega)
        rw [hr2] at hr
        injection hr with hr _
        exact ⟨_, _, hr.symm, .inl rfl⟩
      · have hr2 := run_append_grow_string (P := Tryd.prog) w 42 9 ty 5 i0 _ Tryd.underlying42 Tryd.underlying9 hi0 hz0 ⟨g, 0, none⟩ xs.length cap (xs.map bv) (by rw [hz1]; exact hl) (World.ownsRow.cells hb rfl) s (by omega) (by omega) (by rw [hz2]; exact growslice_fits (by omega) (by omega))
        rw [hr2] at hr
        injection hr with hr _
        exact ⟨_, _, hr.symm, .inr rfl⟩
  obtain ⟨g, cap, rfl, hat⟩ := hat
  refine ⟨g, cap, w', hr, BO_of (ys := s.data.toList) h1 (by simp), h2, fun q hq => ?_⟩
  have hq : g = q := Option.some.inj hq
  subst hq
  exact hat.imp id (fun h => Nat.le_of_eq h.symm)
theorem wpList_appS {ops : Array Oper} {rest : List Oper} {o : Oper} {a : Act} {Q : Exit → Act → World → Prop} {w : World} (hgd : o.guard = none) (sl x : Operand)
    (ho : o.op = .call { callee := .builtin .append, args := #[sl, x], argTypes := #[42, 9] }) (v : Value) (xs : List UInt8) (hs : a.eval sl = v) (hb : BO w v xs) (s : ByteArray) (hx : a.eval x = .string s) (hs0 : 0 < s.size) (hlen : xs.length + s.size ≤ 140737488355328) (n : Nat) (hnn : n = xs.length + s.size)
    (h : ∀ g cap w', BO w' (.slice (some ⟨g, 0, none⟩) n cap) (xs ++ s.data.toList) → Gr w w' v (.slice (some ⟨g, 0, none⟩) n cap) → wpList Tryd.prog ops Q rest (a.put o.dst (.slice (some ⟨g, 0, none⟩) n cap)) w') : wpList Tryd.prog ops Q (o :: rest) a w := by
  subst hnn
  refine wpList_plain hgd fun K hK => ?_
  obtain ⟨g, cap, w', hr, h2, h3⟩ := run_str_lies w o.type v xs hb s hs0 hlen
  unfold Oper.wp execOp
  simp only [ho, resolve, invoke, builtin, Sem.run_bind, Sem.run_pure, Result.andThen_ok, List.map_toArray, List.map_cons, List.map_nil, hs, hx, hr]
  exact hK _ _ (h g cap w' h2 h3)
end Go.Proofs.YthfejpldhemakaaDoor
