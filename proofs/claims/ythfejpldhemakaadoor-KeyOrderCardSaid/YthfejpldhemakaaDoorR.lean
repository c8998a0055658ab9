import Derived.Test.YthfejpldhemakaaDoorT
import Derived.Test.YthfejpldhemakaaDoorV
import Derived.Deep.Slices
import Derived.ChangeArms
import Derived.KernelRfl
import GoSem.ClaimJoined
namespace Go.Proofs.YthfejpldhemakaaDoor
open Go.RowKit Go.Sort Go.Deep
theorem c25 : Tryd.prog.cellsOf 25 = 5 := by kernel_rfl
theorem c72 : Tryd.prog.cellsOf 72 = 6 := by kernel_rfl
theorem c3 : Tryd.prog.cellsOf 3 = 1 := by kernel_rfl
theorem c9 : Tryd.prog.cellsOf 9 = 1 := by kernel_rfl
theorem c22 : Tryd.prog.cellsOf 22 = 1 := by kernel_rfl
theorem c23 : Tryd.prog.cellsOf 23 = 1 := by kernel_rfl
theorem by25 : Tryd.prog.bytesOf 25 = 80 := by kernel_rfl
theorem by72 : Tryd.prog.bytesOf 72 = 96 := by kernel_rfl
theorem cells_len {w : World} {base : Nat} {a : Addr} {n : Nat} {cs : List Value} (h : w.cells? base a n = some cs) : cs.length = n := (World.cells?_some h).2.1
theorem cells_at {w : World} {base : Nat} {a : Addr} {n : Nat} {cs : List Value} (h : w.cells? base a n = some cs) (i : Nat) (u : Value) (hu : cs[i]? = some u) : w.cell? (a.add i) = some u := by
  obtain ⟨_, hl, hc⟩ := World.cells?_some h
  have hi : i < n := by
    rw [← hl]
    exact (List.getElem?_eq_some_iff.1 hu).1
  rw [hc i hi, hu]
theorem add_add (a : Addr) (p i : Nat) : (a.add p).add i = a.add (p + i) := by
  unfold Addr.add
  by_cases h1 : p = 0 <;> by_cases h2 : i = 0 <;> simp [h1, h2, Nat.add_assoc]
theorem add_plain' (b off p : Nat) : (⟨b, off, none⟩ : Addr).add p = ⟨b, off + p, none⟩ := by unfold Addr.add; split <;> simp_all
section
variable {H : Type} {enc : TypeId × Value → H} {W : World} {base : Nat} {spare : Nat → Bool} {held : Bool}
theorem weightsAll_mem {e : TypeId} : ∀ {ds : List (DataW H)} {d : DataW H}, d ∈ ds → ∀ n ∈ d.weights Tryd.prog e, n ∈ DataW.weightsAll Tryd.prog e ds
  | [], _, h, _, _ => absurd h (by simp)
  | c :: ds, d, h, n, hn => by
    rw [DataW.weightsAll]
    rcases List.mem_cons.1 h with rfl | h
    · exact List.mem_append_left _ hn
    · exact List.mem_append_right _ (weightsAll_mem h n hn)
/-- A slice whose elements lie somewhere: where. -/
theorem slice_place {e c : Nat} {a : Addr} {len n : Nat} {elems : List (DataW H × List MemPlace)} (hc : 0 < c) (hlen : elems.length = len)
    (hel : ∀ i, i < len → (W.cells? base (a.add (i * c)) c).bind (DataW.trod enc Tryd.prog W base spare held n e) = elems[i]?) :
    ∃ C : Nat → List Value, (∀ j, j < len → CellsAt W (some a) (j * c) (C j) ∧ (C j).length = c ∧ ∃ h : j < elems.length, DataW.trod enc Tryd.prog W base spare held n e (C j) = some elems[j]) := by
  have hone : ∀ i, i < len → ∃ cs, W.cells? base (a.add (i * c)) c = some cs ∧ ∃ h : i < elems.length, DataW.trod enc Tryd.prog W base spare held n e cs = some elems[i] := by
    intro i hi
    have h := hel i hi
    have hi' : i < elems.length := by omega
    rw [List.getElem?_eq_getElem hi'] at h
    obtain ⟨cs, h1, h2⟩ := Option.bind_eq_some_iff.1 h
    exact ⟨cs, h1, hi', h2⟩
  obtain ⟨C, hC⟩ := choose_lt hone
  refine ⟨C, fun j hj => ?_⟩
  obtain ⟨h1, h2⟩ := hC j hj
  have hcl := cells_len h1
  have hspot : a.spot = none := by
    have h0 := (hC 0 (by omega)).1
    have h0l := cells_len h0
    have hcell := cells_at h0 0 _ (List.getElem?_eq_getElem (by omega))
    rw [Nat.zero_mul, add_add] at hcell
    simp only [Nat.add_zero, Addr.add, if_true] at hcell
    unfold World.cell? at hcell
    split at hcell
    · split at hcell
      · cases hcell
      · rename_i hs
        cases hq : a.spot with
        | none => rfl
        | some _ => rw [hq] at hs; simp at hs
    · cases hcell
  obtain ⟨b, off, sp⟩ := a
  simp only at hspot
  subst hspot
  refine ⟨⟨b, off, rfl, fun i u hu => ?_⟩, hcl, h2⟩
  have := cells_at h1 i u hu
  rwa [add_plain', add_plain'] at this
theorem bound_le {n : Nat} (h : decide (n ≤ reachBytes) = true) : n ≤ 140737488355328 := by
  have := of_decide_eq_true h
  unfold reachBytes at this
  omega
theorem int_rng {n : Int} (h : (Lit.int .i64 n).wf = true) : Rng n := by
  unfold Rng
  have e1 : IntKind.i64.min = -9223372036854775808 := by decide
  have e2 : IntKind.i64.max = 9223372036854775807 := by decide
  simp only [Lit.wf, Bool.and_eq_true, decide_eq_true_eq, e1, e2] at h
  exact h
set_option maxRecDepth 100000 in
/-- What reads as type 25 is a value. -/
theorem trod_rv (fuel : Nat) : ∀ (cs : List Value) (x : DataW H × List MemPlace), DataW.trod enc Tryd.prog W base spare held fuel 25 cs = some x → (x.1.weights Tryd.prog 25).all (· ≤ reachBytes) = true → ∃ v, RV W v cs := by
  induction fuel using Nat.strongRecOn with
  | _ fuel ih =>
    intro cs x hx hw
    obtain ⟨xs, n, rfl, rfl, hcl, hxl, hf⟩ := DataW.trod_struct Tryd.underlying25 hx
    rw [c25] at hcl
    match cs, hcl with
    | [v0, v1, v2, v3, v4], _ =>
    match xs, hxl with
    | [y0, y1, y2, y3, y4], _ =>
    have f0 : DataW.trod enc Tryd.prog W base spare held n 3 [v0] = some y0 := by have := hf 0 { name := "Kind", type := 3, offset := 0, embedded := false, tag := "", pkgPath := "", byteOffset := 0 } rfl; rw [c3] at this; exact this
    have f1 : DataW.trod enc Tryd.prog W base spare held n 3 [v1] = some y1 := by have := hf 1 { name := "Int", type := 3, offset := 1, embedded := false, tag := "", pkgPath := "", byteOffset := 8 } rfl; rw [c3] at this; exact this
    have f2 : DataW.trod enc Tryd.prog W base spare held n 9 [v2] = some y2 := by have := hf 2 { name := "Text", type := 9, offset := 2, embedded := false, tag := "", pkgPath := "", byteOffset := 16 } rfl; rw [c9] at this; exact this
    have f3 : DataW.trod enc Tryd.prog W base spare held n 22 [v3] = some y3 := by have := hf 3 { name := "List", type := 22, offset := 3, embedded := false, tag := "", pkgPath := "", byteOffset := 32 } rfl; rw [c22] at this; exact this
    have f4 : DataW.trod enc Tryd.prog W base spare held n 23 [v4] = some y4 := by have := hf 4 { name := "Doc", type := 23, offset := 4, embedded := false, tag := "", pkgPath := "", byteOffset := 56 } rfl; rw [c23] at this; exact this
    obtain ⟨k, e0, e0', wk⟩ := DataW.trod_int Tryd.underlying3 f0
    obtain ⟨i, e1, e1', wi⟩ := DataW.trod_int Tryd.underlying3 f1
    obtain ⟨t, e2, e2', _⟩ := DataW.trod_string Tryd.underlying9 f2
    simp only [List.cons.injEq, and_true] at e0 e1 e2
    subst e0 e1 e2 e0' e1' e2'
    simp only [List.map_cons, List.map_nil, DataW.weights, Tryd.underlying25, DataW.weightsEach, List.nil_append, List.append_nil, List.all_append, List.all_cons, List.all_nil, Bool.and_true, Bool.and_eq_true] at hw
    obtain ⟨hwt, hwl, hwd⟩ := hw
    have ht : t.size ≤ 140737488355328 := by
      have := bound_le hwt
      simpa using this
    have hL : ∃ l : List V, ∃ A c, v3 = .slice A l.length c ∧ RL W l A c := by
      rcases DataW.trod_slice Tryd.underlying22 f3 with ⟨e3, _⟩ | ⟨a, len, cap, elems, rest, m, hm, e3, e3', hb, hle, hcm, hlen, hel, _, _⟩
      · simp only [List.cons.injEq, and_true] at e3
        subst e3
        exact ⟨[], none, 0, rfl, RL.nil⟩
      · simp only [List.cons.injEq, and_true] at e3
        subst e3 e3'
        simp only [DataW.weights, Tryd.underlying22, List.all_cons, List.all_append, Bool.and_eq_true, List.length_map, by25] at hwl
        obtain ⟨h1, h2, _⟩ := hwl
        have hbd := bound_le h1
        rw [c25] at hel
        obtain ⟨C, hC⟩ := slice_place (e := 25) (by omega) hlen hel
        have hv : ∀ j, j < len → ∃ v, RV W v (C j) := by
          intro j hj
          obtain ⟨_, _, hj', ht⟩ := hC j hj
          refine ih m (by omega) (C j) _ ht ?_
          rw [List.all_eq_true] at h2 ⊢
          intro q hq
          exact h2 q (weightsAll_mem (List.mem_map.2 ⟨_, List.getElem_mem hj', rfl⟩) q hq)
        obtain ⟨f, hf⟩ := choose_lt hv
        refine ⟨(List.range len).map f, some a, cap, by simp, ?_, by simpa using hle, C, ?_, ?_⟩
        · simp only [List.length_map, List.length_range]
          rw [hlen] at hbd
          have := Nat.mul_le_mul_right 80 (Nat.le_add_right len rest.length)
          omega
        · intro j hj
          exact (hC j (by simpa using hj)).1
        · intro j hj
          have := hf j (by simpa using hj)
          simpa using this
    have hD : ∃ d : List (ByteArray × V), ∃ A c, v4 = .slice A d.length c ∧ RD W d A c := by
      rcases DataW.trod_slice Tryd.underlying23 f4 with ⟨e3, _⟩ | ⟨a, len, cap, elems, rest, m, hm, e3, e3', hb, hle, hcm, hlen, hel, _, _⟩
      · simp only [List.cons.injEq, and_true] at e3
        subst e3
        exact ⟨[], none, 0, rfl, RD.nil⟩
      · simp only [List.cons.injEq, and_true] at e3
        subst e3 e3'
        simp only [DataW.weights, Tryd.underlying23, List.all_cons, List.all_append, Bool.and_eq_true, List.length_map, by72] at hwd
        obtain ⟨h1, h2, _⟩ := hwd
        have hbd := bound_le h1
        rw [c72] at hel
        obtain ⟨C, hC⟩ := slice_place (e := 72) (by omega) hlen hel
        have hv : ∀ j, j < len → ∃ p : ByteArray × V × List Value, C j = .string p.1 :: p.2.2 ∧ p.1.size ≤ 140737488355328 ∧ RV W p.2.1 p.2.2 := by
          intro j hj
          obtain ⟨_, hcl, hj', ht⟩ := hC j hj
          obtain ⟨zs, q, hmq, hz, _, hzl, hzf⟩ := DataW.trod_struct Tryd.underlying72 ht
          match hcs : C j, hcl with
          | [u0, u1, u2, u3, u4, u5], _ =>
          rw [hcs] at hzf
          match zs, hzl with
          | [z0, z1], _ =>
          have g0 : DataW.trod enc Tryd.prog W base spare held q 9 [u0] = some z0 := by have := hzf 0 { name := "Name", type := 9, offset := 0, embedded := false, tag := "", pkgPath := "", byteOffset := 0 } rfl; rw [c9] at this; exact this
          have g1 : DataW.trod enc Tryd.prog W base spare held q 25 [u1, u2, u3, u4, u5] = some z1 := by have := hzf 1 { name := "Value", type := 25, offset := 1, embedded := false, tag := "", pkgPath := "", byteOffset := 16 } rfl; rw [c25] at this; exact this
          obtain ⟨nm, e5, e5', _⟩ := DataW.trod_string Tryd.underlying9 g0
          simp only [List.cons.injEq, and_true] at e5
          subst e5 e5'
          have hwj : ((elems[j]).1.weights Tryd.prog 72).all (· ≤ reachBytes) = true := by
            rw [List.all_eq_true] at h2 ⊢
            intro q hq
            exact h2 q (weightsAll_mem (List.mem_map.2 ⟨_, List.getElem_mem hj', rfl⟩) q hq)
          rw [hz] at hwj
          simp only [List.map_cons, List.map_nil, DataW.weights, Tryd.underlying72, DataW.weightsEach, List.append_nil, List.all_append, List.all_cons, List.all_nil, Bool.and_true, Bool.and_eq_true] at hwj
          obtain ⟨hwn, hwv⟩ := hwj
          obtain ⟨v, hv⟩ := ih q (by omega) _ _ g1 hwv
          exact ⟨(nm, v, [u1, u2, u3, u4, u5]), rfl, by have := bound_le hwn; simpa using this, hv⟩
        obtain ⟨f, hf⟩ := choose_lt hv
        refine ⟨(List.range len).map fun j => ((f j).1, (f j).2.1), some a, cap, by simp, ?_, by simpa using hle, ?_, fun j => (f j).2.2, ?_, ?_⟩
        · simp only [List.length_map, List.length_range]
          rw [hlen] at hbd
          have := Nat.mul_le_mul_right 96 (Nat.le_add_right len rest.length)
          omega
        · intro j hj
          have := (hf j (by simpa using hj)).2.1
          simpa using this
        · intro j hj
          have hj' : j < len := by simpa using hj
          have := (hC j hj').1
          rw [(hf j hj').1] at this
          simpa using this
        · intro j hj
          have := (hf j (by simpa using hj)).2.2
          simpa using this
    obtain ⟨l, A, c, rfl, hl⟩ := hL
    obtain ⟨d, A', c', rfl, hd⟩ := hD
    exact ⟨.mk k i t l d, RV.mk' (int_rng wk) (int_rng wi) ht hl hd⟩
end
end Go.Proofs.YthfejpldhemakaaDoor
