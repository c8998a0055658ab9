import Derived.Test.YthfejpldhemakaaDoorR
namespace Go.Proofs.YthfejpldhemakaaDoor
open Go.RowKit Go.Sort Go.Deep
/-- Every row of a value, however deep, leaves m bytes to 2^47. -/
inductive Slack (m : Nat) : V → Prop
  | mk {k i : Int} {t : ByteArray} {l : List V} {d : List (ByteArray × V)} (hl : l.length * 80 + m ≤ 140737488355328) (hd : d.length * 96 + m ≤ 140737488355328) (rl : ∀ x ∈ l, Slack m x) (rd : ∀ p ∈ d, Slack m p.2) : Slack m (.mk k i t l d)
theorem Slack.mono {m m' : Nat} (h : m' ≤ m) {v : V} (hv : Slack m v) : Slack m' v := by
  induction hv with
  | mk hl hd _ _ ihl ihd => exact .mk (by omega) (by omega) ihl ihd
theorem bound_le' {n : Nat} (h : decide (n ≤ reachBytes) = true) : n + 4096 ≤ 140737488355328 := by
  have := of_decide_eq_true h
  unfold reachBytes at this
  omega
section
variable {H : Type} {enc : TypeId × Value → H} {W : World} {base : Nat} {spare : Nat → Bool} {held : Bool}
set_option maxRecDepth 100000 in
/-- What reads as type 25 is a value, each of its rows well below 2^47 bytes. -/
theorem trod_sl (fuel : Nat) : ∀ (cs : List Value) (x : DataW H × List MemPlace), DataW.trod enc Tryd.prog W base spare held fuel 25 cs = some x → (x.1.weights Tryd.prog 25).all (· ≤ reachBytes) = true → ∃ v, RV W v cs ∧ Slack 4096 v := by
  induction fuel using Nat.strongRecOn with
  | _ fuel ih =>
    intro cs x hx hw
    obtain ⟨xs, n, rfl, rfl, hcl, hxl, hf⟩ := DataW.trod_struct Tryd.underlying25 hx
    rw [c25] at hcl
    match cs, hcl with
    | [v0, v1, v2, v3, v4], _ =>
    match xs, hxl with
    | [y0, y1, y2, y3, y4], _ =>
    have f0 : DataW.trod enc Tryd.prog W base spare held n 3 [v0] = some y0 := by have := hf 0 { name := "Kind", type := 3, offset := 0, embedded := false, tag := "", pkgPath := "", byteOffset := 0 } rfl; rw [c3] at this; exact this
    have f1 : DataW.trod enc Tryd.prog W base spare held n 3 [v1] = some y1 := by have := hf 1 { name := "Int", type := 3, offset := 1, embedded := false, tag := "", pkgPath := "", byteOffset := 8 } rfl; rw [c3] at this; exact this
    have f2 : DataW.trod enc Tryd.prog W base spare held n 9 [v2] = some y2 := by have := hf 2 { name := "Text", type := 9, offset := 2, embedded := false, tag := "", pkgPath := "", byteOffset := 16 } rfl; rw [c9] at this; exact this
    have f3 : DataW.trod enc Tryd.prog W base spare held n 22 [v3] = some y3 := by have := hf 3 { name := "List", type := 22, offset := 3, embedded := false, tag := "", pkgPath := "", byteOffset := 32 } rfl; rw [c22] at this; exact this
    have f4 : DataW.trod enc Tryd.prog W base spare held n 23 [v4] = some y4 := by have := hf 4 { name := "Doc", type := 23, offset := 4, embedded := false, tag := "", pkgPath := "", byteOffset := 56 } rfl; rw [c23] at this; exact this
    obtain ⟨k, e0, e0', wk⟩ := DataW.trod_int Tryd.underlying3 f0
    obtain ⟨i, e1, e1', wi⟩ := DataW.trod_int Tryd.underlying3 f1
    obtain ⟨t, e2, e2', _⟩ := DataW.trod_string Tryd.underlying9 f2
    simp only [List.cons.injEq, and_true] at e0 e1 e2
    subst e0 e1 e2 e0' e1' e2'
    simp only [List.map_cons, List.map_nil, DataW.weights, Tryd.underlying25, DataW.weightsEach, List.nil_append, List.append_nil, List.all_append, List.all_cons, List.all_nil, Bool.and_true, Bool.and_eq_true] at hw
    obtain ⟨hwt, hwl, hwd⟩ := hw
    have ht : t.size ≤ 140737488355328 := by
      have := bound_le hwt
      simpa using this
    have hL : ∃ l : List V, ∃ A c, v3 = .slice A l.length c ∧ RL W l A c ∧ l.length * 80 + 4096 ≤ 140737488355328 ∧ ∀ x ∈ l, Slack 4096 x := by
      rcases DataW.trod_slice Tryd.underlying22 f3 with ⟨e3, _⟩ | ⟨a, len, cap, elems, rest, m, hm, e3, e3', hb, hle, hcm, hlen, hel, _, _⟩
      · simp only [List.cons.injEq, and_true] at e3
        subst e3
        exact ⟨[], none, 0, rfl, RL.nil, by simp, by simp⟩
      · simp only [List.cons.injEq, and_true] at e3
        subst e3 e3'
        simp only [DataW.weights, Tryd.underlying22, List.all_cons, List.all_append, Bool.and_eq_true, List.length_map, by25] at hwl
        obtain ⟨h1, h2, _⟩ := hwl
        have hbd := bound_le' h1
        rw [c25] at hel
        obtain ⟨C, hC⟩ := slice_place (e := 25) (by omega) hlen hel
        have hv : ∀ j, j < len → ∃ v, RV W v (C j) ∧ Slack 4096 v := by
          intro j hj
          obtain ⟨_, _, hj', ht⟩ := hC j hj
          refine ih m (by omega) (C j) _ ht ?_
          rw [List.all_eq_true] at h2 ⊢
          intro q hq
          exact h2 q (weightsAll_mem (List.mem_map.2 ⟨_, List.getElem_mem hj', rfl⟩) q hq)
        obtain ⟨f, hf⟩ := choose_lt hv
        refine ⟨(List.range len).map f, some a, cap, by simp, ⟨?_, by simpa using hle, C, ?_, ?_⟩, ?_, ?_⟩
        · simp only [List.length_map, List.length_range]
          rw [hlen] at hbd
          have := Nat.mul_le_mul_right 80 (Nat.le_add_right len rest.length)
          omega
        · intro j hj
          exact (hC j (by simpa using hj)).1
        · intro j hj
          have := (hf j (by simpa using hj)).1
          simpa using this
        · simp only [List.length_map, List.length_range]
          rw [hlen] at hbd
          have := Nat.mul_le_mul_right 80 (Nat.le_add_right len rest.length)
          omega
        · intro x hx
          obtain ⟨j, hj, rfl⟩ := List.mem_map.1 hx
          exact (hf j (by simpa using hj)).2
    have hD : ∃ d : List (ByteArray × V), ∃ A c, v4 = .slice A d.length c ∧ RD W d A c ∧ d.length * 96 + 4096 ≤ 140737488355328 ∧ ∀ p ∈ d, Slack 4096 p.2 := by
      rcases DataW.trod_slice Tryd.underlying23 f4 with ⟨e3, _⟩ | ⟨a, len, cap, elems, rest, m, hm, e3, e3', hb, hle, hcm, hlen, hel, _, _⟩
      · simp only [List.cons.injEq, and_true] at e3
        subst e3
        exact ⟨[], none, 0, rfl, RD.nil, by simp, by simp⟩
      · simp only [List.cons.injEq, and_true] at e3
        subst e3 e3'
        simp only [DataW.weights, Tryd.underlying23, List.all_cons, List.all_append, Bool.and_eq_true, List.length_map, by72] at hwd
        obtain ⟨h1, h2, _⟩ := hwd
        have hbd := bound_le' h1
        rw [c72] at hel
        obtain ⟨C, hC⟩ := slice_place (e := 72) (by omega) hlen hel
        have hv : ∀ j, j < len → ∃ p : ByteArray × V × List Value, C j = .string p.1 :: p.2.2 ∧ p.1.size ≤ 140737488355328 ∧ RV W p.2.1 p.2.2 ∧ Slack 4096 p.2.1 := by
          intro j hj
          obtain ⟨_, hcl, hj', ht⟩ := hC j hj
          obtain ⟨zs, q, hmq, hz, _, hzl, hzf⟩ := DataW.trod_struct Tryd.underlying72 ht
          match hcs : C j, hcl with
          | [u0, u1, u2, u3, u4, u5], _ =>
          rw [hcs] at hzf
          match zs, hzl with
          | [z0, z1], _ =>
          have g0 : DataW.trod enc Tryd.prog W base spare held q 9 [u0] = some z0 := by have := hzf 0 { name := "Name", type := 9, offset := 0, embedded := false, tag := "", pkgPath := "", byteOffset := 0 } rfl; rw [c9] at this; exact this
          have g1 : DataW.trod enc Tryd.prog W base spare held q 25 [u1, u2, u3, u4, u5] = some z1 := by have := hzf 1 { name := "Value", type := 25, offset := 1, embedded := false, tag := "", pkgPath := "", byteOffset := 16 } rfl; rw [c25] at this; exact this
          obtain ⟨nm, e5, e5', _⟩ := DataW.trod_string Tryd.underlying9 g0
          simp only [List.cons.injEq, and_true] at e5
          subst e5 e5'
          have hwj : ((elems[j]).1.weights Tryd.prog 72).all (· ≤ reachBytes) = true := by
            rw [List.all_eq_true] at h2 ⊢
            intro q hq
            exact h2 q (weightsAll_mem (List.mem_map.2 ⟨_, List.getElem_mem hj', rfl⟩) q hq)
          rw [hz] at hwj
          simp only [List.map_cons, List.map_nil, DataW.weights, Tryd.underlying72, DataW.weightsEach, List.append_nil, List.all_append, List.all_cons, List.all_nil, Bool.and_true, Bool.and_eq_true] at hwj
          obtain ⟨hwn, hwv⟩ := hwj
          obtain ⟨v, hv⟩ := ih q (by omega) _ _ g1 hwv
          exact ⟨(nm, v, [u1, u2, u3, u4, u5]), rfl, by have := bound_le hwn; simpa using this, hv⟩
        obtain ⟨f, hf⟩ := choose_lt hv
        refine ⟨(List.range len).map fun j => ((f j).1, (f j).2.1), some a, cap, by simp, ⟨?_, by simpa using hle, ?_, fun j => (f j).2.2, ?_, ?_⟩, ?_, ?_⟩
        · simp only [List.length_map, List.length_range]
          rw [hlen] at hbd
          have := Nat.mul_le_mul_right 96 (Nat.le_add_right len rest.length)
          omega
        · intro j hj
          have := (hf j (by simpa using hj)).2.1
          simpa using this
        · intro j hj
          have hj' : j < len := by simpa using hj
          have := (hC j hj').1
          rw [(hf j hj').1] at this
          simpa using this
        · intro j hj
          have := (hf j (by simpa using hj)).2.2.1
          simpa using this
        · simp only [List.length_map, List.length_range]
          rw [hlen] at hbd
          have := Nat.mul_le_mul_right 96 (Nat.le_add_right len rest.length)
          omega
        · intro x hx
          obtain ⟨j, hj, rfl⟩ := List.mem_map.1 hx
          exact (hf j (by simpa using hj)).2.2.2
    obtain ⟨l, A, c, rfl, hl, hl1, hl2⟩ := hL
    obtain ⟨d, A', c', rfl, hd, hd1, hd2⟩ := hD
    exact ⟨.mk k i t l d, RV.mk' (int_rng wk) (int_rng wi) ht hl hd, .mk hl1 hd1 hl2 hd2⟩
end
end Go.Proofs.YthfejpldhemakaaDoor
