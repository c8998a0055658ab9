import Derived.Test.YthfejpldhemakaaDoorKp
import Derived.Test.YthfejpldhemakaaDoorCl
import Derived.Test.YthfejpldhemakaaDoorSl
namespace Go.Proofs.YthfejpldhemakaaDoor
open Go.RowKit Go.Sort
/-- A row of the call's own whose cells from f on are those of xs. -/
def TailR (w : World) (e sz : Nat) (sl : Value) (n : Nat) (xs : List Value) (f : Nat) : Prop :=
  ∃ ys, w.ownsRow 0 e sz sl n ys ∧ ∀ p, f ≤ p → ys[p]? = xs[p]?
theorem TailR.of {w : World} {e sz : Nat} {sl : Value} {n : Nat} {xs : List Value} (h : w.ownsRow 0 e sz sl n xs) : TailR w e sz sl n xs 0 := ⟨xs, h, fun _ _ => rfl⟩
theorem TailR.at_ {w w1 : World} {e sz : Nat} {sl : Value} {n : Nat} {xs : List Value} {f : Nat} (h : TailR w e sz sl n xs f) (hb : ∀ g, sl.ownBlock = some g → w1.heap[g]? = w.heap[g]?) : TailR w1 e sz sl n xs f := by
  obtain ⟨ys, h1, h2⟩ := h
  exact ⟨ys, ownsRow_at h1 hb, h2⟩
theorem TailR.cell {w : World} {e sz g n c : Nat} {xs : List Value} {f : Nat} (h : TailR w e sz (.slice (some ⟨g, 0, none⟩) n c) n xs f) (p : Nat) (v : Value) (hp : f ≤ p) (hv : xs[p]? = some v) : w.cell? ⟨g, p, none⟩ = some v := by
  obtain ⟨ys, h1, h2⟩ := h
  have := h1.cells (g := g) rfl p v ((h2 p hp).trans hv)
  have ha : (⟨g, 0, none⟩ : Addr).add p = ⟨g, p, none⟩ := by unfold Addr.add; split <;> simp_all
  rwa [ha] at this
theorem TailR.free {w : World} {e sz g n c : Nat} {xs : List Value} {f : Nat} (h : TailR w e sz (.slice (some ⟨g, 0, none⟩) n c) n xs f) (p : Nat) : w.frozen? ⟨g, p, none⟩ = false := by
  obtain ⟨ys, h1, h2⟩ := h
  rcases h1.2 with ⟨h3, _⟩ | ⟨g', cap, cur, h3, _, h4, _⟩
  · cases h3
  · injection h3 with h3
    injection h3 with h3
    injection h3 with h3
    subst h3
    exact free_at h4 p
theorem TailR.set {w : World} {e sz g n c : Nat} {xs : List Value} {f f' : Nat} (h : TailR w e sz (.slice (some ⟨g, 0, none⟩) n c) n xs f) (p : Nat) (v : Value) (hp : p < f') (hf : f ≤ f') : TailR (w.setCell ⟨g, p, none⟩ v) e sz (.slice (some ⟨g, 0, none⟩) n c) n xs f' := by
  obtain ⟨ys, h1, h2⟩ := h
  obtain ⟨hl, h3⟩ := h1
  refine ⟨ys.set p v, ⟨by simpa using hl, ?_⟩, fun q hq => ?_⟩
  · rcases h3 with ⟨h3, _⟩ | ⟨g', cap, cur, h3, h4, h5, h6, h7, h8, h9⟩
    · cases h3
    · injection h3 with h3 h3' h3''
      injection h3 with h3
      injection h3 with h3
      subst h3 h3''
      refine .inr ⟨g, c, _, rfl, h4, setCell_block h5 p v, h6, h7, by simpa using h8, ?_⟩
      rw [Array.toList_setIfInBounds, List.take_set, h9]
  · rw [List.getElem?_set_ne (by omega)]
    exact h2 q (by omega)
theorem OV.invF {m : Bool} {w : World} {v : V} {cx : List Value} {F : List Nat} (h : OV m w v cx F) :
    ∃ (A : Option Addr) (c : Nat) (A' : Option Addr) (c' : Nat) (L : List (V × List Value × List Nat)) (D : List (ByteArray × V × List Value × List Nat)), v.l = L.map (·.1) ∧ v.d = D.map (fun c => (c.1, c.2.1)) ∧
      cx = [.int .i64 v.k, .int .i64 v.i, .string v.t, .slice A v.l.length c, .slice A' v.d.length c'] ∧
      F = (Value.slice A v.l.length c).ownBlock.toList ++ L.flatMap (·.2.2) ++ ((Value.slice A' v.d.length c').ownBlock.toList ++ D.flatMap (·.2.2.2)) ∧
      w.ownsRow 0 25 5 (.slice A v.l.length c) v.l.length (L.flatMap (·.2.1)) ∧ w.ownsRow 0 72 6 (.slice A' v.d.length c') v.d.length (D.flatMap fun c => .string c.1 :: c.2.2.1) ∧
      (∀ c ∈ L, OV m w c.1 c.2.1 c.2.2) ∧ (∀ c ∈ D, OV m w c.2.1 c.2.2.1 c.2.2.2) := by
  cases h with
  | mk L D hk hi ht hl hd hn hol hod rl rd =>
    obtain ⟨A, c, rfl, hc⟩ := ownsRow_slice hol.1
    obtain ⟨A', c', rfl, hc'⟩ := ownsRow_slice hod.1
    refine ⟨A, c, A', c', L, D, rfl, rfl, ?_, ?_, ?_, ?_, rl, rd⟩
    · simp [V.k, V.i, V.t, V.l, V.d]
    · simp [V.l, V.d]
    · simpa [V.l] using hol.1
    · simpa [V.d] using hod.1
theorem ownBlock_some {g n c : Nat} : (Value.slice (some ⟨g, 0, none⟩) n c).ownBlock = some g := rfl
/-- An element of a row of the call's own. -/
theorem spoil_elem {w wr : World} {A : Option Addr} {c : Nat} {l : List V} {L : List (V × List Value × List Nat)} {j : Nat} (hl : l = L.map (·.1)) (hT : TailR wr 25 5 (.slice A l.length c) l.length (L.flatMap (·.2.1)) (j * 5)) (hL : ∀ c ∈ L, OV false w c.1 c.2.1 c.2.2) (hj : j < l.length) :
    ∃ (g : Nat) (F : List Nat) (a0 : Option Addr) (n0 : Nat) (a1 : Option Addr) (n1 : Nat) (h : j < L.length), A = some ⟨g, 0, none⟩ ∧ L[j].2.2 = F ∧ OV false w l[j] [.int .i64 l[j].k, .int .i64 l[j].i, .string l[j].t, .slice a0 l[j].l.length n0, .slice a1 l[j].d.length n1] F ∧
      wr.cell? ⟨g, j * 5, none⟩ = some (.int .i64 l[j].k) ∧ wr.cell? ⟨g, j * 5 + 1, none⟩ = some (.int .i64 l[j].i) ∧ wr.cell? ⟨g, j * 5 + 2, none⟩ = some (.string l[j].t) ∧
      wr.cell? ⟨g, j * 5 + 3, none⟩ = some (.slice a0 l[j].l.length n0) ∧ wr.cell? ⟨g, j * 5 + 4, none⟩ = some (.slice a1 l[j].d.length n1) := by
  have hj' : j < L.length := by rw [hl] at hj; simpa using hj
  have he : l[j] = L[j].1 := by subst hl; simp
  have ho := hL L[j] (List.getElem_mem hj')
  obtain ⟨a0, n0, a1, n1, hs⟩ := ho.rv.shape
  obtain ⟨g, hg⟩ : ∃ g, A = some ⟨g, 0, none⟩ := by
    obtain ⟨ys, h1, _⟩ := hT
    obtain ⟨g, cap, h3, _⟩ := h1.form (by omega)
    injection h3 with h3
    exact ⟨g, h3⟩
  subst hg
  have hf : ∀ i v, i < 5 → L[j].2.1[i]? = some v → wr.cell? ⟨g, j * 5 + i, none⟩ = some v := fun i v hi hv => hT.cell _ _ (by omega) (by
    have := flat_at (fun c : V × List Value × List Nat => c.2.1) 5 L [] (fun c hc => (hL c hc).len) j hj' i hi
    rw [List.append_nil] at this
    rw [this]; exact hv)
  refine ⟨g, _, a0, n0, a1, n1, hj', rfl, rfl, ?_, ?_, ?_, ?_, ?_, ?_⟩
  · rw [he, ← hs]; exact ho
  · exact hf 0 _ (by omega) (by rw [hs, he]; rfl)
  · exact hf 1 _ (by omega) (by rw [hs, he]; rfl)
  · exact hf 2 _ (by omega) (by rw [hs, he]; rfl)
  · exact hf 3 _ (by omega) (by rw [hs, he]; rfl)
  · exact hf 4 _ (by omega) (by rw [hs, he]; rfl)
theorem spoil_field {w wr : World} {A : Option Addr} {c : Nat} {l : List (ByteArray × V)} {L : List (ByteArray × V × List Value × List Nat)} {j : Nat} (hl : l = L.map (fun c => (c.1, c.2.1))) (hT : TailR wr 72 6 (.slice A l.length c) l.length (L.flatMap fun c => .string c.1 :: c.2.2.1) (j * 6)) (hL : ∀ c ∈ L, OV false w c.2.1 c.2.2.1 c.2.2.2) (hj : j < l.length) :
    ∃ (g : Nat) (F : List Nat) (a0 : Option Addr) (n0 : Nat) (a1 : Option Addr) (n1 : Nat) (h : j < L.length), A = some ⟨g, 0, none⟩ ∧ L[j].2.2.2 = F ∧ OV false w l[j].2 [.int .i64 l[j].2.k, .int .i64 l[j].2.i, .string l[j].2.t, .slice a0 l[j].2.l.length n0, .slice a1 l[j].2.d.length n1] F ∧
      wr.cell? ⟨g, j * 6, none⟩ = some (.string l[j].1) ∧ wr.cell? ⟨g, j * 6 + 1, none⟩ = some (.int .i64 l[j].2.k) ∧ wr.cell? ⟨g, j * 6 + 1 + 1, none⟩ = some (.int .i64 l[j].2.i) ∧ wr.cell? ⟨g, j * 6 + 1 + 2, none⟩ = some (.string l[j].2.t) ∧
      wr.cell? ⟨g, j * 6 + 1 + 3, none⟩ = some (.slice a0 l[j].2.l.length n0) ∧ wr.cell? ⟨g, j * 6 + 1 + 4, none⟩ = some (.slice a1 l[j].2.d.length n1) := by
  have hj' : j < L.length := by rw [hl] at hj; simpa using hj
  have he : l[j] = (L[j].1, L[j].2.1) := by subst hl; simp
  have ho := hL L[j] (List.getElem_mem hj')
  obtain ⟨a0, n0, a1, n1, hs⟩ := ho.rv.shape
  obtain ⟨g, hg⟩ : ∃ g, A = some ⟨g, 0, none⟩ := by
    obtain ⟨ys, h1, _⟩ := hT
    obtain ⟨g, cap, h3, _⟩ := h1.form (by omega)
    injection h3 with h3
    exact ⟨g, h3⟩
  subst hg
  have hf : ∀ i v, i < 6 → (Value.string L[j].1 :: L[j].2.2.1)[i]? = some v → wr.cell? ⟨g, j * 6 + i, none⟩ = some v := fun i v hi hv => hT.cell _ _ (by omega) (by
    have := flat_at (fun c : ByteArray × V × List Value × List Nat => Value.string c.1 :: c.2.2.1) 6 L [] (fun c hc => by simp [(hL c hc).len]) j hj' i hi
    rw [List.append_nil] at this
    rw [this]; exact hv)
  refine ⟨g, _, a0, n0, a1, n1, hj', rfl, rfl, ?_, ?_, ?_, ?_, ?_, ?_, ?_⟩
  · rw [he, ← hs]; exact ho
  · exact hf 0 _ (by omega) (by rw [hs, he]; rfl)
  · exact hf 1 _ (by omega) (by rw [hs, he]; rfl)
  · exact hf 2 _ (by omega) (by rw [hs, he]; rfl)
  · exact hf 3 _ (by omega) (by rw [hs, he]; rfl)
  · exact hf 4 _ (by omega) (by rw [hs, he]; rfl)
  · exact hf 5 _ (by omega) (by rw [hs, he]; rfl)
end Go.Proofs.YthfejpldhemakaaDoor
