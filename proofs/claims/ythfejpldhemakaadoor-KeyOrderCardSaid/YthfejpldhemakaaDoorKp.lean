import Derived.Test.YthfejpldhemakaaDoorQ
import Derived.Test.YthfejpldhemakaaDoorProg
import Derived.WalkSpells
import Derived.WalkLawsBesides
import Derived.KernelRfl
import Derived.BigQuiet
import Derived.Deep.RegionHeld3
import Derived.Deep.RegionLaw
import Derived.StillTailTactics
namespace Go.Proofs.YthfejpldhemakaaDoor
open Go.RowKit Go.Sort
/-- From cell f on, the block's cells are those of xs. -/
def Tail (w : World) (g : Nat) (e : TypeId) (xs : List Value) (f : Nat) : Prop :=
  ∃ cur : Array Value, w.heap[g]? = some (.cells cur e (0, 0)) ∧ cur.size = xs.length ∧ ∀ p, f ≤ p → cur[p]? = xs[p]?
theorem Tail.of {w : World} {g : Nat} {e : TypeId} {xs : List Value} (h : w.heap[g]? = some (.cells xs.toArray e (0, 0))) : Tail w g e xs 0 := ⟨_, h, by simp, fun p _ => by simp⟩
theorem Tail.cell {w : World} {g : Nat} {e : TypeId} {xs : List Value} {f : Nat} (h : Tail w g e xs f) (p : Nat) (v : Value) (hp : f ≤ p) (hv : xs[p]? = some v) : w.cell? ⟨g, p, none⟩ = some v := by
  obtain ⟨cur, h1, h2, h3⟩ := h
  exact cell_at h1 p v ((h3 p hp).trans hv)
theorem Tail.free {w : World} {g : Nat} {e : TypeId} {xs : List Value} {f : Nat} (h : Tail w g e xs f) (p : Nat) : w.frozen? ⟨g, p, none⟩ = false := by
  obtain ⟨cur, h1, h2, h3⟩ := h
  exact free_at h1 p
theorem Tail.at_ {w w1 : World} {g : Nat} {e : TypeId} {xs : List Value} {f : Nat} (h : Tail w g e xs f) (hb : w1.heap[g]? = w.heap[g]?) : Tail w1 g e xs f := by
  obtain ⟨cur, h1, h2, h3⟩ := h
  exact ⟨cur, hb.trans h1, h2, h3⟩
theorem Tail.set {w : World} {g : Nat} {e : TypeId} {xs : List Value} {f f' : Nat} (h : Tail w g e xs f) (p : Nat) (v : Value) (hp : p < f') (hf : f ≤ f') : Tail (w.setCell ⟨g, p, none⟩ v) g e xs f' := by
  obtain ⟨cur, h1, h2, h3⟩ := h
  refine ⟨_, setCell_block h1 p v, by simpa using h2, fun q hq => ?_⟩
  rw [Array.getElem?_setIfInBounds_ne (by omega)]
  exact h3 q (by omega)
theorem Tail.lt {w : World} {g : Nat} {e : TypeId} {xs : List Value} {f : Nat} (h : Tail w g e xs f) : g < w.heap.size := by
  obtain ⟨cur, h1, h2, h3⟩ := h
  exact block_lt h1
/-- The cells of a part of a flat row. -/
theorem flat_at {α : Type} (f : α → List Value) (sz : Nat) (L : List α) (ys : List Value) (hL : ∀ c ∈ L, (f c).length = sz) (j : Nat) (h : j < L.length) (i : Nat) (hi : i < sz) : ((L.flatMap f) ++ ys)[j * sz + i]? = (f L[j])[i]? := by
  have hl := flat_len f sz L hL
  have hlt : j * sz + i < (L.flatMap f).length := by
    rw [hl]
    have : (j + 1) * sz ≤ L.length * sz := Nat.mul_le_mul_right _ (by omega)
    rw [Nat.succ_mul] at this
    omega
  rw [List.getElem?_append_left hlt]
  have hp := flat_part f sz L hL j h
  have := congrArg (·[i]?) hp
  simp only [List.getElem?_take, hi, if_true, List.getElem?_drop] at this
  exact this
theorem flat_after {α : Type} (f : α → List Value) (sz : Nat) (L : List α) (ys : List Value) (hL : ∀ c ∈ L, (f c).length = sz) (i : Nat) : ((L.flatMap f) ++ ys)[L.length * sz + i]? = ys[i]? := by
  rw [List.getElem?_append_right (by rw [flat_len f sz L hL]; omega), flat_len f sz L hL]
  congr 1
  omega
/-- A value that is owned with its marks: its parts. -/
theorem OV.inv {w : World} {v : V} {cx : List Value} {F : List Nat} (h : OV true w v cx F) :
    ∃ (g1 g2 : Nat) (L : List (V × List Value × List Nat)) (D : List (ByteArray × V × List Value × List Nat)), v.l = L.map (·.1) ∧ v.d = D.map (fun c => (c.1, c.2.1)) ∧
      cx = [.int .i64 v.k, .int .i64 v.i, .string v.t, .slice (some ⟨g1, 0, none⟩) v.l.length (v.l.length + 1), .slice (some ⟨g2, 0, none⟩) v.d.length (v.d.length + 1)] ∧
      F = g1 :: L.flatMap (·.2.2) ++ g2 :: D.flatMap (·.2.2.2) ∧ Tail w g1 25 (L.flatMap (·.2.1) ++ mark 25) 0 ∧ Tail w g2 72 ((D.flatMap fun c => .string c.1 :: c.2.2.1) ++ mark 72) 0 ∧
      (∀ c ∈ L, OV true w c.1 c.2.1 c.2.2) ∧ (∀ c ∈ D, OV true w c.2.1 c.2.2.1 c.2.2.2) := by
  cases h with
  | mk L D hk hi ht hl hd hn hol hod rl rd =>
    obtain ⟨g1, rfl, h1⟩ := hol.2 rfl
    obtain ⟨g2, rfl, h2⟩ := hod.2 rfl
    refine ⟨g1, g2, L, D, rfl, rfl, ?_, ?_, Tail.of h1, Tail.of h2, rl, rd⟩
    · simp [V.k, V.i, V.t, V.l, V.d]
    · simp [Value.ownBlock]
theorem fm_drop {α : Type} (f : α → List Nat) (L : List α) (hn : (L.flatMap f).Nodup) (j : Nat) (hj : j < L.length) :
    (f L[j]).Nodup ∧ (∀ g ∈ f L[j], g ∉ (L.drop (j + 1)).flatMap f) ∧ (∀ g ∈ f L[j], g ∈ L.flatMap f) ∧ (∀ g ∈ (L.drop (j + 1)).flatMap f, g ∈ (L.drop j).flatMap f) ∧ (∀ g ∈ f L[j], g ∈ (L.drop j).flatMap f) := by
  have h1 : L.flatMap f = (L.take j).flatMap f ++ (f L[j] ++ (L.drop (j + 1)).flatMap f) := by
    conv => lhs; rw [← List.take_append_drop j L, List.flatMap_append, List.drop_eq_getElem_cons hj, List.flatMap_cons]
  have h2 : (L.drop j).flatMap f = f L[j] ++ (L.drop (j + 1)).flatMap f := by rw [List.drop_eq_getElem_cons hj, List.flatMap_cons]
  rw [h1] at hn
  have h3 := (List.nodup_append.1 hn).2.1
  refine ⟨(List.nodup_append.1 h3).1, fun g hg hg' => (List.nodup_append.1 h3).2.2 g hg g hg' rfl, fun g hg => ?_, fun g hg => ?_, fun g hg => ?_⟩
  · rw [h1]; exact List.mem_append_right _ (List.mem_append_left _ hg)
  · rw [h2]; exact List.mem_append_right _ hg
  · rw [h2]; exact List.mem_append_left _ hg
theorem kept_elem {w wr : World} {g1 : Nat} {l : List V} {L : List (V × List Value × List Nat)} {j : Nat} (hl : l = L.map (·.1)) (hT : Tail wr g1 25 (L.flatMap (·.2.1) ++ mark 25) (j * 5)) (hL : ∀ c ∈ L, OV true w c.1 c.2.1 c.2.2) (hj : j < l.length) :
    ∃ (F : List Nat) (a0 : Option Addr) (n0 : Nat) (a1 : Option Addr) (n1 : Nat) (h : j < L.length), L[j].2.2 = F ∧ OV true w l[j] [.int .i64 l[j].k, .int .i64 l[j].i, .string l[j].t, .slice a0 l[j].l.length n0, .slice a1 l[j].d.length n1] F ∧
      wr.cell? ⟨g1, j * 5, none⟩ = some (.int .i64 l[j].k) ∧ wr.cell? ⟨g1, j * 5 + 1, none⟩ = some (.int .i64 l[j].i) ∧ wr.cell? ⟨g1, j * 5 + 2, none⟩ = some (.string l[j].t) ∧
      wr.cell? ⟨g1, j * 5 + 3, none⟩ = some (.slice a0 l[j].l.length n0) ∧ wr.cell? ⟨g1, j * 5 + 4, none⟩ = some (.slice a1 l[j].d.length n1) := by
  have hj' : j < L.length := by rw [hl] at hj; simpa using hj
  have he : l[j] = L[j].1 := by subst hl; simp
  have ho := hL L[j] (List.getElem_mem hj')
  obtain ⟨a0, n0, a1, n1, hs⟩ := ho.rv.shape
  have hf : ∀ i v, i < 5 → L[j].2.1[i]? = some v → wr.cell? ⟨g1, j * 5 + i, none⟩ = some v := fun i v hi hv => hT.cell _ _ (by omega) (by rw [flat_at (fun c : V × List Value × List Nat => c.2.1) 5 L _ (fun c hc => (hL c hc).len) j hj' i hi]; exact hv)
  refine ⟨_, a0, n0, a1, n1, hj', rfl, ?_, ?_, ?_, ?_, ?_, ?_⟩
  · rw [he, ← hs]; exact ho
  · exact hf 0 _ (by omega) (by rw [hs, he]; rfl)
  · exact hf 1 _ (by omega) (by rw [hs, he]; rfl)
  · exact hf 2 _ (by omega) (by rw [hs, he]; rfl)
  · exact hf 3 _ (by omega) (by rw [hs, he]; rfl)
  · exact hf 4 _ (by omega) (by rw [hs, he]; rfl)
theorem kept_field {w wr : World} {g1 : Nat} {l : List (ByteArray × V)} {L : List (ByteArray × V × List Value × List Nat)} {j : Nat} (hl : l = L.map (fun c => (c.1, c.2.1))) (hT : Tail wr g1 72 ((L.flatMap fun c => .string c.1 :: c.2.2.1) ++ mark 72) (j * 6)) (hL : ∀ c ∈ L, OV true w c.2.1 c.2.2.1 c.2.2.2) (hj : j < l.length) :
    ∃ (F : List Nat) (a0 : Option Addr) (n0 : Nat) (a1 : Option Addr) (n1 : Nat) (h : j < L.length), L[j].2.2.2 = F ∧ OV true w l[j].2 [.int .i64 l[j].2.k, .int .i64 l[j].2.i, .string l[j].2.t, .slice a0 l[j].2.l.length n0, .slice a1 l[j].2.d.length n1] F ∧
      wr.cell? ⟨g1, j * 6, none⟩ = some (.string l[j].1) ∧ wr.cell? ⟨g1, j * 6 + 1, none⟩ = some (.int .i64 l[j].2.k) ∧ wr.cell? ⟨g1, j * 6 + 1 + 1, none⟩ = some (.int .i64 l[j].2.i) ∧ wr.cell? ⟨g1, j * 6 + 1 + 2, none⟩ = some (.string l[j].2.t) ∧
      wr.cell? ⟨g1, j * 6 + 1 + 3, none⟩ = some (.slice a0 l[j].2.l.length n0) ∧ wr.cell? ⟨g1, j * 6 + 1 + 4, none⟩ = some (.slice a1 l[j].2.d.length n1) := by
  have hj' : j < L.length := by rw [hl] at hj; simpa using hj
  have he : l[j] = (L[j].1, L[j].2.1) := by subst hl; simp
  have ho := hL L[j] (List.getElem_mem hj')
  obtain ⟨a0, n0, a1, n1, hs⟩ := ho.rv.shape
  have hf : ∀ i v, i < 6 → (Value.string L[j].1 :: L[j].2.2.1)[i]? = some v → wr.cell? ⟨g1, j * 6 + i, none⟩ = some v := fun i v hi hv => hT.cell _ _ (by omega) (by rw [flat_at (fun c : ByteArray × V × List Value × List Nat => Value.string c.1 :: c.2.2.1) 6 L _ (fun c hc => by simp [(hL c hc).len]) j hj' i hi]; exact hv)
  refine ⟨_, a0, n0, a1, n1, hj', rfl, ?_, ?_, ?_, ?_, ?_, ?_, ?_⟩
  · rw [he, ← hs]; exact ho
  · exact hf 0 _ (by omega) (by rw [hs, he]; rfl)
  · exact hf 1 _ (by omega) (by rw [hs, he]; rfl)
  · exact hf 2 _ (by omega) (by rw [hs, he]; rfl)
  · exact hf 3 _ (by omega) (by rw [hs, he]; rfl)
  · exact hf 4 _ (by omega) (by rw [hs, he]; rfl)
  · exact hf 5 _ (by omega) (by rw [hs, he]; rfl)
theorem only_set5 (w : World) (b p0 p1 p2 p3 p4 : Nat) (v0 v1 v2 v3 v4 : Value) : Only (· = b) w (((((w.setCell ⟨b, p0, none⟩ v0).setCell ⟨b, p1, none⟩ v1).setCell ⟨b, p2, none⟩ v2).setCell ⟨b, p3, none⟩ v3).setCell ⟨b, p4, none⟩ v4) :=
  ((((only_set w b p0 v0).trans (only_set _ b p1 v1) (fun _ _ h => h)).trans (only_set _ b p2 v2) (fun _ _ h => h)).trans (only_set _ b p3 v3) (fun _ _ h => h)).trans (only_set _ b p4 v4) (fun _ _ h => h)
theorem tail_set5 {w : World} {g : Nat} {e : TypeId} {xs : List Value} {f f' : Nat} (h : Tail w g e xs f) (p0 p1 p2 p3 p4 : Nat) (v0 v1 v2 v3 v4 : Value) (hf : f ≤ f') (h0 : p0 < f') (h1 : p1 < f') (h2 : p2 < f') (h3 : p3 < f') (h4 : p4 < f') :
    Tail (((((w.setCell ⟨g, p0, none⟩ v0).setCell ⟨g, p1, none⟩ v1).setCell ⟨g, p2, none⟩ v2).setCell ⟨g, p3, none⟩ v3).setCell ⟨g, p4, none⟩ v4) g e xs f' :=
  ((((h.set p0 v0 h0 hf).set p1 v1 h1 (Nat.le_refl _)).set p2 v2 h2 (Nat.le_refl _)).set p3 v3 h3 (Nat.le_refl _)).set p4 v4 h4 (Nat.le_refl _)
theorem drewN_tail {w : World} {g : Nat} {e : TypeId} {xs : List Value} {f : Nat} (h : Tail w g e xs f) (n : Nat) : Tail (w.drewN n) g e xs f := h
set_option maxRecDepth 100000 in
set_option maxHeartbeats 1000000 in
theorem kept_c (v : V) : ∀ (cx cv : List Value) (F : List Nat) (W0 w : World), OV true w v cx F → F.Nodup → (∀ g ∈ F, W0.heap.size ≤ g) → RV W0 v cv → Below W0.heap.size W0 w →
    Calls Tryd.prog 23 #[.agg cx.toArray, .agg cv.toArray] w fun e w' => e = .returned (.bool true) ∧ Only (· ∈ F) w w' := by
  induction v using V.ind with
  | h k i t l d ihl ihd =>
    intro cx cv F W0 w hov hnd hF hv hW
    have hFlt := hov.lt
    obtain ⟨g1, g2, L, D, hl, hd, rfl, rfl, hT1, hT2, oL, oD⟩ := hov.inv
    obtain ⟨A, c, A', c', rfl, hk, hi, ht, hA, hD⟩ := hv.inv
    simp only [V.k, V.i, V.t, V.l, V.d] at hl hd ⊢
    have hLl : L.length = l.length := by have := congrArg List.length hl; simpa using this.symm
    have hDl : D.length = d.length := by have := congrArg List.length hd; simpa using this.symm
    have hA0 := hA.1
    have hD0 := hD.1
    have mk1 := cell_alloc2 (hT1.cell (l.length * 5) (.int .i64 (-7)) (Nat.zero_le _) (by rw [← hLl]; exact flat_after (fun c : V × List Value × List Nat => c.2.1) 5 L (mark 25) (fun c hc => (oL c hc).len) 0))
    have mk2 := cell_alloc2 (hT2.cell (d.length * 6) (.string ⟨#[109, 97, 114, 107]⟩) (Nat.zero_le _) (by rw [← hDl]; exact flat_after (fun c : ByteArray × V × List Value × List Nat => Value.string c.1 :: c.2.2.1) 6 D (mark 72) (fun c hc => by simp [(oD c hc).len]) 0))
    have HT := Lib.hid (And.intro hT1 (And.intro hT2 (And.intro hl hd)))
    have HL := Lib.hid (And.intro hLl hDl)
    clear hT1 hT2 hLl hDl hl hd hov hv
    go_enter Tryd.func23, Tryd.ntmps23
    go_wp2_with fail
    generalize hW2 : World.alloc (w.alloc _) _ = W2
    have hb2 : Below w.heap.size w W2 := by rw [← hW2]; exact below_alloc2 _ _ _
    have hs2 : w.heap.size + 1 < W2.heap.size := by rw [← hW2]; simp
    have x3 : W2.cell? ⟨w.heap.size + 1, 3, none⟩ = some (.slice A l.length c) := by rw [← hW2]; exact (World.cell?_alloc_at _ _ _ 3 (by simp)).trans rfl
    have x4 : W2.cell? ⟨w.heap.size + 1, 4, none⟩ = some (.slice A' d.length c') := by rw [← hW2]; exact (World.cell?_alloc_at _ _ _ 4 (by simp)).trans rfl
    have hnd1 := hnd
    rw [List.cons_append, List.nodup_cons, List.nodup_append, List.nodup_cons] at hnd1
    obtain ⟨n1, n2, ⟨n3, n4⟩, n5⟩ := hnd1
    clear hW2 mk1 mk2
    have H2 := Lib.hid hs2
    have HN := Lib.hid (And.intro n1 (And.intro n2 (And.intro n3 (And.intro n4 n5))))
    clear n1 n2 n3 n4 n5 hs2
    have HF := Lib.hid (And.intro hF hFlt)
    clear hF hFlt hnd
    go_loopw [7, 8] (fun ok ix wr => ∃ (j : Nat), j ≤ l.length ∧ ok = .bool true ∧ ix = .int .i64 j ∧ Hid (Tail wr g1 25 (L.flatMap (·.2.1) ++ mark 25) (j * 5) ∧ (∀ g ∈ (L.drop j).flatMap (·.2.2), wr.heap[g]? = w.heap[g]?) ∧ (∀ g ∈ g2 :: D.flatMap (·.2.2.2), wr.heap[g]? = w.heap[g]?)) ∧ Only (· ∈ g1 :: L.flatMap (·.2.2)) W2 wr) (fun _ ix _ => l.length - (intOf ix).toNat)
    case atStart =>
      exact ⟨0, by omega, rfl, rfl, Lib.hid ⟨by rw [Nat.zero_mul]; exact HT.out.1.at_ (hb2.block _ HT.out.1.lt), fun g hg => hb2.block _ (HF.out.2 g (by simp only [List.drop_zero] at hg; exact List.mem_append_left _ (List.mem_cons_of_mem _ hg))), fun g hg => hb2.block _ (HF.out.2 g (List.mem_append_right _ hg))⟩, Only.refl _ _⟩
    case round =>
      obtain ⟨j, hj, rfl, rfl, H, ho⟩ := hrel
      have hsF : ∀ g ∈ g1 :: L.flatMap (·.2.2), g < w.heap.size := fun g hg => HF.out.2 g (List.mem_append_left _ hg)
      have z3 : wr.cell? ⟨w.heap.size + 1, 3, none⟩ = some (.slice A l.length c) := (World.cell?_of_block (w := W2) (ho.block _ H2.out (fun hg => by have := hsF (w.heap.size + 1) hg; omega))).trans x3
      have hB2 : Below W0.heap.size W0 W2 := hW.trans (hb2.mono hW.size)
      have hBr : Below W0.heap.size W0 wr := hB2.trans (ho.below (fun g hg => HF.out.1 g (List.mem_append_left _ hg)) hB2.size)
      by_cases hlt : j < l.length
      · obtain ⟨b, off, a0, n0, a1, n1, rfl, hrv, f0, f1, f2, f3, f4⟩ := hA.get j hlt
        replace f0 := cell_grow hBr f0
        replace f1 := cell_grow hBr f1
        replace f2 := cell_grow hBr f2
        replace f3 := cell_grow hBr f3
        replace f4 := cell_grow hBr f4
        obtain ⟨Fj, p0, q0, p1, q1, hjL, hFj, hovj, e0, e1, e2, e3, e4⟩ := kept_elem HT.out.2.2.1 H.out.1 oL hlt
        obtain ⟨m1, m2, m3, m4, m5⟩ := fm_drop (fun c : V × List Value × List Nat => c.2.2) L HN.out.2.1 j hjL
        simp only [hFj] at m1 m2 m3 m5
        have hovr := hovj.at_ (w1 := wr.drew) fun g hg => H.out.2.1 g (m5 g hg)
        have hcall := ihl l[j] (List.getElem_mem hlt) _ _ Fj W0 wr.drew hovr m1 (fun g hg => HF.out.1 g (List.mem_append_left _ (List.mem_cons_of_mem _ (m3 g hg)))) hrv hBr.drew
        have HM := Lib.hid (And.intro m2 (And.intro m3 (And.intro m4 m5)))
        clear ihl ihd hA hD m1 m2 m3 m4 m5 hovj hovr hrv
        have hbnd : (j : Int) < (l.length : Int) + 1 := by omega
        go_wp2_with fail
        go_still_tail 9, (by kernel_rfl)
        change wpList _ _ _ _ _ wr.drew
        go_wp2_with fail
        refine hcall.mono ?_
        rintro e w1 ⟨rfl, ho1⟩
        have hg1j : g1 ∉ Fj := fun hg => HN.out.1 (List.mem_append_left _ (HM.out.2.1 g1 hg))
        have hT1 := H.out.1.at_ (ho1.block g1 H.out.1.lt hg1j)
        have hbl : ∀ p, w1.cell? ⟨g1, p, none⟩ = wr.cell? ⟨g1, p, none⟩ := fun p => World.cell?_of_block (w := wr) (a := ⟨g1, p, none⟩) (ho1.block g1 H.out.1.lt hg1j)
        have s0 := (hbl _).trans e0
        have s1 := (hbl _).trans e1
        have s2 := (hbl _).trans e2
        have s3 := (hbl _).trans e3
        have s4 := (hbl _).trans e4
        have r0 := hT1.free (j * 5)
        have r1 := hT1.free (j * 5 + 1)
        have r2 := hT1.free (j * 5 + 2)
        have r3 := hT1.free (j * 5 + 3)
        have r4 := hT1.free (j * 5 + 4)
        clear hbl e0 e1 e2 e3 e4 f0 f1 f2 f3 f4 z3 hcall
        go_wp2_with fail
        go_roundw
        case rel =>
          have hset := only_set5 w1 g1 (j * 5) (j * 5 + 1) (j * 5 + 2) (j * 5 + 3) (j * 5 + 4) (.int .i64 (-9)) (.int .i64 0) (.string ByteArray.empty) (.slice none 0 0) (.slice none 0 0)
          have hkeep : ∀ g, g < w.heap.size → g ≠ g1 → g ∉ Fj → (((((w1.setCell ⟨g1, j * 5, none⟩ (.int .i64 (-9))).setCell ⟨g1, j * 5 + 1, none⟩ (.int .i64 0)).setCell ⟨g1, j * 5 + 2, none⟩ (.string ByteArray.empty)).setCell ⟨g1, j * 5 + 3, none⟩ (.slice none 0 0)).setCell ⟨g1, j * 5 + 4, none⟩ (.slice none 0 0)).heap[g]? = wr.heap[g]? := fun g hg hne hnot => by
            have h1 : g < wr.heap.size := by have := ho.size; have := H2.out; omega
            have h2 : g < w1.heap.size := Nat.lt_of_lt_of_le h1 ho1.size
            exact (hset.block g h2 hne).trans (ho1.block g h1 hnot)
          refine ⟨j + 1, by omega, rfl, by go_num, Lib.hid ⟨tail_set5 hT1 _ _ _ _ _ _ _ _ _ _ (by omega) (by omega) (by omega) (by omega) (by omega) (by omega), fun g hg => ?_, fun g hg => ?_⟩, ?_⟩
          · have hgL : g ∈ L.flatMap (·.2.2) := List.mem_flatMap.2 (by obtain ⟨c, hc, hg⟩ := List.mem_flatMap.1 hg; exact ⟨c, List.mem_of_mem_drop hc, hg⟩)
            refine (hkeep g (hsF g (List.mem_cons_of_mem _ hgL)) (fun he => HN.out.1 (List.mem_append_left _ (he ▸ hgL))) (fun hn => HM.out.1 g hn hg)).trans (H.out.2.1 g (HM.out.2.2.1 g hg))
          · refine (hkeep g (HF.out.2 g (List.mem_append_right _ hg)) (fun he => HN.out.1 (List.mem_append_right _ (he ▸ hg))) (fun hn => HN.out.2.2.2.2 g (HM.out.2.1 g hn) g hg rfl)).trans (H.out.2.2 g hg)
          · have hd1 : Only (· ∈ g1 :: L.flatMap (·.2.2)) wr w1 := ⟨ho1.os, ho1.tape, ho1.output, ho1.size, fun q hq hn => ho1.block q hq fun hF => hn (List.mem_cons_of_mem _ (HM.out.2.1 q hF))⟩
            exact (ho.trans hd1 fun _ _ h => h).trans hset fun q _ h => by rw [h]; exact List.mem_cons_self ..
        case measure => simp [intOf]; omega
      · obtain rfl : j = l.length := by omega
        have HD1 := Lib.hid H.out.2.2
        clear ihl hA H
        go_wp2_with fail
        go_loopw [7, 10] (fun ok ix wr => ∃ (j : Nat), j ≤ d.length ∧ ok = .bool true ∧ ix = .int .i64 j ∧ Hid (Tail wr g2 72 ((D.flatMap fun c => .string c.1 :: c.2.2.1) ++ mark 72) (j * 6) ∧ (∀ g ∈ (D.drop j).flatMap (·.2.2.2), wr.heap[g]? = w.heap[g]?)) ∧ Only (· ∈ g1 :: L.flatMap (·.2.2) ++ g2 :: D.flatMap (·.2.2.2)) W2 wr) (fun _ ix _ => d.length - (intOf ix).toNat)
        case atStart =>
          exact ⟨0, by omega, rfl, rfl, Lib.hid ⟨by rw [Nat.zero_mul]; exact HT.out.2.1.at_ (HD1.out g2 (List.mem_cons_self ..)), fun g hg => HD1.out g (by simp only [List.drop_zero] at hg; exact List.mem_cons_of_mem _ hg)⟩, ho.mono fun _ _ h => List.mem_append_left _ h⟩
        case round =>
          clear ho hBr z3 HD1
          obtain ⟨j, hj, rfl, rfl, H, ho⟩ := hrel
          have hsF2 : ∀ g ∈ g1 :: L.flatMap (·.2.2) ++ g2 :: D.flatMap (·.2.2.2), g < w.heap.size := HF.out.2
          have z4 : wr.cell? ⟨w.heap.size + 1, 4, none⟩ = some (.slice A' d.length c') := (World.cell?_of_block (w := W2) (ho.block _ H2.out (fun hg => by have := hsF2 (w.heap.size + 1) hg; omega))).trans x4
          have hBr : Below W0.heap.size W0 wr := hB2.trans (ho.below HF.out.1 hB2.size)
          by_cases hlt : j < d.length
          · obtain ⟨b, off, a0, n0, a1, n1, rfl, hnm, hrv, f0, f1, f2, f3, f4, f5⟩ := hD.get j hlt
            have n0' := f0
            replace f0 := cell_grow hBr f0
            replace f1 := cell_grow hBr f1
            replace f2 := cell_grow hBr f2
            replace f3 := cell_grow hBr f3
            replace f4 := cell_grow hBr f4
            replace f5 := cell_grow hBr f5
            obtain ⟨Fj, p0, q0, p1, q1, hjL, hFj, hovj, e0, e1, e2, e3, e4, e5⟩ := kept_field HT.out.2.2.2 H.out.1 oD hlt
            obtain ⟨m1, m2, m3, m4, m5⟩ := fm_drop (fun c : ByteArray × V × List Value × List Nat => c.2.2.2) D HN.out.2.2.2.1 j hjL
            simp only [hFj] at m1 m2 m3 m5
            have hovr := hovj.at_ (w1 := wr.drew) fun g hg => H.out.2 g (m5 g hg)
            have hcall := ihd d[j] (List.getElem_mem hlt) _ _ Fj W0 wr.drew hovr m1 (fun g hg => HF.out.1 g (List.mem_append_right _ (List.mem_cons_of_mem _ (m3 g hg)))) hrv hBr.drew
            have HM := Lib.hid (And.intro m2 (And.intro m3 (And.intro m4 m5)))
            clear ihd hD m1 m2 m3 m4 m5 hovj hovr hrv
            have hbnd : (j : Int) < (d.length : Int) + 1 := by omega
            go_wp2_with fail
            go_still_tail 11, (by kernel_rfl)
            change wpList _ _ _ _ _ wr.drew
            go_wp2_with fail
            refine hcall.mono ?_
            rintro e w1 ⟨rfl, ho1⟩
            have hg2j : g2 ∉ Fj := fun hg => HN.out.2.2.1 (HM.out.2.1 g2 hg)
            have hT1 := H.out.1.at_ (ho1.block g2 H.out.1.lt hg2j)
            have hbl : ∀ p, w1.cell? ⟨g2, p, none⟩ = wr.cell? ⟨g2, p, none⟩ := fun p => World.cell?_of_block (w := wr) (a := ⟨g2, p, none⟩) (ho1.block g2 H.out.1.lt hg2j)
            have s0 := (hbl _).trans e0
            have s1 := (hbl _).trans e1
            have s2 := (hbl _).trans e2
            have s3 := (hbl _).trans e3
            have s4 := (hbl _).trans e4
            have s5 := (hbl _).trans e5
            have r0 := hT1.free (j * 6)
            have r1 := hT1.free (j * 6 + 1)
            have r2 := hT1.free (j * 6 + 1 + 1)
            have r3 := hT1.free (j * 6 + 1 + 2)
            have r4 := hT1.free (j * 6 + 1 + 3)
            have r5 := hT1.free (j * 6 + 1 + 4)
            have hB1 : Below W0.heap.size W0 w1 := hBr.drew.trans (ho1.below (fun g hg => HF.out.1 g (List.mem_append_right _ (List.mem_cons_of_mem _ (HM.out.2.1 g hg)))) hBr.size)
            have nm1 := cell_grow hB1 n0'
            have z41 : w1.cell? ⟨w.heap.size + 1, 4, none⟩ = some (.slice (some ⟨b, off, none⟩) d.length c') := (World.cell?_of_block (w := wr) (ho1.block (w.heap.size + 1) (by have := ho.size; have := H2.out; show _ < wr.heap.size; omega) (fun hg => by have := hsF2 (w.heap.size + 1) (List.mem_append_right _ (List.mem_cons_of_mem _ (HM.out.2.1 _ hg))); omega))).trans z4
            clear hbl e0 e1 e2 e3 e4 e5 f0 f1 f2 f3 f4 f5 z4 hcall n0'
            go_wp2_with fail
            go_quiet (fail)
            go_wp2_with fail
            go_roundw
            case rel =>
              have hset : Only (· = g2) w1 (((((((w1.drewN nq).setCell ⟨g2, j * 6, none⟩ (.string ⟨#[115, 112, 111, 105, 108, 116]⟩)).setCell ⟨g2, j * 6 + 1, none⟩ (.int .i64 0)).setCell ⟨g2, j * 6 + 2, none⟩ (.int .i64 0)).setCell ⟨g2, j * 6 + 3, none⟩ (.string ByteArray.empty)).setCell ⟨g2, j * 6 + 4, none⟩ (.slice none 0 0)).setCell ⟨g2, j * 6 + 5, none⟩ (.slice none 0 0)) :=
                (Only.of_below (drewN_below2 (Below.refl _ _) nq)).trans ((only_set _ g2 (j * 6) _).trans (only_set5 _ g2 (j * 6 + 1) (j * 6 + 2) (j * 6 + 3) (j * 6 + 4) (j * 6 + 5) _ _ _ _ _) (fun _ _ h => h)) (fun _ _ h => h)
              have hkeep : ∀ g, g < w.heap.size → g ≠ g2 → g ∉ Fj → (((((((w1.drewN nq).setCell ⟨g2, j * 6, none⟩ (.string ⟨#[115, 112, 111, 105, 108, 116]⟩)).setCell ⟨g2, j * 6 + 1, none⟩ (.int .i64 0)).setCell ⟨g2, j * 6 + 2, none⟩ (.int .i64 0)).setCell ⟨g2, j * 6 + 3, none⟩ (.string ByteArray.empty)).setCell ⟨g2, j * 6 + 4, none⟩ (.slice none 0 0)).setCell ⟨g2, j * 6 + 5, none⟩ (.slice none 0 0)).heap[g]? = wr.heap[g]? := fun g hg hne hnot => by
                have h1 : g < wr.heap.size := by have := ho.size; have := H2.out; omega
                have h2 : g < w1.heap.size := Nat.lt_of_lt_of_le h1 ho1.size
                exact (hset.block g h2 hne).trans (ho1.block g h1 hnot)
              refine ⟨j + 1, by omega, rfl, by go_num, Lib.hid ⟨tail_set5 ((drewN_tail hT1 nq).set (j * 6) _ (f' := (j + 1) * 6) (by omega) (by omega)) _ _ _ _ _ _ _ _ _ _ (by omega) (by omega) (by omega) (by omega) (by omega) (by omega), fun g hg => ?_⟩, ?_⟩
              · have hgD : g ∈ D.flatMap (·.2.2.2) := List.mem_flatMap.2 (by obtain ⟨c, hc, hg⟩ := List.mem_flatMap.1 hg; exact ⟨c, List.mem_of_mem_drop hc, hg⟩)
                exact (hkeep g (hsF2 g (List.mem_append_right _ (List.mem_cons_of_mem _ hgD))) (fun he => HN.out.2.2.1 (he ▸ hgD)) (fun hn => HM.out.1 g hn hg)).trans (H.out.2 g (HM.out.2.2.1 g hg))
              · have hd1 : Only (· ∈ g1 :: L.flatMap (·.2.2) ++ g2 :: D.flatMap (·.2.2.2)) wr w1 := ⟨ho1.os, ho1.tape, ho1.output, ho1.size, fun q hq hn => ho1.block q hq fun hF => hn (List.mem_append_right _ (List.mem_cons_of_mem _ (HM.out.2.1 q hF)))⟩
                exact (ho.trans hd1 fun _ _ h => h).trans hset fun q _ h => by rw [h]; exact List.mem_append_right _ (List.mem_cons_self ..)
            case measure => simp [intOf]; omega
          · obtain rfl : j = d.length := by omega
            clear ihd hD
            go_wp2_with fail
            go_ret
            exact ⟨rfl, (Only.of_below hb2).trans ho (fun _ _ h => h)⟩
/-- A box's five cells. -/
def Box (w : World) (b : Nat) (c0 c1 c2 c3 c4 : Value) : Prop :=
  w.cell? ⟨b, 0, none⟩ = some c0 ∧ w.cell? ⟨b, 1, none⟩ = some c1 ∧ w.cell? ⟨b, 2, none⟩ = some c2 ∧ w.cell? ⟨b, 3, none⟩ = some c3 ∧ w.cell? ⟨b, 4, none⟩ = some c4
theorem Box.of {w : World} {b : Nat} {c0 c1 c2 c3 c4 : Value} {e : TypeId} {fr : Nat × Nat} (h : w.heap[b]? = some (.cells #[c0, c1, c2, c3, c4] e fr)) : Box w b c0 c1 c2 c3 c4 :=
  ⟨cell_at h 0 _ rfl, cell_at h 1 _ rfl, cell_at h 2 _ rfl, cell_at h 3 _ rfl, cell_at h 4 _ rfl⟩
theorem Box.at_ {w w1 : World} {b : Nat} {c0 c1 c2 c3 c4 : Value} (h : Box w b c0 c1 c2 c3 c4) (hb : w1.heap[b]? = w.heap[b]?) : Box w1 b c0 c1 c2 c3 c4 := by
  have hc : ∀ i, w1.cell? ⟨b, i, none⟩ = w.cell? ⟨b, i, none⟩ := fun i => World.cell?_of_block (w := w) (a := ⟨b, i, none⟩) hb
  exact ⟨(hc 0).trans h.1, (hc 1).trans h.2.1, (hc 2).trans h.2.2.1, (hc 3).trans h.2.2.2.1, (hc 4).trans h.2.2.2.2⟩
theorem Box.lt {w : World} {b : Nat} {c0 c1 c2 c3 c4 : Value} (h : Box w b c0 c1 c2 c3 c4) : b < w.heap.size := World.block_lt_of_cell? w _ h.1
theorem Box.grow {w w1 : World} {b : Nat} {c0 c1 c2 c3 c4 : Value} (h : Box w b c0 c1 c2 c3 c4) (hb : Below w.heap.size w w1) : Box w1 b c0 c1 c2 c3 c4 := h.at_ (hb.block b h.lt)
end Go.Proofs.YthfejpldhemakaaDoor
