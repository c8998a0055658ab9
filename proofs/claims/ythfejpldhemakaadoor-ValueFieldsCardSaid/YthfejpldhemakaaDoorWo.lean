import Derived.Test.YthfejpldhemakaaDoorWp
namespace Go.Proofs.YthfejpldhemakaaDoor
open Go.RowKit Go.Sort
abbrev flatD (D : List (ByteArray × V × List Value × List Nat)) : List Value := D.flatMap fun c => .string c.1 :: c.2.2.1
theorem nodup_filter {α : Type} (f : α → List Nat) (p : α → Bool) : ∀ (D : List α), (D.flatMap f).Nodup → ((D.filter p).flatMap f).Nodup
  | [], _ => by simp
  | c :: D, h => by
    simp only [List.flatMap_cons] at h
    obtain ⟨h1, h2, h3⟩ := List.nodup_append.1 h
    have ih := nodup_filter f p D h2
    rw [List.filter_cons]
    split
    · simp only [List.flatMap_cons]
      refine List.nodup_append.2 ⟨h1, ih, fun a ha b hb => h3 a ha b ?_⟩
      obtain ⟨x, hx, hb⟩ := List.mem_flatMap.1 hb
      exact List.mem_flatMap.2 ⟨x, (List.mem_filter.1 hx).1, hb⟩
    · exact ih
/-- A document of the call's own, its fields sieved into a row. -/
theorem OV.filtered {w : World} {k i : Int} {t : ByteArray} {l : List V} {d : List (ByteArray × V)} {c0 c1 c2 sl sd : Value} {F : List Nat} (h : OV false w (.mk k i t l d) [c0, c1, c2, sl, sd] F) (hn : F.Nodup) :
    ∃ D : List (ByteArray × V × List Value × List Nat), d = D.map (fun c => (c.1, c.2.1)) ∧ (∀ c ∈ D, c.2.2.1.length = 5) ∧ w.ownsRow 0 72 6 sd d.length (flatD D) ∧
      ∀ (w' : World) (sd' : Value) (p : ByteArray → Bool), (∀ q ∈ F, some q ≠ sd.ownBlock → w'.heap[q]? = w.heap[q]?) → (∀ g, some g = sd'.ownBlock → g ∈ F → some g = sd.ownBlock) → w'.ownsRow 0 72 6 sd' (d.filter fun c => p c.1).length (flatD (D.filter fun c => p c.1)) →
        ∃ F', OV false w' (.mk k i t l (d.filter fun c => p c.1)) [c0, c1, c2, sl, sd'] F' ∧ F'.Nodup ∧ ∀ q ∈ F', q ∈ F ∨ some q = sd'.ownBlock := by
  generalize hv : V.mk k i t l d = v at h
  generalize hcs : [c0, c1, c2, sl, sd] = cs at h
  cases h with
  | mk L D hk hi ht hl hd hnm hol hod rl rd =>
    injection hv with e1 e2 e3 e4 e5
    subst e1 e2 e3 e4 e5
    simp only [List.cons.injEq, and_true] at hcs
    obtain ⟨rfl, rfl, rfl, rfl, rfl⟩ := hcs
    refine ⟨D, rfl, fun c hc => (rd c hc).len, by simpa using hod.1, ?_⟩
    intro w' sd' p hw hsd hrow
    have hap := List.nodup_append.1 hn
    have hapD := List.nodup_append.1 hap.2.1
    have hsdL : ∀ q, some q = sd.ownBlock → q ∈ sd.ownBlock.toList := fun q hq => by rw [← hq]; simp
    have hsdL' : ∀ q, q ∈ sd'.ownBlock.toList → some q = sd'.ownBlock := fun q hq => by simpa [eq_comm] using hq
    have hmap : (D.map fun c => (c.1, c.2.1)).filter (fun c => p c.1) = (D.filter fun c => p c.1).map fun c => (c.1, c.2.1) := by
      rw [List.filter_map]
      rfl
    have hlen : ((D.map fun c => (c.1, c.2.1)).filter (fun c => p c.1)).length = (D.filter fun c => p c.1).length := by rw [hmap]; simp
    have sub : ∀ q ∈ (D.filter fun c => p c.1).flatMap (·.2.2.2), q ∈ D.flatMap (·.2.2.2) := by
      intro q hq
      obtain ⟨x, hx, hq⟩ := List.mem_flatMap.1 hq
      exact List.mem_flatMap.2 ⟨x, (List.mem_filter.1 hx).1, hq⟩
    refine ⟨sl.ownBlock.toList ++ L.flatMap (·.2.2) ++ (sd'.ownBlock.toList ++ (D.filter fun c => p c.1).flatMap (·.2.2.2)), ?_, ?_, ?_⟩
    · rw [hmap]
      rw [hlen] at hrow
      refine .mk L (D.filter fun c => p c.1) hk hi ht hl (by have := List.length_filter_le (fun c : ByteArray × V × List Value × List Nat => p c.1) D; omega) (fun c hc => hnm c (List.mem_filter.1 hc).1) ⟨?_, fun h => by cases h⟩ ⟨hrow, fun h => by cases h⟩ ?_ ?_
      · exact ownsRow_at hol.1 fun q hq => hw q (List.mem_append_left _ (List.mem_append_left _ (by simp [hq]))) (fun he => hap.2.2 q (List.mem_append_left _ (by simp [hq])) q (List.mem_append_left _ (hsdL q he)) rfl)
      · exact fun c hc => (rl c hc).at_ fun q hq => hw q (List.mem_append_left _ (List.mem_append_right _ (List.mem_flatMap.2 ⟨c, hc, hq⟩))) (fun he => hap.2.2 q (List.mem_append_right _ (List.mem_flatMap.2 ⟨c, hc, hq⟩)) q (List.mem_append_left _ (hsdL q he)) rfl)
      · intro c hc
        have hc := (List.mem_filter.1 hc).1
        exact (rd c hc).at_ fun q hq => hw q (List.mem_append_right _ (List.mem_append_right _ (List.mem_flatMap.2 ⟨c, hc, hq⟩))) (fun he => hapD.2.2 q (hsdL q he) q (List.mem_flatMap.2 ⟨c, hc, hq⟩) rfl)
    · refine List.nodup_append.2 ⟨hap.1, List.nodup_append.2 ⟨?_, nodup_filter _ _ D hapD.2.1, ?_⟩, ?_⟩
      · cases sd'.ownBlock <;> simp
      · rintro a ha b hb rfl
        have hm := sub a hb
        exact hapD.2.2 a (hsdL a (hsd a (hsdL' a ha) (List.mem_append_right _ (List.mem_append_right _ hm)))) a hm rfl
      · rintro a ha b hb rfl
        rcases List.mem_append.1 hb with hb | hb
        · exact hap.2.2 a ha a (List.mem_append_left _ (hsdL a (hsd a (hsdL' a hb) (List.mem_append_left _ ha)))) rfl
        · exact hap.2.2 a ha a (List.mem_append_right _ (sub a hb)) rfl
    · intro q hq
      rcases List.mem_append.1 hq with hq | hq
      · exact .inl (List.mem_append_left _ hq)
      · rcases List.mem_append.1 hq with hq | hq
        · exact .inr (hsdL' q hq)
        · exact .inl (List.mem_append_right _ (List.mem_append_right _ (sub q hq)))
/-- A field's six cells in the flat row. -/
theorem flatD_at {D : List (ByteArray × V × List Value × List Nat)} (h5 : ∀ c ∈ D, c.2.2.1.length = 5) {j : Nat} (hj : j < D.length) {i : Nat} (hi : i < 6) : (flatD D)[j * 6 + i]? = (Value.string D[j].1 :: D[j].2.2.1)[i]? := by
  have := flat_at (fun c : ByteArray × V × List Value × List Nat => Value.string c.1 :: c.2.2.1) 6 D [] (fun c hc => by simp [h5 c hc]) j hj i hi
  simpa using this

theorem row_cells {w : World} {g n c : Nat} {D : List (ByteArray × V × List Value × List Nat)} (hrow : w.ownsRow 0 72 6 (.slice (some ⟨g, 0, none⟩) n c) n (flatD D)) (h5 : ∀ c ∈ D, c.2.2.1.length = 5) {j : Nat} (hj : j < D.length) {u0 u1 u2 u3 u4 u5 : Value}
    (f0 : w.cell? ⟨g, j * 6, none⟩ = some u0) (f1 : w.cell? ⟨g, j * 6 + 1, none⟩ = some u1) (f2 : w.cell? ⟨g, j * 6 + 1 + 1, none⟩ = some u2) (f3 : w.cell? ⟨g, j * 6 + 1 + 2, none⟩ = some u3) (f4 : w.cell? ⟨g, j * 6 + 1 + 3, none⟩ = some u4) (f5 : w.cell? ⟨g, j * 6 + 1 + 4, none⟩ = some u5) :
    Value.string D[j].1 :: D[j].2.2.1 = [u0, u1, u2, u3, u4, u5] := by
  have hl := h5 D[j] (List.getElem_mem hj)
  have hat := fun i (hi : i < 6) => flatD_at h5 hj hi
  match hcs : D[j].2.2.1, hl with
  | [c0, c1, c2, c3, c4], _ =>
    rw [hcs] at hat
    have hc : ∀ i (hi : i < 6) u, [Value.string D[j].1, c0, c1, c2, c3, c4][i]? = some u → w.cell? ⟨g, j * 6 + i, none⟩ = some u := by
      intro i hi u hu
      have := hrow.cells (g := g) rfl (j * 6 + i) u ((hat i hi).trans hu)
      have ha : (⟨g, 0, none⟩ : Addr).add (j * 6 + i) = ⟨g, j * 6 + i, none⟩ := by unfold Addr.add; split <;> simp_all
      rwa [ha] at this
    have g0 := (hc 0 (by omega) _ rfl).symm.trans f0
    have g1 := (hc 1 (by omega) _ rfl).symm.trans f1
    have g2 := (hc 2 (by omega) _ rfl).symm.trans f2
    have g3 := (hc 3 (by omega) _ rfl).symm.trans f3
    have g4 := (hc 4 (by omega) _ rfl).symm.trans f4
    have g5 := (hc 5 (by omega) _ rfl).symm.trans f5
    simp only [Option.some.injEq] at g0 g1 g2 g3 g4 g5
    rw [g0, g1, g2, g3, g4, g5]
end Go.Proofs.YthfejpldhemakaaDoor
