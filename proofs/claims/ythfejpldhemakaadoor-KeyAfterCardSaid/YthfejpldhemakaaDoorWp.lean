import Derived.Test.YthfejpldhemakaaDoorWj
namespace Go.Proofs.YthfejpldhemakaaDoor
open Go.RowKit Go.Sort
theorem take_drop_set {α : Type} (D : List α) (j : Nat) (hj : j < D.length) (y : α) : D.set j y = D.take j ++ y :: D.drop (j + 1) ∧ D = D.take j ++ D[j] :: D.drop (j + 1) := by
  refine ⟨List.set_eq_take_append_cons_drop .. |>.trans (by rw [if_pos hj]), ?_⟩
  rw [List.getElem_cons_drop]
  exact (List.take_append_drop j D).symm
theorem nodup_set {α : Type} (f : α → List Nat) (D : List α) (j : Nat) (hj : j < D.length) (y : α) (hn : (D.flatMap f).Nodup) (hy : (f y).Nodup) (hd : ∀ g ∈ f y, g ∉ D.flatMap f) : ((D.set j y).flatMap f).Nodup := by
  obtain ⟨e1, e2⟩ := take_drop_set D j hj y
  rw [e2] at hn hd
  rw [e1]
  simp only [List.flatMap_append, List.flatMap_cons] at hn hd ⊢
  obtain ⟨h1, h2, h3⟩ := List.nodup_append.1 hn
  obtain ⟨h4, h5, h6⟩ := List.nodup_append.1 h2
  refine List.nodup_append.2 ⟨h1, List.nodup_append.2 ⟨hy, h5, ?_⟩, ?_⟩
  · rintro a ha b hb rfl
    exact hd a ha (by simp [hb])
  · rintro a ha b hb rfl
    rcases List.mem_append.1 hb with hb | hb
    · exact hd a hb (by simp [ha])
    · exact h3 a ha a (by simp [hb]) rfl
theorem mem_set_flat {α : Type} (f : α → List Nat) (D : List α) (j : Nat) (y : α) : ∀ g ∈ (D.set j y).flatMap f, g ∈ D.flatMap f ∨ g ∈ f y := by
  intro g hg
  obtain ⟨c, hc, hg⟩ := List.mem_flatMap.1 hg
  rcases List.mem_or_eq_of_mem_set hc with hc | hc
  · exact .inl (List.mem_flatMap.2 ⟨c, hc, hg⟩)
  · exact .inr (hc ▸ hg)
/-- Five stores over a field's value. -/
def stF (w : World) (g j : Nat) (c0 c1 c2 c3 c4 : Value) : World :=
  ((((w.setCell ⟨g, j * 6 + 1, none⟩ c0).setCell ⟨g, j * 6 + 2, none⟩ c1).setCell ⟨g, j * 6 + 3, none⟩ c2).setCell ⟨g, j * 6 + 4, none⟩ c3).setCell ⟨g, j * 6 + 5, none⟩ c4
theorem stF_only (w : World) (g j : Nat) (c0 c1 c2 c3 c4 : Value) : Only (· = g) w (stF w g j c0 c1 c2 c3 c4) := only_set5 w g _ _ _ _ _ _ _ _ _ _
/-- A document of the call's own, the value of its field j replaced by another value of the call's own. -/
theorem OV.replaced {w : World} {k i : Int} {t : ByteArray} {l : List V} {d : List (ByteArray × V)} {c0' c1' c2' sl : Value} {A : Option Addr} {n c : Nat} {F : List Nat} {x : V} {c0 c1 c2 c3 c4 : Value} {Fx : List Nat}
    (h : OV false w (.mk k i t l d) [c0', c1', c2', sl, .slice A n c] F) (hn : F.Nodup) {j : Nat} (hj : j < d.length) (hx : OV false w x [c0, c1, c2, c3, c4] Fx) (hxn : Fx.Nodup) (hdis : ∀ g ∈ Fx, g ∉ F) :
    ∃ g F', A = some ⟨g, 0, none⟩ ∧ g ∈ F ∧ OV false (stF w g j c0 c1 c2 c3 c4) (.mk k i t l (d.set j (d[j].1, x))) [c0', c1', c2', sl, .slice A n c] F' ∧ F'.Nodup ∧ ∀ q ∈ F', q ∈ F ∨ q ∈ Fx := by
  generalize hv : V.mk k i t l d = v at h
  generalize hcs : [c0', c1', c2', sl, .slice A n c] = cs at h
  cases h with
  | mk L D hk hi ht hl hd hnm hol hod rl rd =>
    injection hv with e1 e2 e3 e4 e5
    subst e1 e2 e3 e4 e5
    simp only [List.cons.injEq, and_true] at hcs
    obtain ⟨rfl, rfl, rfl, rfl, rfl⟩ := hcs
    have hj' : j < D.length := by simpa using hj
    have hn5 : ∀ c ∈ D, c.2.2.1.length = 5 := fun c hc => (rd c hc).len
    obtain ⟨g, cap, h3, _⟩ := hod.1.form (by omega)
    injection h3 with h3 h3' h3''
    subst h3 h3' h3''
    have hrow := field_replaced hn5 hod.1 hj' x c0 c1 c2 c3 c4 Fx
    have hg1 : g ∈ (Value.slice (some ⟨g, 0, none⟩) D.length c).ownBlock.toList := by simp [Value.ownBlock]
    have hap := List.nodup_append.1 hn
    have hapD := List.nodup_append.1 hap.2.1
    have honly := stF_only w g j c0 c1 c2 c3 c4
    have keep : ∀ q, q ≠ g → q < w.heap.size → (stF w g j c0 c1 c2 c3 c4).heap[q]? = w.heap[q]? := fun q hq hlt => honly.block q hlt hq
    refine ⟨g, sl.ownBlock.toList ++ L.flatMap (·.2.2) ++ ((Value.slice (some ⟨g, 0, none⟩) D.length c).ownBlock.toList ++ (D.set j (D[j].1, x, [c0, c1, c2, c3, c4], Fx)).flatMap (·.2.2.2)), rfl, List.mem_append_right _ (List.mem_append_left _ hg1), ?_, ?_, ?_⟩
    · have he : (List.map (fun c => (c.1, c.2.1)) D).set j ((List.map (fun c => (c.1, c.2.1)) D)[j].1, x) = (D.set j (D[j].1, x, [c0, c1, c2, c3, c4], Fx)).map fun c => (c.1, c.2.1) := by
        rw [List.map_set]
        simp
      rw [he]
      refine .mk L (D.set j (D[j].1, x, [c0, c1, c2, c3, c4], Fx)) hk hi ht hl (by simpa using hd) ?_ ⟨?_, fun h => by cases h⟩ ⟨?_, fun h => by cases h⟩ ?_ ?_
      · intro c hc
        rcases List.mem_or_eq_of_mem_set hc with hc | hc
        · exact hnm c hc
        · rw [hc]; exact hnm D[j] (List.getElem_mem hj')
      · exact ownsRow_at hol.1 fun q hq => keep q (fun he => hap.2.2 q (List.mem_append_left _ (by simp [hq])) g (List.mem_append_left _ hg1) he) (ownsRow_lt hol.1 (by simp [hq]))
      · have := hrow
        simp only [List.length_set]
        exact this
      · exact fun c hc => (rl c hc).at_ fun q hq => keep q (fun he => hap.2.2 q (List.mem_append_right _ (List.mem_flatMap.2 ⟨c, hc, hq⟩)) g (List.mem_append_left _ hg1) he) ((rl c hc).lt q hq)
      · intro c hc
        rcases List.mem_or_eq_of_mem_set hc with hc | hc
        · exact (rd c hc).at_ fun q hq => keep q (fun he => hapD.2.2 g hg1 q (List.mem_flatMap.2 ⟨c, hc, hq⟩) he.symm) ((rd c hc).lt q hq)
        · rw [hc]; exact hx.at_ fun q hq => keep q (fun he => hdis q hq (by rw [he]; exact List.mem_append_right _ (List.mem_append_left _ hg1))) (hx.lt q hq)
    · refine List.nodup_append.2 ⟨hap.1, List.nodup_append.2 ⟨hapD.1, nodup_set _ D j hj' _ hapD.2.1 hxn (fun q hq hm => hdis q hq (List.mem_append_right _ (List.mem_append_right _ hm))), ?_⟩, ?_⟩
      · rintro a ha b hb rfl
        rcases mem_set_flat _ D j _ a hb with hb | hb
        · exact hapD.2.2 a ha a hb rfl
        · exact hdis a hb (List.mem_append_right _ (List.mem_append_left _ ha))
      · rintro a ha b hb rfl
        rcases List.mem_append.1 hb with hb | hb
        · exact hap.2.2 a ha a (List.mem_append_left _ hb) rfl
        · rcases mem_set_flat _ D j _ a hb with hb | hb
          · exact hap.2.2 a ha a (List.mem_append_right _ hb) rfl
          · exact hdis a hb (List.mem_append_left _ ha)
    · intro q hq
      rcases List.mem_append.1 hq with hq | hq
      · exact .inl (List.mem_append_left _ hq)
      · rcases List.mem_append.1 hq with hq | hq
        · exact .inl (List.mem_append_right _ (List.mem_append_left _ hq))
        · rcases mem_set_flat _ D j _ q hq with hq | hq
          · exact .inl (List.mem_append_right _ (List.mem_append_right _ hq))
          · exact .inr hq
/-- A document of the call's own, one more field appended. -/
theorem OV.appended {w w' : World} {k i : Int} {t : ByteArray} {l : List V} {d : List (ByteArray × V)} {c0' c1' c2' sl sd : Value} {F : List Nat} {nm : ByteArray} {x : V} {cx : List Value} {Fx : List Nat} {g n cap H : Nat}
    (h : OV false w (.mk k i t l d) [c0', c1', c2', sl, sd] F) (hn : F.Nodup) (hx : OV false w x cx Fx) (hxn : Fx.Nodup) (hdis : ∀ g ∈ Fx, g ∉ F) (hnm : nm.size ≤ 140737488355328) (hd : d.length * 96 + 96 ≤ 140737488355328)
    (xs : List Value) (hrow0 : w.ownsRow 0 72 6 sd d.length xs) (hown : w'.ownsRow 0 72 6 (.slice (some ⟨g, 0, none⟩) n cap) n (xs ++ .string nm :: cx)) (hnn : n = d.length + 1) (hgrow : w.grownBy w' sd.ownBlock)
    (hat : sd.ownBlock = some g ∨ g = H) (hH : w.heap.size ≤ H) :
    ∃ F', OV false w' (.mk k i t l (d ++ [(nm, x)])) [c0', c1', c2', sl, .slice (some ⟨g, 0, none⟩) n cap] F' ∧ F'.Nodup ∧ (∀ q ∈ F', q ∈ F ∨ q ∈ Fx ∨ q = g) := by
  subst hnn
  generalize hv : V.mk k i t l d = v at h
  generalize hcs : [c0', c1', c2', sl, sd] = cs at h
  cases h with
  | mk L D hk hi ht hl hd' hnm' hol hod rl rd =>
    injection hv with e1 e2 e3 e4 e5
    subst e1 e2 e3 e4 e5
    simp only [List.cons.injEq, and_true] at hcs
    obtain ⟨rfl, rfl, rfl, rfl, rfl⟩ := hcs
    simp only [List.length_map] at hrow0 hown hd ⊢
    have hxs : xs = D.flatMap fun c => .string c.1 :: c.2.2.1 := by
      have e1 := hrow0.1
      have e2 := hod.1.1
      rcases hod.1.2 with ⟨h1, h2⟩ | ⟨g1, c1, cur1, h1, _, h3, _, _, _, h7⟩
      · rw [h2] at e1 e2
        simp at e1 e2
        subst e1
        obtain rfl : D = [] := List.eq_nil_of_length_eq_zero h2
        rfl
      · rcases hrow0.2 with ⟨h1', h2⟩ | ⟨g2, c2, cur2, h1', _, h3', _, _, _, h7'⟩
        · rw [h1'] at h1; cases h1
        · rw [h1] at h1'
          injection h1' with h1'
          injection h1' with h1'
          injection h1' with h1'
          subst h1'
          rw [h3] at h3'
          injection h3' with h3'
          injection h3' with h3'
          subst h3'
          exact h7'.symm.trans h7
    subst hxs
    have hap := List.nodup_append.1 hn
    have hapD := List.nodup_append.1 hap.2.1
    have gnew : ∀ q, q < w.heap.size → some q ≠ sd.ownBlock → q ≠ g := by
      intro q hq hne he
      rcases hat with hat | hat
      · exact hne (by rw [hat, he])
      · omega
    have hsdL : ∀ q, some q = sd.ownBlock → q ∈ sd.ownBlock.toList := fun q hq => by rw [← hq]; simp
    have keep : ∀ q, q < w.heap.size → some q ≠ sd.ownBlock → w'.heap[q]? = w.heap[q]? := fun q hq hne => hgrow.block q hq hne
    have n1 : ∀ q ∈ sl.ownBlock.toList ++ L.flatMap (·.2.2), q < w.heap.size ∧ some q ≠ sd.ownBlock := by
      intro q hq
      refine ⟨?_, fun he => hap.2.2 q hq q (List.mem_append_left _ (hsdL q he)) rfl⟩
      rcases List.mem_append.1 hq with hq | hq
      · exact ownsRow_lt hol.1 hq
      · obtain ⟨c, hc, hq⟩ := List.mem_flatMap.1 hq
        exact (rl c hc).lt q hq
    have n2 : ∀ q ∈ D.flatMap (·.2.2.2), q < w.heap.size ∧ some q ≠ sd.ownBlock := by
      intro q hq
      refine ⟨?_, fun he => hapD.2.2 q (hsdL q he) q hq rfl⟩
      obtain ⟨c, hc, hq⟩ := List.mem_flatMap.1 hq
      exact (rd c hc).lt q hq
    have n3 : ∀ q ∈ Fx, q < w.heap.size ∧ some q ≠ sd.ownBlock := fun q hq => ⟨hx.lt q hq, fun he => hdis q hq (List.mem_append_right _ (List.mem_append_left _ (hsdL q he)))⟩
    refine ⟨sl.ownBlock.toList ++ L.flatMap (·.2.2) ++ ((Value.slice (some ⟨g, 0, none⟩) (D.length + 1) cap).ownBlock.toList ++ (D ++ [(nm, x, cx, Fx)]).flatMap (·.2.2.2)), ?_, ?_, ?_⟩
    · have he : List.map (fun c => (c.1, c.2.1)) D ++ [(nm, x)] = (D ++ [(nm, x, cx, Fx)]).map fun c => (c.1, c.2.1) := by simp
      rw [he]
      refine .mk L (D ++ [(nm, x, cx, Fx)]) hk hi ht hl (by simp; omega) ?_ ⟨?_, fun h => by cases h⟩ ⟨by simpa using hown, fun h => by cases h⟩ ?_ ?_
      · intro c hc
        rcases List.mem_append.1 hc with hc | hc
        · exact hnm' c hc
        · rw [List.mem_singleton.1 hc]; exact hnm
      · exact ownsRow_at hol.1 fun q hq => keep q (n1 q (List.mem_append_left _ (by simp [hq]))).1 (n1 q (List.mem_append_left _ (by simp [hq]))).2
      · exact fun c hc => (rl c hc).at_ fun q hq => keep q ((rl c hc).lt q hq) (n1 q (List.mem_append_right _ (List.mem_flatMap.2 ⟨c, hc, hq⟩))).2
      · intro c hc
        rcases List.mem_append.1 hc with hc | hc
        · exact (rd c hc).at_ fun q hq => keep q ((rd c hc).lt q hq) (n2 q (List.mem_flatMap.2 ⟨c, hc, hq⟩)).2
        · rw [List.mem_singleton.1 hc]
          exact hx.at_ fun q hq => keep q (n3 q hq).1 (n3 q hq).2
    · simp only [List.flatMap_append, List.flatMap_cons, List.flatMap_nil, List.append_nil]
      have e1 : (Value.slice (some ⟨g, 0, none⟩) (D.length + 1) cap).ownBlock.toList = [g] := rfl
      rw [e1]
      refine List.nodup_append.2 ⟨hap.1, List.nodup_append.2 ⟨by simp, List.nodup_append.2 ⟨hapD.2.1, hxn, ?_⟩, ?_⟩, ?_⟩
      · rintro a ha b hb rfl
        exact hdis a hb (List.mem_append_right _ (List.mem_append_right _ ha))
      · rintro a ha b hb rfl
        obtain rfl := List.mem_singleton.1 ha
        rcases List.mem_append.1 hb with hb | hb
        · exact gnew a (n2 a hb).1 (n2 a hb).2 rfl
        · exact gnew a (n3 a hb).1 (n3 a hb).2 rfl
      · rintro a ha b hb rfl
        rcases List.mem_append.1 hb with hb | hb
        · exact gnew a (n1 a ha).1 (n1 a ha).2 (List.mem_singleton.1 hb)
        · rcases List.mem_append.1 hb with hb | hb
          · exact hap.2.2 a ha a (List.mem_append_right _ hb) rfl
          · exact hdis a hb (List.mem_append_left _ ha)
    · intro q hq
      simp only [List.flatMap_append, List.flatMap_cons, List.flatMap_nil, List.append_nil, List.mem_append] at hq
      rcases hq with hq | hq | hq | hq
      · exact .inl (List.mem_append_left _ (List.mem_append.2 hq))
      · exact .inr (.inr (by simpa [Value.ownBlock] using hq))
      · exact .inl (List.mem_append_right _ (List.mem_append_right _ hq))
      · exact .inr (.inl hq)

theorem ownsRow_free {w : World} {e sz g n c : Nat} {xs : List Value} (h : w.ownsRow 0 e sz (.slice (some ⟨g, 0, none⟩) n c) n xs) (p : Nat) : w.frozen? ⟨g, p, none⟩ = false := by
  rcases h.2 with ⟨h3, _⟩ | ⟨g', cap, cur, h3, _, h4, _⟩
  · cases h3
  · injection h3 with h3
    injection h3 with h3
    injection h3 with h3
    subst h3
    exact free_at h4 p
theorem RV.rd {w : World} {k i : Int} {t : ByteArray} {l : List V} {d : List (ByteArray × V)} {c0 c1 c2 c3 : Value} {A : Option Addr} {n c : Nat} (h : RV w (.mk k i t l d) [c0, c1, c2, c3, .slice A n c]) : n = d.length ∧ RD w d A c := by
  obtain ⟨_, _, _, _, e, _, _, _, _, hd⟩ := h.inv
  simp only [List.cons.injEq, and_true] at e
  obtain ⟨_, _, _, _, e⟩ := e
  injection e with e1 e2 e3
  subst e1 e2 e3
  exact ⟨rfl, hd⟩
theorem OV.rowD {m : Bool} {w : World} {k i : Int} {t : ByteArray} {l : List V} {d : List (ByteArray × V)} {c0 c1 c2 sl sd : Value} {F : List Nat} (h : OV m w (.mk k i t l d) [c0, c1, c2, sl, sd] F) :
    ∃ D : List (ByteArray × V × List Value × List Nat), d = D.map (fun c => (c.1, c.2.1)) ∧ (∀ c ∈ D, OV m w c.2.1 c.2.2.1 c.2.2.2) ∧ w.ownsRow 0 72 6 sd d.length (D.flatMap fun c => .string c.1 :: c.2.2.1) := by
  generalize hv : V.mk k i t l d = v at h
  generalize hcs : [c0, c1, c2, sl, sd] = cs at h
  cases h with
  | mk L D hk hi ht hl hd hn hol hod rl rd =>
    injection hv with e1 e2 e3 e4 e5
    subst e1 e2 e3 e4 e5
    simp only [List.cons.injEq, and_true] at hcs
    obtain ⟨rfl, rfl, rfl, rfl, rfl⟩ := hcs
    exact ⟨D, rfl, rd, by simpa using hod.1⟩
/-- A field of a value of the call's own. -/
theorem OV.field {w : World} {k i : Int} {t : ByteArray} {l : List V} {d : List (ByteArray × V)} {c0 c1 c2 sl : Value} {A : Option Addr} {n c : Nat} {F : List Nat} (h : OV false w (.mk k i t l d) [c0, c1, c2, sl, .slice A n c] F) {j : Nat} (hj : j < d.length) :
    ∃ g a0 n0 a1 n1, A = some ⟨g, 0, none⟩ ∧ w.cell? ⟨g, j * 6, none⟩ = some (.string d[j].1) ∧ w.cell? ⟨g, j * 6 + 1, none⟩ = some (.int .i64 d[j].2.k) ∧ w.cell? ⟨g, j * 6 + 1 + 1, none⟩ = some (.int .i64 d[j].2.i) ∧ w.cell? ⟨g, j * 6 + 1 + 2, none⟩ = some (.string d[j].2.t) ∧
      w.cell? ⟨g, j * 6 + 1 + 3, none⟩ = some (.slice a0 d[j].2.l.length n0) ∧ w.cell? ⟨g, j * 6 + 1 + 4, none⟩ = some (.slice a1 d[j].2.d.length n1) ∧ ∀ p, w.frozen? ⟨g, p, none⟩ = false := by
  obtain ⟨rfl, hd⟩ := h.rv.rd
  obtain ⟨D, _, _, hrow⟩ := h.rowD
  obtain ⟨g, cap, h3, _⟩ := hrow.form (by omega)
  injection h3 with h3
  subst h3
  obtain ⟨b, off, a0, n0, a1, n1, e, _, _, f0, f1, f2, f3, f4, f5⟩ := hd.get j hj
  injection e with e
  injection e with e1 e2
  subst e1 e2
  simp only [Nat.zero_add] at f0 f1 f2 f3 f4 f5
  exact ⟨g, a0, n0, a1, n1, rfl, f0, f1, f2, f3, f4, f5, ownsRow_free hrow⟩

theorem OV.ownD {m : Bool} {w : World} {v : V} {c0 c1 c2 sl sd : Value} {F : List Nat} (h : OV m w v [c0, c1, c2, sl, sd] F) {q : Nat} (hq : some q = sd.ownBlock) : q ∈ F := by
  generalize hcs : [c0, c1, c2, sl, sd] = cs at h
  cases h with
  | mk L D hk hi ht hl hd hn hol hod rl rd =>
    simp only [List.cons.injEq, and_true] at hcs
    obtain ⟨rfl, rfl, rfl, rfl, rfl⟩ := hcs
    exact List.mem_append_right _ (List.mem_append_left _ (by rw [← hq]; simp))
/-- A value of the call's own, copied into the result's box. -/
theorem made_ret {w W : World} {v : V} {c0 c1 c2 c3 c4 : Value} {F : List Nat} {b : Nat} (h : OV false W v [c0, c1, c2, c3, c4] F) (hn : F.Nodup) (hF : ∀ g ∈ F, w.heap.size ≤ g ∧ g ≠ b) (hb : Below w.heap.size w W) (hw : w.heap.size ≤ b) :
    Made w v (.returned (.agg #[c0, c1, c2, c3, c4])) (set5 W b c0 c1 c2 c3 c4) := by
  have ho := set5_only W b c0 c1 c2 c3 c4
  exact ⟨_, F, rfl, h.at_ fun g hg => ho.block g (h.lt g hg) (hF g hg).2, hn, fun g hg => (hF g hg).1, hb.trans (ho.below (fun g hg => by omega) hb.size)⟩
end Go.Proofs.YthfejpldhemakaaDoor
