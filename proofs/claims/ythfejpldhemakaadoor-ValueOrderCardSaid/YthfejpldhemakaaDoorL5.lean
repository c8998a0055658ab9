import Derived.Test.YthfejpldhemakaaDoorP
import Derived.Test.YthfejpldhemakaaDoorA
namespace Go.Proofs.YthfejpldhemakaaDoor
open Go.RowKit Go.Sort
/-- Three boxes. -/
def Three (w : World) (b : Nat) (x0 x1 x2 x3 x4 y0 y1 y2 y3 y4 z0 z1 z2 z3 z4 : Value) : Prop := Five w b x0 x1 x2 x3 x4 ∧ Five w (b + 1) y0 y1 y2 y3 y4 ∧ Five w (b + 2) z0 z1 z2 z3 z4
theorem Five.box_at (w : World) (c0 c1 c2 c3 c4 : Value) (e : TypeId) (n : Nat) (hn : n = w.heap.size) : Five (w.alloc (.cells #[c0, c1, c2, c3, c4] e)) n c0 c1 c2 c3 c4 := hn ▸ Five.box w c0 c1 c2 c3 c4 e
set_option maxRecDepth 100000 in
set_option maxHeartbeats 4000000 in
theorem order_c (a b c : V) (ca cb cc : List Value) (w : World) (hT : Tabs w) (ha : RV w a ca) (hb : RV w b cb) (hc : RV w c cc) :
    Calls Tryd.prog 5 #[.agg ca.toArray, .agg cb.toArray, .agg cc.toArray] w fun e w' => e = .returned (.bool true) ∧ Below w.heap.size w w' := by
  obtain ⟨p0, q0, p1, q1, rfl⟩ := ha.shape
  obtain ⟨p2, q2, p3, q3, rfl⟩ := hb.shape
  obtain ⟨p4, q4, p5, q5, rfl⟩ := hc.shape
  have hab := fun w' (h : Below w.heap.size w w') => compare_c a b _ _ w' (ha.grow h) (hb.grow h)
  have hba := fun w' (h : Below w.heap.size w w') => compare_c b a _ _ w' (hb.grow h) (ha.grow h)
  have hbc := fun w' (h : Below w.heap.size w w') => compare_c b c _ _ w' (hb.grow h) (hc.grow h)
  have hac := fun w' (h : Below w.heap.size w w') => compare_c a c _ _ w' (ha.grow h) (hc.grow h)
  have haa := fun w' (h : Below w.heap.size w w') => compare_c a a _ _ w' (ha.grow h) (ha.grow h)
  have hra := fun w' (h : Below w.heap.size w w') => right_c a _ w' (hT.grow h) (ha.grow h)
  have hrb := fun w' (h : Below w.heap.size w w') => right_c b _ w' (hT.grow h) (hb.grow h)
  have hsm := fun w' (h : Below w.heap.size w w') => same_c a b _ _ w' (ha.grow h) (hb.grow h)
  have haw := fun w' (h : Below w.heap.size w w') => awake_c w' (hT.grow h)
  have l1 := cmpV_range a b
  have l2 := cmpV_range b c
  have l3 := cmpV_range a c
  have l4 := cmpV_trans a b c
  have l5 := @alike_same a b
  rw [cmpV_flip a b] at hba
  rw [cmpV_self a] at haa
  obtain ⟨x, hx⟩ : ∃ x, cmpV a b = x := ⟨_, rfl⟩
  obtain ⟨y, hy⟩ : ∃ y, cmpV b c = y := ⟨_, rfl⟩
  obtain ⟨z, hz⟩ : ∃ z, cmpV a c = z := ⟨_, rfl⟩
  obtain ⟨r, hr⟩ : ∃ r, rightV a = r := ⟨_, rfl⟩
  obtain ⟨s, hs⟩ : ∃ s, rightV b = s := ⟨_, rfl⟩
  obtain ⟨q, hq⟩ : ∃ q, sameV a b = q := ⟨_, rfl⟩
  simp only [hx, hy, hz, hr, hs, hq] at hab hba hbc hac hra hrb hsm l1 l2 l3 l4 l5
  have l6 : r = 0 → s = 0 → q = decide (x = 0) := fun h1 h2 => l5 h1 h2
  unfold Tr at l4
  have key : (x = 1 ∧ (r != 0) = true) ∨ (x = 1 ∧ r = 0 ∧ (s != 0) = true) ∨ (x = 1 ∧ r = 0 ∧ s = 0 ∧ q = false) ∨
      (x = 0 ∧ y = 1 ∧ (r != 0) = true) ∨ (x = 0 ∧ y = 1 ∧ r = 0 ∧ (s != 0) = true) ∨ (x = 0 ∧ y = 1 ∧ r = 0 ∧ s = 0 ∧ q = true) ∨
      (x = -1 ∧ y = 1 ∧ (r != 0) = true) ∨ (x = -1 ∧ y = 1 ∧ r = 0 ∧ (s != 0) = true) ∨ (x = -1 ∧ y = 1 ∧ r = 0 ∧ s = 0 ∧ q = false) ∨
      (x = 0 ∧ y = 0 ∧ z = 0 ∧ (r != 0) = true) ∨ (x = 0 ∧ y = 0 ∧ z = 0 ∧ r = 0 ∧ (s != 0) = true) ∨ (x = 0 ∧ y = 0 ∧ z = 0 ∧ r = 0 ∧ s = 0 ∧ q = true) ∨
      (x = 0 ∧ y = 0 ∧ z = -1 ∧ (r != 0) = true) ∨ (x = 0 ∧ y = 0 ∧ z = -1 ∧ r = 0 ∧ (s != 0) = true) ∨ (x = 0 ∧ y = 0 ∧ z = -1 ∧ r = 0 ∧ s = 0 ∧ q = true) ∨
      (x = 0 ∧ y = -1 ∧ z = -1 ∧ (r != 0) = true) ∨ (x = 0 ∧ y = -1 ∧ z = -1 ∧ r = 0 ∧ (s != 0) = true) ∨ (x = 0 ∧ y = -1 ∧ z = -1 ∧ r = 0 ∧ s = 0 ∧ q = true) ∨
      (x = -1 ∧ y = 0 ∧ z = -1 ∧ (r != 0) = true) ∨ (x = -1 ∧ y = 0 ∧ z = -1 ∧ r = 0 ∧ (s != 0) = true) ∨ (x = -1 ∧ y = 0 ∧ z = -1 ∧ r = 0 ∧ s = 0 ∧ q = false) ∨
      (x = -1 ∧ y = -1 ∧ z = -1 ∧ (r != 0) = true) ∨ (x = -1 ∧ y = -1 ∧ z = -1 ∧ r = 0 ∧ (s != 0) = true) ∨ (x = -1 ∧ y = -1 ∧ z = -1 ∧ r = 0 ∧ s = 0 ∧ q = false) := by
    have hxx : x = 1 ∨ x = 0 ∨ x = -1 := by omega
    have hyy : y = 1 ∨ y = 0 ∨ y = -1 := by omega
    have hzz : z = 1 ∨ z = 0 ∨ z = -1 := by omega
    have hrr : (r != 0) = true ∨ (r = 0 ∧ (s != 0) = true) ∨ (r = 0 ∧ s = 0) := by
      by_cases h : r = 0
      · by_cases h' : s = 0
        · exact .inr (.inr ⟨h, h'⟩)
        · exact .inr (.inl ⟨h, by simpa using h'⟩)
      · exact .inl (by simpa using h)
    rcases hxx with rfl | rfl | rfl <;> rcases hrr with h | ⟨h, h'⟩ | ⟨h, h'⟩
    all_goals (first | (have l7 := l6 h h'; simp only [show decide ((1 : Int) = 0) = false from rfl, show decide ((-1 : Int) = 0) = false from rfl] at l7) | skip)
    all_goals rcases hyy with rfl | rfl | rfl <;> rcases hzz with rfl | rfl | rfl <;> simp_all
  clear hx hy hz hr hs hq l1 l2 l3 l4 l5 l6 ha hb hc hT
  rcases key with ⟨rfl, hr⟩ | ⟨rfl, rfl, hs⟩ | ⟨rfl, rfl, rfl, rfl⟩ | ⟨rfl, rfl, hr⟩ | ⟨rfl, rfl, rfl, hs⟩ | ⟨rfl, rfl, rfl, rfl, rfl⟩ | ⟨rfl, rfl, hr⟩ | ⟨rfl, rfl, rfl, hs⟩ | ⟨rfl, rfl, rfl, rfl, rfl⟩ | ⟨rfl, rfl, rfl, hr⟩ | ⟨rfl, rfl, rfl, rfl, hs⟩ | ⟨rfl, rfl, rfl, rfl, rfl, rfl⟩ | ⟨rfl, rfl, rfl, hr⟩ | ⟨rfl, rfl, rfl, rfl, hs⟩ | ⟨rfl, rfl, rfl, rfl, rfl, rfl⟩ | ⟨rfl, rfl, rfl, hr⟩ | ⟨rfl, rfl, rfl, rfl, hs⟩ | ⟨rfl, rfl, rfl, rfl, rfl, rfl⟩ | ⟨rfl, rfl, rfl, hr⟩ | ⟨rfl, rfl, rfl, rfl, hs⟩ | ⟨rfl, rfl, rfl, rfl, rfl, rfl⟩ | ⟨rfl, rfl, rfl, hr⟩ | ⟨rfl, rfl, rfl, rfl, hs⟩ | ⟨rfl, rfl, rfl, rfl, rfl, rfl⟩
  all_goals
    go_enter Tryd.func5, Tryd.ntmps5
    go_wp2_with fail
    generalize hW0 : World.alloc (World.alloc (w.alloc _) _) _ = W0
    have b0 : Below w.heap.size w W0 := by rw [← hW0]; exact below2 (below_alloc2 w _ _) (below_alloc1 _ _)
    have HB : Hid (∀ w', Below W0.heap.size W0 w' → Three w' w.heap.size (.int .i64 a.k) (.int .i64 a.i) (.string a.t) (.slice p0 a.l.length q0) (.slice p1 a.d.length q1) (.int .i64 b.k) (.int .i64 b.i) (.string b.t) (.slice p2 b.l.length q2) (.slice p3 b.d.length q3) (.int .i64 c.k) (.int .i64 c.i) (.string c.t) (.slice p4 c.l.length q4) (.slice p5 c.d.length q5)) :=
      Lib.hid fun w' h => by
        subst hW0
        exact ⟨((Five.box w _ _ _ _ _ 25).grow (below_alloc2 _ _ _)).grow h, ((Five.box_at (w.alloc _) _ _ _ _ _ 25 _ (by simp)).grow (below_alloc1 _ _)).grow h, (Five.box_at ((w.alloc _).alloc _) _ _ _ _ _ 25 _ (by simp)).grow h⟩
    clear hW0
    refine (haw W0 b0).mono ?_
    rintro e w1 ⟨rfl, b1⟩
    obtain ⟨⟨x0, x1, x2, x3, x4⟩, ⟨y0, y1, y2, y3, y4⟩, ⟨z0, z1, z2, z3, z4⟩⟩ := HB.out w1 b1
    have B1 := below2 b0 b1
    go_wp2_with fail
    refine (hab w1 B1).mono ?_
    rintro e w2 ⟨rfl, d2⟩
    have b2 := below2 b1 d2
    clear x0 x1 x2 x3 x4 y0 y1 y2 y3 y4 z0 z1 z2 z3 z4
    obtain ⟨⟨x0, x1, x2, x3, x4⟩, ⟨y0, y1, y2, y3, y4⟩, ⟨z0, z1, z2, z3, z4⟩⟩ := HB.out w2 b2
    have B2 := below2 b0 b2
    go_wp2_with fail
    refine (hba w2 B2).mono ?_
    rintro e w3 ⟨rfl, d3⟩
    have b3 := below2 b2 d3
    clear x0 x1 x2 x3 x4 y0 y1 y2 y3 y4 z0 z1 z2 z3 z4
    obtain ⟨⟨x0, x1, x2, x3, x4⟩, ⟨y0, y1, y2, y3, y4⟩, ⟨z0, z1, z2, z3, z4⟩⟩ := HB.out w3 b3
    have B3 := below2 b0 b3
    go_wp2_with fail
    refine (hbc w3 B3).mono ?_
    rintro e w4 ⟨rfl, d4⟩
    have b4 := below2 b3 d4
    clear x0 x1 x2 x3 x4 y0 y1 y2 y3 y4 z0 z1 z2 z3 z4
    obtain ⟨⟨x0, x1, x2, x3, x4⟩, ⟨y0, y1, y2, y3, y4⟩, ⟨z0, z1, z2, z3, z4⟩⟩ := HB.out w4 b4
    have B4 := below2 b0 b4
    go_wp2_with fail
    refine (hac w4 B4).mono ?_
    rintro e w5 ⟨rfl, d5⟩
    have b5 := below2 b4 d5
    clear x0 x1 x2 x3 x4 y0 y1 y2 y3 y4 z0 z1 z2 z3 z4
    obtain ⟨⟨x0, x1, x2, x3, x4⟩, ⟨y0, y1, y2, y3, y4⟩, ⟨z0, z1, z2, z3, z4⟩⟩ := HB.out w5 b5
    have B5 := below2 b0 b5
    go_wp2_with fail
    refine (haa w5 B5).mono ?_
    rintro e w6 ⟨rfl, d6⟩
    have b6 := below2 b5 d6
    clear x0 x1 x2 x3 x4 y0 y1 y2 y3 y4 z0 z1 z2 z3 z4
    obtain ⟨⟨x0, x1, x2, x3, x4⟩, ⟨y0, y1, y2, y3, y4⟩, ⟨z0, z1, z2, z3, z4⟩⟩ := HB.out w6 b6
    have B6 := below2 b0 b6
    go_wp2_with fail
    refine (hra w6 B6).mono ?_
    rintro e w7 ⟨rfl, d7⟩
    have b7 := below2 b6 d7
    clear x0 x1 x2 x3 x4 y0 y1 y2 y3 y4 z0 z1 z2 z3 z4
    obtain ⟨⟨x0, x1, x2, x3, x4⟩, ⟨y0, y1, y2, y3, y4⟩, ⟨z0, z1, z2, z3, z4⟩⟩ := HB.out w7 b7
    have B7 := below2 b0 b7
    go_wp2_with fail
    refine (hrb w7 B7).mono ?_
    rintro e w8 ⟨rfl, d8⟩
    have b8 := below2 b7 d8
    clear x0 x1 x2 x3 x4 y0 y1 y2 y3 y4 z0 z1 z2 z3 z4
    obtain ⟨⟨x0, x1, x2, x3, x4⟩, ⟨y0, y1, y2, y3, y4⟩, ⟨z0, z1, z2, z3, z4⟩⟩ := HB.out w8 b8
    have B8 := below2 b0 b8
    go_wp2_with fail
    first
      | (refine (hsm w8 B8).mono ?_; rintro e w9 ⟨rfl, d9⟩; have b9 := below2 b8 d9; go_wp2_with fail; go_ret; exact ⟨rfl, below2 b0 b9⟩)
      | (go_ret; exact ⟨rfl, below2 b0 b8⟩)
end Go.Proofs.YthfejpldhemakaaDoor
