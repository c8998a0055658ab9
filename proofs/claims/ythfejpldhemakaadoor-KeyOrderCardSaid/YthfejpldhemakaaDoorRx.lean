import Derived.Test.YthfejpldhemakaaDoorRo
import Derived.Test.YthfejpldhemakaaDoorKt
import Derived.Test.YthfejpldhemakaaDoorKi
import Derived.Test.YthfejpldhemakaaDoorKv
import Derived.Test.YthfejpldhemakaaDoorKp
import Derived.Test.YthfejpldhemakaaDoorJm
import Derived.Test.YthfejpldhemakaaDoorKu
namespace Go.Proofs.YthfejpldhemakaaDoor
open Go.RowKit Go.Sort Go.Lib
/-- A mask by its turn. -/
def mk8 (d : Bool) : UInt8 := if d then 255 else 0
/-- Values out of a key's bytes, each by its turn. -/
def rdRow : List Bool → List UInt8 → Option (List V × List UInt8)
  | [], b => some ([], b)
  | d :: ds, b => match pV false (b.length + 1) 1 (b.map (· ^^^ mk8 d)) with
    | none => none
    | some x => if rightV x.1 = 0 then (rdRow ds (x.2.map (· ^^^ mk8 d))).map fun y => (x.1 :: y.1, y.2) else none
def readV (b : List UInt8) (d : List Bool) : Int × List V :=
  if d.length < 1 ∨ 4 < d.length then (1, []) else if 1000 < b.length then (30, []) else match rdRow d b with
    | none => (31, [])
    | some x => if x.2 = [] then (0, x.1) else (31, [])
def faultAt (n : Int) : Int := if n = 0 then 0 else -1
/-- What a reading call answers. -/
def ReadPost (w : World) (r : Int × List V) (e : Ending) (w' : World) : Prop :=
  ∃ (L : List (V × List Value × List Nat)) (sl : Value), e = .returned (.tuple #[sl, .agg #[.int .i64 r.1, .int .i64 (faultAt r.1)]]) ∧ L.map (·.1) = r.2 ∧ PL w' w.heap.size L sl ∧ Below w.heap.size w w'
theorem readPost_nil {w w' : World} {n : Int} (hn : n ≠ 0) (hb : Below w.heap.size w w') : ReadPost w (n, []) (.returned (.tuple #[.slice none 0 0, .agg #[.int .i64 n, .int .i64 (-1)]])) w' :=
  ⟨[], _, by simp [faultAt, hn], rfl, PL.nil _ _, hb⟩
theorem rest_map (z : RC) (i : Nat) : (z.rest i).map (· ^^^ z.m) = z.bytes.drop i := by
  unfold RC.rest
  rw [List.map_map]
  conv => rhs; rw [← List.map_id (z.bytes.drop i)]
  congr 1
  funext x
  simp [UInt8.xor_assoc]
set_option maxRecDepth 100000 in
set_option maxHeartbeats 1000000 in
theorem make_c (m : UInt8) (ab bb : Nat) (w : World) : Calls Tryd.prog 81 #[.int .u8 (m.toNat : Int), .pointer (some ⟨ab, 0, none⟩), .pointer (some ⟨bb, 0, none⟩)] w fun e w' =>
    e = .returned (.func (.func 82) #[] #[.pointer (some ⟨ab, 0, none⟩), .pointer (some ⟨bb, 0, none⟩), .pointer (some ⟨w.heap.size, 0, none⟩)]) ∧ w' = w.alloc (.cells #[.int .u8 (m.toNat : Int)] 5) := by
  go_enter Tryd.func81, Tryd.ntmps81
  go_wp2_with fail
  go_ret
  exact ⟨rfl, rfl⟩
theorem fault_cells (w : World) (a : Obj) (x y : Value) : ((w.alloc a).alloc (.cells #[x, y] 49)).cell? ⟨w.heap.size + 1, 0, none⟩ = some x ∧ ((w.alloc a).alloc (.cells #[x, y] 49)).cell? ⟨w.heap.size + 1, 1, none⟩ = some y := by
  have h := heap_alloc_new (w.alloc a) (.cells #[x, y] 49)
  rw [World.size_alloc] at h
  exact ⟨cell_at h 0 _ rfl, cell_at h 1 _ rfl⟩
set_option maxRecDepth 100000 in
set_option maxHeartbeats 1000000 in
theorem read_desc (A A2 : Option Addr) (n c m c2 : Nat) (w : World) (h : m < 1 ∨ 4 < m) (hm : m ≤ 140737488355328) (b : List UInt8) (d : List Bool) (hd : d.length = m) : Calls Tryd.prog 42 #[.slice A n c, .slice A2 m c2] w (ReadPost w (readV b d)) := by
  have HR := Lib.hid (show readV b d = (1, []) by unfold readV; rw [if_pos (by omega)])
  clear hd
  rcases h with h | h
  · obtain rfl : m = 0 := by omega
    clear h
    go_enter Tryd.func42, Tryd.ntmps42
    go_wp2_with fail
    rw [HR.out]
    have hf := fault_cells w (.cells #[.slice A n c] 42) (.int .i64 1) (.int .i64 (-1))
    exact bodyPost_ret (v := .tuple #[.slice none 0 0, .agg #[.int .i64 1, .int .i64 (-1)]]) (by simp [results, Tryd.results42, go_sem, hf.1, hf.2]) rfl (readPost_nil (by decide) (below_alloc2 _ _ _))
  · have h1 : ¬ m < 1 := by omega
    go_enter Tryd.func42, Tryd.ntmps42
    go_wp2_with fail
    rw [HR.out]
    have hf := fault_cells w (.cells #[.slice A n c] 42) (.int .i64 1) (.int .i64 (-1))
    exact bodyPost_ret (v := .tuple #[.slice none 0 0, .agg #[.int .i64 1, .int .i64 (-1)]]) (by simp [results, Tryd.results42, go_sem, hf.1, hf.2]) rfl (readPost_nil (by decide) (below_alloc2 _ _ _))
set_option maxRecDepth 100000 in
set_option maxHeartbeats 1000000 in
theorem read_long (A A2 : Option Addr) (n c m c2 : Nat) (w : World) (h1 : 1 ≤ m) (h2 : m ≤ 4) (hn : 1000 < n) (hn2 : n ≤ 140737488355328) (b : List UInt8) (d : List Bool) (hd : d.length = m) (hb : b.length = n) : Calls Tryd.prog 42 #[.slice A n c, .slice A2 m c2] w (ReadPost w (readV b d)) := by
  have HR := Lib.hid (show readV b d = (30, []) by unfold readV; rw [if_neg (by omega), if_pos (by omega)])
  clear hd hb
  go_enter Tryd.func42, Tryd.ntmps42
  go_wp2_with fail
  rw [HR.out]
  have hf := fault_cells w (.cells #[.slice A n c] 42) (.int .i64 30) (.int .i64 (-1))
  exact bodyPost_ret (v := .tuple #[.slice none 0 0, .agg #[.int .i64 30, .int .i64 (-1)]]) (by simp [results, Tryd.results42, go_sem, hf.1, hf.2]) rfl (readPost_nil (by decide) (below_alloc2 _ _ _))
theorem heap3 (w : World) (a b c : Obj) : ((((w.alloc a).alloc b).alloc c).heap[w.heap.size]? = some a ∧ (((w.alloc a).alloc b).alloc c).heap[w.heap.size + 1]? = some b ∧ (((w.alloc a).alloc b).alloc c).heap[w.heap.size + 2]? = some c) := by
  refine ⟨?_, ?_, ?_⟩
  · rw [heap_alloc_old _ _ (by simp only [World.size_alloc]; omega), heap_alloc_old _ _ (by simp only [World.size_alloc]; omega), heap_alloc_new]
  · rw [heap_alloc_old _ _ (by simp only [World.size_alloc]; omega)]
    have := heap_alloc_new (w.alloc a) b
    simpa using this
  · have := heap_alloc_new ((w.alloc a).alloc b) c
    simpa using this
end Go.Proofs.YthfejpldhemakaaDoor

namespace Go.Proofs.YthfejpldhemakaaDoor
open Go.RowKit Go.Sort Go.Lib
/-- Reading so far. -/
structure RdS (w wr : World) (A : Option Addr) (c : Nat) (b : List UInt8) (d : List Bool) (j i : Nat) (L : List (V × List Value × List Nat)) (sl : Value) : Prop where
  len : L.length = j
  row : PL wr (w.heap.size + 3) L sl
  from_ : rdRow d b = (rdRow (d.drop j) (b.drop i)).map fun x => (L.map (·.1) ++ x.1, x.2)
  bb : wr.heap[w.heap.size]? = some (.cells #[.slice A b.length c] 42 (0, 0))
  fb : wr.heap[w.heap.size + 1]? = some (.cells #[.int .i64 0, .int .i64 0] 49 (0, 0))
  ab : wr.heap[w.heap.size + 2]? = some (.cells #[.int .i64 (i : Int)] 3 (0, 0))
  le : i ≤ b.length
  below : Below w.heap.size w wr
theorem rdRow_step {d : List Bool} {b : List UInt8} {j i i' : Nat} {v : V} (hj : j < d.length) (m : UInt8) (hm : m = mk8 d[j]) (h : pV false ((b.drop i).length + 1) 1 ((b.drop i).map (· ^^^ m)) = some (v, (b.drop i').map (· ^^^ m))) (hr : rightV v = 0) :
    rdRow (d.drop j) (b.drop i) = (rdRow (d.drop (j + 1)) (b.drop i')).map fun y => (v :: y.1, y.2) := by
  subst hm
  rw [List.drop_eq_getElem_cons hj, rdRow, h]
  simp only [hr, if_true, List.map_map]
  congr 2
  conv => rhs; rw [← List.map_id (b.drop i')]
  congr 1
  funext x
  simp [UInt8.xor_assoc]
theorem rdRow_bad {d : List Bool} {b : List UInt8} {j i : Nat} (hj : j < d.length) (m : UInt8) (hm : m = mk8 d[j]) (h : pV false ((b.drop i).length + 1) 1 ((b.drop i).map (· ^^^ m)) = none) :
    rdRow (d.drop j) (b.drop i) = none := by
  subst hm
  rw [List.drop_eq_getElem_cons hj, rdRow, h]
theorem rdRow_wrong {d : List Bool} {b : List UInt8} {j i : Nat} {x : V × List UInt8} (hj : j < d.length) (m : UInt8) (hm : m = mk8 d[j]) (h : pV false ((b.drop i).length + 1) 1 ((b.drop i).map (· ^^^ m)) = some x) (hr : ¬ rightV x.1 = 0) :
    rdRow (d.drop j) (b.drop i) = none := by
  subst hm
  rw [List.drop_eq_getElem_cons hj, rdRow, h]
  simp [hr]
theorem _root_.Go.RowKit.Below.weak_ {a b : World} {B : Nat} (h : Below a.heap.size a b) (hB : B ≤ a.heap.size) : Below B a b := ⟨h.os, h.tape, h.output, h.size, fun k hk => h.block k (by omega)⟩
theorem rd_fail {w W : World} {b : List UInt8} {d : List Bool} (hr : readV b d = match rdRow d b with | none => (31, []) | some x => if x.2 = [] then (0, x.1) else (31, [])) (hn : rdRow d b = none) (hb : Below w.heap.size w W) :
    ReadPost w (readV b d) (.returned (.tuple #[.slice none 0 0, .agg #[.int .i64 31, .int .i64 (-1)]])) ((W.setCell ⟨w.heap.size + 1, 0, none⟩ (.int .i64 31)).setCell ⟨w.heap.size + 1, 1, none⟩ (.int .i64 (-1))) := by
  rw [hr, hn]
  exact readPost_nil (by decide) ((hb.setCell (by simp) _).setCell (by simp) _)
theorem rd_done {w W : World} {b : List UInt8} {d : List Bool} {i : Nat} {L : List (V × List Value × List Nat)} {sl : Value} (hr : readV b d = match rdRow d b with | none => (31, []) | some x => if x.2 = [] then (0, x.1) else (31, [])) (hx : rdRow d b = some (L.map (·.1), b.drop i)) (hL : PL W (w.heap.size + 3) L sl) (hb : Below w.heap.size w W) :
    (¬ b.drop i = [] → ReadPost w (readV b d) (.returned (.tuple #[.slice none 0 0, .agg #[.int .i64 31, .int .i64 (-1)]])) ((W.setCell ⟨w.heap.size + 1, 0, none⟩ (.int .i64 31)).setCell ⟨w.heap.size + 1, 1, none⟩ (.int .i64 (-1)))) ∧
    (b.drop i = [] → ReadPost w (readV b d) (.returned (.tuple #[sl, .agg #[.int .i64 0, .int .i64 0]])) ((W.setCell ⟨w.heap.size + 1, 0, none⟩ (.int .i64 0)).setCell ⟨w.heap.size + 1, 1, none⟩ (.int .i64 0))) := by
  rw [hr, hx]
  refine ⟨fun h => ?_, fun h => ?_⟩
  · simp only [if_neg h]
    exact readPost_nil (by decide) ((hb.setCell (by simp) _).setCell (by simp) _)
  · simp only [if_pos h]
    have ho := (only_set W (w.heap.size + 1) 0 (.int .i64 0)).trans (only_set _ (w.heap.size + 1) 1 (.int .i64 0)) (fun _ _ h => h)
    refine ⟨L, sl, rfl, rfl, (hL.only ho (fun g hg => by omega)).weak (by omega), (hb.setCell (by simp) _).setCell (by simp) _⟩
/-- The reader of one round. -/
def rdZ (w wr : World) (A : Option Addr) (c : Nat) (b : List UInt8) (m : UInt8) : RC := ⟨w, A, c, b, m, wr.heap.size + 1, w.heap.size + 1 + 1, w.heap.size, wr.heap.size⟩
def rdW (w wr : World) (m : UInt8) : World := (wr.alloc (.cells #[.int .u8 (m.toNat : Int)] 5)).alloc (.cells #[.func (.func 82) #[] #[.pointer (some ⟨w.heap.size + 1 + 1, 0, none⟩), .pointer (some ⟨w.heap.size, 0, none⟩), .pointer (some ⟨wr.heap.size, 0, none⟩)], .bool false] 93)
theorem rd_start {w wr : World} {A : Option Addr} {c : Nat} {b : List UInt8} {d : List Bool} {j i : Nat} {L : List (V × List Value × List Nat)} {sl : Value} (h : RdS w wr A c b d j i L sl) (hA : RY w A b) (hn : b.length ≤ 1000) (m : UInt8) : (rdZ w wr A c b m).Ok ∧ RS (rdZ w wr A c b m) (rdW w wr m) i false := by
  have h2 := block_lt h.ab
  have hs := h.below.size
  have hb : Below wr.heap.size wr (rdW w wr m) := below_alloc2 _ _ _
  refine ⟨⟨hA, hn, by simp only [rdZ]; omega, by simp only [rdZ]; omega, Nat.le_refl _, by simp only [rdZ]; omega, by simp only [rdZ]; omega, by simp only [rdZ]; omega, by simp only [rdZ]; omega, by simp only [rdZ]; omega, by simp only [rdZ]; omega⟩, ?_⟩
  refine ⟨below2 h.below hb, ?_, (hb.block _ (by simp only [rdZ]; omega)).trans h.ab, (hb.block _ (block_lt h.bb)).trans h.bb, ?_, h.le⟩
  · have := heap_alloc_new (wr.alloc (.cells #[.int .u8 (m.toNat : Int)] 5)) (.cells #[.func (.func 82) #[] #[.pointer (some ⟨w.heap.size + 1 + 1, 0, none⟩), .pointer (some ⟨w.heap.size, 0, none⟩), .pointer (some ⟨wr.heap.size, 0, none⟩)], .bool false] 93)
    rw [World.size_alloc] at this
    exact this
  · show (rdW w wr m).heap[wr.heap.size]? = _
    unfold rdW
    rw [heap_alloc_old _ _ (by simp), heap_alloc_new]
    rfl
theorem rd_mem {w wr w4 : World} {A : Option Addr} {c : Nat} {b : List UInt8} {d : List Bool} {j i i' : Nat} {bd : Bool} {L : List (V × List Value × List Nat)} {sl : Value} {m : UInt8} (h : RdS w wr A c b d j i L sl) (hr : RS (rdZ w wr A c b m) w4 i' bd) (ho : Only (rdZ w wr A c b m).own (rdW w wr m) w4) :
    PL w4 (w.heap.size + 3) L sl ∧ w4.heap[w.heap.size]? = some (.cells #[.slice A b.length c] 42 (0, 0)) ∧ w4.heap[w.heap.size + 1]? = some (.cells #[.int .i64 0, .int .i64 0] 49 (0, 0)) ∧ w4.heap[w.heap.size + 2]? = some (.cells #[.int .i64 (i' : Int)] 3 (0, 0)) ∧ i' ≤ b.length ∧ Below w.heap.size w w4 ∧ w4.heap[wr.heap.size + 1]? = some (.cells #[.func (.func 82) #[] #[.pointer (some ⟨w.heap.size + 1 + 1, 0, none⟩), .pointer (some ⟨w.heap.size, 0, none⟩), .pointer (some ⟨wr.heap.size, 0, none⟩)], .bool bd] 93 (0, 0)) := by
  have h2 := block_lt h.ab
  have hs := h.below.size
  have hb : Below wr.heap.size wr (rdW w wr m) := below_alloc2 _ _ _
  have hown : ∀ q, (rdZ w wr A c b m).own q → q = wr.heap.size + 1 ∨ q = w.heap.size + 2 := fun q hq => hq
  have hsz := hb.size
  refine ⟨h.row.at_ fun g hg => ?_, hr.b, ?_, hr.a, hr.le, hr.below, hr.r⟩
  · have h3 := h.row.lt g hg
    have h4 := h.row.from_ g hg
    exact (ho.block g (by omega) (fun hq => by rcases hown g hq with hq | hq <;> omega)).trans (hb.block g h3)
  · exact (ho.block _ (by omega) (fun hq => by rcases hown _ hq with hq | hq <;> omega)).trans ((hb.block _ (by omega)).trans h.fb)
theorem rd_next {w wr w6 w7 : World} {A : Option Addr} {c : Nat} {b : List UInt8} {d : List Bool} {j i i' g cap : Nat} {o : Obj} {L : List (V × List Value × List Nat)} {sl : Value} {x : V} {cx : List Value} {F : List Nat} (h : RdS w wr A c b d j i L sl)
    (hm : PL w6 (w.heap.size + 3) L sl) (e1 : w6.heap[w.heap.size]? = some (.cells #[.slice A b.length c] 42 (0, 0))) (e2 : w6.heap[w.heap.size + 1]? = some (.cells #[.int .i64 0, .int .i64 0] 49 (0, 0))) (e3 : w6.heap[w.heap.size + 2]? = some (.cells #[.int .i64 (i' : Int)] 3 (0, 0))) (hle : i' ≤ b.length) (hb : Below w.heap.size w w6)
    (hov : OV false w6 x cx F) (hnd : F.Nodup) (hF : ∀ g ∈ F, wr.heap.size ≤ g) (hstep : rdRow (d.drop j) (b.drop i) = (rdRow (d.drop (j + 1)) (b.drop i')).map fun y => (x :: y.1, y.2))
    (hown : w7.ownsRow 0 25 5 (.slice (some ⟨g, 0, none⟩) (L.length + 1) cap) (L.length + 1) (L.flatMap (·.2.1) ++ cx)) (hgrow : (w6.alloc o).grownBy w7 sl.ownBlock) (hat : sl.ownBlock = some g ∨ g = w6.heap.size + 1) :
    RdS w w7 A c b d (j + 1) i' (L ++ [(x, cx, F)]) (.slice (some ⟨g, 0, none⟩) (L.length + 1) cap) := by
  have h2 := block_lt h.ab
  have h6 := block_lt e3
  have hnew := PL.snoc (w := w6.alloc o) (hm.grow (below_alloc1 _ _)) (hov.grow (below_alloc1 _ _)) hnd (fun g hg => ⟨by have := hF g hg; omega, fun hq => by have := h.row.lt g hq; have := hF g hg; omega⟩) hown hgrow (hat.imp id (fun h => h)) (by simp) (by simp; omega)
  have hsl : ∀ q, some q = sl.ownBlock → w.heap.size + 3 ≤ q := fun q hq => hm.from_ q (List.mem_append_left _ (by rw [← hq]; simp))
  have keep : ∀ q ob, w6.heap[q]? = some ob → q < w.heap.size + 3 → w7.heap[q]? = some ob := fun q ob hq hlt => by
    rw [hgrow.block q (by simp; have := block_lt hq; omega) (fun he => by have := hsl q he; omega), heap_alloc_old _ _ (block_lt hq), hq]
  refine ⟨by simp [h.len], hnew, ?_, keep _ _ e1 (by omega), keep _ _ e2 (by omega), keep _ _ e3 (by omega), hle, ?_⟩
  · rw [h.from_, hstep, Option.map_map]
    congr 1
    funext y
    simp
  · have ha := below_alloc1 w6 o
    have hbs := hb.size
    have hb1 : Below w.heap.size w6 (w6.alloc o) := ⟨ha.os, ha.tape, ha.output, ha.size, fun k hk => ha.block k (by omega)⟩
    exact hb.trans (hb1.trans (Only.below (Only.of_grown hgrow) (fun g hg => by have := hsl g hg; omega) (by simp; omega)))
set_option maxRecDepth 100000 in
set_option maxHeartbeats 2000000 in
theorem read_main (A A2 : Option Addr) (c c2 : Nat) (w : World) (hT : Tabs w) (b : List UInt8) (d : List Bool) (hA : RY w A b) (hD : RB w A2 d) (h1 : 1 ≤ d.length) (h2 : d.length ≤ 4) (hn : b.length ≤ 1000) : Calls Tryd.prog 42 #[.slice A b.length c, .slice A2 d.length c2] w (ReadPost w (readV b d)) := by
  have HR := Lib.hid (show readV b d = match rdRow d b with | none => (31, []) | some x => if x.2 = [] then (0, x.1) else (31, []) by unfold readV; rw [if_neg (by omega), if_neg (by omega)] <;> (cases rdRow d b <;> rfl))
  have HA := Lib.hid (And.intro hT (And.intro hA hD))
  clear hT hA hD
  go_enter Tryd.func42, Tryd.ntmps42
  go_wp2_with fail
  generalize hW0 : World.alloc (World.alloc (World.alloc w _) _) _ = W0
  have HW0 : Hid (RdS w W0 A c b d 0 0 [] (.slice none 0 0)) := by
    obtain ⟨e1, e2, e3⟩ := heap3 w (.cells #[.slice A b.length c] 42) (.cells #[.int .i64 0, .int .i64 0] 49) (.cells #[.int .i64 0] 3)
    rw [hW0] at e1 e2 e3
    refine Lib.hid ⟨rfl, PL.nil _ _, ?_, e1, e2, e3, by omega, ?_⟩
    · rw [List.drop_zero, List.drop_zero]; cases rdRow d b <;> rfl
    · rw [← hW0]; exact below2 (below_alloc2 _ _ _) (below_alloc1 _ _)
  clear hW0
  go_loopw [8, 32] (fun vv ix wr => ∃ (j i : Nat) (L : List (V × List Value × List Nat)), j ≤ d.length ∧ ix = .int .i64 (j : Int) ∧ Hid (RdS w wr A c b d j i L vv)) (fun _ ix _ => d.length - (RowKit.intOf ix).toNat)
  case atStart => exact ⟨0, 0, [], by omega, rfl, HW0⟩
  case round =>
    obtain ⟨j, i, L, hj, rfl, H⟩ := hrel
    clear HW0
    by_cases hlt : j < d.length
    · obtain ⟨b2, off2, rfl, y0⟩ := (HA.out.2.2.grow H.out.below).get hlt
      cases hdj : d[j] with
      | true =>
        rw [hdj] at y0
        have HM : Hid ((255 : UInt8) = mk8 d[j]) := Lib.hid (by rw [hdj]; rfl)
        clear hdj
        go_wp2_with fail
        refine (make_c 255 _ _ wr).mono ?_
        rintro e wA ⟨rfl, rfl⟩
        go_wp2_with fail
        have HZ := Lib.hid (rd_start H.out HA.out.2.1 hn 255)
        have hvc : Calls Tryd.prog 83 #[.pointer (some ⟨wr.heap.size + 1, 0, none⟩), .int .i64 1] (rdW w wr 255) _ := value_c HZ.out.1 21 1 (by omega) _ i false HZ.out.2
        refine hvc.mono ?_
        rintro e w4 ⟨x, cs, F, i', bd, rfl, hov, hnd, hfr, hrs4, ho4, hvp⟩
        obtain ⟨xk, xi, xt, xl, xd⟩ := x
        obtain ⟨p0, q0, p1, q1, rfl, _, _, _, _, _⟩ := hov.rv.inv
        have hmem := rd_mem H.out hrs4 ho4
        have HX := Lib.hid (And.intro hov (And.intro hnd (And.intro hfr hvp)))
        have HME := Lib.hid hmem
        have cbad := fun o => cell_alloc1 (o := o) (cell_at hmem.2.2.2.2.2.2 1 _ rfl)
        clear hvc hov hnd hfr hrs4 ho4 hvp hmem HZ
        cases bd with
        | true =>
          have hnone : rdRow d b = none := by
            rw [H.out.from_, rdRow_bad hlt _ HM.out]
            · rfl
            · rcases HX.out.2.2.2.2 rfl with h | h
              · cases h
              · exact h _ (by rw [RC.rest_len]; simp [rdZ])
          have hv31 := rd_fail (W := w4.alloc (.cells #[.int .i64 xk, .int .i64 xi, .string xt, .slice p0 xl.length q0, .slice p1 xd.length q1] 25)) HR.out hnone (HME.out.2.2.2.2.2.1.trans ((below_alloc1 w4 _).weak_ HME.out.2.2.2.2.2.1.size))
          have hfb := fun o => ((below_alloc1 w4 o).block _ (block_lt HME.out.2.2.1)).trans HME.out.2.2.1
          have fc0 := fun o => cell_at (hfb o) 0 _ rfl
          have fc1 := fun o => cell_at (hfb o) 1 _ rfl
          have ff0 := fun o => free_at (hfb o) 0
          have ff1 := fun o => free_at (hfb o) 1
          have HV31 := Lib.hid hv31
          clear hv31 hfb hnone
          go_wp2_with fail
          exact bodyPost_ret (v := .tuple #[.slice none 0 0, .agg #[.int .i64 31, .int .i64 (-1)]]) (by simp [results, Tryd.results42, go_sem, fc0, fc1]) rfl HV31.out
        | false =>
          have hgo : Hid (∀ o, Calls Tryd.prog 21 #[.agg #[.int .i64 xk, .int .i64 xi, .string xt, .slice p0 xl.length q0, .slice p1 xd.length q1]] (w4.alloc o) fun e w' => e = .returned (.int .i64 (rightV (.mk xk xi xt xl xd))) ∧ Below (w4.alloc o).heap.size (w4.alloc o) w') := Lib.hid fun o => right_c _ _ _ (HA.out.1.grow (HME.out.2.2.2.2.2.1.trans ((below_alloc1 w4 o).weak_ HME.out.2.2.2.2.2.1.size))) (HX.out.1.rv.grow (below_alloc1 w4 o))
          go_wp2_with fail
          refine (hgo.out _).mono ?_
          rintro e w5 ⟨rfl, hb5⟩
          obtain ⟨rr, hrr⟩ : ∃ r, rightV (.mk xk xi xt xl xd) = r := ⟨_, rfl⟩
          rw [hrr]
          have HRR := Lib.hid hrr
          have hB5 := below2 (below_alloc1 w4 _) hb5
          have HB5 := Lib.hid hB5
          clear hrr hgo cbad
          by_cases hr0 : rr = 0
          · subst hr0
            have hbox := (hb5.block _ (by simp)).trans (heap_alloc_new w4 (.cells #[.int .i64 xk, .int .i64 xi, .string xt, .slice p0 xl.length q0, .slice p1 xd.length q1] 25))
            have c0 := cell_at hbox 0 _ rfl
            have c1 := cell_at hbox 1 _ rfl
            have c2 := cell_at hbox 2 _ rfl
            have c3 := cell_at hbox 3 _ rfl
            have c4 := cell_at hbox 4 _ rfl
            have HP5 := Lib.hid (HME.out.1.grow hB5)
            have HL := Lib.hid (show L.length ≤ 3 by have := H.out.len; omega)
            obtain ⟨i0, hi0, hz0, hz1, hz2⟩ := info_parts info25
            clear hbox hB5 hb5
            go_wp2_with (refine wpList_append_lies _ (by rfl) _ _ 22 (by rfl) 0 25 i0 _ 5 80 Tryd.underlying22 hi0 hz0 hz1 hz2 rfl (by omega) u8 L.length (L.flatMap (·.2.1)) (by rfl) (HP5.out.row.alloc _) ⟨w5.heap.size, 0, none⟩ 1 1 [.int .i64 xk, .int .i64 xi, .string xt, .slice p0 xl.length q0, .slice p1 xd.length q1] (by rfl) (by rfl) (World.news_of_block (heap_alloc_new w5 _)) (by simp [Value.oneCell']) (by omega) (by have := HL.out; simp [maxLen]; omega) (by have := HL.out; omega) (by omega) (w5.heap.size + 1) (by simp) ?_; intro g cap w7 hown hgrow hat hlt2)
            go_roundw
            case rel =>
              have hB5 := HB5.out
              have hle := HME.out.2.2.2.2.1
              obtain ⟨_, hi', hp⟩ := HX.out.2.2.2.1 rfl
              exact ⟨j + 1, i', _, by omega, by go_num, Lib.hid (rd_next H.out HP5.out ((hB5.block _ (block_lt HME.out.2.1)).trans HME.out.2.1) ((hB5.block _ (block_lt HME.out.2.2.1)).trans HME.out.2.2.1) ((hB5.block _ (block_lt HME.out.2.2.2.1)).trans HME.out.2.2.2.1) hle (HME.out.2.2.2.2.2.1.trans (hB5.weak_ HME.out.2.2.2.2.2.1.size)) (HX.out.1.grow hB5) HX.out.2.1 (fun g hg => by have := HX.out.2.2.1 g hg; simp [rdW] at this; omega) (rdRow_step (b := b) (i := i) hlt _ HM.out (hp _ (by rw [RC.rest_len]; simp [rdZ])) HRR.out) hown hgrow hat)⟩
            case measure => simp [RowKit.intOf]; omega
          · have hnone : rdRow d b = none := by
              obtain ⟨_, _, hp⟩ := HX.out.2.2.2.1 rfl
              rw [H.out.from_, rdRow_wrong (b := b) (i := i) hlt _ HM.out (hp _ (by rw [RC.rest_len]; simp [rdZ])) (by rw [HRR.out]; exact hr0)]
              rfl
            have hv31 := rd_fail (W := w5) HR.out hnone (HME.out.2.2.2.2.2.1.trans (hB5.weak_ HME.out.2.2.2.2.2.1.size))
            have hfb := (hB5.block _ (block_lt HME.out.2.2.1)).trans HME.out.2.2.1
            have fc0 := cell_at hfb 0 _ rfl
            have fc1 := cell_at hfb 1 _ rfl
            have ff0 := free_at hfb 0
            have ff1 := free_at hfb 1
            have HV31 := Lib.hid hv31
            have hrn : (rr != 0) = true := by simp [hr0]
            clear hv31 hfb hnone hB5 hb5
            go_wp2_with fail
            exact bodyPost_ret (v := .tuple #[.slice none 0 0, .agg #[.int .i64 31, .int .i64 (-1)]]) (by simp [results, Tryd.results42, go_sem, fc0, fc1]) rfl HV31.out
      | false =>
        rw [hdj] at y0
        have HM : Hid ((0 : UInt8) = mk8 d[j]) := Lib.hid (by rw [hdj]; rfl)
        clear hdj
        go_wp2_with fail
        refine (make_c 0 _ _ wr).mono ?_
        rintro e wA ⟨rfl, rfl⟩
        go_wp2_with fail
        have HZ := Lib.hid (rd_start H.out HA.out.2.1 hn 0)
        have hvc : Calls Tryd.prog 83 #[.pointer (some ⟨wr.heap.size + 1, 0, none⟩), .int .i64 1] (rdW w wr 0) _ := value_c HZ.out.1 21 1 (by omega) _ i false HZ.out.2
        refine hvc.mono ?_
        rintro e w4 ⟨x, cs, F, i', bd, rfl, hov, hnd, hfr, hrs4, ho4, hvp⟩
        obtain ⟨xk, xi, xt, xl, xd⟩ := x
        obtain ⟨p0, q0, p1, q1, rfl, _, _, _, _, _⟩ := hov.rv.inv
        have hmem := rd_mem H.out hrs4 ho4
        have HX := Lib.hid (And.intro hov (And.intro hnd (And.intro hfr hvp)))
        have HME := Lib.hid hmem
        have cbad := fun o => cell_alloc1 (o := o) (cell_at hmem.2.2.2.2.2.2 1 _ rfl)
        clear hvc hov hnd hfr hrs4 ho4 hvp hmem HZ
        cases bd with
        | true =>
          have hnone : rdRow d b = none := by
            rw [H.out.from_, rdRow_bad hlt _ HM.out]
            · rfl
            · rcases HX.out.2.2.2.2 rfl with h | h
              · cases h
              · exact h _ (by rw [RC.rest_len]; simp [rdZ])
          have hv31 := rd_fail (W := w4.alloc (.cells #[.int .i64 xk, .int .i64 xi, .string xt, .slice p0 xl.length q0, .slice p1 xd.length q1] 25)) HR.out hnone (HME.out.2.2.2.2.2.1.trans ((below_alloc1 w4 _).weak_ HME.out.2.2.2.2.2.1.size))
          have hfb := fun o => ((below_alloc1 w4 o).block _ (block_lt HME.out.2.2.1)).trans HME.out.2.2.1
          have fc0 := fun o => cell_at (hfb o) 0 _ rfl
          have fc1 := fun o => cell_at (hfb o) 1 _ rfl
          have ff0 := fun o => free_at (hfb o) 0
          have ff1 := fun o => free_at (hfb o) 1
          have HV31 := Lib.hid hv31
          clear hv31 hfb hnone
          go_wp2_with fail
          exact bodyPost_ret (v := .tuple #[.slice none 0 0, .agg #[.int .i64 31, .int .i64 (-1)]]) (by simp [results, Tryd.results42, go_sem, fc0, fc1]) rfl HV31.out
        | false =>
          have hgo : Hid (∀ o, Calls Tryd.prog 21 #[.agg #[.int .i64 xk, .int .i64 xi, .string xt, .slice p0 xl.length q0, .slice p1 xd.length q1]] (w4.alloc o) fun e w' => e = .returned (.int .i64 (rightV (.mk xk xi xt xl xd))) ∧ Below (w4.alloc o).heap.size (w4.alloc o) w') := Lib.hid fun o => right_c _ _ _ (HA.out.1.grow (HME.out.2.2.2.2.2.1.trans ((below_alloc1 w4 o).weak_ HME.out.2.2.2.2.2.1.size))) (HX.out.1.rv.grow (below_alloc1 w4 o))
          go_wp2_with fail
          refine (hgo.out _).mono ?_
          rintro e w5 ⟨rfl, hb5⟩
          obtain ⟨rr, hrr⟩ : ∃ r, rightV (.mk xk xi xt xl xd) = r := ⟨_, rfl⟩
          rw [hrr]
          have HRR := Lib.hid hrr
          have hB5 := below2 (below_alloc1 w4 _) hb5
          have HB5 := Lib.hid hB5
          clear hrr hgo cbad
          by_cases hr0 : rr = 0
          · subst hr0
            have hbox := (hb5.block _ (by simp)).trans (heap_alloc_new w4 (.cells #[.int .i64 xk, .int .i64 xi, .string xt, .slice p0 xl.length q0, .slice p1 xd.length q1] 25))
            have c0 := cell_at hbox 0 _ rfl
            have c1 := cell_at hbox 1 _ rfl
            have c2 := cell_at hbox 2 _ rfl
            have c3 := cell_at hbox 3 _ rfl
            have c4 := cell_at hbox 4 _ rfl
            have HP5 := Lib.hid (HME.out.1.grow hB5)
            have HL := Lib.hid (show L.length ≤ 3 by have := H.out.len; omega)
            obtain ⟨i0, hi0, hz0, hz1, hz2⟩ := info_parts info25
            clear hbox hB5 hb5
            go_wp2_with (refine wpList_append_lies _ (by rfl) _ _ 22 (by rfl) 0 25 i0 _ 5 80 Tryd.underlying22 hi0 hz0 hz1 hz2 rfl (by omega) u8 L.length (L.flatMap (·.2.1)) (by rfl) (HP5.out.row.alloc _) ⟨w5.heap.size, 0, none⟩ 1 1 [.int .i64 xk, .int .i64 xi, .string xt, .slice p0 xl.length q0, .slice p1 xd.length q1] (by rfl) (by rfl) (World.news_of_block (heap_alloc_new w5 _)) (by simp [Value.oneCell']) (by omega) (by have := HL.out; simp [maxLen]; omega) (by have := HL.out; omega) (by omega) (w5.heap.size + 1) (by simp) ?_; intro g cap w7 hown hgrow hat hlt2)
            go_roundw
            case rel =>
              have hB5 := HB5.out
              have hle := HME.out.2.2.2.2.1
              obtain ⟨_, hi', hp⟩ := HX.out.2.2.2.1 rfl
              exact ⟨j + 1, i', _, by omega, by go_num, Lib.hid (rd_next H.out HP5.out ((hB5.block _ (block_lt HME.out.2.1)).trans HME.out.2.1) ((hB5.block _ (block_lt HME.out.2.2.1)).trans HME.out.2.2.1) ((hB5.block _ (block_lt HME.out.2.2.2.1)).trans HME.out.2.2.2.1) hle (HME.out.2.2.2.2.2.1.trans (hB5.weak_ HME.out.2.2.2.2.2.1.size)) (HX.out.1.grow hB5) HX.out.2.1 (fun g hg => by have := HX.out.2.2.1 g hg; simp [rdW] at this; omega) (rdRow_step (b := b) (i := i) hlt _ HM.out (hp _ (by rw [RC.rest_len]; simp [rdZ])) HRR.out) hown hgrow hat)⟩
            case measure => simp [RowKit.intOf]; omega
          · have hnone : rdRow d b = none := by
              obtain ⟨_, _, hp⟩ := HX.out.2.2.2.1 rfl
              rw [H.out.from_, rdRow_wrong (b := b) (i := i) hlt _ HM.out (hp _ (by rw [RC.rest_len]; simp [rdZ])) (by rw [HRR.out]; exact hr0)]
              rfl
            have hv31 := rd_fail (W := w5) HR.out hnone (HME.out.2.2.2.2.2.1.trans (hB5.weak_ HME.out.2.2.2.2.2.1.size))
            have hfb := (hB5.block _ (block_lt HME.out.2.2.1)).trans HME.out.2.2.1
            have fc0 := cell_at hfb 0 _ rfl
            have fc1 := cell_at hfb 1 _ rfl
            have ff0 := free_at hfb 0
            have ff1 := free_at hfb 1
            have HV31 := Lib.hid hv31
            have hrn : (rr != 0) = true := by simp [hr0]
            clear hv31 hfb hnone hB5 hb5
            go_wp2_with fail
            exact bodyPost_ret (v := .tuple #[.slice none 0 0, .agg #[.int .i64 31, .int .i64 (-1)]]) (by simp [results, Tryd.results42, go_sem, fc0, fc1]) rfl HV31.out
    · obtain rfl : j = d.length := by omega
      have hex : rdRow d b = some (L.map (·.1), b.drop i) := by
        rw [H.out.from_, List.drop_eq_nil_of_le (Nat.le_refl _)]
        simp [rdRow]
      have cab : wr.cell? ⟨w.heap.size + 1 + 1, 0, none⟩ = some (.int .i64 (i : Int)) := cell_at H.out.ab 0 _ rfl
      have cbb := cell_at H.out.bb 0 _ rfl
      have hle := H.out.le
      have hfb := H.out.fb
      have fc0 := cell_at hfb 0 _ rfl
      have fc1 := cell_at hfb 1 _ rfl
      have ff0 := free_at hfb 0
      have ff1 := free_at hfb 1
      clear hfb
      have hB := H.out.below
      have hd' := rd_done HR.out hex H.out.row H.out.below
      have HDN := Lib.hid hd'
      clear hd' hex hB
      by_cases hlt2 : i < b.length
      · go_wp2_with fail
        exact bodyPost_ret (v := .tuple #[.slice none 0 0, .agg #[.int .i64 31, .int .i64 (-1)]]) (by simp [results, Tryd.results42, go_sem, fc0, fc1]) rfl (HDN.out.1 (by intro hx; have := congrArg List.length hx; simp at this; omega))
      · go_wp2_with fail
        exact bodyPost_ret (v := .tuple #[u8, .agg #[.int .i64 0, .int .i64 0]]) (by simp [results, Tryd.results42, go_sem, fc0, fc1]) rfl (HDN.out.2 (List.drop_eq_nil_of_le (by omega)))
/-- The real Read. -/
theorem read_c (A A2 : Option Addr) (c c2 : Nat) (w : World) (hT : Tabs w) (b : List UInt8) (d : List Bool) (hA : RY w A b) (hD : RB w A2 d) : Calls Tryd.prog 42 #[.slice A b.length c, .slice A2 d.length c2] w (ReadPost w (readV b d)) := by
  by_cases h : d.length < 1 ∨ 4 < d.length
  · exact read_desc A A2 b.length c d.length c2 w h hD.1 b d rfl
  · by_cases hn : 1000 < b.length
    · exact read_long A A2 b.length c d.length c2 w (by omega) (by omega) hn hA.1 b d rfl rfl
    · exact read_main A A2 c c2 w hT b d hA hD (by omega) (by omega) (by omega)
end Go.Proofs.YthfejpldhemakaaDoor

namespace Go.Proofs.YthfejpldhemakaaDoor
open Go.RowKit Go.Sort Go.Lib
def afterK (b : List UInt8) : Nat → List UInt8
  | 0 => []
  | k + 1 => if b.getD k 0 = 255 then afterK b k else b.take k ++ [b.getD k 0 + 1]
/-- The least row of bytes behind all that begin with these; []: none. -/
def afterV (b : List UInt8) : List UInt8 := afterK b b.length
/-- What a call answers that makes bytes. -/
def BytesPost (w : World) (r : List UInt8) (e : Ending) (w' : World) : Prop :=
  ∃ v, e = .returned v ∧ BO w' v r ∧ (∀ g, v.ownBlock = some g → w.heap.size ≤ g) ∧ Below w.heap.size w w'
theorem wrap_u8_inc (x : UInt8) : IntKind.u8.wrap ((x.toNat : Int) + 1) = ((x + 1 : UInt8).toNat : Int) := by
  rw [IntKind.wrap_u8, UInt8.toNat_add]
  have := x.toNat_lt
  show ((x.toNat : Int) + 1) % 256 = (((x.toNat + 1) % 256 : Nat) : Int)
  omega
theorem RY.news {w : World} {b0 off : Nat} {b : List UInt8} (h : RY w (some ⟨b0, off, none⟩) b) (k : Nat) (hk : k ≤ b.length) : ∀ j u, ((b.take k).map bv)[j]? = some u → w.cell? ((⟨b0, off, none⟩ : Addr).add j) = some u := by
  intro j u hu
  have hj : j < (b.take k).length := by
    have := (List.getElem?_eq_some_iff.1 hu).1
    simpa using this
  have hj2 : j < k := by rw [List.length_take] at hj; omega
  have hjb : j < b.length := by omega
  obtain ⟨b1, o1, e, hc⟩ := h.get hjb
  injection e with e
  injection e with e1 e2 _
  subst e1 e2
  rw [List.getElem?_map, List.getElem?_take, if_pos hj2, List.getElem?_eq_getElem hjb] at hu
  simp only [Option.map_some, Option.some.injEq] at hu
  rw [← hu]
  have ha : (⟨b0, off, none⟩ : Addr).add j = ⟨b0, off + j, none⟩ := by unfold Addr.add; split <;> simp_all
  rw [ha]
  exact hc
set_option maxRecDepth 100000 in
set_option maxHeartbeats 2000000 in
theorem after_c (A : Option Addr) (n c : Nat) (w : World) (b : List UInt8) (hA : RY w A b) (hn : b.length = n) (hc : n ≤ c) : Calls Tryd.prog 46 #[.slice A n c] w (BytesPost w (afterV b)) := by
  have hl := hA.1
  rw [hn] at hl
  have HA := Lib.hid (And.intro hA hn)
  clear hA hn
  go_enter Tryd.func46, Tryd.ntmps46
  go_wp2_with fail
  go_loopw [3] (fun ix wr => ∃ (k : Nat), k ≤ n ∧ ix = .int .i64 ((k : Int) - 1) ∧ wr = w ∧ Hid (afterV b = afterK b k)) (fun ix _ => (RowKit.intOf ix + 1).toNat)
  case atStart => exact ⟨n, Nat.le_refl _, rfl, rfl, Lib.hid (by unfold afterV; rw [HA.out.2])⟩
  case round =>
    obtain ⟨k, hk, rfl, rfl, H⟩ := hrel
    cases k with
    | zero =>
      go_wp2_with fail
      go_ret
      exact ⟨_, rfl, by rw [H.out]; exact BO.nil _, by simp [Value.ownBlock], Below.refl _ _⟩
    | succ k =>
      have hkb : k < b.length := by rw [HA.out.2]; omega
      obtain ⟨b0, off, rfl, f0⟩ := HA.out.1.get hkb
      obtain ⟨x, hx⟩ : ∃ x, b[k] = x := ⟨_, rfl⟩
      rw [hx] at f0
      have hgd : b.getD k 0 = x := by rw [← hx, List.getD_eq_getElem?_getD, List.getElem?_eq_getElem hkb]; rfl
      have e1 : ((k + 1 : Nat) : Int) - 1 = (k : Int) := by omega
      rw [e1]
      obtain ⟨ys, hys⟩ : ∃ ys, b.take (k + 1) = ys := ⟨_, rfl⟩
      have hyl : ys.length = k + 1 := by rw [← hys, List.length_take]; omega
      have hyk : ys = b.take k ++ [x] := by rw [← hys, ← hx, List.take_succ_eq_append_getElem hkb]
      have hyn := HA.out.1.news (k + 1) (by omega)
      rw [hys] at hyn
      have HY := Lib.hid (And.intro hyl (And.intro hyk hyn))
      have HX := Lib.hid hgd
      have hkt : (b.take k).length = k := by rw [List.length_take]; omega
      have HKT := Lib.hid hkt
      have hinc := wrap_u8_inc x
      clear hx hgd hkb e1 hys hyl hyk hyn hkt
      by_cases hx5 : x = 255
      · subst hx5
        go_wp2_with fail
        go_roundw
        case rel => exact ⟨k, by omega, rfl, trivial, Lib.hid (by rw [H.out, afterK, if_pos HX.out])⟩
        case measure => simp [RowKit.intOf]
      · have hne : ((x.toNat : Int) == 255) = false := u8_ne (b := 255) hx5
        have HX5 := Lib.hid hx5
        clear hx5
        go_wp2_with (refine wpList_app (by rfl) _ _ (by rfl) (.slice none 0 0) [] ys (by rfl) (BO.nil _) ⟨b0, off, none⟩ c (by rw [HY.out.1]; rfl) HY.out.2.2 (by have := HY.out.1; omega) (by have := HY.out.1; simp; omega) (k + 1) (by have := HY.out.1; simp; omega) ?_; intro g3 cap3 w3 hb3 hg3; rw [List.nil_append, HY.out.2.1] at hb3; have hcl := (hb3.cell (k := k) (by rw [List.length_append, HKT.out]; simp)).1; have hcf := (hb3.cell (k := k) (by rw [List.length_append, HKT.out]; simp)).2; rw [List.getElem_append_right (by have := HKT.out; omega)] at hcl; simp only [HKT.out, Nat.sub_self, List.getElem_cons_zero] at hcl; have HB3 := Lib.hid (hb3.set k (x + 1)); have HG3 := Lib.hid hg3)
        go_ret
        have hb4 := HB3.out
        have hg4 := HG3.out
        rw [List.set_append_right _ _ (by have := HKT.out; omega)] at hb4
        simp only [HKT.out, Nat.sub_self, List.set_cons_zero] at hb4
        refine ⟨_, rfl, ?_, ?_, ?_⟩
        · rw [H.out, afterK, HX.out, if_neg HX5.out]
          exact hb4
        · exact hg4.from_ (Nat.le_refl _) (by simp [Value.ownBlock])
        · have := hg4.below (B := wr.heap.size) (Nat.le_refl _) (by simp [Value.ownBlock])
          have h5 := hg4.from_ (B := wr.heap.size) (Nat.le_refl _) (by simp [Value.ownBlock]) g3 rfl
          exact this.setCell h5 _
end Go.Proofs.YthfejpldhemakaaDoor

namespace Go.Proofs.YthfejpldhemakaaDoor
open Go.RowKit Go.Sort Go.Lib
theorem aw_a : keyV [.mk 3 5 ByteArray.empty [] []] [false] = (0, [3, 128, 0, 0, 0, 0, 0, 0, 5]) := by decide +kernel
theorem aw_b : keyV [.mk 3 (-1) ByteArray.empty [] []] [true] = (0, [252, 128, 0, 0, 0, 0, 0, 0, 0]) := by decide +kernel
theorem aw_l : readV [252, 128, 0, 0, 0, 0, 0, 0, 0] [true] = (0, [.mk 3 (-1) ByteArray.empty [] []]) := by kernel_rfl
theorem aw_c : afterV [1, 2, 255] = [1, 3] := by decide +kernel
theorem BO.some_ {w : World} {v : Value} {xs : List UInt8} (h : BO w v xs) (n : Nat) (hn : xs.length = n) (hl : 0 < n) : ∃ g cap, v = .slice (some ⟨g, 0, none⟩) n cap ∧ n ≤ cap := by
  subst hn
  rcases h.2 with ⟨rfl, hn⟩ | ⟨g, cap, cur, rfl, _, _, h3, _⟩
  · omega
  · exact ⟨g, cap, rfl, h3⟩
theorem one_list {W : World} {g : Nat} {i : Int} (hi : Rng i) (h : W.heap[g]? = some (.cells #[.int .i64 3, .int .i64 i, .string ⟨#[]⟩, .slice none 0 0, .slice none 0 0] 25 (0, 0))) : RL W [.mk 3 i ByteArray.empty [] []] (some ⟨g, 0, none⟩) 1 := by
  refine ⟨by simp, by simp, fun _ => [.int .i64 3, .int .i64 i, .string ⟨#[]⟩, .slice none 0 0, .slice none 0 0], ?_, ?_⟩
  · intro j hj
    obtain rfl : j = 0 := by simpa using hj
    refine ⟨g, 0, rfl, fun q u hu => ?_⟩
    exact cell_at h _ _ (by simpa using hu)
  · intro j hj
    obtain rfl : j = 0 := by simpa using hj
    exact (OV.leaf W (k := 3) ⟨by decide, by decide⟩ hi (t := ByteArray.empty) (by simp)).rv
theorem one_flag {W : World} {g : Nat} {b : Bool} {e : TypeId} (h : W.heap[g]? = some (.cells #[.bool b] e (0, 0))) : RB W (some ⟨g, 0, none⟩) [b] := by
  refine ⟨by simp, fun j hj => ?_⟩
  obtain rfl : j = 0 := by simpa using hj
  refine ⟨g, 0, rfl, fun q u hu => cell_at h _ _ (by simpa using hu)⟩
theorem one_key (n : Int) (hn : Rng n) (d : Bool) (r : List UInt8) (hr : keyV [.mk 3 n ByteArray.empty [] []] [d] = (0, r)) (w : World) (hT : Tabs w) :
    Calls Tryd.prog 37 #[.slice (some ⟨w.heap.size, 0, none⟩) 1 1, .slice (some ⟨w.heap.size + 1, 0, none⟩) 1 1] ((w.alloc (.cells #[.int .i64 3, .int .i64 n, .string ⟨#[]⟩, .slice none 0 0, .slice none 0 0] 25)).alloc (.cells #[.bool d] 4)) fun e w' =>
      ∃ v, e = .returned (.tuple #[v, .int .i64 0]) ∧ BO w' v r ∧ Below w.heap.size w w' := by
  have hb := below_alloc2 w (.cells #[.int .i64 3, .int .i64 n, .string ⟨#[]⟩, .slice none 0 0, .slice none 0 0] 25) (.cells #[.bool d] 4)
  have h1 := heap2_first w (.cells #[.int .i64 3, .int .i64 n, .string ⟨#[]⟩, .slice none 0 0, .slice none 0 0] 25) (.cells #[.bool d] 4) 0
  have h2 := heap2_second w (.cells #[.int .i64 3, .int .i64 n, .string ⟨#[]⟩, .slice none 0 0, .slice none 0 0] 25) (.cells #[.bool d] 4) 0
  have := key_c [.mk 3 n ByteArray.empty [] []] [d] (some ⟨w.heap.size, 0, none⟩) (some ⟨w.heap.size + 1, 0, none⟩) 1 1 _ (hT.grow hb) (one_list hn h1) (one_flag h2)
  rw [hr] at this
  exact this.mono fun e w' ⟨v, he, hbo, _, hb'⟩ => ⟨v, he, hbo, below2 hb hb'⟩
theorem pl_one {w : World} {B : Nat} {L : List (V × List Value × List Nat)} {sl : Value} {v : V} (h : PL w B L sl) (hL : L.map (·.1) = [v]) : ∃ g cap, sl = .slice (some ⟨g, 0, none⟩) 1 cap ∧ w.cell? ⟨g, 1, none⟩ = some (.int .i64 v.i) := by
  match L, hL, h with
  | [c], hL, h =>
    simp only [List.map_cons, List.map_nil, List.cons.injEq, and_true] at hL
    have ho := h.each c (by simp)
    rw [hL] at ho
    have hrow := h.row
    rcases hrow.2 with ⟨_, h0⟩ | ⟨g, cap, cur, rfl, _⟩
    · simp at h0
    · refine ⟨g, cap, rfl, ?_⟩
      obtain ⟨k, i, t, l, d⟩ := v
      obtain ⟨A, c1, A', c1', e, _⟩ := ho.rv.inv
      have := World.ownsRow.cells hrow (g := g) rfl 1 (.int .i64 i) (by simp [e])
      have ha : (⟨g, 0, none⟩ : Addr).add 1 = ⟨g, 1, none⟩ := rfl
      rwa [ha] at this
theorem three_ry {W : World} {g : Nat} {x y z : UInt8} {e : TypeId} (h : W.heap[g]? = some (.cells #[.int .u8 (x.toNat : Int), .int .u8 (y.toNat : Int), .int .u8 (z.toNat : Int)] e (0, 0))) : RY W (some ⟨g, 0, none⟩) [x, y, z] := by
  refine ⟨by simp, fun j hj => ⟨g, 0, rfl, fun q u hu => ?_⟩⟩
  have hj : j < 3 := by simpa using hj
  obtain rfl : q = 0 := by
    have := (List.getElem?_eq_some_iff.1 hu).1
    simpa using this
  obtain rfl | rfl | rfl : j = 0 ∨ j = 1 ∨ j = 2 := by omega
  · exact cell_at h _ _ (by simpa [bv] using hu)
  · exact cell_at h _ _ (by simpa [bv] using hu)
  · exact cell_at h _ _ (by simpa [bv] using hu)
set_option maxRecDepth 100000 in
set_option maxHeartbeats 2000000 in
theorem awake03_c (w : World) (hT : Tabs w) : Calls Tryd.prog 36 #[] w fun e w' => e = .returned (.bool true) ∧ Below w.heap.size w w' := by
  have HT := Lib.hid hT
  clear hT
  go_enter Tryd.func36, Tryd.ntmps36
  go_wp2_with fail
  refine (int_c 5 w).mono ?_
  rintro e w1 ⟨rfl, hb1⟩
  go_wp2_with fail
  refine (one_key 5 ⟨by decide, by decide⟩ false _ aw_a w1 (HT.out.grow hb1)).mono ?_
  rintro e w3 ⟨va, rfl, hba, hb3⟩
  obtain ⟨ga, ca, rfl, _⟩ := hba.some_ 9 rfl (by decide)
  have HA := Lib.hid hba
  have HB3 := Lib.hid (below2 hb1 hb3)
  clear hba hb1 hb3
  go_wp2_with fail
  refine (int_c (-1) w3).mono ?_
  rintro e w4 ⟨rfl, hb4⟩
  go_wp2_with fail
  refine (one_key (-1) ⟨by decide, by decide⟩ true _ aw_b w4 ((HT.out.grow HB3.out).grow hb4)).mono ?_
  rintro e w5 ⟨vb, rfl, hbb, hb5⟩
  obtain ⟨gb, cb, rfl, hcb⟩ := hbb.some_ 9 rfl (by decide)
  have HBB := Lib.hid hbb
  have HB5 := Lib.hid (below2 hb4 hb5)
  clear hbb hb4 hb5
  go_wp2_with fail
  have HD5 := Lib.hid (below_alloc1 w5 (.cells #[.bool true] 4))
  have hrd := read_c (some ⟨gb, 0, none⟩) (some ⟨w5.heap.size, 0, none⟩) cb 1 (w5.alloc (.cells #[.bool true] 4)) (((HT.out.grow HB3.out).grow HB5.out).grow HD5.out) [252, 128, 0, 0, 0, 0, 0, 0, 0] [true] ((HBB.out.grow HD5.out).ry (by decide)) (one_flag (heap_alloc_new w5 _))
  rw [aw_l] at hrd
  refine hrd.mono ?_
  rintro e w6 ⟨L, sl, rfl, hL, hpl, hb6⟩
  obtain ⟨gl, cl, rfl, hl1⟩ := pl_one hpl hL
  have HL1 := Lib.hid hl1
  have HB6 := Lib.hid (below2 HD5.out hb6)
  clear hrd hpl hL hl1 hb6
  have hz0 : faultAt 0 = 0 := rfl
  go_wp2_with fail
  clear hz0
  have HD6 := Lib.hid (below_alloc2 w6 (.cells #[.int .i64 0, .int .i64 0] 49) (.cells #[.int .u8 1, .int .u8 2, .int .u8 255] 5))
  have HF0 := Lib.hid (heap2_first w6 (.cells #[.int .i64 0, .int .i64 0] 49) (.cells #[.int .u8 1, .int .u8 2, .int .u8 255] 5) 0)
  have haf := after_c (some ⟨w6.heap.size + 1, 0, none⟩) 3 3 ((w6.alloc (.cells #[.int .i64 0, .int .i64 0] 49)).alloc (.cells #[.int .u8 1, .int .u8 2, .int .u8 255] 5)) [1, 2, 255] (three_ry (heap2_second w6 (.cells #[.int .i64 0, .int .i64 0] 49) (.cells #[.int .u8 1, .int .u8 2, .int .u8 255] 5) 0)) rfl (Nat.le_refl _)
  rw [aw_c] at haf
  refine haf.mono ?_
  rintro e w7 ⟨vc, rfl, hbc, _, hb7⟩
  obtain ⟨gc, cc, rfl, _⟩ := hbc.some_ 2 rfl (by decide)
  have hb67 := below2 HD6.out hb7
  have hb57 := below2 HB6.out hb67
  have hb37 := below2 HB5.out hb57
  have HB7 := Lib.hid (below2 HB3.out hb37)
  have a0 := ((HA.out.grow hb37).cell (k := 0) (by decide)).1
  have a8 := ((HA.out.grow hb37).cell (k := 8) (by decide)).1
  have b0 := ((HBB.out.grow hb57).cell (k := 0) (by decide)).1
  have c1 := (hbc.cell (k := 1) (by decide)).1
  have l1 := cell_grow hb67 HL1.out
  have hfb := (hb7.block _ (by simp; omega)).trans HF0.out
  have f0 := cell_at hfb 0 _ rfl
  have f1 := cell_at hfb 1 _ rfl
  clear haf hbc hb7 hb67 hb57 hb37 hfb
  go_wp2_with fail
  go_ret
  exact ⟨rfl, HB7.out⟩
end Go.Proofs.YthfejpldhemakaaDoor

namespace Go.Proofs.YthfejpldhemakaaDoor
open Go.RowKit Go.Sort Go.Lib
theorem keyV_len (l : List V) (d : List Bool) : (keyV l d).2.length ≤ 1000 := by
  unfold keyV
  split
  · simp
  · split
    · simp
    · split
      · simp
      · simp only; omega
theorem BO.hop {w w' : World} {v : Value} {xs : List UInt8} {F : List Nat} {B : Nat} (h : BO w v xs) (hv : ∀ g, v.ownBlock = some g → B ≤ g) (ho : Only (· ∈ F) w w') (hF : ∀ g ∈ F, g < B) : BO w' v xs :=
  h.at_ fun g hg => ho.block g (h.lt hg) (fun hq => by have := hF g hq; have := hv g hg; omega)
set_option maxRecDepth 100000 in
set_option maxHeartbeats 4000000 in
theorem keyWrites_c (l : List V) (d : List Bool) (A A2 : Option Addr) (c c2 : Nat) (W : World) (hT : Tabs W) (hA : RL W l A c) (hD : RB W A2 d) :
    Calls Tryd.prog 7 #[.slice A l.length c, .slice A2 d.length c2] W fun e w' => e = .returned (.bool true) ∧ Below W.heap.size W w' := by
  have hrv : RV W (.mk 6 0 ByteArray.empty l []) [.int .i64 6, .int .i64 0, .string ⟨#[]⟩, .slice A l.length c, .slice none 0 0] := RV.mk' ⟨by decide, by decide⟩ ⟨by decide, by decide⟩ (by simp) hA RD.nil
  have HT := Lib.hid hT
  have HA := Lib.hid (And.intro hA (And.intro hD hrv))
  clear hT hA hD hrv
  obtain ⟨n, hn⟩ : ∃ n, l.length = n := ⟨_, rfl⟩
  obtain ⟨m, hm⟩ : ∃ m, d.length = m := ⟨_, rfl⟩
  rw [hn] at HA
  rw [hn, hm]
  have HN := Lib.hid (And.intro hn hm)
  clear hn hm
  obtain ⟨r, hr⟩ : ∃ r, (keyV l d).1 = r := ⟨_, rfl⟩
  obtain ⟨xs, hxs⟩ : ∃ xs, (keyV l d).2 = xs := ⟨_, rfl⟩
  have hkv : keyV l d = (r, xs) := by rw [← hr, ← hxs]
  have hxl : xs.length ≤ 1000 := by rw [← hxs]; exact keyV_len l d
  have hk := fun A c w hT hA hD => key_c l d A A2 c c2 w hT hA hD
  have hk2 := fun A c w hT hA hD => rkey_c l d A A2 c c2 w hT hA hD
  rw [hkv, HN.out.1, HN.out.2] at hk hk2
  have HK := Lib.hid (And.intro hk (And.intro hk2 hxl))
  clear hr hxs hkv hxl hk hk2
  go_enter Tryd.func7, Tryd.ntmps7
  go_wp2_with fail
  refine (awake03_c W HT.out).mono ?_
  rintro e w1 ⟨rfl, hb1⟩
  go_wp2_with fail
  generalize hW2 : World.alloc w1 _ = W2
  have e2 : W2.heap[w1.heap.size]? = some (.cells #[.int .i64 6, .int .i64 0, .string ⟨#[]⟩, .slice A n c, .slice none 0 0] 25 (0, 0)) := by rw [← hW2]; exact heap_alloc_new _ _
  have hb2 : Below W.heap.size W W2 := by rw [← hW2]; exact below2 hb1 (below_alloc1 _ _)
  clear hW2
  have HB2 := Lib.hid (And.intro hb2 e2)
  refine (lent_c _ _ W2 (HA.out.2.2.grow hb2)).mono ?_
  clear hb2 e2
  rintro e w3 ⟨cx, F, rfl, hov, hnd, hF, hb3⟩
  obtain ⟨p, q, p', q', rfl, _, _, _, hrl, _⟩ := hov.rv.inv
  rw [HN.out.1] at hov
  rw [HN.out.1]
  have HL3 := Lib.hid (And.intro hov (And.intro hnd (And.intro hF (And.intro hb3 hrl))))
  clear hov hnd hF hb3 hrl hb1
  go_wp2_with fail
  generalize hW4 : World.alloc w3 _ = W4
  have e4 : W4.heap[w3.heap.size]? = some (.cells #[.int .i64 6, .int .i64 0, .string ⟨#[]⟩, .slice p n q, .slice p' 0 q'] 25 (0, 0)) := by rw [← hW4]; exact heap_alloc_new _ _
  have hb4 : Below w3.heap.size w3 W4 := by rw [← hW4]; exact below_alloc1 _ _
  have hs4 : W4.heap.size = w3.heap.size + 1 := by rw [← hW4]; simp
  clear hW4
  have HB4 := Lib.hid (And.intro hb4 (And.intro e4 hs4))
  have hbW4 := below2 HB2.out.1 (below2 HL3.out.2.2.2.1 hb4)
  have HBW4 := Lib.hid hbW4
  refine (HK.out.1 p q W4 (HT.out.grow hbW4) (HL3.out.2.2.2.2.grow hb4) (HA.out.2.1.grow hbW4)).mono ?_
  clear hbW4 hb4
  rintro e w5 ⟨va, rfl, hba, hfa, hb5⟩
  have e5 := (hb5.block _ (by omega)).trans e4
  have c3 := cell_at e5 3 _ rfl
  have HA5 := Lib.hid (And.intro hba (And.intro hfa (And.intro hb5 e5)))
  clear hba hfa hb5 e5 e4 hs4
  go_wp2_with fail
  have hbW5 := below2 HBW4.out HA5.out.2.2.1
  have HBW5 := Lib.hid hbW5
  refine (HK.out.1 p q w5 (HT.out.grow hbW5) ((HL3.out.2.2.2.2.grow HB4.out.1).grow HA5.out.2.2.1) (HA.out.2.1.grow hbW5)).mono ?_
  clear hbW5 c3
  rintro e w6 ⟨vb, rfl, hbb, hfb, hb6⟩
  have HA6 := Lib.hid (And.intro hbb (And.intro hfb hb6))
  have e6 := (hb6.block _ (block_lt HA5.out.2.2.2)).trans HA5.out.2.2.2
  have hb26 : Below W2.heap.size W2 w6 := below2 HL3.out.2.2.2.1 (below2 HB4.out.1 (below2 HA5.out.2.2.1 hb6))
  have f6 := (hb26.block _ (block_lt HB2.out.2)).trans HB2.out.2
  have x0 := cell_at e6 0 _ rfl
  have x1 := cell_at e6 1 _ rfl
  have x2 := cell_at e6 2 _ rfl
  have x3 := cell_at e6 3 _ rfl
  have x4 := cell_at e6 4 _ rfl
  have y0 := cell_at f6 0 _ rfl
  have y1 := cell_at f6 1 _ rfl
  have y2 := cell_at f6 2 _ rfl
  have y3 := cell_at f6 3 _ rfl
  have y4 := cell_at f6 4 _ rfl
  have HB36 := Lib.hid (below2 HB4.out.1 (below2 HA5.out.2.2.1 hb6))
  clear hbb hfb hb6 e6 f6 hb26
  go_wp2_with fail
  clear x0 x1 x2 x3 x4 y0 y1 y2 y3 y4
  have hWF : ∀ g ∈ F, W.heap.size ≤ g := fun g hg => by have := HL3.out.2.2.1 g hg; have := HB2.out.1.size; omega
  have hBW6 := below2 HB2.out.1 (below2 HL3.out.2.2.2.1 HB36.out)
  have HBW6 := Lib.hid hBW6
  refine (kept_c (.mk 6 0 ByteArray.empty l []) [.int .i64 6, .int .i64 0, .string ⟨#[]⟩, .slice p n q, .slice p' 0 q'] [.int .i64 6, .int .i64 0, .string ⟨#[]⟩, .slice A n c, .slice none 0 0] F W w6 (HL3.out.1.grow HB36.out) HL3.out.2.1 hWF HA.out.2.2 hBW6).mono ?_
  clear hBW6
  rintro e w7 ⟨rfl, ho7⟩
  have hBW7 := HBW6.out.trans (ho7.below hWF HBW6.out.size)
  have HBW7 := Lib.hid hBW7
  have hF4 : ∀ g ∈ F, g < W4.heap.size := fun g hg => by have := HL3.out.1.lt g hg; have := HB4.out.2.2; omega
  have hba7 := ((HA5.out.1.grow HA6.out.2.2).hop HA5.out.2.1 ho7 hF4)
  have hbb7 := (HA6.out.1.hop HA6.out.2.1 ho7 (fun g hg => by have := hF4 g hg; have := HA5.out.2.2.1.size; omega))
  have H7 := Lib.hid (And.intro hba7 hbb7)
  clear hWF ho7 hF4 hba7 hbb7
  go_wp2_with fail
  refine (HK.out.2.1 A c w7 (HT.out.grow hBW7) (HA.out.1.grow hBW7) (HA.out.2.1.grow hBW7)).mono ?_
  clear hBW7
  rintro e w8 ⟨vw, rfl, hbw, _, hb8⟩
  obtain ⟨A8, c8, rfl, _⟩ := hbw.form
  have hga := HA5.out.2.1
  have hgb := HA6.out.2.1
  have hla := fun g (hg : va.ownBlock = some g) => HA5.out.1.lt hg
  have HV := Lib.hid (And.intro (H7.out.1.grow hb8) (And.intro (H7.out.2.grow hb8) (And.intro hbw (And.intro hga (And.intro hgb hla)))))
  obtain ⟨Aa, ca, hva, _⟩ := HV.out.1.form
  obtain ⟨Ab, cb, hvb, _⟩ := HV.out.2.1.form
  subst hva hvb
  have HBW8 := Lib.hid (below2 HBW7.out hb8)
  clear hga hgb hla hbw hb8
  have hx5 : xs.length ≤ 140737488355328 := by have := HK.out.2.2; omega
  go_wp2_with fail
  refine (bsame_c Aa A8 ca c8 xs.length xs.length xs xs rfl rfl w8 (HV.out.1.ry hx5) (HV.out.2.2.1.ry hx5)).mono ?_
  rintro e w9 ⟨rfl, hb9⟩
  have hdc : decide (xs = xs) = true := by simp
  go_wp2_with fail
  refine (bsame_c Ab A8 cb c8 xs.length xs.length xs xs rfl rfl w9 ((HV.out.2.1.grow hb9).ry hx5) ((HV.out.2.2.1.grow hb9).ry hx5)).mono ?_
  rintro e w10 ⟨rfl, hb10⟩
  have hb810 := below2 hb9 hb10
  have HB810 := Lib.hid hb810
  go_wp2_with fail
  clear hb9 hb10
  have hx9 : xs.length ≤ 1099511627776 := by have := HK.out.2.2; omega
  refine (owned_c _ _ xs xs w10 (HV.out.1.grow hb810) (HV.out.2.1.grow hb810) (fun g hg hg' => by have h1 := HV.out.2.2.2.2.2 g hg; have h2 := HV.out.2.2.2.2.1 g hg'; omega) hx9 hx9).mono ?_
  clear hb810
  rintro e w11 ⟨rfl, ho11⟩
  have hfin := (below2 HBW8.out HB810.out).trans (ho11.below (B := W.heap.size) (fun g hg => by
    rcases hg with hg | hg
    · have := HV.out.2.2.2.1 g hg.symm; have := HBW4.out.size; omega
    · have := HV.out.2.2.2.2.1 g hg.symm; have := HBW5.out.size; omega) (by have := HBW8.out.size; have := HB810.out.size; omega))
  have HFIN := Lib.hid hfin
  clear hfin ho11
  go_wp2_with fail
  go_ret
  exact ⟨rfl, HFIN.out⟩
end Go.Proofs.YthfejpldhemakaaDoor

namespace Go.Proofs.YthfejpldhemakaaDoor
open Go.ChangeShapes Go.WideShapes Go.ChangeAt Go.RowKit Go.Lib Go.Deep
theorem c4 : Tryd.prog.cellsOf 4 = 1 := by kernel_rfl
theorem by4 : Tryd.prog.bytesOf 4 = 1 := by kernel_rfl
section
set_option maxRecDepth 100000
variable {H : Type} {enc : TypeId × Value → H}
/-- An argument of type []Value. -/
theorem arg_list {W : World} {base : Nat} {v : Value} {d : DataW H} {p : List MemPlace} (hok : Value.okWide Tryd.prog W .any base 22 v)
    (h : DataW.Trod enc Tryd.prog W 0 (fun _ => true) true 22 v d p) (hw : (d.weights Tryd.prog 22).all (· ≤ reachBytes) = true) : ∃ (A : Option Addr) (l : List V) (c : Nat), v = .slice A l.length c ∧ RL W l A c ∧ ∀ x ∈ l, Slack 4096 x := by
  obtain ⟨a, len, cap, rfl⟩ := okWide_slice Tryd.underlying22 hok
  obtain ⟨n, h⟩ := h
  have f3 : DataW.trod enc Tryd.prog W 0 (fun _ => true) true n 22 [.slice a len cap] = some (d, p) := by simpa [Value.cells] using h
  rcases DataW.trod_slice Tryd.underlying22 f3 with ⟨e3, _⟩ | ⟨a', len', cap', elems, rest, m, hm, e3, e3', hb, hle, hcm, hlen, hel, _, _⟩
  · simp only [List.cons.injEq, and_true] at e3
    rw [e3]
    exact ⟨none, [], 0, rfl, RL.nil, by simp⟩
  · simp only [List.cons.injEq, and_true] at e3
    rw [e3]
    simp only [Prod.mk.injEq] at e3'
    obtain ⟨rfl, _⟩ := e3'
    simp only [DataW.weights, Tryd.underlying22, List.all_cons, List.all_append, Bool.and_eq_true, List.length_map, by25] at hw
    obtain ⟨h1, h2, _⟩ := hw
    have hbd := bound_le' h1
    rw [c25] at hel
    obtain ⟨C, hC⟩ := slice_place (e := 25) (by omega) hlen hel
    have hv : ∀ j, j < len' → ∃ v, RV W v (C j) ∧ Slack 4096 v := by
      intro j hj
      obtain ⟨_, _, hj', ht⟩ := hC j hj
      refine trod_sl m (C j) _ ht ?_
      rw [List.all_eq_true] at h2 ⊢
      intro q hq
      exact h2 q (weightsAll_mem (List.mem_map.2 ⟨_, List.getElem_mem hj', rfl⟩) q hq)
    obtain ⟨f, hf⟩ := choose_lt hv
    refine ⟨some a', (List.range len').map f, cap', by simp, ⟨?_, by simpa using hle, C, ?_, ?_⟩, ?_⟩
    · simp only [List.length_map, List.length_range]
      rw [hlen] at hbd
      have := Nat.mul_le_mul_right 80 (Nat.le_add_right len' rest.length)
      omega
    · intro j hj
      exact (hC j (by simpa using hj)).1
    · intro j hj
      have := (hf j (by simpa using hj)).1
      simpa using this
    · intro x hx
      obtain ⟨j, hj, rfl⟩ := List.mem_map.1 hx
      exact (hf j (by simpa using hj)).2
/-- An argument of type []bool. -/
theorem arg_bools {W : World} {base : Nat} {v : Value} {d : DataW H} {p : List MemPlace} (hok : Value.okWide Tryd.prog W .any base 41 v)
    (h : DataW.Trod enc Tryd.prog W 0 (fun _ => true) true 41 v d p) (hw : (d.weights Tryd.prog 41).all (· ≤ reachBytes) = true) : ∃ (A : Option Addr) (l : List Bool) (c : Nat), v = .slice A l.length c ∧ RB W A l := by
  obtain ⟨a, len, cap, rfl⟩ := okWide_slice Tryd.underlying41 hok
  obtain ⟨n, h⟩ := h
  have f3 : DataW.trod enc Tryd.prog W 0 (fun _ => true) true n 41 [.slice a len cap] = some (d, p) := by simpa [Value.cells] using h
  rcases DataW.trod_slice Tryd.underlying41 f3 with ⟨e3, _⟩ | ⟨a', len', cap', elems, rest, m, hm, e3, e3', hb, hle, hcm, hlen, hel, _, _⟩
  · simp only [List.cons.injEq, and_true] at e3
    rw [e3]
    exact ⟨none, [], 0, rfl, by simp, fun j hj => absurd hj (by simp)⟩
  · simp only [List.cons.injEq, and_true] at e3
    rw [e3]
    simp only [Prod.mk.injEq] at e3'
    obtain ⟨rfl, _⟩ := e3'
    simp only [DataW.weights, Tryd.underlying41, List.all_cons, List.all_append, Bool.and_eq_true, List.length_map, by4] at hw
    obtain ⟨h1, h2, _⟩ := hw
    have hbd := bound_le' h1
    rw [c4] at hel
    obtain ⟨C, hC⟩ := slice_place (e := 4) (by omega) hlen hel
    have hv : ∀ j, j < len' → ∃ b, C j = [.bool b] := by
      intro j hj
      obtain ⟨_, _, hj', ht⟩ := hC j hj
      obtain ⟨b, hb, _⟩ := DataW.trod_bool Tryd.underlying4 ht
      exact ⟨b, hb⟩
    obtain ⟨f, hf⟩ := choose_lt hv
    refine ⟨some a', (List.range len').map f, cap', by simp, ?_, ?_⟩
    · simp only [List.length_map, List.length_range]
      omega
    · intro j hj
      have h1 := (hC j (by simpa using hj)).1
      rw [hf j (by simpa using hj)] at h1
      simpa using h1
end
end Go.Proofs.YthfejpldhemakaaDoor

namespace Go.Proofs.YthfejpldhemakaaDoor
open Go.RowKit
/-- The walk, in the order that the row's printer hands its arguments. -/
theorem keyWrites_cc (l : List V) (A : Option Addr) (c : Nat) (d : List Bool) (A2 : Option Addr) (c2 : Nat) (W : World) (hT : Tabs W) (hA : RL W l A c) (_ : ∀ x ∈ l, Slack 4096 x) (hD : RB W A2 d) :
    Calls Tryd.prog 7 #[.slice A l.length c, .slice A2 d.length c2] W fun e w' => e = .returned (.bool true) ∧ Below W.heap.size W w' := keyWrites_c l d A A2 c c2 W hT hA hD
end Go.Proofs.YthfejpldhemakaaDoor
