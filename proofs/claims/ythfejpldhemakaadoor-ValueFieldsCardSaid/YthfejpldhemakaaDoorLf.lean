import Derived.Test.YthfejpldhemakaaDoorWq
import Derived.Test.YthfejpldhemakaaDoorWn
import Derived.Test.YthfejpldhemakaaDoorWr
import Derived.Test.YthfejpldhemakaaDoorP
import Derived.Deep.RegionHeld3
namespace Go.Proofs.YthfejpldhemakaaDoor
open Go.RowKit Go.Sort
def getA (v : V) (nm : ByteArray) : V := (getV v nm).getD zeroV
theorem getPost_any {w w' : World} {v : V} {nm : ByteArray} {e : Ending} (h : GetPost w (getV v nm) e w') :
    ∃ p0 q0 p1 q1 F, e = .returned (.tuple #[.agg #[.int .i64 (getA v nm).k, .int .i64 (getA v nm).i, .string (getA v nm).t, .slice p0 (getA v nm).l.length q0, .slice p1 (getA v nm).d.length q1], .bool (getV v nm).isSome]) ∧
      OV false w' (getA v nm) [.int .i64 (getA v nm).k, .int .i64 (getA v nm).i, .string (getA v nm).t, .slice p0 (getA v nm).l.length q0, .slice p1 (getA v nm).d.length q1] F ∧ F.Nodup ∧ (∀ g ∈ F, w.heap.size ≤ g) ∧ Below w.heap.size w w' := by
  obtain ⟨hb, h⟩ := h
  unfold getA
  cases hg : getV v nm with
  | none =>
    rw [hg] at h
    exact ⟨none, 0, none, 0, [], h, OV.zero w', by simp, by simp, hb⟩
  | some x =>
    rw [hg] at h
    obtain ⟨cs, F, rfl, ho, hn, hf⟩ := h
    obtain ⟨p0, q0, p1, q1, rfl⟩ := ho.rv.shape
    exact ⟨p0, q0, p1, q1, F, rfl, ho, hn, hf, hb⟩
theorem made_any {w w' : World} {v : V} {e : Ending} (h : Made w v e w') :
    ∃ p0 q0 p1 q1 F, e = .returned (.agg #[.int .i64 v.k, .int .i64 v.i, .string v.t, .slice p0 v.l.length q0, .slice p1 v.d.length q1]) ∧
      OV false w' v [.int .i64 v.k, .int .i64 v.i, .string v.t, .slice p0 v.l.length q0, .slice p1 v.d.length q1] F ∧ F.Nodup ∧ (∀ g ∈ F, w.heap.size ≤ g) ∧ Below w.heap.size w w' := by
  obtain ⟨cs, F, rfl, ho, hn, hf, hb⟩ := h
  obtain ⟨p0, q0, p1, q1, rfl⟩ := ho.rv.shape
  exact ⟨p0, q0, p1, q1, F, rfl, ho, hn, hf, hb⟩
theorem Slack.zero (m : Nat) (h : m ≤ 140737488355328) : Slack m zeroV := .mk (by simpa using h) (by simpa using h) (by simp) (by simp)
theorem Slack.getD {m : Nat} {nm : ByteArray} : ∀ {d : List (ByteArray × V)} {x : V}, (∀ p ∈ d, Slack m p.2) → YthfejpldhemakaaDoor.getD d nm = some x → Slack m x
  | [], _, _, h => by cases h
  | (n, y) :: d, x, hd, h => by
    rw [YthfejpldhemakaaDoor.getD] at h
    split at h
    · cases h
      exact hd (n, y) (by simp)
    · exact Slack.getD (fun p hp => hd p (by simp [hp])) h
theorem Slack.getA {v : V} {nm : ByteArray} (h : Slack 4096 v) : Slack 100 (getA v nm) := by
  unfold YthfejpldhemakaaDoor.getA
  cases hg : getV v nm with
  | none => exact Slack.zero 100 (by omega)
  | some x =>
    cases h with
    | mk hl hd rl rd =>
      rw [getV] at hg
      split at hg
      · exact (Slack.getD rd hg).mono (by omega)
      · cases hg
theorem withD_mem {nm : ByteArray} {x : V} : ∀ {d : List (ByteArray × V)} {p : ByteArray × V}, p ∈ withD nm x d → p ∈ d ∨ p.2 = x
  | [], p, h => by
    simp [withD] at h
    exact .inr (by rw [h])
  | (n, y) :: d, p, h => by
    rw [withD] at h
    split at h
    · rcases List.mem_cons.1 h with h | h
      · exact .inr (by rw [h])
      · exact .inl (by simp [h])
    · rcases List.mem_cons.1 h with h | h
      · exact .inl (by simp [h])
      · rcases withD_mem h with h | h
        · exact .inl (by simp [h])
        · exact .inr h
theorem withD_len (nm : ByteArray) (x : V) : ∀ (d : List (ByteArray × V)), (withD nm x d).length ≤ d.length + 1
  | [] => by simp [withD]
  | (n, y) :: d => by
    rw [withD]
    split
    · simp
    · have := withD_len nm x d
      simp
      omega
theorem Slack.with {v x : V} {nm : ByteArray} (h : Slack 4096 v) (hx : Slack 4096 x) : Slack 100 (withV v nm x) := by
  obtain ⟨k, i, t, l, d⟩ := v
  unfold withV
  split
  · cases h with
    | mk hl hd rl rd =>
      refine .mk (by simp only [V.l]; omega) (by simp only [V.d]; have := withD_len nm x d; omega) (fun y hy => (rl y hy).mono (by omega)) (fun p hp => ?_)
      rcases withD_mem hp with hp | hp
      · exact (rd p hp).mono (by omega)
      · rw [hp]; exact hx.mono (by omega)
  · exact Slack.zero 100 (by omega)
theorem Slack.without {v : V} {nm : ByteArray} (h : Slack 4096 v) : Slack 100 (withoutV v nm) := by
  obtain ⟨k, i, t, l, d⟩ := v
  unfold withoutV
  split
  · cases h with
    | mk hl hd rl rd =>
      refine .mk (by simp only [V.l]; omega) (by simp only [V.d]; have := List.length_filter_le (fun p : ByteArray × V => decide (¬ p.1 = nm)) d; omega) (fun y hy => (rl y hy).mono (by omega)) (fun p hp => (rd p (List.mem_filter.1 hp).1).mono (by omega))
  · exact Slack.zero 100 (by omega)
theorem sameSelf_c (a : V) (cs cs' : List Value) (w : World) (h : RV w a cs) (h' : RV w a cs') :
    Calls Tryd.prog 28 #[.agg cs.toArray, .agg cs'.toArray] w fun e w' => e = .returned (.bool true) ∧ Below w.heap.size w w' := by
  have := same_c a a cs cs' w h h'
  rwa [sameV_self] at this
end Go.Proofs.YthfejpldhemakaaDoor
