import Derived.Test.YthfejpldhemakaaDoorJn
import Derived.Test.YthfejpldhemakaaDoorSl
namespace Go.Proofs.YthfejpldhemakaaDoor
open Go.ChangeShapes Go.WideShapes Go.ChangeAt Go.RowKit Go.Lib
section
set_option maxRecDepth 100000
variable {H : Type} {enc : TypeId × Value → H}
/-- An argument of type Value, with how far its rows reach. -/
theorem arg_rvs {W : World} {base : Nat} {v : Value} {d : DataW H} {p : List MemPlace} (hok : Value.okWide Tryd.prog W .any base 25 v)
    (h : DataW.Trod enc Tryd.prog W 0 (fun _ => true) true 25 v d p) (hw : (d.weights Tryd.prog 25).all (· ≤ reachBytes) = true) : ∃ cs x, v = .agg cs.toArray ∧ RV W x cs ∧ Slack 4096 x := by
  obtain ⟨cs, rfl, _⟩ := okWide_struct Tryd.underlying25 hok
  obtain ⟨n, h⟩ := h
  obtain ⟨x, hx, hs⟩ := trod_sl n cs.toList (d, p) (by simpa [Value.cells] using h) hw
  exact ⟨cs.toList, x, by simp, hx, hs⟩
/-- An argument of type string. -/
theorem arg_str {W : World} {base : Nat} {v : Value} {d : DataW H} {p : List MemPlace} (hok : Value.okWide Tryd.prog W .any base 9 v)
    (h : DataW.Trod enc Tryd.prog W 0 (fun _ => true) true 9 v d p) (hw : (d.weights Tryd.prog 9).all (· ≤ reachBytes) = true) : ∃ s : ByteArray, v = .string s ∧ s.size ≤ 140737488355328 := by
  obtain ⟨s, rfl⟩ := okWide_string Tryd.underlying9 hok
  obtain ⟨n, h⟩ := h
  obtain ⟨t, e, e', _⟩ := DataW.trod_string Tryd.underlying9 h
  have e : s = t := by simpa [Value.cells] using e
  subst e
  injection e' with e' _
  subst e'
  refine ⟨s, rfl, ?_⟩
  simp only [DataW.weights, List.all_cons, List.all_nil, Bool.and_true] at hw
  simpa using bound_le hw
end
end Go.Proofs.YthfejpldhemakaaDoor
