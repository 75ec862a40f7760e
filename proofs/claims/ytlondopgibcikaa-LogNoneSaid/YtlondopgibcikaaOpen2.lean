/- What came in, opened: areas, lists of bytes, acts of layer 6. -/
import Derived.Test.YtlondopgibcikaaOpen
namespace Go.Proofs.Ytlondopgibcikaa
open Go.RowKit Go.ChangeShapes Go.WideShapes Ent
section
variable {H : Type} {enc : TypeId × Value → H} {w : World} {base : Nat} {held : Bool} {fuel : Nat} {cs : List Value} {x : DataW H × List MemPlace}
set_option maxRecDepth 100000 in
theorem openIsArea {v : Value} {b0 : Nat} (hv : Value.okWide Try.prog w .any b0 76 v) (h : DataW.trod enc Try.prog w base (fun _ => true) held fuel 76 v.cells.toList = some x) :
    ∃ f t g : Int, v = .agg #[.int .i64 f, .int .i64 t, .int .i64 g] ∧ (-9223372036854775808 ≤ f ∧ f ≤ 9223372036854775807) ∧ (-9223372036854775808 ≤ t ∧ t ≤ 9223372036854775807) ∧ -9223372036854775808 ≤ g ∧ g ≤ 9223372036854775807 := by
  obtain ⟨cs, rfl, hsz⟩ := okWide_struct Try.underlying76 hv
  rw [show Try.prog.cellsOf 76 = 3 by kernel_rfl] at hsz
  obtain ⟨l⟩ := cs
  match l, hsz with
  | [v0, v1, v2], _ =>
    have h' : DataW.trod enc Try.prog w base (fun _ => true) held fuel 76 [v0, v1, v2] = some x := h
    obtain ⟨xs, k, hk, hxy, _, hxl, hf⟩ := DataW.trod_struct Try.underlying76 h'
    match xs, hxl with
    | [y0, y1, y2], _ =>
      have g0 : DataW.trod enc Try.prog w base (fun _ => true) held k 3 [v0] = some y0 := by have := hf 0 _ rfl; simpa [cI, cU, cB] using this
      have g1 : DataW.trod enc Try.prog w base (fun _ => true) held k 3 [v1] = some y1 := by have := hf 1 _ rfl; simpa [cI, cU, cB] using this
      have g2 : DataW.trod enc Try.prog w base (fun _ => true) held k 3 [v2] = some y2 := by have := hf 2 _ rfl; simpa [cI, cU, cB] using this
      obtain ⟨n0, e0, _, w0⟩ := DataW.trod_int Try.underlying3 g0
      obtain ⟨n1, e1, _, w1⟩ := DataW.trod_int Try.underlying3 g1
      obtain ⟨n2, e2, _, w2⟩ := DataW.trod_int Try.underlying3 g2
      simp at e0 e1 e2
      subst e0; subst e1; subst e2
      exact ⟨n0, n1, n2, rfl, int_wf w0, int_wf w1, int_wf w2⟩
end
end Go.Proofs.Ytlondopgibcikaa
