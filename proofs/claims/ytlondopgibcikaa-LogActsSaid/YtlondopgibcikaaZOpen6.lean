/- What came in, opened: acts of layer 6. -/
import Derived.Test.YtlondopgibcikaaGRefLog
import Derived.Test.YtlondopgibcikaaZOpen
namespace Go.Proofs.Ytlondopgibcikaa
open Go.RowKit Go.ChangeShapes Go.WideShapes Ent
theorem cA : Try.prog.cellsOf 76 = 3 := by kernel_rfl
theorem cS : Try.prog.cellsOf 22 = 1 := by kernel_rfl
instance : Inhabited Act6 := ⟨⟨0, 0, 0, 0, 0, none, 0, [], none, 0, []⟩⟩
def IsActs6 (w : World) (ao : Option Addr) (n : Nat) : Prop := n ≤ 9223372036854775807 ∧ ∃ l : List Act6, n = l.length ∧ AL6 w ao l
section
variable {H : Type} {enc : TypeId × Value → H} {w : World} {base : Nat} {held : Bool} {fuel : Nat} {x : DataW H × List MemPlace}
set_option maxRecDepth 100000 in
theorem openIsActs6 {a : Option Addr} {len cap : Nat} (h : DataW.trod enc Try.prog w base (fun _ => true) held fuel 93 (Value.slice a len cap).cells.toList = some x) : IsActs6 w a len := by
  rcases Go.Deep.open_slice Try.underlying93 h with ⟨hcs, _⟩ | ⟨ad, len', cap', m, n, D, Pl, hcs, _, hl, hm, hmm, _, hx⟩
  · simp [Value.cells] at hcs
    obtain ⟨rfl, rfl, rfl⟩ := hcs
    exact ⟨by omega, [], rfl, .inl rfl⟩
  · simp [Value.cells] at hcs
    obtain ⟨rfl, rfl, rfl⟩ := hcs
    simp only [if_true] at hmm
    subst hmm
    have hlen : len ≤ 9223372036854775807 := by unfold maxLen at hm; omega
    have each : ∀ i, i < len → ∃ q : Act6, q.fits w ∧ (q.b.length ≤ 9223372036854775807 ∧ q.keep.length ≤ 9223372036854775807) ∧ ∀ j v, q.cells[j]? = some v → w.cell? (ad.add (i * 7 + j)) = some v := by
      intro i hi
      obtain ⟨cs', h1, h2⟩ := hx i (by omega)
      rw [show Try.prog.cellsOf 96 = 7 by kernel_rfl] at h1
      obtain ⟨_, hl7, hcell⟩ := World.cells?_some h1
      obtain ⟨xs, k, hk, hxy, _, hxl, hf⟩ := DataW.trod_struct Try.underlying96 h2
      match xs, hxl, cs', hl7 with
      | [y0, y1, y2, y3, y4], _, [v0, v1, v2, v3, v4, v5, v6], _ =>
        have g0 : DataW.trod enc Try.prog w base (fun _ => true) held k 3 [v0] = some y0 := by have := hf 0 _ rfl; simpa [cI, cU, cB, cA, cS] using this
        have g1 : DataW.trod enc Try.prog w base (fun _ => true) held k 76 [v1, v2, v3] = some y1 := by have := hf 1 _ rfl; simpa [cI, cU, cB, cA, cS] using this
        have g2 : DataW.trod enc Try.prog w base (fun _ => true) held k 3 [v4] = some y2 := by have := hf 2 _ rfl; simpa [cI, cU, cB, cA, cS] using this
        have g3 : DataW.trod enc Try.prog w base (fun _ => true) held k 22 [v5] = some y3 := by have := hf 3 _ rfl; simpa [cI, cU, cB, cA, cS] using this
        have g4 : DataW.trod enc Try.prog w base (fun _ => true) held k 49 [v6] = some y4 := by have := hf 4 _ rfl; simpa [cI, cU, cB, cA, cS] using this
        obtain ⟨n0, e0, _, w0⟩ := DataW.trod_int Try.underlying3 g0
        obtain ⟨n4, e4, _, w4⟩ := DataW.trod_int Try.underlying3 g2
        obtain ⟨bo, bc, bl, e5, hbc, hbm, hsb⟩ := open_sb g3
        obtain ⟨ko, kc, kl, e6, hkl, hbl⟩ := open_bl g4
        obtain ⟨xs2, k2, hk2, hxy2, _, hxl2, hf2⟩ := DataW.trod_struct Try.underlying76 g1
        match xs2, hxl2 with
        | [z0, z1, z2], _ =>
          have a0 : DataW.trod enc Try.prog w base (fun _ => true) held k2 3 [v1] = some z0 := by have := hf2 0 _ rfl; simpa [cI, cU, cB] using this
          have a1 : DataW.trod enc Try.prog w base (fun _ => true) held k2 3 [v2] = some z1 := by have := hf2 1 _ rfl; simpa [cI, cU, cB] using this
          have a2 : DataW.trod enc Try.prog w base (fun _ => true) held k2 3 [v3] = some z2 := by have := hf2 2 _ rfl; simpa [cI, cU, cB] using this
          obtain ⟨n1, e1, _, w1⟩ := DataW.trod_int Try.underlying3 a0
          obtain ⟨n2, e2, _, w2⟩ := DataW.trod_int Try.underlying3 a1
          obtain ⟨n3, e3, _, w3⟩ := DataW.trod_int Try.underlying3 a2
          simp at e0 e1 e2 e3 e4 e5 e6
          subst e0; subst e1; subst e2; subst e3; subst e4; subst e5; subst e6
          refine ⟨⟨n0, n1, n2, n3, n4, bo, bc, bl, ko, kc, kl⟩, ⟨int_wf w0, int_wf w4, hsb, hbc, hbl⟩, ⟨hbm, hkl⟩, fun j v hj => ?_⟩
          have hj7 : j < 7 := by have := (List.getElem?_eq_some_iff.1 hj).1; simpa [Act6.cells] using this
          have hc := hcell j hj7
          rw [Go.Deep.add_add] at hc
          rw [hc]; exact hj
    obtain ⟨q, hq⟩ := Go.Deep.choose_lt each
    refine ⟨hlen, (List.range len).map q, by simp, ?_⟩
    by_cases h0 : len = 0
    · subst h0; exact .inl rfl
    · obtain ⟨b, o, sp⟩ := ad
      have hc0 := (hq 0 (by omega)).2.2 0 _ rfl
      have hsp : sp = none := by simpa [Addr.add] using World.cell?_spot hc0
      subst hsp
      refine .inr ⟨b, o, rfl, fun i act ha => ?_⟩
      have hi : i < len := by have := (List.getElem?_eq_some_iff.1 ha).1; simpa using this
      have : act = q i := by simpa [hi] using ha.symm
      subst this
      refine ⟨(hq i hi).1, (hq i hi).2.1, fun j v hv => ?_⟩
      have := (hq i hi).2.2 j v hv
      rw [Addr.add_mid] at this
      rw [Nat.add_assoc]; exact this
end
end Go.Proofs.Ytlondopgibcikaa
