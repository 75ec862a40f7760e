/- What came in, opened: acts of layer 7. -/
import Derived.Test.YtlondopgibcikaaGVaultH
import Derived.Test.YtlondopgibcikaaZOpen
import Derived.Test.YtlondopgibcikaaZOpen3
namespace Go.Proofs.Ytlondopgibcikaa
open Go.RowKit Go.ChangeShapes Go.WideShapes Ent
theorem cL : Try.prog.cellsOf 79 = 1 := by kernel_rfl
instance : Inhabited Act7 := ⟨⟨0, 0, none, 0, [], none, 0, []⟩⟩
def IsActs7 (w : World) (ao : Option Addr) (n : Nat) : Prop := n ≤ 9223372036854775807 ∧ ∃ l : List Act7, n = l.length ∧ AL7 w ao l
section
variable {H : Type} {enc : TypeId × Value → H} {w : World} {base : Nat} {held : Bool} {fuel : Nat} {x : DataW H × List MemPlace} {cs : List Value}
theorem open_ll (h : DataW.trod enc Try.prog w base (fun _ => true) held fuel 79 cs = some x) :
    ∃ (ao : Option Addr) (c : Nat) (L : List (List UInt8)), cs = [.slice ao L.length c] ∧ L.length ≤ 9223372036854775807 ∧ LR w ao L := by
  rcases Go.Deep.open_slice Try.underlying79 h with ⟨hcs, _⟩ | ⟨ad, len, cap, m, n, D, Pl, hcs, _, hl, hm, hmm, _, hx⟩
  · exact ⟨none, 0, [], hcs, by simp, .inl rfl⟩
  · have h2 : DataW.trod enc Try.prog w base (fun _ => true) held fuel 79 (Value.slice (some ad) len cap).cells.toList = some x := by rw [hcs] at h; exact h
    obtain ⟨h3, L, h4, h5, _⟩ := openIsLists h2
    exact ⟨some ad, cap, L, by rw [hcs, h4], by omega, h5⟩
set_option maxRecDepth 100000 in
theorem openIsActs7 {a : Option Addr} {len cap : Nat} (h : DataW.trod enc Try.prog w base (fun _ => true) held fuel 117 (Value.slice a len cap).cells.toList = some x) : IsActs7 w a len := by
  rcases Go.Deep.open_slice Try.underlying117 h with ⟨hcs, _⟩ | ⟨ad, len', cap', m, n, D, Pl, hcs, _, hl, hm, hmm, _, hx⟩
  · simp [Value.cells] at hcs
    obtain ⟨rfl, rfl, rfl⟩ := hcs
    exact ⟨by omega, [], rfl, .inl rfl⟩
  · simp [Value.cells] at hcs
    obtain ⟨rfl, rfl, rfl⟩ := hcs
    simp only [if_true] at hmm
    subst hmm
    have hlen : len ≤ 9223372036854775807 := by unfold maxLen at hm; omega
    have each : ∀ i, i < len → ∃ q : Act7, q.fits w ∧ ∀ j v, q.cells[j]? = some v → w.cell? (ad.add (i * 4 + j)) = some v := by
      intro i hi
      obtain ⟨cs', h1, h2⟩ := hx i (by omega)
      rw [show Try.prog.cellsOf 120 = 4 by kernel_rfl] at h1
      obtain ⟨_, hl4, hcell⟩ := World.cells?_some h1
      obtain ⟨xs, k, hk, hxy, _, hxl, hf⟩ := DataW.trod_struct Try.underlying120 h2
      match xs, hxl, cs', hl4 with
      | [y0, y1, y2, y3], _, [v0, v1, v2, v3], _ =>
        have g0 : DataW.trod enc Try.prog w base (fun _ => true) held k 3 [v0] = some y0 := by have := hf 0 _ rfl; simpa [cI, cU, cB, cL] using this
        have g1 : DataW.trod enc Try.prog w base (fun _ => true) held k 3 [v1] = some y1 := by have := hf 1 _ rfl; simpa [cI, cU, cB, cL] using this
        have g2 : DataW.trod enc Try.prog w base (fun _ => true) held k 79 [v2] = some y2 := by have := hf 2 _ rfl; simpa [cI, cU, cB, cL] using this
        have g3 : DataW.trod enc Try.prog w base (fun _ => true) held k 49 [v3] = some y3 := by have := hf 3 _ rfl; simpa [cI, cU, cB, cL] using this
        obtain ⟨n0, e0, _, w0⟩ := DataW.trod_int Try.underlying3 g0
        obtain ⟨n1, e1, _, w1⟩ := DataW.trod_int Try.underlying3 g1
        obtain ⟨lo, lc, L, e2, hll, hlr⟩ := open_ll g2
        obtain ⟨ko, kc, kl, e3, hkl, hbl⟩ := open_bl g3
        simp at e0 e1 e2 e3
        subst e0; subst e1; subst e2; subst e3
        refine ⟨⟨n0, n1, lo, lc, L, ko, kc, kl⟩, ⟨int_wf w0, int_wf w1, hlr, hll, hbl, hkl⟩, fun j v hj => ?_⟩
        have hj4 : j < 4 := by have := (List.getElem?_eq_some_iff.1 hj).1; simpa [Act7.cells] using this
        have hc := hcell j hj4
        rw [Go.Deep.add_add] at hc
        rw [hc]; exact hj
    obtain ⟨q, hq⟩ := Go.Deep.choose_lt each
    refine ⟨hlen, (List.range len).map q, by simp, ?_⟩
    by_cases h0 : len = 0
    · subst h0; exact .inl rfl
    · obtain ⟨b, o, sp⟩ := ad
      have hc0 := (hq 0 (by omega)).2 0 _ rfl
      have hsp : sp = none := by simpa [Addr.add] using World.cell?_spot hc0
      subst hsp
      refine .inr ⟨b, o, rfl, fun i act ha => ?_⟩
      have hi : i < len := by have := (List.getElem?_eq_some_iff.1 ha).1; simpa using this
      have : act = q i := by simpa [hi] using ha.symm
      subst this
      refine ⟨(hq i hi).1, fun j v hv => ?_⟩
      have := (hq i hi).2 j v hv
      rw [Addr.add_mid] at this
      rw [Nat.add_assoc]; exact this
end
end Go.Proofs.Ytlondopgibcikaa
