/- What came in, opened: lists of bytes. -/
import Derived.Test.YtlondopgibcikaaGLogC
import Derived.Test.YtlondopgibcikaaZOpen
namespace Go.Proofs.Ytlondopgibcikaa
open Go.RowKit Go.ChangeShapes Go.WideShapes Ent
def IsLists (w : World) (ao : Option Addr) (n : Nat) : Prop := n ≤ 9223372036854775807 ∧ ∃ L : List (List UInt8), n = L.length ∧ LR w ao L ∧ ∀ l ∈ L, l.length ≤ 9223372036854775807
section
variable {H : Type} {enc : TypeId × Value → H} {w : World} {base : Nat} {held : Bool} {fuel : Nat} {x : DataW H × List MemPlace}
set_option maxRecDepth 100000 in
theorem openIsLists {a : Option Addr} {len cap : Nat} (h : DataW.trod enc Try.prog w base (fun _ => true) held fuel 79 (Value.slice a len cap).cells.toList = some x) : IsLists w a len := by
  rcases Go.Deep.open_slice Try.underlying79 h with ⟨hcs, _⟩ | ⟨ad, len', cap', m, n, D, Pl, hcs, _, hl, hm, hmm, _, hx⟩
  · simp [Value.cells] at hcs
    obtain ⟨rfl, rfl, rfl⟩ := hcs
    exact ⟨by omega, [], rfl, .inl rfl, by simp⟩
  · simp [Value.cells] at hcs
    obtain ⟨rfl, rfl, rfl⟩ := hcs
    simp only [if_true] at hmm
    subst hmm
    have hlen : len ≤ 9223372036854775807 := by unfold maxLen at hm; omega
    have each : ∀ i, i < len → ∃ q : Option Addr × Nat × List UInt8, w.cell? (ad.add i) = some (.slice q.1 q.2.2.length q.2.1) ∧ q.2.2.length ≤ q.2.1 ∧ q.2.2.length ≤ 9223372036854775807 ∧ SB w q.1 q.2.1 q.2.2 := by
      intro i hi
      obtain ⟨cs', h1, h2⟩ := hx i (by omega)
      rw [show Try.prog.cellsOf 22 = 1 by kernel_rfl] at h1
      obtain ⟨_, hl1, hcell⟩ := World.cells?_some h1
      obtain ⟨ko, c, l, e, h3, h4, h5⟩ := open_sb h2
      refine ⟨(ko, c, l), ?_, h3, h4, h5⟩
      have hc := hcell 0 (by omega)
      rw [Go.Deep.add_add, Nat.add_zero, Nat.mul_one] at hc
      rw [hc, e]; rfl
    obtain ⟨q, hq⟩ := Go.Deep.choose_lt each
    refine ⟨hlen, (List.range len).map fun i => (q i).2.2, by simp, ?_, ?_⟩
    · by_cases h0 : len = 0
      · subst h0; exact .inl rfl
      · obtain ⟨b, o, sp⟩ := ad
        have hc0 := (hq 0 (by omega)).1
        have hsp : sp = none := by simpa [Addr.add] using World.cell?_spot hc0
        subst hsp
        refine .inr ⟨b, o, rfl, fun i l hl => ?_⟩
        have hi : i < len := by have := (List.getElem?_eq_some_iff.1 hl).1; simpa using this
        have : l = (q i).2.2 := by simpa [hi] using hl.symm
        subst this
        obtain ⟨h1, h2, _, h4⟩ := hq i hi
        rw [Addr.add_mid] at h1
        exact ⟨_, _, h1, h2, h4⟩
    · intro l hl
      simp only [List.mem_map, List.mem_range] at hl
      obtain ⟨i, hi, rfl⟩ := hl
      exact (hq i hi).2.2.1
end
end Go.Proofs.Ytlondopgibcikaa
