/- What came in, opened: bytes, bools, acts. -/
import Derived.Test.YtlondopgibcikaaRows
import Derived.Test.YtlondopgibcikaaGBase
import Derived.Test.YtlondopgibcikaaGDevice
import Derived.Test.YtlondopgibcikaaGRefDev
import Derived.OpenShut
import Derived.Below
import Derived.Deep.Grids
namespace Go.Proofs.Ytlondopgibcikaa
open Go.RowKit Go.ChangeShapes Go.WideShapes Ent

section
variable {H : Type} {enc : TypeId × Value → H} {w : World} {base : Nat} {held : Bool} {fuel : Nat} {cs : List Value} {x : DataW H × List MemPlace}
theorem open_bl (h : DataW.trod enc Try.prog w base (fun _ => true) held fuel 49 cs = some x) :
    ∃ (ko : Option Addr) (kc : Nat) (l : List Bool), cs = [.slice ko l.length kc] ∧ l.length ≤ 9223372036854775807 ∧ BL w ko l := by
  rcases Go.Deep.open_bools Try.underlying49 Try.underlying4 (by kernel_rfl) h with ⟨hcs, _⟩ | ⟨ad, len, cap, B, hcs, _, hl, hm, _, hcell⟩
  · exact ⟨none, 0, [], hcs, by simp, .inl rfl⟩
  · refine ⟨some ad, cap, (List.range len).map B, by simpa using hcs, by unfold maxLen at hm; simp; omega, ?_⟩
    by_cases h0 : len = 0
    · subst h0; exact .inl rfl
    · obtain ⟨b, o, sp⟩ := ad
      have hc0 := hcell 0 (by omega)
      have hsp : sp = none := by simpa [Addr.add] using World.cell?_spot hc0
      subst hsp
      refine .inr ⟨b, o, rfl, fun j v hv => ?_⟩
      rw [bbv_get] at hv
      by_cases hj : j < len
      · have := hcell j (by omega)
        rw [Addr.add_mid] at this
        rw [this]; simpa [hj] using hv
      · rw [List.getElem?_eq_none (by simp; omega)] at hv; simp at hv
theorem open_sb (h : DataW.trod enc Try.prog w base (fun _ => true) held fuel 22 cs = some x) :
    ∃ (ao : Option Addr) (c : Nat) (l : List UInt8), cs = [.slice ao l.length c] ∧ l.length ≤ c ∧ l.length ≤ 9223372036854775807 ∧ SB w ao c l := by
  rcases open_ints Try.underlying22 Try.underlying5 (by kernel_rfl) h with ⟨hcs, _⟩ | ⟨ad, len, cap, zs, hcs, _, hl, hm, hz, _, hcell, hwz⟩
  · exact ⟨none, 0, [], hcs, by simp, by simp, SB.nil w⟩
  · obtain ⟨l, h1, h2, h3, h4, _⟩ := row_SB (w := w) (a := some ad) (len := len) (cap := cap) (zs := zs) (.inr ⟨ad, rfl, hl, hm, by simpa using hz, hcell, hwz⟩)
    exact ⟨some ad, cap, l, by rw [← h1]; exact hcs, by omega, by omega, h4⟩
theorem int_wf {n : Int} (h : (Lit.int .i64 n).wf = true) : -9223372036854775808 ≤ n ∧ n ≤ 9223372036854775807 := by
  have h1 : IntKind.i64.min ≤ n ∧ n ≤ IntKind.i64.max := by simpa [Lit.wf] using h
  exact h1
theorem byte_wf {n : Int} (h : (Lit.int .u8 n).wf = true) : ∃ b : UInt8, n = (b.toNat : Int) := by
  have h1 : IntKind.u8.min = 0 := rfl
  have h2 : IntKind.u8.max = 255 := rfl
  simp only [Lit.wf, Bool.and_eq_true, decide_eq_true_eq] at h
  refine ⟨UInt8.ofNat n.toNat, ?_⟩
  have : ((n.toNat) % 256 : Nat) = n.toNat := Nat.mod_eq_of_lt (by omega)
  simp; omega
theorem cI : Try.prog.cellsOf 3 = 1 := by kernel_rfl
theorem cU : Try.prog.cellsOf 5 = 1 := by kernel_rfl
theorem cB : Try.prog.cellsOf 49 = 1 := by kernel_rfl
instance : Inhabited Act5 := ⟨⟨0, 0, 0, none, 0, []⟩⟩
def IsActs5 (w : World) (ao : Option Addr) (n : Nat) : Prop := n ≤ 9223372036854775807 ∧ ∃ l : List Act5, n = l.length ∧ AL5 w ao l
set_option maxRecDepth 100000 in
theorem openIsActs5 {a : Option Addr} {len cap : Nat} (h : DataW.trod enc Try.prog w base (fun _ => true) held fuel 58 (Value.slice a len cap).cells.toList = some x) : IsActs5 w a len := by
  rcases Go.Deep.open_slice Try.underlying58 h with ⟨hcs, _⟩ | ⟨ad, len', cap', m, n, D, Pl, hcs, _, hl, hm, hmm, _, hx⟩
  · simp [Value.cells] at hcs
    obtain ⟨rfl, rfl, rfl⟩ := hcs
    exact ⟨by omega, [], rfl, .inl rfl⟩
  · simp [Value.cells] at hcs
    obtain ⟨rfl, rfl, rfl⟩ := hcs
    simp only [if_true] at hmm
    subst hmm
    have hlen : len ≤ 9223372036854775807 := by unfold maxLen at hm; omega
    have each : ∀ i, i < len → ∃ q : Act5, q.fits w ∧ ∀ j v, q.cells[j]? = some v → w.cell? (ad.add (i * 4 + j)) = some v := by
      intro i hi
      obtain ⟨cs', h1, h2⟩ := hx i (by omega)
      rw [show Try.prog.cellsOf 65 = 4 by kernel_rfl] at h1
      obtain ⟨_, hl4, hcell⟩ := World.cells?_some h1
      obtain ⟨xs, k, hk, hxy, _, hxl, hf⟩ := DataW.trod_struct Try.underlying65 h2
      match xs, hxl, cs', hl4 with
      | [y0, y1, y2, y3], _, [v0, v1, v2, v3], _ =>
        have g0 : DataW.trod enc Try.prog w base (fun _ => true) held k 3 [v0] = some y0 := by have := hf 0 _ rfl; simpa [cI, cU, cB] using this
        have g1 : DataW.trod enc Try.prog w base (fun _ => true) held k 3 [v1] = some y1 := by have := hf 1 _ rfl; simpa [cI, cU, cB] using this
        have g2 : DataW.trod enc Try.prog w base (fun _ => true) held k 5 [v2] = some y2 := by have := hf 2 _ rfl; simpa [cI, cU, cB] using this
        have g3 : DataW.trod enc Try.prog w base (fun _ => true) held k 49 [v3] = some y3 := by have := hf 3 _ rfl; simpa [cI, cU, cB] using this
        obtain ⟨n0, e0, _, w0⟩ := DataW.trod_int Try.underlying3 g0
        obtain ⟨n1, e1, _, w1⟩ := DataW.trod_int Try.underlying3 g1
        obtain ⟨n2, e2, _, w2⟩ := DataW.trod_int Try.underlying5 g2
        obtain ⟨ko, kc, kl, e3, hkl, hbl⟩ := open_bl g3
        obtain ⟨b2, rfl⟩ := byte_wf w2
        simp at e0 e1 e2 e3
        subst e0; subst e1; subst e2; subst e3
        refine ⟨⟨n0, n1, b2, ko, kc, kl⟩, ⟨int_wf w0, int_wf w1, hbl, hkl⟩, fun j v hj => ?_⟩
        have hj4 : j < 4 := by have := (List.getElem?_eq_some_iff.1 hj).1; simpa [Act5.cells] using this
        have hc := hcell j hj4
        rw [Go.Deep.add_add] at hc
        rw [hc]; exact hj
    obtain ⟨q, hq⟩ := Go.Deep.choose_lt each
    refine ⟨hlen, (List.range len).map q, by simp, ?_⟩
    by_cases h0 : len = 0
    · subst h0; exact .inl rfl
    · obtain ⟨b, o, sp⟩ := ad
      have hc0 := (hq 0 (by omega)).2 0 _ rfl
      have hsp : sp = none := by simpa [Addr.add] using World.cell?_spot hc0
      subst hsp
      refine .inr ⟨b, o, rfl, fun i act ha => ?_⟩
      have hi : i < len := by have := (List.getElem?_eq_some_iff.1 ha).1; simpa using this
      have : act = q i := by simpa [hi] using ha.symm
      subst this
      refine ⟨(hq i hi).1, fun j v hv => ?_⟩
      have := (hq i hi).2 j v hv
      rw [Addr.add_mid] at this
      rw [Nat.add_assoc]; exact this
end
end Go.Proofs.Ytlondopgibcikaa
