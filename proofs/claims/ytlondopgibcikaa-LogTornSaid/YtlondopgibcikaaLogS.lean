/- The walk of the log's Write. (Printed by wip/log3.py.) -/
import Derived.Test.YtlondopgibcikaaRows
import Derived.Test.YtlondopgibcikaaHeap
import Derived.Test.YtlondopgibcikaaKit
import Derived.Test.YtlondopgibcikaaCrcV
import Derived.Test.YtlondopgibcikaaDev
import Derived.Test.YtlondopgibcikaaDevW
import Derived.Test.YtlondopgibcikaaDevV
import Derived.Test.YtlondopgibcikaaDevU
import Derived.Test.YtlondopgibcikaaDevT
import Derived.Test.YtlondopgibcikaaDevC
import Derived.Test.YtlondopgibcikaaLaw05
import Derived.Test.YtlondopgibcikaaLL
import Derived.Test.YtlondopgibcikaaTurn
import Derived.Test.YtlondopgibcikaaRef5
import Derived.Test.YtlondopgibcikaaRef5b
import Derived.Test.YtlondopgibcikaaSt
import Derived.Test.YtlondopgibcikaaSt2
import Derived.Test.YtlondopgibcikaaAct5
import Derived.Test.YtlondopgibcikaaLogP
import Derived.Test.YtlondopgibcikaaLogW
import Derived.Test.YtlondopgibcikaaLogX
import Derived.Test.YtlondopgibcikaaLogY
import Derived.Test.YtlondopgibcikaaLogZ
import Derived.Test.YtlondopgibcikaaLogB
import Derived.Test.YtlondopgibcikaaChunk
import Derived.Test.YtlondopgibcikaaParts
import Derived.WalkKit
import Derived.WalkSpells
import Derived.WalkLawsBesides
import Derived.Deep.RegionHeld3
import Derived.Deep.QuietTactic
import Derived.BigQuiet
namespace Go.Proofs.Ytlondopgibcikaa
open Go.RowKit Ent

/-- a record's parts -/
def partsOf (rec : List UInt8) : List (List UInt8) := (List.range (needOf rec.length)).map fun j => (rec.drop (49 * j)).take 49
theorem partsOf_len (rec : List UInt8) : (partsOf rec).length = needOf rec.length := by simp [partsOf]
theorem partsOf_at (rec : List UInt8) {j : Nat} (h : j < needOf rec.length) : (partsOf rec)[j]? = some ((rec.drop (49 * j)).take 49) := by simp [partsOf, h]
theorem partsOf_49 (rec : List UInt8) {j : Nat} {p : List UInt8} (h : (partsOf rec)[j]? = some p) : p.length ≤ 49 := by
  have hj := (List.getElem?_eq_some_iff.1 h).1
  rw [partsOf_len] at hj
  rw [partsOf_at rec hj] at h
  injection h with h; subst h; simp; omega
theorem needOf_pos (n : Nat) : 1 ≤ needOf n := by unfold needOf; split <;> omega
theorem needOf_le {n : Nat} (h : n ≤ 1048576) : needOf n ≤ 21400 := by unfold needOf; split <;> omega
set_option maxRecDepth 100000 in
theorem parts_any (ao : Option Addr) (n c : Nat) (rec : List UInt8) (hn : n = rec.length) (hb : n ≤ 1048576) (hc : n ≤ c) (w : World) (hs : SB w ao c rec) :
    Calls Try.prog 114 #[.slice ao n c] w fun e w' => ∃ v vs, e = .returned v ∧ w'.ownsRow w.heap.size 22 1 v (needOf n) vs ∧ RowS w' (fun k => ∃ x, ao = some x ∧ k = x.block) vs (partsOf rec) ∧ Below w.heap.size w w' := by
  subst hn
  by_cases h0 : rec = []
  · subst h0
    refine ((callsIn_wide (n := 3)).1 (parts_in Fence.wide 3 trivial trivial trivial rfl (Nat.le_refl _) 0 0 0 c ao (.inl rfl) (by omega) (by omega) w)).mono ?_
    rintro e w' ⟨v, he, ho, hbe⟩
    rw [if_pos rfl] at ho
    refine ⟨v, _, he, ho, ⟨rfl, fun i v l hv hl => ?_⟩, hbe⟩
    match i, hv, hl with
    | 0, hv, hl =>
      simp [partsOf, needOf] at hv hl
      subst hv; subst hl
      exact ⟨none, 0, rfl, Nat.le_refl _, SB.nil _, fun x hx => by cases hx⟩
    | i + 1, hv, hl => simp at hv
  · have hne : rec.length ≠ 0 := fun h => h0 (List.eq_nil_of_length_eq_zero h)
    rcases hs with ⟨_, _, h⟩ | ⟨_, _, h⟩ | ⟨b, o, rfl, hr⟩
    · exact absurd h h0
    · exact absurd h h0
    · refine ((callsIn_wide (n := 3)).1 (parts_in Fence.wide 3 trivial trivial trivial rfl (Nat.le_refl _) b o rec.length c _ (.inr rfl) (by omega) hc w)).mono ?_
      rintro e w' ⟨v, he, ho, hbe⟩
      rw [if_neg hne] at ho
      have hq : needOf rec.length = q49 rec.length := by unfold needOf; rw [if_neg hne]; rfl
      have hr' := (Keep.ofBelow (F := fun _ => False) hbe).range hr id
      refine ⟨v, _, he, ho, ⟨by rw [List.length_map, pieces_len, partsOf_len, hq], fun i v l hv hl => ?_⟩, hbe⟩
      have hi := (List.getElem?_eq_some_iff.1 hl).1
      rw [partsOf_len] at hi
      rw [partsOf_at rec hi] at hl
      injection hl with hl; subst hl
      have hv2 : v = .slice (some ⟨b, o + 49 * i, none⟩) (min 49 (rec.length - 49 * i)) (min 49 (rec.length - 49 * i)) := by
        rw [hq] at hi
        simp [pieces, encV, hi] at hv
        exact hv.symm
      subst hv2
      have hl : ((rec.drop (49 * i)).take 49).length = min 49 (rec.length - 49 * i) := by simp
      refine ⟨some ⟨b, o + 49 * i, none⟩, min 49 (rec.length - 49 * i), by rw [hl], by rw [hl]; exact Nat.le_refl _, .inr (.inr ⟨b, o + 49 * i, rfl, fun j u hu => ?_⟩), fun x hx => by cases hx; exact ⟨_, rfl, rfl⟩⟩
      rw [Nat.add_assoc]
      refine hr' (49 * i + j) u ?_
      rw [bv_get] at hu ⊢
      rw [List.getElem?_take] at hu
      split at hu
      · rwa [List.getElem?_drop] at hu
      · cases hu
/-- a record's sectors are written -/
def writeLoop (gen at_ base many : Nat) : Nat → List (List UInt8) → Dev → Int × Dev
  | _, [], d => (0, d)
  | i, p :: ps, d => if (d.write ((base + at_ + i : Nat) : Int) (logSec gen (at_ + i) (kindOf i many) p)).1 ≠ 0 then d.write ((base + at_ + i : Nat) : Int) (logSec gen (at_ + i) (kindOf i many) p)
    else writeLoop gen at_ base many (i + 1) ps (d.write ((base + at_ + i : Nat) : Int) (logSec gen (at_ + i) (kindOf i many) p)).2
def logWrite (d : Dev) (f t g at_ : Int) (rec : List UInt8) : (Int × Int) × Dev :=
  if checkOf d f t g ≠ 0 then ((0, checkOf d f t g), d)
  else if at_ < 0 ∨ t - f < at_ then ((0, 3), d)
  else if 1048576 < rec.length then ((0, 4), d)
  else if t - f - at_ < needOf rec.length then ((0, 10), d)
  else if (writeLoop g.toNat at_.toNat f.toNat (needOf rec.length) 0 (partsOf rec) d).1 ≠ 0 then ((0, (writeLoop g.toNat at_.toNat f.toNat (needOf rec.length) 0 (partsOf rec) d).1), (writeLoop g.toNat at_.toNat f.toNat (needOf rec.length) 0 (partsOf rec) d).2)
  else ((at_ + needOf rec.length, 0), (writeLoop g.toNat at_.toNat f.toNat (needOf rec.length) 0 (partsOf rec) d).2)
theorem sb_keepE {w w' : World} {F : Nat → Prop} {ao : Option Addr} {cap : Nat} {l : List UInt8} (h : SB w ao cap l) (hk : Keep F w w') (hF : l ≠ [] → ∀ a, ao = some a → ¬ F a.block) : SB w' ao cap l := by
  by_cases hl : l = []
  · subst hl
    rcases ao with _ | a
    · rcases h with ⟨_, h, _⟩ | ⟨_, h, _⟩ | ⟨_, _, h, _⟩
      · exact .inl ⟨rfl, h, rfl⟩
      · cases h
      · cases h
    · exact .inr (.inl ⟨a, rfl, rfl⟩)
  · exact h.keep hk (hF hl)
theorem parts_ne {rec : List UInt8} {k : Nat} {p : List UInt8} (h : (partsOf rec)[k]? = some p) (hp : p ≠ []) : rec ≠ [] := by
  rintro rfl
  have hk := (List.getElem?_eq_some_iff.1 h).1
  rw [partsOf_len] at hk
  rw [partsOf_at [] hk] at h
  injection h with h
  exact hp (by rw [← h]; simp)
theorem wpo_allocS {o : Oper} {a : Act} {w : World} {K : Act → World → Prop} {Q : Exit → Act → World → Prop} (ho : o.op = .alloc 145)
    (h : ∀ g w', g = w.heap.size → Below w.heap.size w w' → Blk w' g 145 (bv (zr 64)) → K (a.put o.dst (.pointer (some ⟨g, 0, none⟩))) w') : o.wp Try.prog a w K Q := by
  have hz : (zeroValue 145).run Try.prog w = .ok (.agg (bv (zr 64)).toArray) w := by kernel_rfl
  unfold Oper.wp execOp
  simp only [ho]
  simp [newVar, newRow, newObj, hz, Sem.run_bind, Value.cells, go_sem]
  exact h _ _ rfl (fresh_alloc w _) (alloc_new w _)
end Go.Proofs.Ytlondopgibcikaa
