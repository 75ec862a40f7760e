/- The kit's LongLists. -/
import Derived.Test.YtlondopgibcikaaRows
import Derived.Test.YtlondopgibcikaaHeap
import Derived.Test.YtlondopgibcikaaKit
import Derived.Test.YtlondopgibcikaaCrcV
import Derived.Test.YtlondopgibcikaaDev
import Derived.Test.YtlondopgibcikaaDevW
import Derived.Test.YtlondopgibcikaaDevV
import Derived.Test.YtlondopgibcikaaDevU
import Derived.Test.YtlondopgibcikaaDevT
import Derived.Test.YtlondopgibcikaaDevC
import Derived.Test.YtlondopgibcikaaLaw05
import Derived.Test.YtlondopgibcikaaLL
import Derived.Test.YtlondopgibcikaaSt
import Derived.Test.YtlondopgibcikaaSt2
import Derived.Test.YtlondopgibcikaaLogP
import Derived.Test.YtlondopgibcikaaLogW
import Derived.Test.YtlondopgibcikaaLogX
import Derived.Test.YtlondopgibcikaaLogY
import Derived.Test.YtlondopgibcikaaLogZ
import Derived.Test.YtlondopgibcikaaLogB
import Derived.Test.YtlondopgibcikaaLogS
import Derived.Test.YtlondopgibcikaaLogS2
import Derived.Test.YtlondopgibcikaaLogT
import Derived.Test.YtlondopgibcikaaLogT2
import Derived.Test.YtlondopgibcikaaLaw06
import Derived.Test.YtlondopgibcikaaLaw06b
import Derived.WalkKit
import Derived.WalkSpells
import Derived.WalkLawsBesides
import Derived.Deep.RegionHeld3
import Derived.Deep.QuietTactic
import Derived.BigQuiet
namespace Go.Proofs.Ytlondopgibcikaa
open Go.RowKit Ent


def longL (L : List (List UInt8)) (n m : Nat) : Bool := decide (n < L.length) || L.any fun l => decide (m < l.length)
theorem longL_no {L : List (List UInt8)} {n m : Nat} (h : longL L n m = false) : L.length ≤ n ∧ ∀ l ∈ L, l.length ≤ m := by
  simp [longL] at h
  exact ⟨h.1, h.2⟩
theorem longL_hit {L : List (List UInt8)} {n m k : Nat} {l : List UInt8} (h : L[k]? = some l) (hl : m < l.length) : longL L n m = true := by
  have : l ∈ L := List.mem_of_getElem? h
  simp only [longL, Bool.or_eq_true, List.any_eq_true, decide_eq_true_eq]
  exact .inr ⟨l, this, hl⟩
theorem longL_end {L : List (List UInt8)} {n m k : Nat} (hk : L.length ≤ k ∨ n < k) (h : ∀ i l, i < k → L[i]? = some l → l.length ≤ m) : longL L n m = decide (n < L.length) := by
  by_cases hn : n < L.length
  · simp [longL, hn]
  · have : (L.any fun l => decide (m < l.length)) = false := by
      rw [List.any_eq_false]
      intro l hl
      obtain ⟨i, hi⟩ := List.mem_iff_getElem?.1 hl
      have := (List.getElem?_eq_some_iff.1 hi).1
      have := h i l (by omega) hi
      simp; omega
    rw [longL, this, Bool.or_false]
set_option maxRecDepth 100000 in
set_option maxHeartbeats 400000 in
theorem longLists_any (ao : Option Addr) (q c : Nat) (L : List (List UInt8)) (n m : Nat) (hq : q = L.length) (hn : n ≤ 1048576) (hqb : q ≤ 9223372036854775807) (w : World) (hL : LR w ao L) :
    Calls Try.prog 72 #[.slice ao q c, .int .i64 n, .int .i64 m] w fun e w' => e = .returned (.bool (longL L n m)) ∧ w' = w := by
  have HQ := hid hq; have HL := hid hL
  clear hq hL
  go_enter Try.func72, Try.ntmps72
  go_wp2_with fail
  go_loopw [7] (fun i wr => ∃ k : Nat, k ≤ n + 1 ∧ k ≤ q ∧ i = .int .i64 k ∧ wr = w ∧ ∀ i l, i < k → L[i]? = some l → l.length ≤ m) (fun i _ => n + 1 - (intOf i).toNat)
  case atStart => exact ⟨0, by omega, by omega, rfl, rfl, fun i l h => by omega⟩
  case round =>
    obtain ⟨k, hk, hkq, rfl, rfl, hA⟩ := hrel
    have HA := hid hA
    clear hA
    by_cases h1 : k < q
    · by_cases h2 : k ≤ n
      · obtain ⟨l, hl⟩ : ∃ l, L[k]? = some l := ⟨_, List.getElem?_eq_getElem (by rw [← HQ.out]; exact h1)⟩
        obtain ⟨b1, o1, lo1, cap1, rfl, cx, hcap, hs1⟩ := HL.out.at hl
        have HLL := hid hl
        obtain ⟨u, hu⟩ : ∃ u, l.length = u := ⟨_, rfl⟩
        have HU := hid hu
        rw [hu] at cx
        clear hl hs1 hcap hu
        by_cases h3 : m < u
        · go_wp2
          go_ret
          exact ⟨by rw [longL_hit HLL.out (by rw [HU.out]; exact h3)]; rfl, rfl⟩
        · go_wp2
          go_roundw
          case rel => exact ⟨k + 1, by omega, by omega, by go_num, by trivial, fun i x hi hx => by
            by_cases hik : i = k
            · subst hik; rw [HLL.out] at hx; injection hx with hx; subst hx; rw [HU.out]; omega
            · exact HA.out i x (by omega) hx⟩
          case measure => simp [intOf]; omega
      · have HE : Hid (longL L n m = decide (n < q)) := hid (by rw [longL_end (.inr (show n < k by omega)) HA.out, ← HQ.out])
        have z : decide (n < q) = true := by simp; omega
        go_wp2
        go_ret
        exact ⟨by rw [HE.out, z]; rfl, rfl⟩
    · have hkq2 : k = q := by omega
      subst hkq2
      have HE : Hid (longL L n m = decide (n < k)) := hid (by rw [longL_end (.inl (by rw [← HQ.out]; exact Nat.le_refl _)) HA.out, ← HQ.out])
      by_cases h5 : n < k
      · go_wp2
        go_ret
        exact ⟨by rw [HE.out]; simp [h5], rfl⟩
      · go_wp2
        go_ret
        exact ⟨by rw [HE.out]; simp [h5], rfl⟩
end Go.Proofs.Ytlondopgibcikaa
