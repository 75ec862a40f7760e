/- DeviceFlush: the plain law. -/
import Derived.Test.YtlondopgibcikaaRows
import Derived.Test.YtlondopgibcikaaKit
import Derived.Test.YtlondopgibcikaaDev
import Derived.Test.YtlondopgibcikaaDevC
import Derived.Test.YtlondopgibcikaaLaw05
import Derived.Test.YtlondopgibcikaaDevKnown
import Derived.Test.YtlondopgibcikaaDevCrashW
namespace Go.Proofs.Ytlondopgibcikaa
open Go.RowKit Ent

def dA (ats : List Nat) (k : Nat) : Dev := { Dev.new 6 with loose := wl ats k }
def dC (ats : List Nat) (f k : Nat) : Dev := if k ≤ f then { Dev.new 6 with loose := wl ats k, fuse := some (f - k) } else { Dev.new 6 with loose := wl ats f, fuse := some 0, out := true }
theorem new_len (n : Nat) : (Dev.new n).img.length = n := by simp [Dev.new]
theorem put_a (ats : List Nat) (k : Nat) (h : ats.getD k 0 < 6) : putB (dA ats k) (ats.getD k 0 : Nat) (UInt8.ofNat (k + 1)) = true ∧ putD (dA ats k) (ats.getD k 0 : Nat) (UInt8.ofNat (k + 1)) = dA ats (k + 1) := by
  have := put_plain (dA ats k) (ats.getD k 0) (UInt8.ofNat (k + 1)) rfl rfl (by show _ < (Dev.new 6).img.length; rw [new_len]; exact h)
  refine ⟨this.1, this.2.trans ?_⟩
  unfold dA; rw [wl_succ]
theorem put_c (ats : List Nat) (f k : Nat) (h : ats.getD k 0 < 6) : putB (dC ats f k) (ats.getD k 0 : Nat) (UInt8.ofNat (k + 1)) = decide (k < f) ∧ putD (dC ats f k) (ats.getD k 0 : Nat) (UInt8.ofNat (k + 1)) = dC ats f (k + 1) := by
  unfold putB putD
  by_cases h1 : k < f
  · obtain ⟨j, hj⟩ : ∃ j, f - k = j + 1 := ⟨f - k - 1, by omega⟩
    have e1 : dC ats f k = { Dev.new 6 with loose := wl ats k, fuse := some (j + 1) } := by unfold dC; rw [if_pos (by omega), hj]
    have e2 : dC ats f (k + 1) = { Dev.new 6 with loose := wl ats (k + 1), fuse := some j } := by unfold dC; rw [if_pos (by omega), show f - (k + 1) = j by omega]
    rw [e1, e2]
    unfold Dev.write
    rw [show has ({ Dev.new 6 with loose := wl ats k, fuse := some (j + 1) } : Dev).img.length (ats.getD k 0 : Nat) = true from has_yes (by show _ < (Dev.new 6).img.length; rw [new_len]; exact h)]
    simp [Dev.new, Dev.through, h1, wl_succ]
  · by_cases h2 : k = f
    · subst h2
      have e1 : dC ats k k = { Dev.new 6 with loose := wl ats k, fuse := some 0 } := by unfold dC; rw [if_pos (by omega), Nat.sub_self]
      have e2 : dC ats k (k + 1) = { Dev.new 6 with loose := wl ats k, fuse := some 0, out := true } := by unfold dC; rw [if_neg (by omega)]
      rw [e1, e2]
      unfold Dev.write
      rw [show has ({ Dev.new 6 with loose := wl ats k, fuse := some 0 } : Dev).img.length (ats.getD k 0 : Nat) = true from has_yes (by show _ < (Dev.new 6).img.length; rw [new_len]; exact h)]
      simp [Dev.new, Dev.through]
    · have e1 : dC ats f k = { Dev.new 6 with loose := wl ats f, fuse := some 0, out := true } := by unfold dC; rw [if_neg (by omega)]
      have e2 : dC ats f (k + 1) = { Dev.new 6 with loose := wl ats f, fuse := some 0, out := true } := by unfold dC; rw [if_neg (by omega)]
      rw [e1, e2]
      unfold Dev.write
      simp [h1]
theorem c_out (ats : List Nat) (f m : Nat) : (dC ats f m).out = decide (f < m) := by
  unfold dC
  by_cases h : m ≤ f
  · rw [if_pos h]; simp [Dev.new]; exact h
  · rw [if_neg h]; simp; omega
theorem kept_none : ∀ (l : List (Nat × List UInt8)) (s : Nat), keptOf [] s l = []
  | [], _ => by simp [keptOf]
  | x :: l, s => by
    unfold keptOf
    rw [List.getElem?_nil, if_neg (fun h => by cases h)]; exact kept_none l (s + 1)
theorem kept_all (m : Nat) : ∀ (l : List (Nat × List UInt8)) (s : Nat), s + l.length ≤ m → keptOf (List.replicate m true) s l = l ∧ lastOf (List.replicate m true) s l = none
  | [], _, _ => ⟨by simp [keptOf], by simp [lastOf]⟩
  | x :: l, s, h => by
    rw [List.length_cons] at h
    obtain ⟨h1, h2⟩ := kept_all m l (s + 1) (by omega)
    have hs : (List.replicate m true)[s]? = some true := by rw [List.getElem?_replicate, if_pos (by omega)]
    constructor
    · unfold keptOf
      rw [if_pos hs, h1]
    · unfold lastOf
      rw [h2]
      simp only
      rw [if_pos hs]
theorem torn_nil (L : List (List UInt8)) (x : Option (Nat × List UInt8)) : tornIn L x 0 = L := by
  cases x with
  | none => rfl
  | some x =>
    simp only [tornIn, List.take_zero, List.nil_append, List.drop_zero]
    apply List.ext_getElem?
    intro j
    rw [List.getElem?_set]
    by_cases h : x.1 = j
    · subst h
      rw [if_pos rfl]
      by_cases hl : x.1 < L.length
      · rw [if_pos hl]; simp [List.getD, hl]
      · rw [if_neg hl, List.getElem?_eq_none (by omega)]
    · rw [if_neg h]
theorem c_crash (ats : List Nat) (f m : Nat) : ((dC ats f m).crash [] 0).1 = 0 ∧ ((dC ats f m).crash [] 0).2 = Dev.new 6 := by
  have hi : (dC ats f m).img = (Dev.new 6).img := by unfold dC; split <;> rfl
  unfold Dev.crash
  rw [if_neg (by omega), kept_none]
  refine ⟨rfl, ?_⟩
  show ({ img := tornIn (laidOver (dC ats f m).img []) _ 0, loose := [], fuse := none, out := false } : Dev) = _
  rw [torn_nil, hi]; rfl
def dF (ats : List Nat) (m : Nat) : Dev := { img := (dA ats m).now, loose := [], fuse := none, out := false }
theorem a_flush (ats : List Nat) (m : Nat) : (dA ats m).flush = (0, dF ats m) := rfl
theorem b_crash (ats : List Nat) (m : Nat) : (dA ats m).crash (List.replicate m true) 0 = (0, dF ats m) := by
  obtain ⟨h1, h2⟩ := kept_all m (wl ats m) 0 (by rw [wl_len]; omega)
  unfold Dev.crash
  rw [if_neg (by omega)]
  show (0, ({ img := tornIn (laidOver (dA ats m).img (keptOf (List.replicate m true) 0 (wl ats m))) (lastOf (List.replicate m true) 0 (wl ats m)) 0, loose := [], fuse := none, out := false } : Dev)) = _
  rw [torn_nil, h1]; rfl
theorem f_len (ats : List Nat) (m : Nat) : (dF ats m).img.length = 6 := by
  show (dA ats m).now.length = 6
  rw [Dev.now_len]; exact new_len 6
theorem f_image (ats : List Nat) (m i : Nat) (h : i < 6) : ((dF ats m).image i).2 = 0 := by
  unfold Dev.image secOf; rw [f_len, has_yes h]; rfl
theorem c_image (i : Nat) (h : i < 6) : imageB (Dev.new 6) i 0 64 0 = true := by
  have : ∀ i : Fin 6, imageB (Dev.new 6) (i.val : Int) 0 64 0 = true := by decide +kernel
  exact this ⟨i, h⟩
end Go.Proofs.Ytlondopgibcikaa
