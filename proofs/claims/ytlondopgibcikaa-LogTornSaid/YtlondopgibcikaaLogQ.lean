/- The log, plainly: what a scan tells of records one behind the other. -/
import Derived.Test.YtlondopgibcikaaRows
import Derived.Test.YtlondopgibcikaaPlainCrc
import Derived.Test.YtlondopgibcikaaHeap
import Derived.Test.YtlondopgibcikaaDev
import Derived.Test.YtlondopgibcikaaLogP
import Derived.Test.YtlondopgibcikaaLogS
import Derived.Test.YtlondopgibcikaaLogT
namespace Go.Proofs.Ytlondopgibcikaa
open Go.RowKit Ent

/-! ### what is right -/
theorem sec_split (gen idx k : Nat) (p : List UInt8) : logSec gen idx k p = be4 (csum (secBody gen idx k p)).toNat ++ (be4 gen ++ (be4 idx ++ ([UInt8.ofNat k, UInt8.ofNat p.length] ++ (p ++ (zr (49 - p.length) ++ [165]))))) := rfl
theorem sec_12 (gen idx k : Nat) (p : List UInt8) : (logSec gen idx k p).getD 12 0 = UInt8.ofNat k := by
  rw [sec_split]; simp [be4]
theorem sec_13 (gen idx k : Nat) (p : List UInt8) : (logSec gen idx k p).getD 13 0 = UInt8.ofNat p.length := by
  rw [sec_split]; simp [be4]
theorem sec_14 (gen idx k : Nat) (p : List UInt8) : ((logSec gen idx k p).drop 14).take p.length = p := by
  rw [sec_split]; simp [be4]
theorem sec_63 {gen idx k : Nat} {p : List UInt8} (h : p.length ≤ 49) : (logSec gen idx k p)[63]? = some 165 := by
  have hl := logSec_len (gen := gen) (index := idx) (kind := k) h
  have h1 : logSec gen idx k p = (be4 (csum (secBody gen idx k p)).toNat ++ (be4 gen ++ (be4 idx ++ ([UInt8.ofNat k, UInt8.ofNat p.length] ++ (p ++ zr (49 - p.length)))))) ++ [165] := by
    rw [sec_split]; simp only [List.append_assoc]
  have h2 : (be4 (csum (secBody gen idx k p)).toNat ++ (be4 gen ++ (be4 idx ++ ([UInt8.ofNat k, UInt8.ofNat p.length] ++ (p ++ zr (49 - p.length)))))).length = 63 := by
    rw [h1, List.length_append] at hl; simpa using hl
  rw [h1, List.getElem?_append_right (by rw [h2]; exact Nat.le_refl _), h2]
  rfl
/-- may a sector be of this kind with a part of this length? -/
def fitK (k u : Nat) : Prop := 1 ≤ k ∧ k ≤ 4 ∧ u ≤ 49 ∧ (k = 2 ∨ k = 3 → u = 49) ∧ (k = 4 → u ≠ 0)
theorem nat8 {n : Nat} (h : n < 256) : (UInt8.ofNat n).toNat = n := by simp; omega
theorem right_sec {gen idx k : Nat} {p : List UInt8} (h : fitK k p.length) : rightOf (logSec gen idx k p) gen idx = some (k, p) := by
  obtain ⟨h1, h2, h3, h4, h5⟩ := h
  have hk := nat8 (n := k) (by omega)
  have hu := nat8 (n := p.length) (by omega)
  unfold rightOf
  simp only [sec_12, sec_13, hk, hu, sec_14]
  rw [if_neg (by omega), if_pos trivial]
theorem right_is {b : List UInt8} {gen idx k : Nat} {p : List UInt8} (h : rightOf b gen idx = some (k, p)) : b = logSec gen idx k p ∧ p.length ≤ 49 := by
  have h3 := (right_kind h).2.2
  unfold rightOf at h
  simp only at h
  split at h
  · cases h
  · split at h
    · rename_i hh
      injection h with h; injection h with ha hb
      subst ha; subst hb
      exact ⟨hh.symm, h3⟩
    · cases h
theorem sec_other {gen idx k gen' idx' k' : Nat} {p p' : List UInt8} (hg : gen < 4294967296) (hi : idx < 4294967296) (hg' : gen' < 4294967296) (hi' : idx' < 4294967296) (h : logSec gen idx k p = logSec gen' idx' k' p') : gen = gen' ∧ idx = idx' := by
  rw [sec_split, sec_split] at h
  have h1 := (List.append_inj h rfl).2
  have h2 := List.append_inj h1 rfl
  have h3 := List.append_inj h2.2 rfl
  exact ⟨be4_inj hg hg' h2.1, be4_inj hi hi' h3.1⟩
/-- a sector of another log, or of another place -/
theorem wrong_sec {gen idx k gen' idx' : Nat} {p : List UInt8} (hg : gen < 4294967296) (hi : idx < 4294967296) (hg' : gen' < 4294967296) (hi' : idx' < 4294967296) (h : gen ≠ gen' ∨ idx ≠ idx') : rightOf (logSec gen idx k p) gen' idx' = none := by
  rcases hr : rightOf (logSec gen idx k p) gen' idx' with _ | ⟨k', p'⟩
  · rfl
  · have := sec_other hg hi hg' hi' (right_is hr).1
    omega
theorem wrong_63 {b : List UInt8} {gen idx : Nat} (h : b[63]? ≠ some 165) : rightOf b gen idx = none := by
  rcases hr : rightOf b gen idx with _ | ⟨k', p'⟩
  · rfl
  · obtain ⟨h1, h2⟩ := right_is hr
    rw [h1] at h
    exact absurd (sec_63 h2) h
theorem wrong_zr (gen idx : Nat) : rightOf (zr 64) gen idx = none := wrong_63 (by simp [zr])

/-! ### scans -/
def scanS (S : Nat → List UInt8) (gen : Nat) : Nat → Nat → List (List UInt8) → Nat → List UInt8 → Bool → List (List UInt8) × Nat
  | 0, _, out, next, _, _ => (out, next)
  | m + 1, i, out, next, rec, begun =>
    match rightOf (S i) gen i with
    | none => (out, next)
    | some (k, p) =>
      if begun ≠ decide (k = 3 ∨ k = 4) then (out, next)
      else if k = 2 ∨ k = 3 then scanS S gen m (i + 1) out next (rec ++ p) true
      else scanS S gen m (i + 1) (out ++ [rec ++ p]) (i + 1) [] false
theorem scanLoop_S (d : Dev) (base gen : Nat) : ∀ (m i : Nat) (out : List (List UInt8)) (next : Nat) (rec : List UInt8) (b : Bool), scanLoop d base gen m i out next rec b = scanS (fun i => (d.read ((base + i : Nat) : Int)).1) gen m i out next rec b
  | 0, _, _, _, _, _ => rfl
  | m + 1, i, out, next, rec, b => by
    rw [scanLoop, scanS]
    rcases rightOf (d.read ((base + i : Nat) : Int)).1 gen i with _ | ⟨k, p⟩
    · rfl
    · simp only [scanLoop_S d base gen m]
theorem scanS_stop {S : Nat → List UInt8} {gen m i : Nat} {out : List (List UInt8)} {next : Nat} {rec : List UInt8} {b : Bool} (h : rightOf (S i) gen i = none) : scanS S gen m i out next rec b = (out, next) := by
  cases m
  · rfl
  · rw [scanS, h]
/-- the j-th sector of a record that lies at at_ -/
def recSec (gen at_ : Nat) (rec : List UInt8) (j : Nat) : List UInt8 := logSec gen (at_ + j) (kindOf j (needOf rec.length)) ((rec.drop (49 * j)).take 49)
theorem part_fit (rec : List UInt8) {j : Nat} (h : j < needOf rec.length) : fitK (kindOf j (needOf rec.length)) ((rec.drop (49 * j)).take 49).length := by
  have hl : ((rec.drop (49 * j)).take 49).length = min 49 (rec.length - 49 * j) := by simp
  rw [hl]
  unfold needOf at h ⊢
  unfold kindOf fitK
  split at h <;> rename_i h0
  · have : j = 0 := by omega
    subst this
    simp [h0]
  · rw [if_neg h0]
    split
    · omega
    · split
      · omega
      · split <;> omega
theorem right_rec (gen at_ : Nat) (rec : List UInt8) {j : Nat} (h : j < needOf rec.length) : rightOf (recSec gen at_ rec j) gen (at_ + j) = some (kindOf j (needOf rec.length), (rec.drop (49 * j)).take 49) := right_sec (part_fit rec h)
theorem take_part (rec : List UInt8) (j : Nat) : rec.take (49 * j) ++ (rec.drop (49 * j)).take 49 = rec.take (49 * (j + 1)) := by
  rw [show 49 * (j + 1) = 49 * j + 49 by omega, List.take_add]
theorem take_all (rec : List UInt8) : rec.take (49 * needOf rec.length) = rec := by
  apply List.take_of_length_le
  unfold needOf; split <;> omega
/-- within a record -/
theorem scan_part {S : Nat → List UInt8} {gen at_ : Nat} {rec : List UInt8} {out : List (List UInt8)} : ∀ (j m : Nat), j < needOf rec.length → (∀ i, i < j → S (at_ + i) = recSec gen at_ rec i) →
    scanS S gen (j + m) at_ out at_ [] false = scanS S gen m (at_ + j) out at_ (rec.take (49 * j)) (decide (0 < j)) := by
  intro j
  induction j with
  | zero => intro m _ _; simp
  | succ j ih =>
    intro m hj hS
    rw [show j + 1 + m = j + (m + 1) by omega, ih (m + 1) (by omega) (fun i hi => hS i (by omega)), scanS, hS j (by omega), right_rec gen at_ rec (by omega)]
    have hk : kindOf j (needOf rec.length) = if j = 0 then 2 else 3 := by
      unfold kindOf; rw [if_neg (by omega)]
      split
      · rfl
      · rw [if_neg (by omega)]
    simp only [hk]
    by_cases h0 : j = 0
    · subst h0; simp
    · have hd : decide (0 < j) = true := by simp; omega
      simp [h0, hd, take_part, ← Nat.add_assoc]
/-- over a record -/
theorem scan_rec {S : Nat → List UInt8} {gen at_ : Nat} {rec : List UInt8} {out : List (List UInt8)} (m : Nat) (hS : ∀ i, i < needOf rec.length → S (at_ + i) = recSec gen at_ rec i) :
    scanS S gen (needOf rec.length + m) at_ out at_ [] false = scanS S gen m (at_ + needOf rec.length) (out ++ [rec]) (at_ + needOf rec.length) [] false := by
  have hp := needOf_pos rec.length
  obtain ⟨j, hj⟩ : ∃ j, needOf rec.length = j + 1 := ⟨needOf rec.length - 1, by omega⟩
  rw [show needOf rec.length + m = j + (m + 1) by omega, scan_part j (m + 1) (by omega) (fun i hi => hS i (by omega)), scanS, hS j (by omega), right_rec gen at_ rec (by omega)]
  have ht := take_all rec
  rw [hj, ← take_part] at ht
  have hk : kindOf j (needOf rec.length) = if j = 0 then 1 else 4 := by
    unfold kindOf
    by_cases h0 : j = 0
    · rw [if_pos (by omega), if_pos h0]
    · rw [if_neg (by omega), if_neg h0, if_pos (by omega), if_neg h0]
  simp only [hk]
  by_cases h0 : j = 0
  · subst h0; simp at ht ⊢; rw [hj]; simp [ht]
  · have hd : decide (0 < j) = true := by simp; omega
    rw [if_neg h0, hd]
    simp only [hj, ht, ← Nat.add_assoc]
    simp
/-! ### records one behind the other -/
def needsOf : List (List UInt8) → Nat
  | [] => 0
  | r :: L => needOf r.length + needsOf L
theorem needsOf_snoc (L : List (List UInt8)) (r : List UInt8) : needsOf (L ++ [r]) = needsOf L + needOf r.length := by
  induction L with
  | nil => simp [needsOf]
  | cons x L ih => simp [needsOf, ih]; omega
/-- do these records lie in the sectors from at_ on? -/
def LiesIn (S : Nat → List UInt8) (gen : Nat) : Nat → List (List UInt8) → Prop
  | _, [] => True
  | at_, r :: L => (∀ j, j < needOf r.length → S (at_ + j) = recSec gen at_ r j) ∧ LiesIn S gen (at_ + needOf r.length) L
theorem scan_recs {S : Nat → List UInt8} {gen : Nat} (m : Nat) : ∀ (L : List (List UInt8)) (at_ : Nat) (out : List (List UInt8)), LiesIn S gen at_ L →
    scanS S gen (needsOf L + m) at_ out at_ [] false = scanS S gen m (at_ + needsOf L) (out ++ L) (at_ + needsOf L) [] false
  | [], at_, out, _ => by simp [needsOf]
  | r :: L, at_, out, h => by
    rw [show needsOf (r :: L) + m = needOf r.length + (needsOf L + m) by simp [needsOf]; omega, scan_rec _ h.1, scan_recs m L _ _ h.2]
    simp [needsOf, Nat.add_assoc]
theorem LiesIn.snoc {S : Nat → List UInt8} {gen : Nat} : ∀ {L : List (List UInt8)} {at_ : Nat} {r : List UInt8}, LiesIn S gen at_ L → (∀ j, j < needOf r.length → S (at_ + needsOf L + j) = recSec gen (at_ + needsOf L) r j) → LiesIn S gen at_ (L ++ [r])
  | [], at_, r, _, h2 => by exact ⟨by simpa [needsOf] using h2, trivial⟩
  | x :: L, at_, r, h, h2 => by
    refine ⟨h.1, LiesIn.snoc h.2 ?_⟩
    intro j hj
    have := h2 j hj
    simpa [needsOf, Nat.add_assoc] using this
theorem LiesIn.same {S T : Nat → List UInt8} {gen : Nat} : ∀ {L : List (List UInt8)} {at_ : Nat}, LiesIn S gen at_ L → (∀ i, at_ ≤ i → i < at_ + needsOf L → T i = S i) → LiesIn T gen at_ L
  | [], _, _, _ => trivial
  | x :: L, at_, h, h2 => by
    refine ⟨fun j hj => ?_, h.2.same fun i h3 h4 => h2 i (by omega) (by simp [needsOf]; omega)⟩
    rw [h2 (at_ + j) (by omega) (by simp [needsOf]; omega)]
    exact h.1 j hj
/-- whatever lies in a sector of records lies there under its own index -/
theorem LiesIn.at {S : Nat → List UInt8} {gen : Nat} : ∀ {L : List (List UInt8)} {at_ : Nat}, LiesIn S gen at_ L → ∀ i, at_ ≤ i → i < at_ + needsOf L → ∃ k p, S i = logSec gen i k p
  | [], at_, _, i, h1, h2 => by simp [needsOf] at h2; omega
  | x :: L, at_, h, i, h1, h2 => by
    by_cases hi : i < at_ + needOf x.length
    · refine ⟨kindOf (i - at_) (needOf x.length), ((x.drop (49 * (i - at_))).take 49), ?_⟩
      have := h.1 (i - at_) (by omega)
      rw [show at_ + (i - at_) = i by omega] at this
      rw [this, recSec, show at_ + (i - at_) = i by omega]
    · exact h.2.at i (by omega) (by simp [needsOf] at h2; omega)
/-- a scan from the start, behind which nothing right lies -/
theorem scan_all {S : Nat → List UInt8} {gen m : Nat} {L : List (List UInt8)} (h : LiesIn S gen 0 L) (hm : needsOf L ≤ m) (hz : needsOf L < m → rightOf (S (needsOf L)) gen (needsOf L) = none) : scanS S gen m 0 [] 0 [] false = (L, needsOf L) := by
  have h1 := scan_recs (m - needsOf L) L 0 [] h
  rw [show needsOf L + (m - needsOf L) = m by omega] at h1
  rw [h1]
  simp only [Nat.zero_add, List.nil_append]
  by_cases hlt : needsOf L < m
  · exact scanS_stop (hz hlt)
  · rw [show m - needsOf L = 0 by omega]; rfl
/-- .. behind which a record lies that was not finished -/
theorem scan_torn {S : Nat → List UInt8} {gen m j : Nat} {L : List (List UInt8)} {r : List UInt8} (h : LiesIn S gen 0 L) (hj : j < needOf r.length) (hm : needsOf L + j < m) (hp : ∀ i, i < j → S (needsOf L + i) = recSec gen (needsOf L) r i) (hz : rightOf (S (needsOf L + j)) gen (needsOf L + j) = none) : scanS S gen m 0 [] 0 [] false = (L, needsOf L) := by
  have h1 := scan_recs (m - needsOf L) L 0 [] h
  rw [show needsOf L + (m - needsOf L) = m by omega] at h1
  rw [h1]
  simp only [Nat.zero_add, List.nil_append]
  have h2 := scan_part (S := S) (gen := gen) (at_ := needsOf L) (rec := r) (out := L) j (m - needsOf L - j) hj hp
  rw [show j + (m - needsOf L - j) = m - needsOf L by omega] at h2
  rw [h2]
  exact scanS_stop hz
end Go.Proofs.Ytlondopgibcikaa
