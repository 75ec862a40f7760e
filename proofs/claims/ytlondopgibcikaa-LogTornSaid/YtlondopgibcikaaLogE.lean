/- Plainly: what a log has behind a crash within one record; a record of sectors. -/
import Derived.Test.YtlondopgibcikaaRows
import Derived.Test.YtlondopgibcikaaPlainCrc
import Derived.Test.YtlondopgibcikaaHeap
import Derived.Test.YtlondopgibcikaaDev
import Derived.Test.YtlondopgibcikaaLogP
import Derived.Test.YtlondopgibcikaaLogY
import Derived.Test.YtlondopgibcikaaLogB
import Derived.Test.YtlondopgibcikaaLogS
import Derived.Test.YtlondopgibcikaaLogT
import Derived.Test.YtlondopgibcikaaLogQ
import Derived.Test.YtlondopgibcikaaLaw06
import Derived.Test.YtlondopgibcikaaLogR
import Derived.Test.YtlondopgibcikaaLogD
namespace Go.Proofs.Ytlondopgibcikaa
open Go.RowKit Ent

theorem kept_run (keep : List Bool) (base : Nat) (g : Nat → List UInt8) : ∀ (m i : Nat) (img : List (List UInt8)), base + i + m ≤ img.length → ∀ x,
    (laidOver img (keptOf keep i (runW base g i m)))[x]? = if (base + i ≤ x ∧ x < base + i + m) ∧ keep[x - base]? = some true then some (g (x - base)) else img[x]? := by
  intro m
  induction m with
  | zero => intro i img _ x; rw [if_neg (by omega)]; rfl
  | succ m ih =>
    intro i img hl x
    rw [show runW base g i (m + 1) = (base + i, g i) :: runW base g (i + 1) m by simp [runW, List.range'_succ]]
    rw [keptOf]
    by_cases hk : keep[i]? = some true
    · rw [if_pos hk]
      show (laidOver (img.set (base + i) (g i)) (keptOf keep (i + 1) (runW base g (i + 1) m)))[x]? = _
      rw [ih (i + 1) _ (by simp; omega), List.getElem?_set]
      by_cases h1 : base + i = x
      · subst h1
        rw [if_neg (by omega), if_pos rfl, if_pos (by omega), if_pos ⟨by omega, by rw [Nat.add_sub_cancel_left]; exact hk⟩, Nat.add_sub_cancel_left]
      · by_cases h2 : (base + (i + 1) ≤ x ∧ x < base + (i + 1) + m) ∧ keep[x - base]? = some true
        · rw [if_pos h2, if_pos ⟨by omega, h2.2⟩]
        · rw [if_neg h2, if_neg h1, if_neg (fun h3 => h2 ⟨by omega, h3.2⟩)]
    · rw [if_neg hk, ih (i + 1) _ (by omega)]
      by_cases h1 : base + i = x
      · subst h1
        rw [if_neg (by omega), if_neg (fun h3 => hk (by rw [Nat.add_sub_cancel_left] at h3; exact h3.2))]
      · by_cases h2 : (base + (i + 1) ≤ x ∧ x < base + (i + 1) + m) ∧ keep[x - base]? = some true
        · rw [if_pos h2, if_pos ⟨by omega, h2.2⟩]
        · rw [if_neg h2, if_neg (fun h3 => h2 ⟨by omega, h3.2⟩)]
theorem last_run (keep : List Bool) (base : Nat) (g : Nat → List UInt8) : ∀ (m i : Nat),
    (lastOf keep i (runW base g i m) = none ∧ ∀ j, i ≤ j → j < i + m → keep[j]? = some true) ∨
    ∃ j, i ≤ j ∧ j < i + m ∧ keep[j]? ≠ some true ∧ lastOf keep i (runW base g i m) = some (base + j, g j) := by
  intro m
  induction m with
  | zero => intro i; exact .inl ⟨rfl, fun j h1 h2 => by omega⟩
  | succ m ih =>
    intro i
    rw [show runW base g i (m + 1) = (base + i, g i) :: runW base g (i + 1) m by simp [runW, List.range'_succ]]
    rw [lastOf]
    rcases ih (i + 1) with ⟨h1, h2⟩ | ⟨j, h1, h2, h3, h4⟩
    · rw [h1]
      by_cases hk : keep[i]? = some true
      · refine .inl ⟨by simp [hk], fun j h3 h4 => ?_⟩
        by_cases hj : j = i
        · subst hj; exact hk
        · exact h2 j (by omega) (by omega)
      · exact .inr ⟨i, Nat.le_refl _, by omega, hk, by simp [hk]⟩
    · rw [h4]
      exact .inr ⟨j, by omega, by omega, h3, rfl⟩
theorem runW_len (base : Nat) (g : Nat → List UInt8) (i k : Nat) : (runW base g i k).length = k := by simp [runW]
/-- behind a crash -/
def crashed (d : Dev) (ws : List (Nat × List UInt8)) (keep : List Bool) (t : Nat) : Dev := { img := tornIn (laidOver d.img (keptOf keep 0 ws)) (lastOf keep 0 ws) t, loose := [], fuse := none, out := false }
theorem crash_is {d : Dev} {ws : List (Nat × List UInt8)} (hl : d.loose = []) {keep : List Bool} {t : Nat} (ht : t < 64) : ({ d with loose := d.loose ++ ws } : Dev).crash keep (t : Int) = (0, crashed d ws keep t) := by
  unfold Dev.crash crashed
  rw [if_neg (by omega), hl]
  simp
theorem tornIn_len (L : List (List UInt8)) (x : Option (Nat × List UInt8)) (t : Nat) : (tornIn L x t).length = L.length := by
  rcases x with _ | x
  · rfl
  · simp [tornIn]
section
variable {d : Dev} {n f t g : Nat} {L : List (List UInt8)} {r : List UInt8} {keep : List Bool} {q : Nat}
/-- what lies behind a crash, place by place -/
theorem crashed_at (h : LogD d n f t g L) (hl : d.loose = []) (hr : needsOf L + needOf r.length ≤ t - f) (hq : q < 64) (i : Nat) (hi : f + i < n) :
    ∃ s, (crashed d (recWs g (needsOf L) f r) keep q).img[f + i]? = some s ∧
      ((i < needsOf L ∨ needsOf L + needOf r.length ≤ i) → s = secAt d f i) ∧
      (∀ j, i = needsOf L + j → j < needOf r.length → (keep[j]? = some true → s = recSec g (needsOf L) r j) ∧ (keep[j]? ≠ some true → s[63]? ≠ some 165)) ∧ s.length = 64 := by
  have h1 := h.tn; have h2 := h.ft
  have hnow : d.now = d.img := by unfold Dev.now; rw [hl]; rfl
  have hK := kept_run keep (f + needsOf L) (recSec g (needsOf L) r) (needOf r.length) 0 d.img (by rw [h.fine.len]; omega) (f + i)
  have hsec := sec_now h.fine hi
  rw [hnow] at hsec
  have hlen := h.fine.ok.s64.get hsec
  rw [hsec] at hK
  have base : ∃ s, (laidOver d.img (keptOf keep 0 (recWs g (needsOf L) f r)))[f + i]? = some s ∧
      ((i < needsOf L ∨ needsOf L + needOf r.length ≤ i) → s = secAt d f i) ∧
      (∀ j, i = needsOf L + j → j < needOf r.length → (keep[j]? = some true → s = recSec g (needsOf L) r j) ∧ (keep[j]? ≠ some true → s = zr 64)) ∧ s.length = 64 := by
    by_cases hc : (f + needsOf L + 0 ≤ f + i ∧ f + i < f + needsOf L + 0 + needOf r.length) ∧ keep[f + i - (f + needsOf L)]? = some true
    · rw [if_pos hc] at hK
      refine ⟨_, hK, fun h3 => by omega, fun j hj hjl => ?_, recSec_len _ _ _ _⟩
      subst hj
      rw [show f + (needsOf L + j) - (f + needsOf L) = j by omega] at hc ⊢
      exact ⟨fun _ => rfl, fun h4 => absurd hc.2 h4⟩
    · rw [if_neg hc] at hK
      refine ⟨_, hK, fun _ => rfl, fun j hj hjl => ?_, hlen⟩
      subst hj
      rw [show f + (needsOf L + j) - (f + needsOf L) = j by omega] at hc
      exact ⟨fun h4 => absurd ⟨by omega, h4⟩ hc, fun _ => h.rest _ (by omega) hi⟩
  obtain ⟨s, hs, ha, hb, hs64⟩ := base
  rcases last_run keep (f + needsOf L) (recSec g (needsOf L) r) (needOf r.length) 0 with ⟨h3, h4⟩ | ⟨j, _, hj, hk, h3⟩
  · refine ⟨s, ?_, ha, fun j hj hjl => ⟨(hb j hj hjl).1, fun h5 => absurd (h4 j (by omega) (by omega)) h5⟩, hs64⟩
    show (tornIn _ (lastOf keep 0 (runW _ _ 0 _)) q)[f + i]? = _
    rw [h3]; exact hs
  · by_cases hij : i = needsOf L + j
    · have hz := (hb j hij (by omega)).2 hk
      refine ⟨(recSec g (needsOf L) r j).take q ++ s.drop q, ?_, fun h5 => by omega, fun j' hj' hjl => ?_, by simp [recSec_len, hs64]; omega⟩
      · show (tornIn _ (lastOf keep 0 (runW _ _ 0 _)) q)[f + i]? = _
        rw [h3]
        show ((laidOver d.img (keptOf keep 0 (recWs g (needsOf L) f r))).set (f + needsOf L + j) ((recSec g (needsOf L) r j).take q ++ ((laidOver d.img (keptOf keep 0 (recWs g (needsOf L) f r))).getD (f + needsOf L + j) []).drop q))[f + i]? = _
        have hlt := (List.getElem?_eq_some_iff.1 hs).1
        rw [show f + needsOf L + j = f + i by omega, List.getElem?_set_self hlt, List.getD_eq_getElem?_getD, hs]
        rfl
      · obtain rfl : j' = j := by omega
        refine ⟨fun h5 => absurd h5 hk, fun _ => ?_⟩
        have e1 : ((recSec g (needsOf L) r j').take q).length = q := by simp [recSec_len]; omega
        rw [List.getElem?_append_right (by omega), e1, List.getElem?_drop, show q + (63 - q) = 63 by omega, hz]
        simp [zr]
    · refine ⟨s, ?_, ha, fun j' hj' hjl => ⟨(hb j' hj' hjl).1, fun h5 => by rw [(hb j' hj' hjl).2 h5]; simp [zr]⟩, hs64⟩
      show (tornIn _ (lastOf keep 0 (runW _ _ 0 _)) q)[f + i]? = _
      rw [h3]
      show ((laidOver d.img (keptOf keep 0 (recWs g (needsOf L) f r))).set (f + needsOf L + j) _)[f + i]? = _
      rw [List.getElem?_set_ne (by omega)]
      exact hs
theorem crashed_len (h : LogD d n f t g L) : (crashed d (recWs g (needsOf L) f r) keep q).img.length = n := by
  show (tornIn _ _ _).length = _
  rw [tornIn_len, laid_len, h.fine.len]
theorem crashed_fine (h : LogD d n f t g L) (_hl : d.loose = []) (hr : needsOf L + needOf r.length ≤ t - f) (hq : q < 64) : Fine (crashed d (recWs g (needsOf L) f r) keep q) n := by
  have h1 := h.tn; have h2 := h.ft
  refine ⟨⟨fun s hs => ?_, by rw [crashed_len h]; exact h.n1, by rw [crashed_len h]; omega, fun x hx => by cases hx⟩, rfl, rfl, crashed_len h⟩
  have h64 : S64 (laidOver d.img (keptOf keep 0 (recWs g (needsOf L) f r))) := by
    refine laid_64 (fun x hx => ?_) h.fine.ok.s64
    have key : ∀ (l : List (Nat × List UInt8)) (k : Nat), x ∈ keptOf keep k l → x ∈ l := by
      intro l
      induction l with
      | nil => intro k hx; exact hx
      | cons y l ih =>
        intro k hx
        rw [keptOf] at hx
        split at hx
        · rcases List.mem_cons.1 hx with rfl | hx
          · exact List.mem_cons_self
          · exact List.mem_cons_of_mem _ (ih _ hx)
        · exact List.mem_cons_of_mem _ (ih _ hx)
    exact (recWs_fit (n := n) (by omega) x (key _ _ hx)).2
  rcases last_run keep (f + needsOf L) (recSec g (needsOf L) r) (needOf r.length) 0 with ⟨h3, h4⟩ | ⟨j, _, hj, hk, h3⟩
  · have hs' : s ∈ tornIn (laidOver d.img (keptOf keep 0 (recWs g (needsOf L) f r))) (lastOf keep 0 (runW (f + needsOf L) (recSec g (needsOf L) r) 0 (needOf r.length))) q := hs
    rw [h3] at hs'
    exact h64 s hs'
  · have hs' : s ∈ tornIn (laidOver d.img (keptOf keep 0 (recWs g (needsOf L) f r))) (lastOf keep 0 (runW (f + needsOf L) (recSec g (needsOf L) r) 0 (needOf r.length))) q := hs
    rw [h3] at hs'
    rcases List.mem_or_eq_of_mem_set hs' with h5 | rfl
    · exact h64 s h5
    · have hlt : f + needsOf L + j < (laidOver d.img (keptOf keep 0 (recWs g (needsOf L) f r))).length := by rw [laid_len, h.fine.len]; omega
      have h6 := h64.get (List.getElem?_eq_getElem hlt)
      show ((recSec g (needsOf L) r j).take q ++ ((laidOver d.img (keptOf keep 0 (recWs g (needsOf L) f r))).getD (f + needsOf L + j) []).drop q).length = 64
      rw [List.getD_eq_getElem?_getD, List.getElem?_eq_getElem hlt]
      simp only [Option.getD_some, List.length_append, List.length_take, List.length_drop, recSec_len, h6]
      omega
theorem crashed_sec (h : LogD d n f t g L) (hl : d.loose = []) (hr : needsOf L + needOf r.length ≤ t - f) (hq : q < 64) (i : Nat) (hi : f + i < n) :
      ((i < needsOf L ∨ needsOf L + needOf r.length ≤ i) → secAt (crashed d (recWs g (needsOf L) f r) keep q) f i = secAt d f i) ∧
      (∀ j, i = needsOf L + j → j < needOf r.length → (keep[j]? = some true → secAt (crashed d (recWs g (needsOf L) f r) keep q) f i = recSec g (needsOf L) r j) ∧ (keep[j]? ≠ some true → (secAt (crashed d (recWs g (needsOf L) f r) keep q) f i)[63]? ≠ some 165)) := by
  obtain ⟨s, hs, h1, h2, _⟩ := crashed_at (keep := keep) h hl hr hq i hi
  have := sec_of (crashed_fine (keep := keep) h hl hr hq) hi (s := s) hs
  rw [this]
  exact ⟨h1, h2⟩
/-- all of it was kept -/
theorem crashed_all (h : LogD d n f t g L) (hl : d.loose = []) (hr : needsOf L + needOf r.length ≤ t - f) (hq : q < 64) (hk : ∀ j, j < needOf r.length → keep[j]? = some true) : hasB (crashed d (recWs g (needsOf L) f r) keep q) (f : Int) (t : Int) (g : Int) (needsOf (L ++ [r]) : Int) (L ++ [r]) = true := by
  have h1 := h.tn; have h2 := h.ft
  have hS := crashed_sec (keep := keep) h hl hr hq
  refine LogD.scan (n := n) ⟨crashed_fine h hl hr hq, h.ft, h.tn, h.g1, h.g2, h.n1, by rw [needsOf_snoc]; exact hr, ?_, fun i hi hin => ?_⟩
  · refine LiesIn.snoc (h.lies.same fun i _ hi => (hS i (by omega)).1 (.inl (by omega))) fun j hj => ?_
    rw [Nat.zero_add]
    exact ((hS (needsOf L + j) (by omega)).2 j rfl hj).1 (hk j hj)
  · rw [needsOf_snoc] at hi
    rw [(hS i hin).1 (.inr hi)]
    exact h.rest i (by omega) hin
/-- some of it was not -/
theorem crashed_some (h : LogD d n f t g L) (hl : d.loose = []) (hr : needsOf L + needOf r.length ≤ t - f) (hq : q < 64) {j : Nat} (hj : j < needOf r.length) (hp : ∀ i, i < j → keep[i]? = some true) (hk : keep[j]? ≠ some true) : hasB (crashed d (recWs g (needsOf L) f r) keep q) (f : Int) (t : Int) (g : Int) (needsOf L : Int) L = true := by
  have h1 := h.tn; have h2 := h.ft; have h3 := h.room
  have hS := crashed_sec (keep := keep) h hl hr hq
  refine has_fine (crashed_fine h hl hr hq) h.ft (Nat.le_of_lt h.tn) h.g1 h.g2 (scan_torn (j := j) (r := r) (h.lies.same fun i _ hi => (hS i (by omega)).1 (.inl (by omega))) hj (by omega) (fun i hi => ?_) ?_)
  · exact ((hS (needsOf L + i) (by omega)).2 i rfl (by omega)).1 (hp i hi)
  · exact wrong_63 (((hS (needsOf L + j) (by omega)).2 j rfl hj).2 hk)
end
/-- the sectors up to one, side by side -/
def secsTo (d : Dev) (i : Nat) : List UInt8 := ((List.range i).map (secAt d 0)).flatten
theorem secsTo_succ (d : Dev) (i : Nat) : secsTo d (i + 1) = secsTo d i ++ secAt d 0 i := by simp [secsTo, List.range_succ]
def insideOf (d : Dev) (n k i : Nat) : List UInt8 := (List.replicate k (secsTo d n)).flatten ++ secsTo d i
theorem insideOf_zero (d : Dev) (n : Nat) : insideOf d n 0 0 = [] := by simp [insideOf, secsTo]
theorem insideOf_succ (d : Dev) (n k i : Nat) : insideOf d n k (i + 1) = insideOf d n k i ++ secAt d 0 i := by simp [insideOf, secsTo_succ]
theorem insideOf_round (d : Dev) (n k : Nat) : insideOf d n k n = insideOf d n (k + 1) 0 := by
  simp [insideOf, secsTo, List.replicate_succ']
theorem secAt_len {d : Dev} {n base i : Nat} (h : Fine d n) (hi : base + i < n) : (secAt d base i).length = 64 := h.ok.now64.get (sec_now h hi)
theorem secsTo_len {d : Dev} {n : Nat} (h : Fine d n) : ∀ i, i ≤ n → (secsTo d i).length = 64 * i
  | 0, _ => rfl
  | i + 1, hi => by rw [secsTo_succ, List.length_append, secsTo_len h i (by omega), secAt_len h (by omega)]; omega
theorem insideOf_len {d : Dev} {n m : Nat} (h : Fine d n) (hm : m ≤ n) (k : Nat) {i : Nat} (hi : i ≤ m) : (insideOf d m k i).length = 64 * (k * m + i) := by
  have key : ∀ (k : Nat) (l : List UInt8), (List.replicate k l).flatten.length = k * l.length := by intro k l; simp
  rw [insideOf, List.length_append, secsTo_len h i (by omega), key, secsTo_len h m hm, Nat.mul_add, Nat.mul_left_comm]
end Go.Proofs.Ytlondopgibcikaa
