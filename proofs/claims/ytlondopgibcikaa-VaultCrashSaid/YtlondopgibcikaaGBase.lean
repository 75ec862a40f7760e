/- The plain law of the sums (CRC-32): registers are linear, injective, joined by noughts; csealed bytes; columns. No program in sight. Memory: blocks that are known whole, frames, byte slices. Bridges between the walk's integers and plain registers and bytes. The walks of what the laws share: bytes side by side, copied, lent, written over; picks. The walks of crc: what each function of the package returns. The walks of crc, continued: sums, seals. -/
import Derived.Test.YtlondopgibcikaaRows
import Derived.WalkKit
import Derived.Deep.MidRow
import Derived.Laws.AppendOwnNone
import Derived.WalkSpells
import Derived.WalkLawsBesides
import Derived.Deep.RegionHeld3
import Derived.BigQuiet
import Derived.Deep.RegionWith
import Derived.Deep.QuietTactic
namespace Go.Proofs.Ytlondopgibcikaa.Ent

abbrev R32 := BitVec 32
def cpoly : R32 := 0xEDB88320#32

def stp (r : R32) : R32 := if r.getLsbD 0 then (r >>> 1) ^^^ cpoly else r >>> 1
def stps : Nat → R32 → R32
  | 0, r => r
  | n + 1, r => stps n (stp r)

theorem stps_add (a b : Nat) (r : R32) : stps (a + b) r = stps b (stps a r) := by
  induction a generalizing r with
  | zero => simp [stps]
  | succ a ih => rw [Nat.succ_add]; simp only [stps]; exact ih _

theorem stp_xor (a b : R32) : stp (a ^^^ b) = stp a ^^^ stp b := by
  unfold stp
  rw [BitVec.getLsbD_xor, BitVec.ushiftRight_xor_distrib]
  generalize a >>> 1 = x; generalize b >>> 1 = y; generalize cpoly = p
  cases a.getLsbD 0 <;> cases b.getLsbD 0 <;> simp
  · rw [BitVec.xor_assoc]
  · rw [BitVec.xor_assoc, BitVec.xor_assoc]; congr 1; exact BitVec.xor_comm _ _
  · rw [BitVec.xor_assoc, ← BitVec.xor_assoc p, BitVec.xor_comm p y, BitVec.xor_assoc y, BitVec.xor_self]; simp

theorem stp_zero : stp 0 = 0 := by decide
theorem stps_xor (n : Nat) (a b : R32) : stps n (a ^^^ b) = stps n a ^^^ stps n b := by
  induction n generalizing a b with
  | zero => rfl
  | succ n ih => simp only [stps]; rw [stp_xor, ih]
theorem stps_zero (n : Nat) : stps n 0 = 0 := by
  induction n with
  | zero => rfl
  | succ n ih => simp only [stps]; rw [stp_zero, ih]
theorem stp_ker (r : R32) (h : stp r = 0) : r = 0 := by
  unfold stp at h
  by_cases h0 : r.getLsbD 0 = true
  · rw [if_pos h0] at h
    have h1 : ((r >>> 1) ^^^ cpoly).getLsbD 31 = true := by
      rw [BitVec.getLsbD_xor, BitVec.getLsbD_ushiftRight, BitVec.getLsbD_of_ge _ _ (by omega)]
      decide
    rw [h] at h1; simp at h1
  · rw [if_neg h0] at h
    apply BitVec.eq_of_getLsbD_eq
    intro i hi
    by_cases hi0 : i = 0
    · subst hi0; simpa using h0
    · have := congrArg (fun x : R32 => x.getLsbD (i - 1)) h
      simp only [BitVec.getLsbD_ushiftRight] at this
      rw [show 1 + (i - 1) = i from by omega] at this
      simpa using this
theorem xor_eq_zero (a b : R32) (h : a ^^^ b = 0) : a = b := by
  have := congrArg (fun x => x ^^^ b) h
  simpa [BitVec.xor_assoc] using this
theorem stp_inj (a b : R32) (h : stp a = stp b) : a = b :=
  xor_eq_zero _ _ (stp_ker _ (by rw [stp_xor, h]; simp))
theorem stps_inj (n : Nat) (a b : R32) (h : stps n a = stps n b) : a = b := by
  induction n generalizing a b with
  | zero => exact h
  | succ n ih => exact stp_inj _ _ (ih _ _ h)

/-- low bits nought: a plain shift -/
theorem stps_low (n : Nat) : ∀ (y : R32), (∀ i, i < n → y.getLsbD i = false) → stps n y = y >>> n := by
  induction n with
  | zero => intro y _; simp [stps]
  | succ n ih =>
    intro y h
    have h0 : y.getLsbD 0 = false := h 0 (by omega)
    simp only [stps]
    rw [stp, if_neg (by rw [h0]; decide), ih]
    · apply BitVec.eq_of_getLsbD_eq; intro i hi
      simp only [BitVec.getLsbD_ushiftRight]; congr 1; omega
    · intro i hi; rw [BitVec.getLsbD_ushiftRight]; exact h _ (by omega)

def zb (b : UInt8) : R32 := b.toBitVec.setWidth 32
def cpass (r : R32) (b : UInt8) : R32 := stps 8 (r ^^^ zb b)

theorem split8 (r : R32) : r = (r &&& 0xff#32) ^^^ ((r >>> 8) <<< 8) := by
  apply BitVec.eq_of_getLsbD_eq
  intro i hi
  simp only [BitVec.getLsbD_xor, BitVec.getLsbD_and, BitVec.getLsbD_shiftLeft, BitVec.getLsbD_ushiftRight]
  by_cases h : i < 8
  · have : (0xff#32).getLsbD i = true := by
      have : ∀ i : Fin 8, (0xff#32).getLsbD i = true := by decide
      exact this ⟨i, h⟩
    simp [this, h]
  · have : (0xff#32).getLsbD i = false := by
      have : ∀ i : Fin 32, ¬ i.val < 8 → (0xff#32).getLsbD i = false := by decide
      exact this ⟨i, hi⟩ h
    rw [this]; simp only [Bool.and_false, Bool.false_xor, h, hi, decide_true, decide_false, Bool.not_false, Bool.true_and, show 8 + (i - 8) = i from by omega]

theorem zb_low (b : UInt8) (i : Nat) (h : 8 ≤ i) : (zb b).getLsbD i = false := by
  unfold zb
  rw [BitVec.getLsbD_setWidth, BitVec.getLsbD_of_ge _ _ h]; simp
theorem zb_shr (b : UInt8) : zb b >>> 8 = 0 := by
  apply BitVec.eq_of_getLsbD_eq
  intro i hi
  rw [BitVec.getLsbD_ushiftRight, zb_low _ _ (by omega)]; simp

/-- a byte through the register, by the table -/
def ctab (i : UInt8) : R32 := stps 8 (zb i)
theorem low8 (r : R32) : r &&& 0xff#32 = zb (UInt8.ofBitVec (r.setWidth 8)) := by
  apply BitVec.eq_of_getLsbD_eq
  intro i hi
  unfold zb
  simp only [BitVec.getLsbD_and, BitVec.getLsbD_setWidth]
  by_cases h : i < 8
  · have : (0xff#32).getLsbD i = true := by
      have : ∀ i : Fin 8, (0xff#32).getLsbD i = true := by decide
      exact this ⟨i, h⟩
    simp [this, h, hi]
  · have : (0xff#32).getLsbD i = false := by
      have : ∀ i : Fin 32, ¬ i.val < 8 → (0xff#32).getLsbD i = false := by decide
      exact this ⟨i, hi⟩ h
    simp [this, h]
theorem shl8_low (x : R32) (i : Nat) (h : i < 8) : (x <<< 8).getLsbD i = false := by
  rw [BitVec.getLsbD_shiftLeft]; simp [h]
theorem stps_split (r : R32) : stps 8 r = ctab (UInt8.ofBitVec (r.setWidth 8)) ^^^ (r >>> 8) := by
  have h := stps_low 8 ((r >>> 8) <<< 8) (fun i hi => shl8_low _ i hi)
  have h2 : ((r >>> 8) <<< 8) >>> 8 = r >>> 8 := by
    apply BitVec.eq_of_getLsbD_eq
    intro i hi
    simp only [BitVec.getLsbD_shiftLeft, BitVec.getLsbD_ushiftRight]
    by_cases h : 8 + i < 32
    · simp [h]
    · rw [show 8 + (8 + i - 8) = 8 + i from by omega, BitVec.getLsbD_of_ge r (8 + i) (by omega)]; simp
  calc stps 8 r = stps 8 ((r &&& 0xff#32) ^^^ ((r >>> 8) <<< 8)) := by rw [← split8]
    _ = stps 8 (r &&& 0xff#32) ^^^ stps 8 ((r >>> 8) <<< 8) := stps_xor _ _ _
    _ = _ := by rw [h, h2, low8]; rfl
theorem cpass_tab (r : R32) (b : UInt8) : cpass r b = ctab (UInt8.ofBitVec (r.setWidth 8) ^^^ b) ^^^ (r >>> 8) := by
  unfold cpass
  rw [stps_split, BitVec.ushiftRight_xor_distrib, zb_shr]
  have : (r ^^^ zb b).setWidth 8 = (r.setWidth 8 ^^^ b.toBitVec) := by
    rw [BitVec.setWidth_xor]; congr 1
    unfold zb; apply BitVec.eq_of_getLsbD_eq; intro i hi; simp [hi]
  rw [this]
  have h2 : UInt8.ofBitVec (r.setWidth 8 ^^^ b.toBitVec) = UInt8.ofBitVec (r.setWidth 8) ^^^ b := rfl
  rw [h2]; congr 1; exact BitVec.xor_zero

def regs (l : List UInt8) (r : R32) : R32 := l.foldl cpass r
theorem cpass_xor (a d : R32) (b : UInt8) : cpass (a ^^^ d) b = cpass a b ^^^ stps 8 d := by
  unfold cpass
  rw [← stps_xor]; congr 1
  rw [BitVec.xor_assoc, BitVec.xor_comm d, ← BitVec.xor_assoc]
theorem regs_xor (l : List UInt8) : ∀ (a d : R32), regs l (a ^^^ d) = regs l a ^^^ stps (8 * l.length) d := by
  induction l with
  | nil => intro a d; simp [regs, stps]
  | cons b l ih =>
    intro a d
    show regs l (cpass (a ^^^ d) b) = regs l (cpass a b) ^^^ _
    rw [cpass_xor, ih, List.length_cons, Nat.mul_succ, Nat.add_comm, stps_add]
theorem regs_append (l m : List UInt8) (r : R32) : regs (l ++ m) r = regs m (regs l r) := by simp [regs]
theorem regs_inj (l : List UInt8) (a b : R32) (h : regs l a = regs l b) : a = b := by
  have := regs_xor l b (a ^^^ b)
  rw [show b ^^^ (a ^^^ b) = a from by rw [BitVec.xor_comm a, ← BitVec.xor_assoc, BitVec.xor_self]; simp, h] at this
  have h3 : stps (8 * l.length) (a ^^^ b) = 0 := by
    have h4 := congrArg (fun x => regs l b ^^^ x) this
    simp only [BitVec.xor_self, ← BitVec.xor_assoc, BitVec.zero_xor] at h4
    exact h4.symm
  exact xor_eq_zero _ _ (stps_inj _ _ _ (h3.trans (stps_zero _).symm))
theorem regs_zeros (n : Nat) (r : R32) : regs (List.replicate n 0) r = stps (8 * n) r := by
  induction n generalizing r with
  | zero => rfl
  | succ n ih =>
    show regs (List.replicate n 0) (cpass r 0) = _
    rw [ih, Nat.mul_succ, Nat.add_comm, stps_add]
    congr 1; unfold cpass; congr 1; exact BitVec.xor_zero

/-- the csum of bytes behind others; of bytes; of two parts -/
def cmore (csum : R32) (b : List UInt8) : R32 := ~~~ regs b (~~~ csum)
def csum (b : List UInt8) : R32 := cmore 0 b
def cjoin (a b : R32) (n : Nat) : R32 := stps (8 * n) a ^^^ b

theorem not_eq_xor (a : R32) : ~~~ a = a ^^^ (~~~ (0 : R32)) := by
  show ~~~ a = a ^^^ BitVec.allOnes 32
  exact (BitVec.xor_allOnes).symm
theorem cmore_join (a : R32) (b : List UInt8) : cmore a b = cjoin a (csum b) b.length := by
  unfold cmore csum cjoin cmore
  rw [not_eq_xor a, BitVec.xor_comm, regs_xor, not_eq_xor (_ ^^^ _), not_eq_xor (regs b _), BitVec.xor_comm (stps _ _), BitVec.xor_assoc, BitVec.xor_assoc, BitVec.xor_comm (stps _ _)]
theorem not_not (a : R32) : ~~~ (~~~ a) = a := by simp
theorem csum_append (a b : List UInt8) : csum (a ++ b) = cmore (csum a) b := by
  unfold csum cmore; rw [regs_append]; simp

/-- four bytes as one word -/
def word4 (b0 b1 b2 b3 : UInt8) : R32 := zb b0 ^^^ (zb b1 <<< 8) ^^^ (zb b2 <<< 16) ^^^ (zb b3 <<< 24)
theorem stps_shl (n : Nat) (b : UInt8) (h : n ≤ 24) : stps n (zb b <<< n) = zb b := by
  rw [stps_low n _ (fun i hi => by rw [BitVec.getLsbD_shiftLeft]; simp [hi])]
  apply BitVec.eq_of_getLsbD_eq
  intro i hi
  simp only [BitVec.getLsbD_ushiftRight, BitVec.getLsbD_shiftLeft]
  by_cases h8 : i < 8
  · simp [show n + i < 32 from by omega]
  · rw [zb_low b i (by omega)]; simp [zb_low b i (by omega)]
theorem regs4 (r : R32) (b0 b1 b2 b3 : UInt8) : regs [b0, b1, b2, b3] r = stps 32 (r ^^^ word4 b0 b1 b2 b3) := by
  show cpass (cpass (cpass (cpass r b0) b1) b2) b3 = _
  unfold cpass word4
  have e1 : ∀ x : R32, stps 8 x ^^^ zb b1 = stps 8 (x ^^^ zb b1 <<< 8) := fun x => by rw [stps_xor, stps_shl 8 b1 (by omega)]
  have e2 : ∀ x : R32, stps 16 x ^^^ zb b2 = stps 16 (x ^^^ zb b2 <<< 16) := fun x => by rw [stps_xor, stps_shl 16 b2 (by omega)]
  have e3 : ∀ x : R32, stps 24 x ^^^ zb b3 = stps 24 (x ^^^ zb b3 <<< 24) := fun x => by rw [stps_xor, stps_shl 24 b3 (by omega)]
  rw [e1, ← stps_add, e2, ← stps_add, e3, ← stps_add]
  simp only [BitVec.xor_assoc]
def ctail (s : R32) : List UInt8 := [UInt8.ofBitVec (s.setWidth 8), UInt8.ofBitVec ((s >>> 8).setWidth 8), UInt8.ofBitVec ((s >>> 16).setWidth 8), UInt8.ofBitVec ((s >>> 24).setWidth 8)]
theorem word4_bit (b0 b1 b2 b3 : UInt8) (i : Nat) (hi : i < 32) : (word4 b0 b1 b2 b3).getLsbD i =
    (if i < 8 then b0.toBitVec.getLsbD i else if i < 16 then b1.toBitVec.getLsbD (i - 8) else if i < 24 then b2.toBitVec.getLsbD (i - 16) else b3.toBitVec.getLsbD (i - 24)) := by
  unfold word4 zb
  simp only [BitVec.getLsbD_xor, BitVec.getLsbD_shiftLeft, BitVec.getLsbD_setWidth]
  by_cases h0 : i < 8
  · simp [h0, hi, show i < 16 from by omega, show i < 24 from by omega]
  · by_cases h1 : i < 16
    · simp [h0, hi, h1, show i < 24 from by omega, show i - 8 < 32 from by omega, BitVec.getLsbD_of_ge b0.toBitVec i (by omega)]
    · by_cases h2 : i < 24
      · simp [h0, hi, h1, h2, show i - 8 < 32 from by omega, show i - 16 < 32 from by omega, BitVec.getLsbD_of_ge b0.toBitVec i (by omega), BitVec.getLsbD_of_ge b1.toBitVec (i - 8) (by omega)]
      · simp [h0, hi, h1, h2, show i - 8 < 32 from by omega, show i - 16 < 32 from by omega, show i - 24 < 32 from by omega, BitVec.getLsbD_of_ge b0.toBitVec i (by omega), BitVec.getLsbD_of_ge b1.toBitVec (i - 8) (by omega), BitVec.getLsbD_of_ge b2.toBitVec (i - 16) (by omega)]
theorem word4_tail (s : R32) : word4 (UInt8.ofBitVec (s.setWidth 8)) (UInt8.ofBitVec ((s >>> 8).setWidth 8)) (UInt8.ofBitVec ((s >>> 16).setWidth 8)) (UInt8.ofBitVec ((s >>> 24).setWidth 8)) = s := by
  apply BitVec.eq_of_getLsbD_eq
  intro i hi
  rw [word4_bit _ _ _ _ i hi]
  simp only [BitVec.getLsbD_setWidth, BitVec.getLsbD_ushiftRight]
  split
  · simp [*]
  · split
    · simp [show i - 8 < 8 from by omega, show 8 + (i - 8) = i from by omega]
    · split
      · simp [show i - 16 < 8 from by omega, show 16 + (i - 16) = i from by omega]
      · simp [show i - 24 < 8 from by omega, show 24 + (i - 24) = i from by omega]
theorem byte_ext {a b : UInt8} (h : ∀ i, i < 8 → a.toBitVec.getLsbD i = b.toBitVec.getLsbD i) : a = b := by
  have : a.toBitVec = b.toBitVec := BitVec.eq_of_getLsbD_eq fun i hi => h i hi
  exact UInt8.toBitVec_inj.1 this
theorem word4_inj {a0 a1 a2 a3 b0 b1 b2 b3 : UInt8} (h : word4 a0 a1 a2 a3 = word4 b0 b1 b2 b3) : a0 = b0 ∧ a1 = b1 ∧ a2 = b2 ∧ a3 = b3 := by
  have hb : ∀ i, i < 32 → _ := fun i hi => by
    have := congrArg (fun x : R32 => x.getLsbD i) h
    simp only [word4_bit _ _ _ _ i hi] at this
    exact this
  refine ⟨byte_ext fun i hi => ?_, byte_ext fun i hi => ?_, byte_ext fun i hi => ?_, byte_ext fun i hi => ?_⟩
  · have := hb i (by omega); simpa [hi] using this
  · have := hb (i + 8) (by omega); simpa [hi, show ¬ i + 8 < 8 from by omega, show i + 8 < 16 from by omega] using this
  · have := hb (i + 16) (by omega); simpa [hi, show ¬ i + 16 < 8 from by omega, show ¬ i + 16 < 16 from by omega, show i + 16 < 24 from by omega] using this
  · have := hb (i + 24) (by omega); simpa [hi, show ¬ i + 24 < 8 from by omega, show ¬ i + 24 < 16 from by omega, show ¬ i + 24 < 24 from by omega] using this

theorem regs_tail (r s : R32) : regs (ctail s) r = stps 32 (r ^^^ s) := by
  unfold ctail; rw [regs4, word4_tail]
def csealed (l : List UInt8) : List UInt8 := l ++ ctail (csum l)
/-- csealed bytes are those whose register ends at one number -/
theorem csealed_iff (l t : List UInt8) (ht : t.length = 4) : t = ctail (csum l) ↔ regs (l ++ t) (~~~ 0) = stps 32 (~~~ 0) := by
  have hx : ∀ r : R32, r ^^^ ~~~ r = ~~~ 0 := fun r => by rw [not_eq_xor r, ← BitVec.xor_assoc, BitVec.xor_self]; exact BitVec.zero_xor
  match t, ht with
  | [a, b, c, d], _ =>
    rw [regs_append, regs4]
    constructor
    · intro h
      simp only [ctail, List.cons.injEq, and_true] at h
      obtain ⟨rfl, rfl, rfl, rfl⟩ := h
      rw [word4_tail]; unfold csum cmore; congr 1; rw [show (~~~ (0 : R32)) = ~~~ 0#32 from rfl]; exact hx _
    · intro h
      have h2 := stps_inj _ _ _ h
      have h3 : word4 a b c d = csum l := by
        unfold csum cmore
        have := congrArg (fun x => regs l (~~~ 0) ^^^ x) h2
        simp only [← BitVec.xor_assoc, BitVec.xor_self, BitVec.zero_xor] at this
        rw [this]; exact (not_eq_xor _).symm
      have h4 := word4_inj (h3.trans (word4_tail (csum l)).symm)
      obtain ⟨rfl, rfl, rfl, rfl⟩ := h4
      rfl
/-- damage: four side by side turned -/
theorem damage (P Q : List UInt8) (a0 a1 a2 a3 b0 b1 b2 b3 : UInt8) (r : R32) (h : regs (P ++ [a0, a1, a2, a3] ++ Q) r = regs (P ++ [b0, b1, b2, b3] ++ Q) r) :
    a0 = b0 ∧ a1 = b1 ∧ a2 = b2 ∧ a3 = b3 := by
  simp only [regs_append] at h
  have h := regs_inj _ _ _ h
  rw [regs4, regs4] at h
  have h := stps_inj _ _ _ h
  have h2 := congrArg (fun x => regs P r ^^^ x) h
  simp only [← BitVec.xor_assoc, BitVec.xor_self, BitVec.zero_xor] at h2
  exact word4_inj h2

/-- columns: what becomes of each bit -/
def ap (m : Nat → R32) : Nat → R32 → R32
  | 0, _ => 0
  | k + 1, r => ap m k r ^^^ (if r.getLsbD k then m k else 0)
def lin (f : R32 → R32) : Prop := ∀ a b, f (a ^^^ b) = f a ^^^ f b
theorem lin_zero {f : R32 → R32} (h : lin f) : f 0 = 0 := by
  have := h 0 0
  simpa using this
theorem ap_lin {f : R32 → R32} (h : lin f) (r : R32) : ∀ k, k ≤ 32 → ∃ q : R32, ap (fun i => f (1#32 <<< i)) k r = f q ∧ ∀ i, q.getLsbD i = (decide (i < k) && r.getLsbD i) := by
  intro k
  induction k with
  | zero => intro _; exact ⟨0, (lin_zero h).symm, by simp⟩
  | succ k ih =>
    intro hk
    obtain ⟨q, h1, h2⟩ := ih (by omega)
    refine ⟨q ^^^ (if r.getLsbD k then 1#32 <<< k else 0), ?_, ?_⟩
    · rw [ap, h1, h]; congr 1; split
      · rfl
      · exact (lin_zero h).symm
    · intro i
      rw [BitVec.getLsbD_xor, h2]
      by_cases hik : i = k
      · subst hik
        cases hb : r.getLsbD i
        · simp
        · simp [show i < 32 from by omega]
      · have : (if r.getLsbD k = true then 1#32 <<< k else 0).getLsbD i = false := by
          split
          · rw [BitVec.getLsbD_shiftLeft]; simp; intro _ _; omega
          · simp
        rw [this]
        by_cases h3 : i < k
        · simp [h3, show i < k + 1 from by omega]
        · simp [h3, show ¬ i < k + 1 from by omega]
theorem ap_all {f : R32 → R32} (h : lin f) (r : R32) : ap (fun i => f (1#32 <<< i)) 32 r = f r := by
  obtain ⟨q, h1, h2⟩ := ap_lin h r 32 (by omega)
  rw [h1]; congr 1
  apply BitVec.eq_of_getLsbD_eq; intro i hi; rw [h2]; simp [hi]
theorem ap_congr {m m' : Nat → R32} (r : R32) : ∀ k, (∀ i, i < k → m i = m' i) → ap m k r = ap m' k r := by
  intro k
  induction k with
  | zero => intro _; rfl
  | succ k ih => intro h; rw [ap, ap, ih (fun i hi => h i (by omega)), h k (by omega)]
theorem lin_steps (n : Nat) : lin (stps n) := fun a b => stps_xor n a b
/-- a matrix that is n zero bits -/
def colsOf (n : Nat) (i : Nat) : R32 := stps n (1#32 <<< i)
theorem ap_cols (n : Nat) (r : R32) : ap (colsOf n) 32 r = stps n r := ap_all (lin_steps n) r
theorem cols_bit (i : Nat) (h : i < 31) : colsOf 1 (i + 1) = 1#32 <<< i := by
  have : ∀ i : Fin 31, colsOf 1 (i.val + 1) = 1#32 <<< i.val := by decide
  exact this ⟨i, h⟩
theorem cols_bit0 : colsOf 1 0 = cpoly := by decide
theorem cols_sq (n i : Nat) : ap (colsOf n) 32 (colsOf n i) = colsOf (n + n) i := by
  rw [ap_cols]; unfold colsOf; rw [← stps_add]
/-- what is opened of bytes, or why not -/
def cOpen (l : List UInt8) : List UInt8 × Int :=
  if l.length < 4 then ([], 6) else if ctail (csum (l.take (l.length - 4))) = l.drop (l.length - 4) then (l.take (l.length - 4), 0) else ([], 5)
theorem cOpen_len (l : List UInt8) : (cOpen l).1.length ≤ l.length := by
  unfold cOpen
  split
  · simp
  · split
    · simp
    · simp
theorem ctail_length (s : R32) : (ctail s).length = 4 := rfl
end Go.Proofs.Ytlondopgibcikaa.Ent
namespace Go.Proofs.Ytlondopgibcikaa
open Go.RowKit Ent

theorem hid {p : Prop} (h : p) : Hid p := h

/-- a block known whole -/
theorem cell_blk {w : World} {b : Nat} {cs : Array Value} {T : TypeId} {fr : Nat × Nat} (h : w.heap[b]? = some (.cells cs T fr)) {j : Nat} {v : Value} (hj : cs[j]? = some v) : w.cell? ⟨b, j, none⟩ = some v := by
  rw [cell_of_row w b j cs T fr h, hj]
theorem free_blk {w : World} {b : Nat} {cs : Array Value} {T : TypeId} (h : w.heap[b]? = some (.cells cs T (0, 0))) (j : Nat) : w.frozen? ⟨b, j, none⟩ = false := frozen_of_row w b j cs T h
theorem lt_blk {w : World} {b : Nat} {o : Obj} (h : w.heap[b]? = some o) : b < w.heap.size := (Array.getElem?_eq_some_iff.1 h).1
theorem set_blk {w : World} {b : Nat} {cs : Array Value} {T : TypeId} (h : w.heap[b]? = some (.cells cs T (0, 0))) (j : Nat) (v : Value) : (w.setCell ⟨b, j, none⟩ v).heap[b]? = some (.cells (cs.setIfInBounds j v) T (0, 0)) := heap_setCell_same w b j cs T v h
theorem set_other {w : World} {a : Addr} {b : Nat} {o : Option Obj} (h : w.heap[b]? = o) (v : Value) (hne : b ≠ a.block) : (w.setCell a v).heap[b]? = o := by rw [heap_setCell_other w a b v hne, h]
theorem alloc_old {w : World} {b : Nat} {o : Obj} (h : w.heap[b]? = some o) (p : Obj) : (w.alloc p).heap[b]? = some o := by rw [Go.heap_alloc_old w p (lt_blk h), h]
theorem alloc_new (w : World) (p : Obj) : (w.alloc p).heap[w.heap.size]? = some p := Go.heap_alloc_new w p
theorem at_some {cs : Array Value} {k : Nat} (h : k < cs.size) : ∃ v, cs[k]? = some v := ⟨cs[k], by simp [h]⟩
theorem size_set_blk (cs : Array Value) (j : Nat) (v : Value) : (cs.setIfInBounds j v).size = cs.size := by simp
theorem below_setRow' {B : Nat} {w0 w : World} (hb : Below B w0 w) {g : Nat} (hg : B ≤ g) (cs : Array Value) : Below B w0 (w.setRow g cs) :=
  hb.trans ⟨rfl, rfl, rfl, by simp, fun k hk => setRow_other w g k _ (by omega)⟩
theorem ret_int {k : IntKind} {a b : Int} (h : a = b) : Ending.returned (.int k a) = .returned (.int k b) := by rw [h]
/-- all blocks of before, but those of F, are as they were -/
structure Keep (F : Nat → Prop) (w w' : World) : Prop where
  os : w'.os = w.os
  tape : w'.tape = w.tape
  output : w'.output = w.output
  size : w.heap.size ≤ w'.heap.size
  block : ∀ k, k < w.heap.size → ¬ F k → w'.heap[k]? = w.heap[k]?
theorem Keep.refl (F : Nat → Prop) (w : World) : Keep F w w := ⟨rfl, rfl, rfl, Nat.le_refl _, fun _ _ _ => rfl⟩
theorem Keep.trans {F : Nat → Prop} {a b c : World} (h : Keep F a b) (k : Keep F b c) : Keep F a c :=
  ⟨k.os.trans h.os, k.tape.trans h.tape, k.output.trans h.output, Nat.le_trans h.size k.size, fun i hi hF => (k.block i (Nat.lt_of_lt_of_le hi h.size) hF).trans (h.block i hi hF)⟩
/-- the second may touch what is new to the first, too -/
theorem Keep.comp {F G H : Nat → Prop} {a b c : World} (h : Keep F a b) (k : Keep G b c) (hF : ∀ i, i < a.heap.size → F i → H i) (hG : ∀ i, i < a.heap.size → G i → H i) : Keep H a c :=
  ⟨k.os.trans h.os, k.tape.trans h.tape, k.output.trans h.output, Nat.le_trans h.size k.size, fun i hi hH => (k.block i (Nat.lt_of_lt_of_le hi h.size) (fun hg => hH (hG i hi hg))).trans (h.block i hi (fun hf => hH (hF i hi hf)))⟩
theorem Keep.mono {F G : Nat → Prop} {a b : World} (h : Keep F a b) (hFG : ∀ i, i < a.heap.size → F i → G i) : Keep G a b := ⟨h.os, h.tape, h.output, h.size, fun i hi hg => h.block i hi (fun hf => hg (hFG i hi hf))⟩
theorem Keep.alloc {F : Nat → Prop} {a w : World} (h : Keep F a w) (o : Obj) : Keep F a (w.alloc o) :=
  h.trans ⟨rfl, rfl, rfl, by simp, fun k hk _ => Go.heap_alloc_old w o hk⟩
theorem Keep.drew {F : Nat → Prop} {a w : World} (h : Keep F a w) : Keep F a w.drew := ⟨h.os, h.tape, h.output, h.size, h.block⟩
theorem Keep.setCell {F : Nat → Prop} {a w : World} (h : Keep F a w) {p : Addr} (hp : F p.block) (u : Value) : Keep F a (w.setCell p u) :=
  h.trans ⟨rfl, rfl, rfl, by simp [World.setCell], fun k hk hF => heap_setCell_other w p k u (fun e => hF (e ▸ hp))⟩
theorem Keep.setRow {F : Nat → Prop} {a w : World} (h : Keep F a w) {g : Nat} (hp : F g) (cs : Array Value) : Keep F a (w.setRow g cs) :=
  h.trans ⟨rfl, rfl, rfl, by simp, fun k hk hF => setRow_other w g k _ (fun e => hF (e ▸ hp))⟩
theorem Keep.ofBelow {F : Nat → Prop} {a b : World} (h : Below a.heap.size a b) : Keep F a b := ⟨h.os, h.tape, h.output, h.size, fun k hk _ => h.block k hk⟩
theorem Keep.below {F : Nat → Prop} {a b : World} (h : Keep F a b) (hF : ∀ k, k < a.heap.size → ¬ F k) : Below a.heap.size a b := ⟨h.os, h.tape, h.output, h.size, fun k hk => h.block k hk (hF k hk)⟩
theorem Keep.belowB {F : Nat → Prop} {a b : World} {B : Nat} (h : Keep F a b) (hB : B ≤ a.heap.size) (hF : ∀ k, k < B → ¬ F k) : Below B a b := ⟨h.os, h.tape, h.output, h.size, fun k hk => h.block k (by omega) (hF k hk)⟩
theorem Keep.grown {F : Nat → Prop} {a w w' : World} {row : Option Nat} (h : Keep F a w) (hg : w.grownBy w' row) (hr : ∀ k, row = some k → k < a.heap.size → F k) : Keep F a w' :=
  ⟨hg.os.trans h.os, hg.tape.trans h.tape, hg.output.trans h.output, Nat.le_trans h.size hg.size, fun k hk hF => (hg.block k (Nat.lt_of_lt_of_le hk h.size) (fun e => hF (hr k e.symm hk))).trans (h.block k hk hF)⟩
theorem Keep.cell {F : Nat → Prop} {w w' : World} (h : Keep F w w') {p : Addr} (hp : p.block < w.heap.size) (hF : ¬ F p.block) : w'.cell? p = w.cell? p := World.cell?_of_block (h.block _ hp hF)
theorem Keep.frozen {F : Nat → Prop} {w w' : World} (h : Keep F w w') {p : Addr} (hp : p.block < w.heap.size) (hF : ¬ F p.block) : w'.frozen? p = w.frozen? p := World.frozen?_of_block (h.block _ hp hF)
theorem Keep.range {F : Nat → Prop} {w w' : World} (h : Keep F w w') {b o : Nat} {cs : List Value} (hr : w.rangeAt b o cs) (hF : ¬ F b) : w'.rangeAt b o cs := fun j v hv => by
  have hc := hr j v hv
  rw [h.cell (World.block_lt_of_cell? w _ hc) hF]; exact hc
theorem Keep.blk {F : Nat → Prop} {w w' : World} (h : Keep F w w') {b : Nat} {o : Obj} (hb : w.heap[b]? = some o) (hF : ¬ F b) : w'.heap[b]? = some o := by rw [h.block b (lt_blk hb) hF, hb]
/-- bytes as cells; a slice of bytes that may be read -/
def bv (l : List UInt8) : List Value := l.map fun x => Value.int .u8 (x.toNat : Int)
@[simp] theorem bv_length (l : List UInt8) : (bv l).length = l.length := by simp [bv]
theorem bv_append (a b : List UInt8) : bv (a ++ b) = bv a ++ bv b := by simp [bv]
theorem bv_get (l : List UInt8) (i : Nat) : (bv l)[i]? = (l[i]?).map fun x => Value.int .u8 (x.toNat : Int) := by simp [bv]
theorem bv_one (l : List UInt8) : ∀ v ∈ bv l, v.oneCell' = true := by
  intro v hv; simp [bv] at hv; obtain ⟨x, _, rfl⟩ := hv; rfl
def SB (w : World) (ao : Option Addr) (cap : Nat) (l : List UInt8) : Prop := (ao = none ∧ cap = 0 ∧ l = []) ∨ (∃ a, ao = some a ∧ l = []) ∨ ∃ b o, ao = some ⟨b, o, none⟩ ∧ w.rangeAt b o (bv l)
theorem rangeAt_byte {w : World} {b o : Nat} {l : List UInt8} (h : w.rangeAt b o (bv l)) {i : Nat} {x : UInt8} (hx : l[i]? = some x) : w.cell? ⟨b, o + i, none⟩ = some (.int .u8 (x.toNat : Int)) :=
  h i _ (by rw [bv_get, hx]; rfl)
theorem SB.below {w w' : World} {ao : Option Addr} {cap : Nat} {l : List UInt8} (h : SB w ao cap l) (hb : Below w.heap.size w w') : SB w' ao cap l := by
  rcases h with h | h | ⟨b, o, rfl, h⟩
  · exact .inl h
  · exact .inr (.inl h)
  · refine .inr (.inr ⟨b, o, rfl, fun j v hv => ?_⟩)
    have hc := h j v hv
    rw [hb.cell (World.block_lt_of_cell? w _ hc)]; exact hc
theorem SB.nil (w : World) : SB w none 0 [] := .inl ⟨rfl, rfl, rfl⟩
theorem info_u8 : ∃ i, Try.prog.info? 5 = some i ∧ i.zero = some (.int .u8 0) ∧ i.size = 1 ∧ i.bytes = 1 :=
  info_parts (P := Try.prog) (by kernel_rfl)
/-- append of bytes to a slice of the call's own, from any source -/
theorem run_append_SB (w : World) (ty : TypeId) (base : Nat) (v : Value) (n : Nat) (xs ys : List UInt8) (hown : w.ownsRow base 5 1 v n (bv xs)) (ao : Option Addr) (m c : Nat) (hm : m = ys.length) (hsrc : SB w ao c ys)
    (hb : n + m ≤ 1099511627776) (hbase : base ≤ w.heap.size) :
    ∃ v' w', (Builtin.append_ #[22, 22] ty #[v, .slice ao m c]).run Try.prog w = .ok v' w' ∧ w'.ownsRow base 5 1 v' (n + m) (bv (xs ++ ys)) ∧ w.grownBy w' v.ownBlock ∧ (v' = .slice none 0 0 ↔ v = .slice none 0 0 ∧ m = 0) := by
  obtain ⟨i, hi, hz0, hz1, hz2⟩ := info_u8
  subst hm
  rcases hsrc with ⟨rfl, rfl, rfl⟩ | ⟨ad, rfl, rfl⟩ | ⟨b, o', rfl, hr⟩
  · exact ⟨v, w, run_append_owned_none (P := Try.prog) w base 22 ty 5 i 1 Try.underlying22 hi v n (bv xs) hown, by simpa using hown, ⟨rfl, rfl, rfl, Nat.le_refl _, fun _ _ _ => rfl⟩, by simp⟩
  · obtain ⟨v', w', h1, h2, h3, h4⟩ := run_append_own (P := Try.prog) w base 22 ty 5 i (.int .u8 0) 1 1 Try.underlying22 hi hz0 hz1 hz2 rfl (by decide) v n (bv xs) hown ad 0 c (bv []) (by simp) (by intro j u hu; simp [bv] at hu) (bv_one []) (by simp [maxLen]; omega) (by omega) hbase
    rw [← bv_append] at h2
    exact ⟨v', w', h1, h2, h3, h4⟩
  · obtain ⟨v', w', h1, h2, h3, h4⟩ := run_append_own (P := Try.prog) w base 22 ty 5 i (.int .u8 0) 1 1 Try.underlying22 hi hz0 hz1 hz2 rfl (by decide) v n (bv xs) hown ⟨b, o', none⟩ ys.length c (bv ys) (by simp) (by intro j u hu; rw [Addr.add_mid]; exact hr j u hu) (bv_one ys) (by simp [maxLen]; omega) (by omega) hbase
    rw [← bv_append] at h2
    exact ⟨v', w', h1, h2, h3, h4⟩
theorem wpo_append {w : World} {o : Oper} {a : Act} {K : Act → World → Prop} {Q : Exit → Act → World → Prop} (s x : Operand)
    (ho : o.op = .call { callee := .builtin .append, args := #[s, x], argTypes := #[22, 22] })
    (base : Nat) (v : Value) (n : Nat) (xs ys : List UInt8) (hs : a.eval s = v) (hown : w.ownsRow base 5 1 v n (bv xs)) (ao : Option Addr) (m c : Nat) (hx : a.eval x = .slice ao m c) (hm : m = ys.length) (hsrc : SB w ao c ys)
    (hb : n + m ≤ 1099511627776) (hbase : base ≤ w.heap.size)
    (h : ∀ v' w', w'.ownsRow base 5 1 v' (n + m) (bv (xs ++ ys)) → w.grownBy w' v.ownBlock → (v' = .slice none 0 0 ↔ v = .slice none 0 0 ∧ m = 0) → K (a.put o.dst v') w') : o.wp Try.prog a w K Q := by
  obtain ⟨v', w', hr, h2, h3, h4⟩ := run_append_SB w o.type base v n xs ys hown ao m c hm hsrc hb hbase
  unfold Oper.wp execOp
  simp only [ho, resolve, invoke, builtin, Sem.run_bind, Sem.run_pure, Result.andThen_ok, List.map_toArray, List.map_cons, List.map_nil, hs, hx, hr]
  exact h v' w' h2 h3 h4
theorem wpl_append {w : World} {ops : Array Oper} {rest : List Oper} {o : Oper} {a : Act} {Q : Exit → Act → World → Prop} (hgd : o.guard = none) (s x : Operand)
    (ho : o.op = .call { callee := .builtin .append, args := #[s, x], argTypes := #[22, 22] })
    (base : Nat) (v : Value) (n : Nat) (xs ys : List UInt8) (hs : a.eval s = v) (hown : w.ownsRow base 5 1 v n (bv xs)) (ao : Option Addr) (m c : Nat) (hx : a.eval x = .slice ao m c) (hm : m = ys.length) (hsrc : SB w ao c ys)
    (hb : n + m ≤ 1099511627776) (hbase : base ≤ w.heap.size)
    (h : ∀ v' w', w'.ownsRow base 5 1 v' (n + m) (bv (xs ++ ys)) → w.grownBy w' v.ownBlock → (v' = .slice none 0 0 ↔ v = .slice none 0 0 ∧ m = 0) → wpList Try.prog ops Q rest (a.put o.dst v') w') : wpList Try.prog ops Q (o :: rest) a w :=
  wpList_plain hgd fun _ hK => wpo_append s x ho base v n xs ys hs hown ao m c hx hm hsrc hb hbase fun v' w' h1 h2 h3 => hK _ _ (h v' w' h1 h2 h3)
/-- make([]byte, 0, n); make([]byte, n) -/
theorem wpl_make0 {w : World} {ops : Array Oper} {rest : List Oper} {o : Oper} {a : Act} {Q : Exit → Act → World → Prop} (hg : o.guard = none) (l c : Operand) (hop : o.op = Op.makeSlice 22 l c)
    (base : Nat) (C : Int) (n : Nat) (hl : a.eval l = .int .i64 0) (hc : a.eval c = .int .i64 C) (hC : C = (n : Int)) (b2 : n ≤ 1099511627776) (b4 : base ≤ w.heap.size)
    (hK : ∀ w', w'.ownsRow base 5 1 (.slice (some ⟨w.heap.size, 0, none⟩) 0 n) 0 (bv []) → w.grownBy w' none → wpList Try.prog ops Q rest (a.put o.dst (.slice (some ⟨w.heap.size, 0, none⟩) 0 n)) w') :
    wpList Try.prog ops Q (o :: rest) a w := by
  obtain ⟨i, hi, hz0, hz1, hz2⟩ := info_u8
  exact wpList_make_own w hg l c 22 hop base 5 i (.int .u8 0) 1 Try.underlying22 hi hz0 hz1 .i64 .i64 C n hl hc hC (by rw [hz2]; omega) (by simp [maxLen]; omega) b4 hK
theorem made_zeros (n : Nat) : (madeCells (Value.cells (.int .u8 0)) n).toList = bv (List.replicate n 0) := by
  apply List.ext_getElem?
  intro i
  by_cases hi : i < n
  · simp [madeCells, bv, hi, Value.cells, Nat.mod_one]
  · simp [madeCells, bv, hi]
theorem wpl_make {w : World} {ops : Array Oper} {rest : List Oper} {o : Oper} {a : Act} {Q : Exit → Act → World → Prop} (hg : o.guard = none) (l c : Operand) (hop : o.op = Op.makeSlice 22 l c)
    (base : Nat) (L C : Int) (n : Nat) (hl : a.eval l = .int .i64 L) (hc : a.eval c = .int .i64 C) (hL : L = (n : Int)) (hC : C = (n : Int)) (b2 : n ≤ 1099511627776) (b4 : base ≤ w.heap.size)
    (hK : ∀ w', w'.ownsRow base 5 1 (.slice (some ⟨w.heap.size, 0, none⟩) n n) n (bv (List.replicate n 0)) → w.grownBy w' none → wpList Try.prog ops Q rest (a.put o.dst (.slice (some ⟨w.heap.size, 0, none⟩) n n)) w') :
    wpList Try.prog ops Q (o :: rest) a w := by
  obtain ⟨i, hi, hz0, hz1, hz2⟩ := info_u8
  refine wpList_make_full w hg l c 22 hop base 5 i (.int .u8 0) 1 Try.underlying22 hi hz0 hz1 .i64 .i64 L C n hl hc hL hC (by rw [hz2]; omega) (by simp [maxLen]; omega) b4 ?_
  intro w' h1 h2
  rw [Nat.mul_one, made_zeros] at h1
  exact hK w' h1 h2
/-- what is owned may be read -/
theorem SB.ofOwns {w : World} {base n : Nat} {v : Value} {l : List UInt8} (h : w.ownsRow base 5 1 v n (bv l)) : ∃ ao cap, v = .slice ao n cap ∧ n = l.length ∧ SB w ao cap l := by
  have hl := h.1
  simp at hl
  rcases h.2 with ⟨rfl, rfl⟩ | ⟨g, cap, cur, rfl, _, hh, _, _, _, ht⟩
  · exact ⟨none, 0, rfl, hl.symm, .inl ⟨rfl, rfl, List.eq_nil_of_length_eq_zero hl⟩⟩
  · refine ⟨_, cap, rfl, hl.symm, .inr (.inr ⟨g, 0, rfl, fun j u hu => ?_⟩)⟩
    rw [Nat.zero_add, cell_of_row w g j cur _ _ hh]
    rw [← ht, List.getElem?_take] at hu
    split at hu
    · simpa using hu
    · cases hu
theorem owns_below {w w' : World} {base : Nat} {e : TypeId} {size : Nat} {v : Value} {n : Nat} {xs : List Value} (h : w.ownsRow base e size v n xs) (hb : Below w.heap.size w w') : w'.ownsRow base e size v n xs := by
  refine ⟨h.1, ?_⟩
  rcases h.2 with hn | ⟨g, cap, cur, hv, hg, hh, r⟩
  · exact .inl hn
  · exact .inr ⟨g, cap, cur, hv, hg, by rw [hb.block g (lt_blk hh)]; exact hh, r⟩
theorem below_of_grown_none {w w' : World} (h : w.grownBy w' none) : Below w.heap.size w w' := ⟨h.os, h.tape, h.output, h.size, fun k hk => h.block k hk (by simp)⟩
theorem owns_ge {w : World} {base : Nat} {e : TypeId} {size : Nat} {v : Value} {n : Nat} {xs : List Value} (h : w.ownsRow base e size v n xs) : ∀ k, v.ownBlock = some k → base ≤ k := fun k hk => (h.lt k hk).1
/-- a slice of no bytes that the call has made -/
theorem owns_empty (w : World) : (w.alloc (.cells #[] 5)).ownsRow w.heap.size 5 1 (.slice (some ⟨w.heap.size, 0, none⟩) 0 0) 0 (bv []) :=
  World.ownsRow_made w #[] 0 (Nat.le_refl _) (by simp [maxLen]) rfl
/-- behind an append of something: it is no nil -/
theorem own_some {w : World} {base : Nat} {e : TypeId} {size : Nat} {v' : Value} {n : Nat} {xs : List Value} {m : Nat} {p : Prop} (h : w.ownsRow base e size v' n xs) (hne : v' = .slice none 0 0 ↔ p ∧ m = 0) (hm : 0 < m := by omega) : ∃ g cap, v' = .slice (some ⟨g, 0, none⟩) n cap ∧ n ≤ cap ∧ w.ownsRow base e size (.slice (some ⟨g, 0, none⟩) n cap) n xs := by
  rcases h.2 with ⟨h1, _⟩ | ⟨g, cap, cur, hv, hr⟩
  · exact absurd (hne.1 h1).2 (by omega)
  · subst hv; exact ⟨g, cap, rfl, hr.2.2.1, h⟩
/-- two steps; two steps with a block laid between -/
theorem th {w a c : World} (h : Below w.heap.size w a) (k : Below a.heap.size a c) : Below w.heap.size w c := h.trans (k.mono h.size)
theorem tha {w a c : World} {o : Obj} (h : Below w.heap.size w a) (k : Below (a.alloc o).heap.size (a.alloc o) c) : Below w.heap.size w c := th (h.alloc h.size o) k
theorem fresh_alloc (w : World) (o : Obj) : Below w.heap.size w (w.alloc o) := (Below.refl _ _).alloc (Nat.le_refl _) o
/-- behind an append to what the call owns -/
theorem below_grown {B : Nat} {w0 w w' : World} {v : Value} {e : TypeId} {size n : Nat} {xs : List Value} (hb : Below B w0 w) (h : w.ownsRow B e size v n xs) (hg : w.grownBy w' v.ownBlock) (hB : B ≤ w0.heap.size) : Below B w0 w' :=
  hb.grown hg (Nat.le_trans hB hb.size) (owns_ge h)
theorem SB.laid (w : World) (l : List UInt8) (T : TypeId) (cap : Nat) {fr : Nat × Nat} : SB (w.alloc (.cells (bv l).toArray T fr)) (some ⟨w.heap.size, 0, none⟩) cap l :=
  .inr (.inr ⟨_, _, rfl, fun j v hv => by rw [Nat.zero_add, cell_of_row _ _ _ _ _ _ (alloc_new w _)]; simpa using hv⟩)
end Go.Proofs.Ytlondopgibcikaa
namespace Go.Proofs.Ytlondopgibcikaa
open Go.RowKit Ent

theorem of32 (r : R32) : BitVec.ofInt 32 (r.toNat : Int) = r := by
  apply BitVec.eq_of_toNat_eq
  rw [BitVec.toNat_ofInt]; have := r.isLt; omega
theorem wrap32' (r : R32) : IntKind.u32.wrap (r.toNat : Int) = r.toNat := by
  rw [IntKind.wrap_u32']; have := r.isLt; omega
theorem xor32 (a b : R32) : bits .xor .u32 (a.toNat : Int) (b.toNat : Int) = ((a ^^^ b).toNat : Int) := by
  show IntKind.u32.wrap ((BitVec.ofInt 32 (a.toNat : Int) ^^^ BitVec.ofInt 32 (b.toNat : Int)).toNat : Int) = _
  rw [of32, of32, wrap32']
theorem and32 (a b : R32) : bits .and .u32 (a.toNat : Int) (b.toNat : Int) = ((a &&& b).toNat : Int) := by
  show IntKind.u32.wrap ((BitVec.ofInt 32 (a.toNat : Int) &&& BitVec.ofInt 32 (b.toNat : Int)).toNat : Int) = _
  rw [of32, of32, wrap32']
theorem shr32 (a : R32) (n : Nat) (m : Int) (hm : m = ((2 ^ n : Nat) : Int)) : (a.toNat : Int) / m = ((a >>> n).toNat : Int) := by
  subst hm
  rw [BitVec.toNat_ushiftRight, Nat.shiftRight_eq_div_pow]; simp
theorem neg32 (a : R32) : (-(a.toNat : Int)) % 4294967296 = ((-a).toNat : Int) := by
  rw [BitVec.toNat_neg]; have := a.isLt; omega
theorem lit32 (n : Nat) (h : n < 4294967296) : (n : Int) = ((BitVec.ofNat 32 n).toNat : Int) := by
  rw [BitVec.toNat_ofNat]; omega
theorem lsb_and (r : R32) : r &&& 1#32 = if r.getLsbD 0 then 1#32 else 0#32 := by
  apply BitVec.eq_of_getLsbD_eq; intro i hi
  by_cases h0 : i = 0
  · subst h0; rw [BitVec.getLsbD_and]; cases hb : r.getLsbD 0 <;> simp
  · have : (1#32).getLsbD i = false := by
      have : ∀ i : Fin 32, ¬ i.val = 0 → (1#32).getLsbD i = false := by decide
      exact this ⟨i, hi⟩ h0
    rw [BitVec.getLsbD_and, this]
    split
    · rw [this]; simp
    · simp
theorem stp_int (r : R32) : bits BinOp.xor IntKind.u32 ((r.toNat : Int) / 2) (bits BinOp.and IntKind.u32 3988292384 (-bits BinOp.and IntKind.u32 (r.toNat : Int) 1 % 4294967296)) = ((stp r).toNat : Int) := by
  have e1 : bits BinOp.and IntKind.u32 (r.toNat : Int) 1 = ((r &&& 1#32).toNat : Int) := and32 r 1#32
  have e2 : ((r.toNat : Int) / (2 : Int)) = ((r >>> 1).toNat : Int) := shr32 r 1 2 rfl
  have e3 : (3988292384 : Int) = (cpoly.toNat : Int) := rfl
  rw [e1, neg32, e2, e3, and32, xor32]
  unfold stp
  rw [lsb_and]
  split
  · rfl
  · rw [show cpoly &&& -0#32 = 0#32 from by decide]; simp
theorem ofInt_toNat (x : Int) (h0 : 0 ≤ x) (h1 : x < 4294967296) : ((BitVec.ofInt 32 x).toNat : Int) = x := by
  rw [BitVec.toNat_ofInt]; omega
theorem zb_int0 (c : UInt8) : (c.toNat : Int) = ((zb c).toNat : Int) := by
  unfold zb; rw [BitVec.toNat_setWidth]
  have h : c.toBitVec.toNat = c.toNat := rfl
  rw [h]; have := c.toNat_lt; omega
theorem zb_int (r : R32) (c : UInt8) : bits BinOp.xor IntKind.u32 (r.toNat : Int) (c.toNat : Int) = ((r ^^^ zb c).toNat : Int) := by
  rw [zb_int0, xor32]
theorem bit_int (r : R32) (k : Nat) : bits BinOp.and IntKind.u32 ((r.toNat : Int) / 2 ^ k) 1 = if r.getLsbD k then 1 else 0 := by
  have e : ((r.toNat : Int) / 2 ^ k) = ((r >>> k).toNat : Int) := shr32 r k (2 ^ k) (by simp)
  have e1 : bits BinOp.and IntKind.u32 ((r >>> k).toNat : Int) 1 = ((r >>> k &&& 1#32).toNat : Int) := and32 (r >>> k) 1#32
  rw [e, e1, lsb_and, BitVec.getLsbD_ushiftRight, Nat.add_zero]
  split <;> rfl
theorem bit_true {r : R32} {k : Nat} (h : (bits BinOp.and IntKind.u32 ((r.toNat : Int) / 2 ^ k) 1 == 1) = true) : r.getLsbD k = true := by
  rw [bit_int] at h
  cases hb : r.getLsbD k
  · rw [hb] at h; simp at h
  · rfl
theorem bit_false {r : R32} {k : Nat} (h : (bits BinOp.and IntKind.u32 ((r.toNat : Int) / 2 ^ k) 1 == 1) = false) : r.getLsbD k = false := by
  rw [bit_int] at h
  cases hb : r.getLsbD k
  · rfl
  · rw [hb] at h; simp at h
theorem and1_i64 (k : Nat) (h : k ≤ 1073741824) : bits BinOp.and IntKind.i64 (k : Int) 1 = ((k % 2 : Nat) : Int) := by
  show IntKind.i64.wrap ((BitVec.ofInt 64 (k : Int) &&& BitVec.ofInt 64 1).toNat : Int) = _
  have e : (BitVec.ofInt 64 (k : Int) &&& BitVec.ofInt 64 1).toNat = k % 2 := by
    rw [BitVec.toNat_and]
    have h1 : (BitVec.ofInt 64 1).toNat = 1 := by decide
    have h2 : (BitVec.ofInt 64 (k : Int)).toNat = k := by rw [BitVec.toNat_ofInt]; omega
    rw [h1, h2, Nat.and_one_is_mod]
  rw [e]; exact IntWalk.i64_in _ (by omega)
theorem of8 (c : UInt8) : BitVec.ofInt 8 (c.toNat : Int) = c.toBitVec := by
  apply BitVec.eq_of_toNat_eq
  rw [BitVec.toNat_ofInt]; have := c.toNat_lt; simp; omega
theorem idx_int (r : R32) (c : UInt8) : bits BinOp.xor IntKind.u8 ((r.toNat : Int) % 256) (c.toNat : Int) = ((UInt8.ofBitVec (r.setWidth 8) ^^^ c).toNat : Int) := by
  show IntKind.u8.wrap ((BitVec.ofInt 8 ((r.toNat : Int) % 256) ^^^ BitVec.ofInt 8 (c.toNat : Int)).toNat : Int) = _
  have e : BitVec.ofInt 8 ((r.toNat : Int) % 256) = r.setWidth 8 := by
    apply BitVec.eq_of_toNat_eq
    rw [BitVec.toNat_ofInt, BitVec.toNat_setWidth]; omega
  rw [e, of8, IntKind.wrap_u8']
  have e2 : (UInt8.ofBitVec (r.setWidth 8) ^^^ c).toNat = (r.setWidth 8 ^^^ c.toBitVec).toNat := rfl
  rw [e2]; have := (r.setWidth 8 ^^^ c.toBitVec).isLt; omega
theorem cpass_int (r : R32) (c : UInt8) : bits BinOp.xor IntKind.u32 ((ctab (UInt8.ofBitVec (r.setWidth 8) ^^^ c)).toNat : Int) ((r.toNat : Int) / 256) = ((cpass r c).toNat : Int) := by
  have e2 : ((r.toNat : Int) / (256 : Int)) = ((r >>> 8).toNat : Int) := shr32 r 8 256 rfl
  rw [e2, xor32, ← cpass_tab]
theorem byte_lt (x : UInt8) : (x.toNat : Int) < 256 := by have := x.toNat_lt; omega
theorem not32 (a : R32) : bits BinOp.xor IntKind.u32 IntKind.u32.max (a.toNat : Int) = ((~~~ a).toNat : Int) := by
  have h : IntKind.u32.max = ((BitVec.allOnes 32).toNat : Int) := by decide
  rw [h, xor32, BitVec.xor_comm, BitVec.xor_allOnes]
theorem byte32 (s : R32) (n : Nat) (m : Int) (hm : m = ((2 ^ n : Nat) : Int)) : (s.toNat : Int) / m % 256 = ((UInt8.ofBitVec ((s >>> n).setWidth 8)).toNat : Int) := by
  rw [shr32 s n m hm]
  have e : (UInt8.ofBitVec ((s >>> n).setWidth 8)).toNat = ((s >>> n).setWidth 8).toNat := rfl
  rw [e, BitVec.toNat_setWidth]; omega
theorem byte32_0 (s : R32) : (s.toNat : Int) % 256 = ((UInt8.ofBitVec (s.setWidth 8)).toNat : Int) := by
  have e : (UInt8.ofBitVec (s.setWidth 8)).toNat = (s.setWidth 8).toNat := rfl
  rw [e, BitVec.toNat_setWidth]; omega
theorem byte32_24 (s : R32) : (s.toNat : Int) / (16777216 : Int) = ((UInt8.ofBitVec ((s >>> 24).setWidth 8)).toNat : Int) := by
  rw [← byte32 s 24 16777216 rfl]; have := s.isLt; omega
theorem xor8 (a b : UInt8) : bits BinOp.xor IntKind.u8 (a.toNat : Int) (b.toNat : Int) = ((a ^^^ b).toNat : Int) := by
  show IntKind.u8.wrap ((BitVec.ofInt 8 (a.toNat : Int) ^^^ BitVec.ofInt 8 (b.toNat : Int)).toNat : Int) = _
  rw [of8, of8, IntKind.wrap_u8']
  have e2 : (a ^^^ b).toNat = (a.toBitVec ^^^ b.toBitVec).toNat := rfl
  rw [e2]; have := (a.toBitVec ^^^ b.toBitVec).isLt; omega
end Go.Proofs.Ytlondopgibcikaa
namespace Go.Proofs.Ytlondopgibcikaa
open Go.RowKit Ent

/-- bytes as a text -/
def str (l : List UInt8) : ByteArray := ⟨l.toArray⟩
theorem str_inj {a b : List UInt8} (h : str a = str b) : a = b := by
  have := congrArg (fun x : ByteArray => x.data.toList) h
  simpa [str] using this
theorem b2s (w : World) (ao : Option Addr) (n c : Nat) (l : List UInt8) (hn : n = l.length) (h : SB w ao c l) :
    (convert 22 9 (.slice ao n c)).run Try.prog w = .ok (.string (str l)) w := by
  subst hn
  rcases h with ⟨rfl, rfl, rfl⟩ | ⟨a, rfl, rfl⟩ | ⟨b, o, rfl, hr⟩
  · rw [run_convert_bytes_string w _ _ _ _ _ _ Try.underlying22 Try.underlying5 Try.underlying9]
    simp [Conv.bytesToString]; rfl
  · exact run_convert_bytes_back w _ _ _ a c [] Try.underlying22 Try.underlying5 Try.underlying9 (fun j hj => by simp at hj)
  · exact run_convert_bytes_back w _ _ _ _ c l Try.underlying22 Try.underlying5 Try.underlying9 (fun j hj => by
      rw [Addr.add_mid]; exact rangeAt_byte hr (by simp [hj]))
def sameB (a b : List UInt8) : Bool := decide (a = b)
theorem str_list (a : List UInt8) : (str a).toList = a := ByteArray.toList_mk a
theorem str_eq (a b : List UInt8) : ((str a).toList == (str b).toList) = sameB a b := by
  rw [str_list, str_list]; unfold sameB
  by_cases h : a = b <;> simp [h]
theorem same_self (a : List UInt8) : sameB a a = true := by simp [sameB]
theorem same_iff {a b : List UInt8} : sameB a b = true ↔ a = b := by simp [sameB]

set_option maxRecDepth 100000 in
set_option maxHeartbeats 400000 in
theorem same_any (ao bo : Option Addr) (n m c d : Nat) (l r : List UInt8) (hn : n = l.length) (hm : m = r.length) (w : World) (hl : SB w ao c l) (hr : SB w bo d r) :
    Calls Try.prog 27 #[.slice ao n c, .slice bo m d] w fun e w' => e = .returned (.bool (sameB l r)) ∧ w = w' := by
  have h1 := b2s w ao n c l hn hl
  have h2 := b2s w bo m d r hm hr
  clear hn hm
  go_enter Try.func27, Try.ntmps27
  go_wp2
  go_ret
  exact ⟨by rw [← str_eq]; rfl, rfl⟩

set_option maxRecDepth 100000 in
set_option maxHeartbeats 400000 in
theorem copy_any (ao : Option Addr) (n c : Nat) (l : List UInt8) (hn : n = l.length) (hb : n ≤ 1073741824) (w : World) (hl : SB w ao c l) :
    Calls Try.prog 36 #[.slice ao n c] w fun e w' => ∃ v, e = .returned v ∧ w'.ownsRow w.heap.size 5 1 v l.length (bv l) ∧ v ≠ .slice none 0 0 ∧ Below w.heap.size w w' := by
  subst hn
  go_enter Try.func36, Try.ntmps36
  go_wp2_with (first
    | (refine wpl_append rfl (.tmp 3) (.tmp 4) rfl w.heap.size _ _ _ l rfl (owns_empty w) ao _ c rfl rfl (hl.below ((Below.refl _ _).alloc (Nat.le_refl _) _)) (by omega) (by simp) ?_; intro v2 w2 ho2 hg2 hne))
  go_ret
  exact ⟨v2, rfl, by simpa using ho2, (by intro h; have := (hne.1 h).1; cases this), below_grown ((Below.refl _ _).alloc (Nat.le_refl _) _) (owns_empty w) hg2 (Nat.le_refl _)⟩

theorem tmod_pos (x n : Int) (h0 : 0 < n) (h : 0 ≤ x.tmod n) : x.tmod n = x % n := by
  have h1 := Int.tmod_eq_emod (a := x) (b := n)
  have h2 := Int.emod_nonneg x (show n ≠ 0 by omega)
  have h3 := Int.emod_lt_of_pos x h0
  split at h1 <;> omega
theorem tmod_neg (x n : Int) (h0 : 0 < n) (h : x.tmod n < 0) : x.tmod n + n = x % n := by
  have h1 := Int.tmod_eq_emod (a := x) (b := n)
  have h2 := Int.emod_nonneg x (show n ≠ 0 by omega)
  have h3 := Int.emod_lt_of_pos x h0
  split at h1 <;> omega
set_option maxRecDepth 100000 in
set_option maxHeartbeats 400000 in
theorem pick_any (x n : Int) (h0 : 0 < n) (h1 : n ≤ 4611686018427387904) (_hx : -9223372036854775808 ≤ x) (_hx' : x ≤ 9223372036854775807) (w : World) :
    Calls Try.prog 34 #[.int .i64 x, .int .i64 n] w fun e w' => e = .returned (.int .i64 (x % n)) ∧ w = w' := by
  go_enter Try.func34, Try.ntmps34
  go_wp2
  · have h : x.tmod n < 0 := by assumption
    have e := tmod_neg x n h0 h
    have h3 := Int.emod_lt_of_pos x h0
    have h2 := Int.emod_nonneg x (show n ≠ 0 by omega)
    go_ret
    refine ⟨ret_int ?_, rfl⟩
    show wrap64 (x.tmod n + n) = x % n
    rw [e]; exact IntWalk.wrap64_in _ ⟨by omega, by omega⟩
  · have h : 0 ≤ x.tmod n := by assumption
    have e := tmod_pos x n h0 h
    go_ret
    exact ⟨ret_int e, rfl⟩

/-- bytes that may be written -/
def WB (w : World) (ao : Option Addr) (n : Nat) : Prop := n = 0 ∨ ∃ b o, ao = some ⟨b, o, none⟩ ∧ ∀ j, j < n → (∃ x : UInt8, w.cell? ⟨b, o + j, none⟩ = some (.int .u8 (x.toNat : Int))) ∧ w.frozen? ⟨b, o + j, none⟩ = false
theorem WB.ofOwns {w : World} {base n : Nat} {v : Value} {l : List UInt8} (h : w.ownsRow base 5 1 v n (bv l)) : ∃ ao cap, v = .slice ao n cap ∧ WB w ao n := by
  have hl := h.1
  simp at hl
  rcases h.2 with ⟨rfl, rfl⟩ | ⟨g, cap, cur, rfl, _, hh, _, _, _, ht⟩
  · exact ⟨none, 0, rfl, .inl rfl⟩
  · refine ⟨_, cap, rfl, .inr ⟨g, 0, rfl, fun j hj => ⟨⟨l[j]'(by omega), ?_⟩, by rw [Nat.zero_add]; exact free_blk hh j⟩⟩⟩
    rw [Nat.zero_add, cell_of_row w g j cur _ _ hh]
    have : (cur.toList.take (n * 1))[j]? = some (.int .u8 ((l[j]'(by omega)).toNat : Int)) := by
      rw [ht, bv_get]; simp [show j < l.length by omega]
    rw [List.getElem?_take] at this
    split at this
    · simpa using this
    · cases this
theorem WB.below {w w' : World} {ao : Option Addr} {n : Nat} (h : WB w ao n) (hb : Below w.heap.size w w') : WB w' ao n := by
  rcases h with h | ⟨b, o, rfl, h⟩
  · exact .inl h
  · refine .inr ⟨b, o, rfl, fun j hj => ?_⟩
    obtain ⟨⟨x, hx⟩, hf⟩ := h j hj
    have hlt := World.block_lt_of_cell? w _ hx
    exact ⟨⟨x, by rw [hb.cell hlt]; exact hx⟩, by rw [hb.frozen hlt]; exact hf⟩
theorem own_all {w : World} {base n : Nat} {v : Value} {l : List UInt8} (h : w.ownsRow base 5 1 v n (bv l)) :
    ∃ ao cap, v = .slice ao n cap ∧ n = l.length ∧ n ≤ cap ∧ SB w ao cap l ∧ WB w ao n ∧ ∀ a, ao = some a → base ≤ a.block ∧ a.block < w.heap.size := by
  obtain ⟨ao, cap, hv, hw⟩ := WB.ofOwns h
  obtain ⟨ao', cap', hv', hn, hs⟩ := SB.ofOwns h
  have e := hv.symm.trans hv'
  injection e with e1 e2 e3
  subst e1; subst e3
  refine ⟨ao, cap, hv, hn, ?_, hs, hw, fun a ha => ?_⟩
  · rcases h.2 with ⟨_, h0⟩ | ⟨g, c, cur, hvv, _, _, hc, _⟩
    · omega
    · rw [hv] at hvv; injection hvv with _ _ e3; omega
  · exact h.lt a.block (by rw [hv, ha]; rfl)
theorem owns_keep {w w' : World} {F : Nat → Prop} {base : Nat} {e : TypeId} {size : Nat} {v : Value} {n : Nat} {xs : List Value} (h : w.ownsRow base e size v n xs) (hk : Keep F w w') (hF : ∀ k, v.ownBlock = some k → ¬ F k) : w'.ownsRow base e size v n xs := by
  refine ⟨h.1, ?_⟩
  rcases h.2 with hn | ⟨g, cap, cur, hv, hg, hh, r⟩
  · exact .inl hn
  · exact .inr ⟨g, cap, cur, hv, hg, hk.blk hh (hF g (by rw [hv]; rfl)), r⟩
theorem SB.keep {w w' : World} {F : Nat → Prop} {ao : Option Addr} {cap : Nat} {l : List UInt8} (h : SB w ao cap l) (hk : Keep F w w') (hF : ∀ a, ao = some a → ¬ F a.block) : SB w' ao cap l := by
  rcases h with h | h | ⟨b, o, rfl, h⟩
  · exact .inl h
  · exact .inr (.inl h)
  · exact .inr (.inr ⟨b, o, rfl, hk.range h (hF _ rfl)⟩)
theorem WB.keep {w w' : World} {F : Nat → Prop} {ao : Option Addr} {n : Nat} (h : WB w ao n) (hk : Keep F w w') (hF : ∀ a, ao = some a → ¬ F a.block) : WB w' ao n := by
  rcases h with h | ⟨b, o, rfl, h⟩
  · exact .inl h
  · refine .inr ⟨b, o, rfl, fun j hj => ?_⟩
    obtain ⟨⟨x, hx⟩, hf⟩ := h j hj
    have hlt := World.block_lt_of_cell? w _ hx
    exact ⟨⟨x, by rw [hk.cell hlt (hF ⟨b, o, none⟩ rfl)]; exact hx⟩, by rw [hk.frozen hlt (hF ⟨b, o, none⟩ rfl)]; exact hf⟩
/-- where a slice begins that is cut at its front -/
def sl (ao : Option Addr) (m cap : Nat) : Option Addr := if cap = m then ao else ao.map (·.add m)
theorem run_sl (ao : Option Addr) (n cap m : Nat) (hm : m ≤ n) (w : World) :
    (Instr.slice 22 (.slice ao n cap) (some (.int .i64 (m : Int))) none none).run Try.prog w = .ok (.slice (sl ao m cap) (n - m) (cap - m)) w := by
  obtain ⟨i, hi, _, hz1, _⟩ := info_u8
  have h1 : (0 : Int) ≤ (m : Int) ∧ (m : Int) ≤ (n : Int) := by omega
  simp [Instr.slice, Instr.sliceBounds, Instr.sliceBound, asIntOf, run_underlying Try.underlying22, sizeOf, typeInfo, hi, hz1, sl, h1]
  intro h; omega
theorem SB.sl {w : World} {ao : Option Addr} {cap : Nat} {l : List UInt8} (h : SB w ao cap l) {m : Nat} (hm : m ≤ l.length) (hc : l.length ≤ cap) : SB w (sl ao m cap) (cap - m) (l.drop m) := by
  unfold Proofs.Ytlondopgibcikaa.sl
  by_cases hcm : cap = m
  · rw [if_pos hcm]
    have h0 : l.drop m = [] := List.drop_of_length_le (by omega)
    rw [h0]
    rcases h with ⟨rfl, h2, rfl⟩ | ⟨a, rfl, rfl⟩ | ⟨b, o, rfl, _⟩
    · exact .inl ⟨rfl, by omega, rfl⟩
    · exact .inr (.inl ⟨a, rfl, rfl⟩)
    · exact .inr (.inl ⟨_, rfl, rfl⟩)
  · rw [if_neg hcm]
    rcases h with ⟨rfl, rfl, rfl⟩ | ⟨a, rfl, rfl⟩ | ⟨b, o, rfl, hr⟩
    · simp at hm; omega
    · exact .inr (.inl ⟨_, rfl, by simp⟩)
    · refine .inr (.inr ⟨b, o + m, by rw [Option.map_some, Addr.add_mid], fun j v hv => ?_⟩)
      rw [Nat.add_assoc]; refine hr (m + j) v ?_
      rw [bv_get] at hv ⊢; simpa using hv
/-- bytes that came in, as the shells tell of them -/
theorem row_SB {w : World} {a : Option Addr} {len cap : Nat} {zs : List Int} (h : (a = none ∧ len = 0 ∧ cap = 0 ∧ zs = []) ∨
    ∃ x, a = some x ∧ len ≤ cap ∧ cap ≤ maxLen ∧ zs.length = cap ∧ (∀ i, i < zs.length → w.cell? (x.add i) = some (.int .u8 (zs.getD i 0))) ∧ ∀ n ∈ zs, (Lit.int .u8 n).wf = true) :
    ∃ l : List UInt8, len = l.length ∧ len ≤ cap ∧ len ≤ 9223372036854775807 ∧ SB w a cap l ∧ ∀ x, a = some x → l ≠ [] → x.block < w.heap.size := by
  rcases h with ⟨rfl, rfl, rfl, rfl⟩ | ⟨x, rfl, hlc, hcm, hz, hc, hwf⟩
  · exact ⟨[], rfl, Nat.le_refl _, by omega, .inl ⟨rfl, rfl, rfl⟩, by simp⟩
  · have hm : len ≤ 9223372036854775807 := by unfold maxLen at hcm; omega
    have hll : len = ((zs.take len).map fun n => UInt8.ofNat n.toNat).length := by simp; omega
    by_cases h0 : len = 0
    · subst h0
      exact ⟨[], rfl, hlc, by omega, .inr (.inl ⟨x, rfl, rfl⟩), by simp⟩
    · obtain ⟨b, o, sp⟩ := x
      have hcell := hc 0 (by omega)
      have hsp : sp = none := by simpa [Addr.add] using World.cell?_spot hcell
      subst hsp
      refine ⟨_, hll, hlc, hm, .inr (.inr ⟨b, o, rfl, fun j v hv => ?_⟩), fun x hx _ => ?_⟩
      · rw [bv_get] at hv
        simp only [List.getElem?_map, List.getElem?_take] at hv
        by_cases hj : j < len
        · have hcj := hc j (by omega)
          rw [Addr.add_mid] at hcj
          rw [hcj]
          have hjz : zs[j]? = some (zs.getD j 0) := by simp [List.getD, List.getElem?_eq_getElem (show j < zs.length by omega)]
          rw [if_pos hj, hjz] at hv
          have hw := hwf (zs.getD j 0) (List.mem_of_getElem? hjz)
          have hb : 0 ≤ zs.getD j 0 ∧ zs.getD j 0 ≤ 255 := by
            have h1 : IntKind.u8.min = 0 := rfl
            have h2 : IntKind.u8.max = 255 := rfl
            simp only [Lit.wf, Bool.and_eq_true, decide_eq_true_eq] at hw
            omega
          simp at hv
          rw [← hv]
          have : ((zs.getD j 0).toNat % 256 : Nat) = (zs.getD j 0).toNat := Nat.mod_eq_of_lt (by omega)
          simp at this hb ⊢
          omega
        · rw [if_neg hj] at hv; simp at hv
      · injection hx with hx; subst hx
        exact World.block_lt_of_cell? w _ (by simpa [Addr.add] using hcell)
theorem over_int (x : UInt8) : bits BinOp.xor IntKind.u8 (x.toNat : Int) 165 = ((x ^^^ 165).toNat : Int) := xor8 x 165
set_option maxRecDepth 100000 in
set_option maxHeartbeats 400000 in
theorem over_any (ao : Option Addr) (n c : Nat) (hb : n ≤ 1073741824) (w : World) (hl : WB w ao n) :
    Calls Try.prog 29 #[.slice ao n c] w fun e w' => e = .returned (.tuple #[]) ∧ Keep (fun k => ∃ a, ao = some a ∧ k = a.block ∧ 0 < n) w w' := by
  go_enter Try.func29, Try.ntmps29
  go_wp2_with fail
  go_loopw [2] (fun i wr => ∃ k : Nat, k ≤ n ∧ i = .int .i64 k ∧ WB wr ao n ∧ Keep (fun k => ∃ a, ao = some a ∧ k = a.block ∧ 0 < n) w wr) (fun i _ => n - (intOf i).toNat)
  case atStart => exact ⟨0, Nat.zero_le _, rfl, hl, Keep.refl _ _⟩
  case round =>
    obtain ⟨k, hk, rfl, hw, hK⟩ := hrel
    by_cases hlt : k < n
    · rcases hw with h0 | ⟨b, o, rfl, hc⟩
      · omega
      · obtain ⟨⟨x, hx⟩, hf⟩ := hc k hlt
        have HC := hid hc
        clear hc
        go_wp2
        go_roundw
        case rel =>
          refine ⟨k + 1, by omega, by go_num, .inr ⟨b, o, rfl, fun j hj => ?_⟩, hK.setCell (p := ⟨b, o + k, none⟩) ⟨_, rfl, rfl, by omega⟩ _⟩
          obtain ⟨⟨y, hy⟩, hfy⟩ := HC.out j hj
          refine ⟨?_, ?_⟩
          · by_cases hjk : j = k
            · subst hjk
              exact ⟨x ^^^ 165, by rw [over_int]; exact World.cell?_setCell_same _ _ _ hx⟩
            · exact ⟨y, by rw [World.cell?_setCell_other _ _ _ _ (by intro e; injection e; omega)]; exact hy⟩
          · simpa using hfy
        case measure => simp [intOf]; omega
    · go_wp2
      go_end0
      exact ⟨rfl, hK⟩
def lent4 : List UInt8 := [201, 202, 203, 204]
set_option maxRecDepth 100000 in
set_option maxHeartbeats 400000 in
theorem lent_any (ao : Option Addr) (n c : Nat) (l : List UInt8) (hn : n = l.length) (hb : n ≤ 1073741824) (w : World) (hl : SB w ao c l) :
    Calls Try.prog 23 #[.slice ao n c] w fun e w' => ∃ g cap, e = .returned (.slice (some ⟨g, 0, none⟩) l.length cap) ∧ w'.ownsRow w.heap.size 5 1 (.slice (some ⟨g, 0, none⟩) (l.length + 4) cap) (l.length + 4) (bv (l ++ lent4)) ∧ Below w.heap.size w w' := by
  subst hn
  go_enter Try.func23, Try.ntmps23
  go_wp2_with (first
    | (refine wpl_append rfl (.tmp 4) (.tmp 5) rfl w.heap.size _ _ _ l rfl (owns_empty w) ao _ c rfl rfl (hl.below ((Below.refl _ _).alloc (Nat.le_refl _) _)) (by omega) (by simp) ?_; intro v2 w2 ho2 hg2 hne; have hb2 := below_grown ((Below.refl _ _).alloc (Nat.le_refl _) _) (owns_empty w) hg2 (Nat.le_refl _); clear hg2 hne)
    | (refine wpl_append rfl (.tmp 6) (.tmp 7) rfl w.heap.size _ _ _ lent4 rfl (ho2.alloc _) (some ⟨w2.heap.size, 0, none⟩) _ 4 rfl rfl (SB.laid _ lent4 _ _) (by omega) (by have := hb2.size; simp; omega) ?_; intro v3 w3 ho3 hg3 hne3; have hb3 := below_grown (hb2.alloc hb2.size _) (ho2.alloc _) hg3 (Nat.le_refl _); clear hg3 hb2 ho2; obtain ⟨g, cap, rfl, hc4, ho4⟩ := own_some ho3 hne3; clear ho3 hne3))
  go_ret
  exact ⟨g, cap, rfl, by simpa using ho4, hb3⟩

theorem own_range {w : World} {base n g cap : Nat} {l : List UInt8} (h : w.ownsRow base 5 1 (.slice (some ⟨g, 0, none⟩) n cap) n (bv l)) : n = l.length ∧ n ≤ cap ∧ w.rangeAt g 0 (bv l) := by
  have hl := h.1
  simp at hl
  rcases h.2 with ⟨h1, _⟩ | ⟨g', cap', cur, hv, _, hh, hc, _, _, ht⟩
  · cases h1
  · injection hv with e1 e2 e3
    injection e1 with e1
    injection e1 with e1
    subst e1; subst e3
    refine ⟨hl.symm, hc, fun j u hu => ?_⟩
    rw [Nat.zero_add, cell_of_row w g j cur _ _ hh]
    rw [← ht, List.getElem?_take] at hu
    split at hu
    · simpa using hu
    · cases hu
theorem range_split {w : World} {b o : Nat} {l r : List UInt8} (h : w.rangeAt b o (bv (l ++ r))) : w.rangeAt b o (bv l) ∧ w.rangeAt b (o + l.length) (bv r) := by
  rw [bv_append] at h
  refine ⟨fun j v hv => h j v ?_, fun j v hv => ?_⟩
  · rw [List.getElem?_append_left (List.getElem?_eq_some_iff.1 hv).1]; exact hv
  · have := h (l.length + j) v (by rw [List.getElem?_append_right (by simp)]; simpa using hv)
    rwa [Nat.add_assoc]

set_option maxRecDepth 100000 in
set_option maxHeartbeats 1000000 in
theorem kept_any (bo : Option Addr) (n c g cap base : Nat) (l : List UInt8) (hn : n = l.length) (hb : n ≤ 1073741824) (w : World)
    (ho : w.ownsRow base 5 1 (.slice (some ⟨g, 0, none⟩) (l.length + 4) cap) (l.length + 4) (bv (l ++ lent4))) (hl : SB w bo c l) :
    Calls Try.prog 30 #[.slice (some ⟨g, 0, none⟩) n cap, .slice bo n c] w fun e w' => e = .returned (.bool true) ∧ Below w.heap.size w w' := by
  subst hn
  obtain ⟨-, hcap, hr⟩ := own_range ho
  have hs := range_split hr
  rw [Nat.zero_add] at hs
  have s1 : SB w (some ⟨g, 0, none⟩) cap l := .inr (.inr ⟨g, 0, rfl, hs.1⟩)
  have s2 : SB w (some ⟨g, l.length, none⟩) (cap - l.length) lent4 := .inr (.inr ⟨g, l.length, rfl, hs.2⟩)
  have s3 : SB w bo c l := hl
  have c1 := fun (w : World) (h : SB w (some ⟨g, 0, none⟩) cap l) => b2s w _ _ cap l rfl h
  have c2 := fun (w : World) (h : SB w (some ⟨g, l.length, none⟩) (cap - l.length) lent4) => b2s w _ 4 (cap - l.length) lent4 rfl h
  have c3 := fun (w : World) (h : SB w bo c l) => b2s w _ _ c l rfl h
  clear hs hr ho hl
  have hI : (l.length : Int) + 4 ≤ (cap : Int) := by omega
  have hw : IntKind.i64.wrap ((l.length : Int) + 4) = (l.length : Int) + 4 := IntWalk.i64_in _ (by omega)
  have h0 : (0 : Int) ≤ (l.length : Int) + 4 := by omega
  have ht : ((l.length : Int) + 4).toNat = l.length + 4 := by omega
  have hne : ¬ cap = l.length := by omega
  have hle : (l.length : Int) ≤ (l.length : Int) + 4 := by omega
  have hb0 : Below w.heap.size w w.drew := (Below.refl _ _).drew
  have hb1 : Below w.heap.size w (w.alloc (.cells #[.int .u8 201, .int .u8 202, .int .u8 203, .int .u8 204] 5)).drew := ((Below.refl _ _).alloc (Nat.le_refl _) _).drew
  have HS0 := hid (And.intro (s1.below hb0) (And.intro (s2.below hb0) (And.intro (s3.below hb0) hb0)))
  have HS1 := hid (And.intro (s1.below hb1) (And.intro (s2.below hb1) (And.intro (s3.below hb1) hb1)))
  have d4 := b2s ((w.alloc (.cells #[.int .u8 201, .int .u8 202, .int .u8 203, .int .u8 204] 5)).drew) _ 4 4 lent4 rfl (SB.laid w lent4 5 4)
  clear hb0 hb1 s1 s2 s3
  go_enter Try.func30, Try.ntmps30
  go_wp2_with fail
  refine wp_region_held_drew (S := fun w' => SB w' (some ⟨g, 0, none⟩) cap l ∧ SB w' (some ⟨g, l.length, none⟩) (cap - l.length) lent4 ∧ SB w' bo c l ∧ Below w.heap.size w w') (by kernel_rfl) HS0.out (fun hS => ?_)
  refine wpAnyH_take (i := 0) (v := ?v0) (by simp only [List.getElem?_toArray, List.getElem?_cons_zero]; exact rfl) (by kernel_rfl) (by kernel_rfl) (by kernel_rfl) (by exact fun _ _ _ h => h) (Or.inl ⟨by rfl, ?y0⟩) hS ?r0
  case y0 => (intro w' hSw; (try dsimp only at hSw); go_simp; (try with_reducible rfl))
  simp only [Act.put, List.setIfInBounds_toArray, List.set_cons_zero, List.set_cons_succ]
  refine wpAnyH_take (i := 1) (v := ?v1) (by simp only [List.getElem?_toArray, List.getElem?_cons_zero, List.getElem?_cons_succ]; exact rfl) (by kernel_rfl) (by kernel_rfl) (by kernel_rfl) (by exact fun _ _ _ h => h) (Or.inl ⟨by rfl, ?y1⟩) hS ?r1
  case y1 => (intro w' hSw; (try dsimp only at hSw); go_simp; (try with_reducible rfl))
  simp only [Act.put, List.setIfInBounds_toArray, List.set_cons_zero, List.set_cons_succ]
  refine wpAnyH_take (i := 2) (v := ?v2) (by simp only [List.getElem?_toArray, List.getElem?_cons_zero, List.getElem?_cons_succ]; exact rfl) (by kernel_rfl) (by kernel_rfl) (by kernel_rfl) (by exact fun _ _ _ h => h) (Or.inl ⟨by rfl, ?y2⟩) hS ?r2
  case y2 => (intro w' hSw; (try dsimp only at hSw); go_simp; (try with_reducible rfl))
  simp only [Act.put, List.setIfInBounds_toArray, List.set_cons_zero, List.set_cons_succ]
  refine wpAnyH_take (i := 3) (v := ?v3) (by simp only [List.getElem?_toArray, List.getElem?_cons_zero, List.getElem?_cons_succ]; exact rfl) (by kernel_rfl) (by kernel_rfl) (by kernel_rfl) (by exact fun _ _ _ h => h) (Or.inl ⟨by rfl, ?y3⟩) hS ?r3
  case y3 => (intro w' hSw; (try dsimp only at hSw); go_simp; (try with_reducible rfl))
  simp only [Act.put, List.setIfInBounds_toArray, List.set_cons_zero, List.set_cons_succ]
  refine wpAnyH_take (i := 4) (v := ?v4) (by simp only [List.getElem?_toArray, List.getElem?_cons_zero, List.getElem?_cons_succ]; exact rfl) (by kernel_rfl) (by kernel_rfl) (by kernel_rfl) (by exact fun _ _ _ h => h) (Or.inl ⟨by rfl, ?y4⟩) hS ?r4
  case y4 => (intro w' hSw; (try dsimp only at hSw); go_simp; (try with_reducible rfl))
  simp only [Act.put, List.setIfInBounds_toArray, List.set_cons_zero, List.set_cons_succ]
  refine wpAnyH_take (i := 5) (v := ?v5) (by simp only [List.getElem?_toArray, List.getElem?_cons_zero, List.getElem?_cons_succ]; exact rfl) (by kernel_rfl) (by kernel_rfl) (by kernel_rfl) (by exact fun _ _ _ h => h) (Or.inl ⟨by rfl, ?y5⟩) hS ?r5
  case y5 => (intro w' hSw; (try dsimp only at hSw); go_simp; (try with_reducible rfl))
  simp only [Act.put, List.setIfInBounds_toArray, List.set_cons_zero, List.set_cons_succ]
  refine wpAnyH_take (i := 6) (v := ?v6) (by simp only [List.getElem?_toArray, List.getElem?_cons_zero, List.getElem?_cons_succ]; exact rfl) (by kernel_rfl) (by kernel_rfl) (by kernel_rfl) (by exact fun _ _ _ h => h) (Or.inl ⟨by rfl, ?y6⟩) hS ?r6
  case y6 => (intro w' hSw; (try dsimp only at hSw); go_simp; (try with_reducible rfl))
  simp only [Act.put, List.setIfInBounds_toArray, List.set_cons_zero, List.set_cons_succ]
  refine wpAnyH_take (i := 7) (v := ?v7) (by simp only [List.getElem?_toArray, List.getElem?_cons_zero, List.getElem?_cons_succ]; exact rfl) (by kernel_rfl) (by kernel_rfl) (by kernel_rfl) (by exact fun _ _ _ h => h) (Or.inl ⟨by rfl, ?y7⟩) hS ?r7
  case y7 => (intro w' hSw; (try dsimp only at hSw); go_simp; (try with_reducible rfl))
  simp only [Act.put, List.setIfInBounds_toArray, List.set_cons_zero, List.set_cons_succ]
  refine wpAnyH_take (i := 8) (v := ?v8) (by simp only [List.getElem?_toArray, List.getElem?_cons_zero, List.getElem?_cons_succ]; exact rfl) (by kernel_rfl) (by kernel_rfl) (by kernel_rfl) (by exact fun _ _ _ h => h) (Or.inl ⟨by rfl, ?y8⟩) hS ?r8
  case y8 => (intro w' hSw; (try dsimp only at hSw); go_simp; (try with_reducible rfl))
  simp only [Act.put, List.setIfInBounds_toArray, List.set_cons_zero, List.set_cons_succ]
  refine wpAnyH_take (i := 9) (v := ?v9) (by simp only [List.getElem?_toArray, List.getElem?_cons_zero, List.getElem?_cons_succ]; exact rfl) (by kernel_rfl) (by kernel_rfl) (by kernel_rfl) (by exact fun _ _ _ h => h) (Or.inl ⟨by rfl, ?y9⟩) hS ?r9
  case y9 => (intro w' hSw; (try dsimp only at hSw); go_simp; (try with_reducible rfl))
  simp only [Act.put, List.setIfInBounds_toArray, List.set_cons_zero, List.set_cons_succ]
  refine wpAnyH_take (i := 10) (v := ?v10) (by simp only [List.getElem?_toArray, List.getElem?_cons_zero, List.getElem?_cons_succ]; exact rfl) (by kernel_rfl) (by kernel_rfl) (by kernel_rfl) (by exact fun _ _ _ h => h) (Or.inl ⟨by rfl, ?y10⟩) hS ?r10
  case y10 => (intro w' hSw; (try dsimp only at hSw); go_simp; (try with_reducible rfl))
  simp only [Act.put, List.setIfInBounds_toArray, List.set_cons_zero, List.set_cons_succ]
  refine wpAnyH_take (i := 11) (v := ?v11) (by simp only [List.getElem?_toArray, List.getElem?_cons_zero, List.getElem?_cons_succ]; exact rfl) (by kernel_rfl) (by kernel_rfl) (by kernel_rfl) (by exact fun _ _ _ h => h) (Or.inl ⟨by rfl, ?y11⟩) hS ?r11
  case y11 => (intro w' hSw; (try dsimp only at hSw); go_simp; (try with_reducible rfl))
  simp only [Act.put, List.setIfInBounds_toArray, List.set_cons_zero, List.set_cons_succ]
  refine wpAnyH_take (i := 12) (v := ?v12) (by simp only [List.getElem?_toArray, List.getElem?_cons_zero, List.getElem?_cons_succ]; exact rfl) (by kernel_rfl) (by kernel_rfl) (by kernel_rfl) (by exact fun _ _ _ h => h) (Or.inl ⟨by rfl, ?y12⟩) hS ?r12
  case y12 => (intro w' hSw; (try dsimp only at hSw); go_simp; (try with_reducible rfl))
  simp only [Act.put, List.setIfInBounds_toArray, List.set_cons_zero, List.set_cons_succ]
  refine wpAnyH_take (i := 13) (v := ?v13) (by simp only [List.getElem?_toArray, List.getElem?_cons_zero, List.getElem?_cons_succ]; exact rfl) (by kernel_rfl) (by kernel_rfl) (by kernel_rfl) (by exact fun _ _ _ h => h) (Or.inl ⟨by rfl, ?y13⟩) hS ?r13
  case y13 => (intro w' hSw; (try dsimp only at hSw); go_simp; (try with_reducible rfl))
  simp only [Act.put, List.setIfInBounds_toArray, List.set_cons_zero, List.set_cons_succ]
  refine wpAnyH_take (i := 14) (v := ?v14) (by simp only [List.getElem?_toArray, List.getElem?_cons_zero, List.getElem?_cons_succ]; exact rfl) (by kernel_rfl) (by kernel_rfl) (by kernel_rfl) (by exact fun _ _ _ h => h) (Or.inl ⟨by rfl, ?y14⟩) hS ?r14
  case y14 => (intro w' hSw; (try dsimp only at hSw); go_simp; (try with_reducible rfl))
  simp only [Act.put, List.setIfInBounds_toArray, List.set_cons_zero, List.set_cons_succ]
  refine wpAnyH_take (i := 15) (v := ?v15) (by simp only [List.getElem?_toArray, List.getElem?_cons_zero, List.getElem?_cons_succ]; exact rfl) (by kernel_rfl) (by kernel_rfl) (by kernel_rfl) (by exact fun _ _ _ h => h) (Or.inl ⟨by rfl, ?y15⟩) hS ?r15
  case y15 => (intro w' hSw; (try dsimp only at hSw); go_simp; (try with_reducible rfl))
  simp only [Act.put, List.setIfInBounds_toArray, List.set_cons_zero, List.set_cons_succ]
  refine wpAnyH_take (i := 16) (v := ?v16) (by simp only [List.getElem?_toArray, List.getElem?_cons_zero, List.getElem?_cons_succ]; exact rfl) (by kernel_rfl) (by kernel_rfl) (by kernel_rfl) (by exact fun _ _ _ h => h) (Or.inl ⟨by rfl, ?y16⟩) hS ?r16
  case y16 => (intro w' hSw; (try dsimp only at hSw); go_simp; (try with_reducible rfl))
  simp only [Act.put, List.setIfInBounds_toArray, List.set_cons_zero, List.set_cons_succ]
  refine wpAnyH_take (i := 17) (v := ?v17) (by simp only [List.getElem?_toArray, List.getElem?_cons_zero, List.getElem?_cons_succ]; exact rfl) (by kernel_rfl) (by kernel_rfl) (by kernel_rfl) (by exact fun _ _ _ h => h) (Or.inl ⟨by rfl, ?y17⟩) hS ?r17
  case y17 => (intro w' hSw; (try dsimp only at hSw); go_simp; (try with_reducible rfl))
  simp only [Act.put, List.setIfInBounds_toArray, List.set_cons_zero, List.set_cons_succ]
  refine wpAnyH_take (i := 18) (v := ?v18) (by simp only [List.getElem?_toArray, List.getElem?_cons_zero, List.getElem?_cons_succ]; exact rfl) (by kernel_rfl) (by kernel_rfl) (by kernel_rfl) (by exact fun _ _ _ h => h) (Or.inl ⟨by rfl, ?y18⟩) hS ?r18
  case y18 => (intro w' hSw; (try dsimp only at hSw); go_simp; (try with_reducible rfl))
  simp only [Act.put, List.setIfInBounds_toArray, List.set_cons_zero, List.set_cons_succ]
  refine wpAnyH_take (i := 19) (v := ?v19) (by simp only [List.getElem?_toArray, List.getElem?_cons_zero, List.getElem?_cons_succ]; exact rfl) (by kernel_rfl) (by kernel_rfl) (by kernel_rfl) (by exact fun _ _ _ h => h) (Or.inl ⟨by rfl, ?y19⟩) hS ?r19
  case y19 => (intro w' hSw; (try dsimp only at hSw); go_simp; (try with_reducible rfl))
  simp only [Act.put, List.setIfInBounds_toArray, List.set_cons_zero, List.set_cons_succ]
  refine wpAnyH_take (i := 20) (v := ?v20) (by simp only [List.getElem?_toArray, List.getElem?_cons_zero, List.getElem?_cons_succ]; exact rfl) (by kernel_rfl) (by kernel_rfl) (by kernel_rfl) (by exact fun _ _ _ h => h) (Or.inl ⟨by rfl, ?y20⟩) hS ?r20
  case y20 => (intro w' hSw; (try dsimp only at hSw); go_simp; (try with_reducible rfl))
  simp only [Act.put, List.setIfInBounds_toArray, List.set_cons_zero, List.set_cons_succ]
  refine wpAnyH_take (i := 21) (v := ?v21) (by simp only [List.getElem?_toArray, List.getElem?_cons_zero, List.getElem?_cons_succ]; exact rfl) (by kernel_rfl) (by kernel_rfl) (by kernel_rfl) (by exact fun _ _ _ h => h) (Or.inl ⟨by rfl, ?y21⟩) hS ?r21
  case y21 => (intro w' hSw; (try dsimp only at hSw); go_simp; (try with_reducible rfl))
  simp only [Act.put, List.setIfInBounds_toArray, List.set_cons_zero, List.set_cons_succ]
  refine wpAnyH_take (i := 22) (v := ?v22) (by simp only [List.getElem?_toArray, List.getElem?_cons_zero, List.getElem?_cons_succ]; exact rfl) (by kernel_rfl) (by kernel_rfl) (by kernel_rfl) (by exact fun _ _ _ h => h) (Or.inl ⟨by rfl, ?y22⟩) hS ?r22
  case y22 => (intro w' hSw; (try dsimp only at hSw); go_simp; (try with_reducible rfl))
  simp only [Act.put, List.setIfInBounds_toArray, List.set_cons_zero, List.set_cons_succ]
  refine wpAnyH_take (i := 23) (v := ?v23) (by simp only [List.getElem?_toArray, List.getElem?_cons_zero, List.getElem?_cons_succ]; exact rfl) (by kernel_rfl) (by kernel_rfl) (by kernel_rfl) (by exact fun _ _ _ h => h) (Or.inl ⟨by rfl, ?y23⟩) hS ?r23
  case y23 => (intro w' hSw; (try dsimp only at hSw); go_simp; (try with_reducible rfl))
  simp only [Act.put, List.setIfInBounds_toArray, List.set_cons_zero, List.set_cons_succ]
  refine wpAnyH_take (i := 24) (v := ?v24) (by simp only [List.getElem?_toArray, List.getElem?_cons_zero, List.getElem?_cons_succ]; exact rfl) (by kernel_rfl) (by kernel_rfl) (by kernel_rfl) (by exact fun _ _ _ h => h) (Or.inl ⟨by rfl, ?y24⟩) hS ?r24
  case y24 => (intro w' hSw; (try dsimp only at hSw); go_simp; (try with_reducible rfl))
  simp only [Act.put, List.setIfInBounds_toArray, List.set_cons_zero, List.set_cons_succ]
  refine wpAnyH_take (i := 25) (v := ?v25) (by simp only [List.getElem?_toArray, List.getElem?_cons_zero, List.getElem?_cons_succ]; exact rfl) (by kernel_rfl) (by kernel_rfl) (by kernel_rfl) (by exact fun _ _ _ h => h) (Or.inl ⟨by rfl, ?y25⟩) hS ?r25
  case y25 => (intro w' hSw; (try dsimp only at hSw); go_simp; (try with_reducible rfl))
  simp only [Act.put, List.setIfInBounds_toArray, List.set_cons_zero, List.set_cons_succ]
  refine wpAnyH_take (i := 26) (v := ?v26) (by simp only [List.getElem?_toArray, List.getElem?_cons_zero, List.getElem?_cons_succ]; exact rfl) (by kernel_rfl) (by kernel_rfl) (by kernel_rfl) (by exact fun _ _ _ h => h) (Or.inl ⟨by rfl, ?y26⟩) hS ?r26
  case y26 => (intro w' hSw; (try dsimp only at hSw); go_simp; (try with_reducible rfl))
  simp only [Act.put, List.setIfInBounds_toArray, List.set_cons_zero, List.set_cons_succ]
  refine wpAnyH_take (i := 27) (v := ?v27) (by simp only [List.getElem?_toArray, List.getElem?_cons_zero, List.getElem?_cons_succ]; exact rfl) (by kernel_rfl) (by kernel_rfl) (by kernel_rfl) (by exact fun _ _ _ h => h) (Or.inl ⟨by rfl, ?y27⟩) hS ?r27
  case y27 => (intro w' hSw; (try dsimp only at hSw); go_simp; (try with_reducible rfl))
  simp only [Act.put, List.setIfInBounds_toArray, List.set_cons_zero, List.set_cons_succ]
  refine wpAnyH_take (i := 28) (v := ?v28) (by simp only [List.getElem?_toArray, List.getElem?_cons_zero, List.getElem?_cons_succ]; exact rfl) (by kernel_rfl) (by kernel_rfl) (by kernel_rfl) (by exact fun _ _ _ h => h) (Or.inl ⟨by rfl, ?y28⟩) hS ?r28
  case y28 => (intro w' hSw; (try dsimp only at hSw); go_simp; (try with_reducible rfl))
  simp only [Act.put, List.setIfInBounds_toArray, List.set_cons_zero, List.set_cons_succ]
  refine wpAnyH_ready (rs := [29]) (by kernel_rfl) (by simp) ?_
  refine AllReadyH.cons (by simp only [List.getElem?_toArray, List.getElem?_cons_zero, List.getElem?_cons_succ]; exact rfl) (fun K hK => ?_) AllReadyH.nil
  go_simp
  refine hK.out _ _ ?k29 (fun hS => ?s29)
  case k29 => exact HS1.out
  clear hK K
  try simp only [Act.put, List.setIfInBounds_toArray, List.set_cons_zero, List.set_cons_succ]
  refine wpAnyH_ready (rs := [30]) (by kernel_rfl) (by simp) ?_
  refine AllReadyH.cons (by simp only [List.getElem?_toArray, List.getElem?_cons_zero, List.getElem?_cons_succ]; exact rfl) (fun K hK => ?_) AllReadyH.nil
  go_simp
  refine hK.out _ _ ?k30 (fun hS => ?s30)
  case k30 => exact HS1.out
  clear hK K
  try simp only [Act.put, List.setIfInBounds_toArray, List.set_cons_zero, List.set_cons_succ]
  refine wpAnyH_take (i := 31) (v := ?v31) (by simp only [List.getElem?_toArray, List.getElem?_cons_zero, List.getElem?_cons_succ]; exact rfl) (by kernel_rfl) (by kernel_rfl) (by kernel_rfl) (by exact fun _ _ _ h => h) (Or.inl ⟨by rfl, ?y31⟩) hS ?r31
  case y31 => (intro w' hSw; (try dsimp only at hSw); go_simp; (try with_reducible rfl))
  simp only [Act.put, List.setIfInBounds_toArray, List.set_cons_zero, List.set_cons_succ]
  refine wpAnyH_take (i := 32) (v := ?v32) (by simp only [List.getElem?_toArray, List.getElem?_cons_zero, List.getElem?_cons_succ]; exact rfl) (by kernel_rfl) (by kernel_rfl) (by kernel_rfl) (by exact fun _ _ _ h => h) (Or.inl ⟨by rfl, ?y32⟩) hS ?r32
  case y32 => (intro w' hSw; (try dsimp only at hSw); go_simp; (try with_reducible rfl))
  simp only [Act.put, List.setIfInBounds_toArray, List.set_cons_zero, List.set_cons_succ]
  refine wpAnyH_take (i := 33) (v := ?v33) (by simp only [List.getElem?_toArray, List.getElem?_cons_zero, List.getElem?_cons_succ]; exact rfl) (by kernel_rfl) (by kernel_rfl) (by kernel_rfl) (by exact fun _ _ _ h => h) (Or.inl ⟨by rfl, ?y33⟩) hS ?r33
  case y33 => (intro w' hSw; (try dsimp only at hSw); go_simp; (try with_reducible rfl))
  simp only [Act.put, List.setIfInBounds_toArray, List.set_cons_zero, List.set_cons_succ]
  refine wpAnyH_done (by kernel_rfl) ?_ _
  go_wp2
  go_ret
  exact ⟨rfl, HS1.out.2.2.2⟩
end Go.Proofs.Ytlondopgibcikaa
namespace Go.Proofs.Ytlondopgibcikaa
open Go.RowKit Ent

theorem stps_succ' (n : Nat) (r : R32) : stps (n + 1) r = stp (stps n r) := by
  rw [stps_add]; rfl

set_option maxRecDepth 100000 in
set_option maxHeartbeats 400000 in
theorem made1_any (r : R32) (w : World) :
    Calls Try.prog 146 #[.int .u32 r.toNat] w fun e w' => e = .returned (.int .u32 (stps 8 r).toNat) ∧ w = w' := by
  go_enter Try.func146, Try.ntmps146
  go_wp2
  go_loop [0, 3] (fun x i => ∃ k : Nat, k ≤ 8 ∧ i = .int .i64 k ∧ x = .int .u32 (stps k r).toNat) (fun _ i => 8 - (intOf i).toNat)
  case atStart => exact ⟨0, Nat.zero_le _, rfl, rfl⟩
  case round =>
    obtain ⟨k, hk, rfl, rfl⟩ := hrel
    go_wp2
    · go_round
      case rel => exact ⟨k + 1, by omega, by go_num, by rw [stp_int, stps_succ']⟩
      case measure => simp [intOf]; omega
    · have hk8 : k = 8 := by omega
      subst hk8
      go_ret
      exact ⟨rfl, rfl⟩

theorem made1_int (x : Int) (h0 : 0 ≤ x) (h1 : x < 4294967296) (w : World) :
    Calls Try.prog 146 #[.int .u32 x] w fun e w' => e = .returned (.int .u32 (stps 8 (BitVec.ofInt 32 x)).toNat) ∧ w = w' := by
  have h := made1_any (BitVec.ofInt 32 x) w
  rwa [ofInt_toNat x h0 h1] at h
theorem zero256_size : Try.zeroCells131.size = 256 := by kernel_rfl
def tabCells : List Value := (List.range 256).map fun i => Value.int .u32 (ctab (UInt8.ofNat i)).toNat
theorem tabCells_of {cs : Array Value} (hs : cs.size = 256) (h : ∀ j, j < 256 → cs[j]? = some (Value.int .u32 (ctab (UInt8.ofNat j)).toNat)) : cs = tabCells.toArray := by
  apply Array.ext_getElem?
  intro i
  by_cases hi : i < 256
  · rw [h i hi]; simp [tabCells, hi]
  · rw [Array.getElem?_eq_none (by omega), Array.getElem?_eq_none (by simp [tabCells]; omega)]

theorem tabCells_size : tabCells.toArray.size = 256 := by simp [tabCells]
theorem tabCells_one : tabCells.toArray.all (·.oneCell') = true := all_oneCell_toArray (by intro v hv; simp [tabCells] at hv; obtain ⟨x, _, rfl⟩ := hv; rfl)
theorem tab_info : (Try.prog.info? 131).map (·.size) = some tabCells.toArray.size := by
  rw [tabCells_size]; kernel_rfl
set_option maxRecDepth 100000 in
set_option maxHeartbeats 400000 in
theorem made_any (w : World) :
    Calls Try.prog 106 #[] w fun e w' => e = .returned (.agg tabCells.toArray) ∧ Below w.heap.size w w' := by
  go_enter Try.func106, Try.ntmps106
  go_wp2_with fail
  go_loopw [3, 4] (fun _ i wr => ∃ k : Nat, k ≤ 256 ∧ i = .int .i64 k ∧ Below w.heap.size w wr ∧ (∃ zs : Array Value, zs.size = 256 ∧ wr.heap[w.heap.size]? = some (.cells zs 131 (0, 0))) ∧
      ∃ cs : Array Value, cs.size = 256 ∧ wr.heap[w.heap.size + 1]? = some (.cells cs 131 (0, 0)) ∧ ∀ j, j < k → cs[j]? = some (Value.int .u32 (ctab (UInt8.ofNat j)).toNat)) (fun _ i _ => 256 - (intOf i).toNat)
  case atStart =>
    refine ⟨0, Nat.zero_le _, rfl, ((Below.refl _ _).alloc (Nat.le_refl _) _).alloc (by simp) _, ⟨_, zero256_size, alloc_old (alloc_new w _) _⟩, _, zero256_size, ?_, fun j hj => by omega⟩
    have h := alloc_new (w.alloc (Obj.cells Try.zeroCells131 131)) (Obj.cells Try.zeroCells131 131)
    simpa using h
  case round =>
    obtain ⟨k, hk, rfl, hB, ⟨zs, hzs, h0⟩, cs, hsz, h1, hcs⟩ := hrel
    have H := hid (And.intro h0 (And.intro hsz (And.intro h1 (And.intro hcs hzs)))); clear h0 h1 hsz hcs hzs
    by_cases hlt : k < 256
    · obtain ⟨v, hv⟩ := at_some (show k < cs.size by rw [H.out.2.1]; exact hlt)
      have hc : wr.cell? ⟨w.heap.size + 1, k, none⟩ = some v := cell_blk H.out.2.2.1 hv
      have hf := free_blk H.out.2.2.1 k
      clear hv
      go_wp2_with fail
      with_reducible refine (made1_int _ (by omega) (by omega) _).mono ?_
      rintro e w' ⟨rfl, rfl⟩
      go_wp2_with fail
      go_roundw
      case rel =>
        obtain ⟨h0, hsz, h1, hcs, hzs⟩ := H.out
        refine ⟨k + 1, by omega, by go_num, hB.setCell (by simp) _, ⟨zs, hzs, set_other h0 _ (by simp)⟩, _, ?_, set_blk h1 k _, ?_⟩
        · rw [size_set_blk, hsz]
        · intro j hj
          rw [Array.getElem?_setIfInBounds]
          by_cases hjk : k = j
          · subst hjk
            rw [if_pos rfl, if_pos (by omega)]
            have e : BitVec.ofNat 32 k = zb (UInt8.ofNat k) := by
              apply BitVec.eq_of_toNat_eq
              unfold zb
              rw [BitVec.toNat_ofNat, BitVec.toNat_setWidth]; simp; omega
            rw [e]; rfl
          · rw [if_neg hjk]; exact hcs j (by omega)
      case measure => simp [intOf]; omega
    · have hk8 : k = 256 := by omega
      subst hk8
      obtain ⟨h0, hsz, h1, hcs, hzs⟩ := H.out
      have ht := tabCells_of hsz hcs
      subst ht
      have H1 := hid h1; have H0 := hid h0; have Hz := hid hzs
      clear h0 h1 hsz hcs hzs H
      go_wp2_with (first | (refine wpList_load_row rfl 131 (.tmp 2) rfl _ rfl _ _ _ _ H1.out Try.underlying131 rfl tab_info ?_) | (refine wpList_store_row rfl 131 (.tmp 0) (.tmp 14) rfl _ _ rfl rfl _ _ H0.out tab_info ?_ ?_ ?_))
      · rw [Hz.out, tabCells_size]
      · exact tabCells_one
      · refine bodyPost_ret (results_cell_row rfl _ _ w.heap.size 131 tabCells.toArray (0, 0) _ rfl (setRow_heap _ _ _ _ _ _ H0.out) Try.underlying131 rfl tab_info) rfl ⟨rfl, ?_⟩
        exact hB.trans ⟨rfl, rfl, rfl, by simp, fun k hk => setRow_other wr _ k _ (by omega)⟩

theorem tab_at (x : UInt8) : tabCells.toArray[x.toNat]? = some (Value.int .u32 (ctab x).toNat) := by
  have := x.toNat_lt
  have h : (List.range 256)[x.toNat]? = some x.toNat := by rw [List.getElem?_range (by omega)]
  simp [tabCells, h]
set_option maxRecDepth 100000 in
set_option maxHeartbeats 400000 in
theorem more1_any (r : R32) (c : UInt8) (bt : Nat) (w : World) (h : w.heap[bt]? = some (.cells tabCells.toArray 131 (0, 0))) :
    Calls Try.prog 108 #[.int .u32 r.toNat, .int .u8 c.toNat, .pointer (some ⟨bt, 0, none⟩)] w fun e w' => e = .returned (.int .u32 (cpass r c).toNat) ∧ w = w' := by
  have hx := idx_int r c
  have hc : w.cell? ⟨bt, (UInt8.ofBitVec (r.setWidth 8) ^^^ c).toNat, none⟩ = some (.int .u32 (ctab (UInt8.ofBitVec (r.setWidth 8) ^^^ c)).toNat) := by
    exact cell_blk h (tab_at _)
  have hl := byte_lt (UInt8.ofBitVec (r.setWidth 8) ^^^ c)
  have hp := cpass_int r c
  clear h
  generalize (UInt8.ofBitVec (r.setWidth 8) ^^^ c) = ix at *
  go_enter Try.func108, Try.ntmps108
  go_wp2
  go_ret
  exact ⟨by rw [← hp]; rfl, rfl⟩

set_option maxRecDepth 100000 in
set_option maxHeartbeats 400000 in
theorem fold_any (r : R32) (ao : Option Addr) (n cap : Nat) (l : List UInt8) (hn : n = l.length) (hm : n ≤ 1073741824) (bt : Nat) (w : World) (h : w.heap[bt]? = some (.cells tabCells.toArray 131 (0, 0))) (hl : SB w ao cap l) :
    Calls Try.prog 107 #[.int .u32 r.toNat, .slice ao n cap, .func (.func 108) #[] #[.pointer (some ⟨bt, 0, none⟩)]] w fun e w' => e = .returned (.int .u32 (regs l r).toNat) ∧ w = w' := by
  have H := hid h; clear h
  subst hn
  go_enter Try.func107, Try.ntmps107
  go_wp2_with fail
  go_loop [0, 8, 11] (fun x _ i => ∃ k : Nat, k ≤ l.length ∧ i = .int .i64 k ∧ x = .int .u32 (regs (l.take k) r).toNat) (fun _ _ i => l.length - (intOf i).toNat)
  case atStart => exact ⟨0, Nat.zero_le _, rfl, rfl⟩
  case round =>
    obtain ⟨k, hk, rfl, rfl⟩ := hrel
    by_cases hlt : k < l.length
    · rcases hl with ⟨_, _, rfl⟩ | ⟨_, _, rfl⟩ | ⟨b, o, rfl, hr⟩
      · simp at hlt
      · simp at hlt
      · obtain ⟨x, hx⟩ : ∃ x, l[k]? = some x := ⟨l[k], by simp [hlt]⟩
        have hc := rangeAt_byte hr hx
        have E : Hid (regs (l.take (k + 1)) r = cpass (regs (l.take k) r) x) := by
          have : l.take (k + 1) = l.take k ++ [x] := by rw [List.take_add_one, hx]; rfl
          show regs (l.take (k + 1)) r = cpass (regs (l.take k) r) x
          rw [this, regs_append]; rfl
        clear hr hx
        go_wp2_with (go_at_call 108; ((with_reducible refine (more1_any _ x bt _ H.out).mono ?_); rintro e w' ⟨rfl, rfl⟩))
        go_round
        case rel => exact ⟨k + 1, by omega, by go_num, by rw [E.out]⟩
        case measure => simp [intOf]; omega
    · have hkn : l.length ≤ k := by omega
      clear hl
      go_wp2
      go_ret
      exact ⟨by simp [List.take_of_length_le hkn], rfl⟩

end Go.Proofs.Ytlondopgibcikaa
namespace Go.Proofs.Ytlondopgibcikaa
open Go.RowKit Ent

set_option maxRecDepth 100000 in
set_option maxHeartbeats 400000 in
theorem more_any (s : R32) (ao : Option Addr) (n cap : Nat) (l : List UInt8) (hn : n = l.length) (hm : n ≤ 1073741824) (w : World) (hl : SB w ao cap l) :
    Calls Try.prog 35 #[.int .u32 s.toNat, .slice ao n cap] w fun e w' => e = .returned (.int .u32 (cmore s l).toNat) ∧ Below w.heap.size w w' := by
  subst hn
  go_enter Try.func35, Try.ntmps35
  go_wp2_with (first | (go_at_call 106; ((with_reducible refine (made_any _).mono ?_); rintro e w1 ⟨rfl, hb⟩)) | (refine wpList_store_row rfl 131 (.tmp 5) (.tmp 6) rfl _ _ rfl rfl _ _ (alloc_new _ _) tab_info (zero256_size.trans tabCells_size.symm) tabCells_one ?_))
  rw [not32]
  have hs : SB ((w1.alloc (Obj.cells Try.zeroCells131 131)).setRow w1.heap.size tabCells.toArray) ao cap l :=
    hl.below (below_setRow' (hb.alloc hb.size _) hb.size _)
  with_reducible refine (fold_any (~~~ s) ao _ cap l rfl hm w1.heap.size _ (setRow_heap _ _ _ _ _ _ (alloc_new _ _)) hs).mono ?_
  rintro e w2 ⟨rfl, rfl⟩
  go_wp2
  go_ret
  exact ⟨ret_int (by rw [not32]; rfl), below_setRow' (hb.alloc hb.size _) hb.size _⟩

theorem more_zero (ao : Option Addr) (n cap : Nat) (l : List UInt8) (hn : n = l.length) (hm : n ≤ 1073741824) (w : World) (hl : SB w ao cap l) :
    Calls Try.prog 35 #[.int .u32 0, .slice ao n cap] w fun e w' => e = .returned (.int .u32 (csum l).toNat) ∧ Below w.heap.size w w' := more_any 0#32 ao n cap l hn hm w hl
theorem sum_any (ao : Option Addr) (n cap : Nat) (l : List UInt8) (hn : n = l.length) (hm : n ≤ 1073741824) (w : World) (hl : SB w ao cap l) :
    Calls Try.prog 32 #[.slice ao n cap] w fun e w' => e = .returned (.int .u32 (csum l).toNat) ∧ Below w.heap.size w w' := by
  subst hn
  go_enter Try.func32, Try.ntmps32
  go_wp2_with (go_at_call 35; ((with_reducible refine (more_zero ao _ cap l rfl hm _ hl).mono ?_); rintro e w1 ⟨rfl, hb⟩))
  go_ret
  exact ⟨rfl, hb⟩

set_option maxRecDepth 100000 in
set_option maxHeartbeats 400000 in
theorem tail_any (s : R32) (w : World) :
    Calls Try.prog 101 #[.int .u32 s.toNat] w fun e w' => e = .returned (.slice (some ⟨w.heap.size, 0, none⟩) 4 4) ∧ w' = w.alloc (.cells (bv (ctail s)).toArray 5) := by
  go_enter Try.func101, Try.ntmps101
  go_wp2
  go_ret
  refine ⟨rfl, ?_⟩
  rw [byte32_0, byte32 s 8 256 rfl, byte32 s 16 65536 rfl, byte32_24]
  rfl

set_option maxRecDepth 100000 in
set_option maxHeartbeats 400000 in
theorem seal_any (ao : Option Addr) (n cap : Nat) (l : List UInt8) (hn : n = l.length) (hm : n ≤ 1073741824) (w : World) (hl : SB w ao cap l) :
    Calls Try.prog 24 #[.slice ao n cap] w fun e w' => ∃ v, e = .returned v ∧ w'.ownsRow w.heap.size 5 1 v (l.length + 4) (bv (csealed l)) ∧ Below w.heap.size w w' := by
  subst hn
  go_enter Try.func24, Try.ntmps24
  go_wp2_with (first
    | (refine wpl_make0 rfl _ (.tmp 5) rfl w.heap.size _ (l.length + 4) rfl rfl (by omega) (by omega) (Nat.le_refl _) ?_; intro w1 ho1 hg1; have hb1 := below_of_grown_none hg1; clear hg1)
    | (refine wpl_append rfl (.tmp 6) (.tmp 7) rfl w.heap.size _ _ _ l rfl ho1 ao _ cap rfl rfl (hl.below hb1) (by omega) hb1.size ?_; intro v2 w2 ho2 hg2 _; have hb2 := below_grown hb1 ho1 hg2 (Nat.le_refl _); clear hg2 hb1 ho1)
    | (go_at_call 32; ((with_reducible refine (sum_any ao _ cap l rfl hm _ (hl.below hb2)).mono ?_); rintro e w3 ⟨rfl, hb3⟩; have ho3 := owns_below ho2 (hb3.mono (Nat.le_refl _)); have hb4 := hb2.trans (hb3.mono hb2.size); clear hb2 ho2 hb3))
    | (go_at_call 101; ((with_reducible refine (tail_any _ _).mono ?_); rintro e w4 ⟨rfl, rfl⟩))
    | (refine wpl_append rfl (.tmp 8) (.tmp 11) rfl w.heap.size _ _ _ (ctail (csum l)) rfl (ho3.alloc _) (some ⟨w3.heap.size, 0, none⟩) _ 4 rfl rfl (SB.laid _ _ _ _) (by omega) (by have := hb4.size; simp; omega) ?_; intro v5 w5 ho5 hg5 _))
  go_ret
  refine ⟨_, rfl, ?_, ?_⟩
  · simpa [csealed] using ho5
  · exact below_grown (hb4.alloc hb4.size _) (ho3.alloc _) hg5 (Nat.le_refl _)

theorem SB.take {w : World} {ao : Option Addr} {cap : Nat} {l : List UInt8} (h : SB w ao cap l) (n : Nat) : SB w ao cap (l.take n) := by
  rcases h with ⟨h1, h2, rfl⟩ | ⟨a, h1, rfl⟩ | ⟨b, o, h1, h⟩
  · exact .inl ⟨h1, h2, by simp⟩
  · exact .inr (.inl ⟨a, h1, by simp⟩)
  · refine .inr (.inr ⟨b, o, h1, fun j v hv => h j v ?_⟩)
    simp only [bv_get, List.getElem?_take] at hv ⊢
    split at hv
    · exact hv
    · simp at hv
theorem SB.drop {w : World} {b o cap : Nat} {l : List UInt8} (h : w.rangeAt b o (bv l)) (n : Nat) : SB w (some ⟨b, o + n, none⟩) cap (l.drop n) :=
  .inr (.inr ⟨b, o + n, rfl, fun j v hv => by
    rw [Nat.add_assoc]; refine h (n + j) v ?_
    rw [bv_get] at hv ⊢; simpa using hv⟩)

set_option maxRecDepth 100000 in
set_option maxHeartbeats 400000 in
theorem open_short (ao : Option Addr) (n cap : Nat) (l : List UInt8) (hn : n = l.length) (hm : n < 4) (w : World) :
    Calls Try.prog 25 #[.slice ao n cap] w fun e w' => e = .returned (.tuple #[.slice none 0 0, .int .i64 6]) ∧ w = w' := by
  subst hn
  go_enter Try.func25, Try.ntmps25
  go_wp2_with fail
  go_ret2
  exact ⟨rfl, rfl⟩

set_option maxRecDepth 100000 in
set_option maxHeartbeats 1000000 in
theorem open_long (b o n cap : Nat) (l : List UInt8) (hn : n = l.length) (hm : 4 ≤ n) (hb : n ≤ 1073741824) (hcap : n ≤ cap) (w : World) (hl : w.rangeAt b o (bv l)) :
    Calls Try.prog 25 #[.slice (some ⟨b, o, none⟩) n cap] w fun e w' => ∃ v, e = .returned (.tuple #[v, .int .i64 (cOpen l).2]) ∧ w'.ownsRow w.heap.size 5 1 v (cOpen l).1.length (bv (cOpen l).1) ∧ Below w.heap.size w w' := by
  subst hn
  have hI : (4 : Int) ≤ (l.length : Int) := by omega
  have s1 : SB w (some ⟨b, o, none⟩) cap (l.take (l.length - 4)) := SB.take (.inr (.inr ⟨b, o, rfl, hl⟩)) _
  have s2 : SB w (some ⟨b, o + (l.length - 4), none⟩) (cap - (l.length - 4)) (l.drop (l.length - 4)) := SB.drop hl _
  have c2 := fun (w : World) (h : SB w (some ⟨b, o + (l.length - 4), none⟩) (cap - (l.length - 4)) (l.drop (l.length - 4))) => b2s w _ 4 _ _ (by simp; omega) h
  have h0 : (0 : Int) ≤ (l.length : Int) - 4 := by omega
  have ht : ((l.length : Int) - 4).toNat = l.length - 4 := by omega
  have hle : (l.length : Int) - 4 ≤ (cap : Int) := by omega
  have hle2 : (l.length : Int) - 4 ≤ (l.length : Int) := by omega
  have hne : ¬ cap = l.length - 4 := by omega
  have hd : l.length - (l.length - 4) = 4 := by omega
  have hb0 : Below w.heap.size w w.drew := (Below.refl _ _).drew
  obtain ⟨B, hB⟩ : ∃ B, ((str (ctail (csum (List.take (l.length - 4) l)))).toList == (str (List.drop (l.length - 4) l)).toList) = B := ⟨_, rfl⟩
  have HB := hid hB
  go_enter Try.func25, Try.ntmps25
  go_wp2_with fail
  refine wp_region_held_drew (S := fun w' => SB w' (some ⟨b, o, none⟩) cap (l.take (l.length - 4)) ∧ SB w' (some ⟨b, o + (l.length - 4), none⟩) (cap - (l.length - 4)) (l.drop (l.length - 4)) ∧ Below w.heap.size w w') (by kernel_rfl) ⟨s1.below hb0, s2.below hb0, hb0⟩ (fun hS => ?_)
  refine wpAnyH_take (i := 0) (v := ?v0) (by simp only [List.getElem?_toArray, List.getElem?_cons_zero]; exact rfl) (by kernel_rfl) (by kernel_rfl) (by kernel_rfl) (by exact fun _ _ _ h => h) (Or.inl ⟨by rfl, ?y0⟩) hS ?r0
  case y0 => (intro w' hSw; (try dsimp only at hSw); go_simp; (try with_reducible rfl))
  simp only [Act.put, List.setIfInBounds_toArray, List.set_cons_zero, List.set_cons_succ]
  refine wpAnyH_take (i := 1) (v := ?v1) (by simp only [List.getElem?_toArray, List.getElem?_cons_zero, List.getElem?_cons_succ]; exact rfl) (by kernel_rfl) (by kernel_rfl) (by kernel_rfl) (by exact fun _ _ _ h => h) (Or.inl ⟨by rfl, ?y1⟩) hS ?r1
  case y1 => (intro w' hSw; (try dsimp only at hSw); go_simp; (try with_reducible rfl))
  simp only [Act.put, List.setIfInBounds_toArray, List.set_cons_zero, List.set_cons_succ]
  refine wpAnyH_take (i := 2) (v := ?v2) (by simp only [List.getElem?_toArray, List.getElem?_cons_zero, List.getElem?_cons_succ]; exact rfl) (by kernel_rfl) (by kernel_rfl) (by kernel_rfl) (by exact fun _ _ _ h => h) (Or.inl ⟨by rfl, ?y2⟩) hS ?r2
  case y2 => (intro w' hSw; (try dsimp only at hSw); go_simp; (try with_reducible rfl))
  simp only [Act.put, List.setIfInBounds_toArray, List.set_cons_zero, List.set_cons_succ]
  refine wpAnyH_take (i := 6) (v := ?v6) (by simp only [List.getElem?_toArray, List.getElem?_cons_zero, List.getElem?_cons_succ]; exact rfl) (by kernel_rfl) (by kernel_rfl) (by kernel_rfl) (by exact fun _ _ _ h => h) (Or.inl ⟨by rfl, ?y6⟩) hS ?r6
  case y6 => (intro w' hSw; (try dsimp only at hSw); go_simp; (try with_reducible rfl))
  simp only [Act.put, List.setIfInBounds_toArray, List.set_cons_zero, List.set_cons_succ]
  refine wpAnyH_take (i := 7) (v := ?v7) (by simp only [List.getElem?_toArray, List.getElem?_cons_zero, List.getElem?_cons_succ]; exact rfl) (by kernel_rfl) (by kernel_rfl) (by kernel_rfl) (by exact fun _ _ _ h => h) (Or.inl ⟨by rfl, ?y7⟩) hS ?r7
  case y7 => (intro w' hSw; (try dsimp only at hSw); go_simp; (try with_reducible rfl))
  simp only [Act.put, List.setIfInBounds_toArray, List.set_cons_zero, List.set_cons_succ]
  refine wpAnyH_take (i := 8) (v := ?v8) (by simp only [List.getElem?_toArray, List.getElem?_cons_zero, List.getElem?_cons_succ]; exact rfl) (by kernel_rfl) (by kernel_rfl) (by kernel_rfl) (by exact fun _ _ _ h => h) (Or.inl ⟨by rfl, ?y8⟩) hS ?r8
  case y8 => (intro w' hSw; (try dsimp only at hSw); go_simp; (try with_reducible rfl))
  simp only [Act.put, List.setIfInBounds_toArray, List.set_cons_zero, List.set_cons_succ]
  refine wpAnyH_take (i := 9) (v := ?v9) (by simp only [List.getElem?_toArray, List.getElem?_cons_zero, List.getElem?_cons_succ]; exact rfl) (by kernel_rfl) (by kernel_rfl) (by kernel_rfl) (by exact fun _ _ _ h => h) (Or.inl ⟨by rfl, ?y9⟩) hS ?r9
  case y9 => (intro w' hSw; (try dsimp only at hSw); go_simp; (try with_reducible rfl))
  simp only [Act.put, List.setIfInBounds_toArray, List.set_cons_zero, List.set_cons_succ]
  refine wpAnyH_ready (rs := [3]) (by kernel_rfl) (by simp) ?_
  refine AllReadyH.cons (by simp only [List.getElem?_toArray, List.getElem?_cons_zero, List.getElem?_cons_succ]; exact rfl) (fun K hK => ?_) AllReadyH.nil
  go_simp
  (with_reducible refine (sum_any _ _ cap (l.take (l.length - 4)) (by simp) (by simp; omega) _ hS.1).mono ?_)
  rintro e w3 ⟨rfl, hb3⟩
  refine hK.out _ _ ?k3 (fun hS => ?s3)
  case k3 => exact ⟨hS.1.below hb3, hS.2.1.below hb3, hS.2.2.trans (hb3.mono hS.2.2.size)⟩
  clear hK K
  try simp only [Act.put, List.setIfInBounds_toArray, List.set_cons_zero, List.set_cons_succ]
  refine wpAnyH_ready (rs := [4]) (by kernel_rfl) (by simp) ?_
  refine AllReadyH.cons (by simp only [List.getElem?_toArray, List.getElem?_cons_zero, List.getElem?_cons_succ]; exact rfl) (fun K hK => ?_) AllReadyH.nil
  go_simp
  (with_reducible refine (tail_any _ _).mono ?_)
  rintro e w4 ⟨rfl, rfl⟩
  refine hK.out _ _ ?k4 (fun hS => ?s4)
  case k4 => exact ⟨hS.1.below (fresh_alloc _ _), hS.2.1.below (fresh_alloc _ _), hS.2.2.trans ((fresh_alloc _ _).mono hS.2.2.size)⟩
  clear hK K
  try simp only [Act.put, List.setIfInBounds_toArray, List.set_cons_zero, List.set_cons_succ]
  refine wpAnyH_ready (rs := [5]) (by kernel_rfl) (by simp) ?_
  refine AllReadyH.cons (by simp only [List.getElem?_toArray, List.getElem?_cons_zero, List.getElem?_cons_succ]; exact rfl) (fun K hK => ?_) AllReadyH.nil
  have d := b2s (w3.alloc (Obj.cells (bv (ctail (csum (List.take (l.length - 4) l)))).toArray 5)) _ 4 4 (ctail (csum (List.take (l.length - 4) l))) rfl (SB.laid _ _ _ _)
  go_simp
  refine hK.out _ _ ?k5 (fun hS => ?s5)
  case k5 => exact hS
  clear hK K
  try simp only [Act.put, List.setIfInBounds_toArray, List.set_cons_zero, List.set_cons_succ]
  refine wpAnyH_take (i := 10) (v := ?v10) (by simp only [List.getElem?_toArray, List.getElem?_cons_zero, List.getElem?_cons_succ]; exact rfl) (by kernel_rfl) (by kernel_rfl) (by kernel_rfl) (by exact fun _ _ _ h => h) (Or.inl ⟨by rfl, ?y10⟩) hS ?r10
  case y10 => (intro w' hSw; (try dsimp only at hSw); go_simp; (try with_reducible rfl))
  simp only [Act.put, List.setIfInBounds_toArray, List.set_cons_zero, List.set_cons_succ]
  refine wpAnyH_done (by kernel_rfl) ?_ _
  have HS := hid hS
  clear hb0 hb3 hB c2 s1 s2
  cases B
  · go_wp2
    go_ret2
    have hc : ¬ ctail (csum (l.take (l.length - 4))) = l.drop (l.length - 4) := by
      intro h; have := HB.out; rw [str_eq, h, same_self] at this; cases this
    refine ⟨.slice none 0 0, ?_, ?_, HS.out.2.2⟩
    · rw [cOpen, if_neg (by omega), if_neg hc]; rfl
    · rw [cOpen, if_neg (by omega), if_neg hc]; exact World.ownsRow_nil _ _ _ _
  · have hc : Hid (ctail (csum (l.take (l.length - 4))) = l.drop (l.length - 4)) := by
      have := HB.out; rw [str_eq, same_iff] at this; exact this
    go_wp2_with (refine wpl_append rfl _ (.tmp 23) rfl w.heap.size _ _ [] (l.take (l.length - 4)) rfl (World.ownsRow_nil _ _ _ _) _ (l.length - 4) cap rfl (by simp) HS.out.1 (by omega) HS.out.2.2.size ?_; intro v5 w5 ho5 hg5 _)
    go_ret2
    refine ⟨v5, ?_, ?_, below_grown HS.out.2.2 (World.ownsRow_nil _ _ 5 1) hg5 (Nat.le_refl _)⟩
    · rw [cOpen, if_neg (by omega), if_pos hc.out]; rfl
    · rw [cOpen, if_neg (by omega), if_pos hc.out]; simpa using ho5
end Go.Proofs.Ytlondopgibcikaa
