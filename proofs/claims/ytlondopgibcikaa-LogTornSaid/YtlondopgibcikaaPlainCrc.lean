/- The plain law of the sums (CRC-32): registers are linear, injective, joined by noughts; csealed bytes; columns. No program in sight. -/
namespace Go.Proofs.Ytlondopgibcikaa.Ent

abbrev R32 := BitVec 32
def cpoly : R32 := 0xEDB88320#32

def stp (r : R32) : R32 := if r.getLsbD 0 then (r >>> 1) ^^^ cpoly else r >>> 1
def stps : Nat → R32 → R32
  | 0, r => r
  | n + 1, r => stps n (stp r)

theorem stps_add (a b : Nat) (r : R32) : stps (a + b) r = stps b (stps a r) := by
  induction a generalizing r with
  | zero => simp [stps]
  | succ a ih => rw [Nat.succ_add]; simp only [stps]; exact ih _

theorem stp_xor (a b : R32) : stp (a ^^^ b) = stp a ^^^ stp b := by
  unfold stp
  rw [BitVec.getLsbD_xor, BitVec.ushiftRight_xor_distrib]
  generalize a >>> 1 = x; generalize b >>> 1 = y; generalize cpoly = p
  cases a.getLsbD 0 <;> cases b.getLsbD 0 <;> simp
  · rw [BitVec.xor_assoc]
  · rw [BitVec.xor_assoc, BitVec.xor_assoc]; congr 1; exact BitVec.xor_comm _ _
  · rw [BitVec.xor_assoc, ← BitVec.xor_assoc p, BitVec.xor_comm p y, BitVec.xor_assoc y, BitVec.xor_self]; simp

theorem stp_zero : stp 0 = 0 := by decide
theorem stps_xor (n : Nat) (a b : R32) : stps n (a ^^^ b) = stps n a ^^^ stps n b := by
  induction n generalizing a b with
  | zero => rfl
  | succ n ih => simp only [stps]; rw [stp_xor, ih]
theorem stps_zero (n : Nat) : stps n 0 = 0 := by
  induction n with
  | zero => rfl
  | succ n ih => simp only [stps]; rw [stp_zero, ih]
theorem stp_ker (r : R32) (h : stp r = 0) : r = 0 := by
  unfold stp at h
  by_cases h0 : r.getLsbD 0 = true
  · rw [if_pos h0] at h
    have h1 : ((r >>> 1) ^^^ cpoly).getLsbD 31 = true := by
      rw [BitVec.getLsbD_xor, BitVec.getLsbD_ushiftRight, BitVec.getLsbD_of_ge _ _ (by omega)]
      decide
    rw [h] at h1; simp at h1
  · rw [if_neg h0] at h
    apply BitVec.eq_of_getLsbD_eq
    intro i hi
    by_cases hi0 : i = 0
    · subst hi0; simpa using h0
    · have := congrArg (fun x : R32 => x.getLsbD (i - 1)) h
      simp only [BitVec.getLsbD_ushiftRight] at this
      rw [show 1 + (i - 1) = i from by omega] at this
      simpa using this
theorem xor_eq_zero (a b : R32) (h : a ^^^ b = 0) : a = b := by
  have := congrArg (fun x => x ^^^ b) h
  simpa [BitVec.xor_assoc] using this
theorem stp_inj (a b : R32) (h : stp a = stp b) : a = b :=
  xor_eq_zero _ _ (stp_ker _ (by rw [stp_xor, h]; simp))
theorem stps_inj (n : Nat) (a b : R32) (h : stps n a = stps n b) : a = b := by
  induction n generalizing a b with
  | zero => exact h
  | succ n ih => exact stp_inj _ _ (ih _ _ h)

/-- low bits nought: a plain shift -/
theorem stps_low (n : Nat) : ∀ (y : R32), (∀ i, i < n → y.getLsbD i = false) → stps n y = y >>> n := by
  induction n with
  | zero => intro y _; simp [stps]
  | succ n ih =>
    intro y h
    have h0 : y.getLsbD 0 = false := h 0 (by omega)
    simp only [stps]
    rw [stp, if_neg (by rw [h0]; decide), ih]
    · apply BitVec.eq_of_getLsbD_eq; intro i hi
      simp only [BitVec.getLsbD_ushiftRight]; congr 1; omega
    · intro i hi; rw [BitVec.getLsbD_ushiftRight]; exact h _ (by omega)

def zb (b : UInt8) : R32 := b.toBitVec.setWidth 32
def cpass (r : R32) (b : UInt8) : R32 := stps 8 (r ^^^ zb b)

theorem split8 (r : R32) : r = (r &&& 0xff#32) ^^^ ((r >>> 8) <<< 8) := by
  apply BitVec.eq_of_getLsbD_eq
  intro i hi
  simp only [BitVec.getLsbD_xor, BitVec.getLsbD_and, BitVec.getLsbD_shiftLeft, BitVec.getLsbD_ushiftRight]
  by_cases h : i < 8
  · have : (0xff#32).getLsbD i = true := by
      have : ∀ i : Fin 8, (0xff#32).getLsbD i = true := by decide
      exact this ⟨i, h⟩
    simp [this, h]
  · have : (0xff#32).getLsbD i = false := by
      have : ∀ i : Fin 32, ¬ i.val < 8 → (0xff#32).getLsbD i = false := by decide
      exact this ⟨i, hi⟩ h
    rw [this]; simp only [Bool.and_false, Bool.false_xor, h, hi, decide_true, decide_false, Bool.not_false, Bool.true_and, show 8 + (i - 8) = i from by omega]

theorem zb_low (b : UInt8) (i : Nat) (h : 8 ≤ i) : (zb b).getLsbD i = false := by
  unfold zb
  rw [BitVec.getLsbD_setWidth, BitVec.getLsbD_of_ge _ _ h]; simp
theorem zb_shr (b : UInt8) : zb b >>> 8 = 0 := by
  apply BitVec.eq_of_getLsbD_eq
  intro i hi
  rw [BitVec.getLsbD_ushiftRight, zb_low _ _ (by omega)]; simp

/-- a byte through the register, by the table -/
def ctab (i : UInt8) : R32 := stps 8 (zb i)
theorem low8 (r : R32) : r &&& 0xff#32 = zb (UInt8.ofBitVec (r.setWidth 8)) := by
  apply BitVec.eq_of_getLsbD_eq
  intro i hi
  unfold zb
  simp only [BitVec.getLsbD_and, BitVec.getLsbD_setWidth]
  by_cases h : i < 8
  · have : (0xff#32).getLsbD i = true := by
      have : ∀ i : Fin 8, (0xff#32).getLsbD i = true := by decide
      exact this ⟨i, h⟩
    simp [this, h, hi]
  · have : (0xff#32).getLsbD i = false := by
      have : ∀ i : Fin 32, ¬ i.val < 8 → (0xff#32).getLsbD i = false := by decide
      exact this ⟨i, hi⟩ h
    simp [this, h]
theorem shl8_low (x : R32) (i : Nat) (h : i < 8) : (x <<< 8).getLsbD i = false := by
  rw [BitVec.getLsbD_shiftLeft]; simp [h]
theorem stps_split (r : R32) : stps 8 r = ctab (UInt8.ofBitVec (r.setWidth 8)) ^^^ (r >>> 8) := by
  have h := stps_low 8 ((r >>> 8) <<< 8) (fun i hi => shl8_low _ i hi)
  have h2 : ((r >>> 8) <<< 8) >>> 8 = r >>> 8 := by
    apply BitVec.eq_of_getLsbD_eq
    intro i hi
    simp only [BitVec.getLsbD_shiftLeft, BitVec.getLsbD_ushiftRight]
    by_cases h : 8 + i < 32
    · simp [h]
    · rw [show 8 + (8 + i - 8) = 8 + i from by omega, BitVec.getLsbD_of_ge r (8 + i) (by omega)]; simp
  calc stps 8 r = stps 8 ((r &&& 0xff#32) ^^^ ((r >>> 8) <<< 8)) := by rw [← split8]
    _ = stps 8 (r &&& 0xff#32) ^^^ stps 8 ((r >>> 8) <<< 8) := stps_xor _ _ _
    _ = _ := by rw [h, h2, low8]; rfl
theorem cpass_tab (r : R32) (b : UInt8) : cpass r b = ctab (UInt8.ofBitVec (r.setWidth 8) ^^^ b) ^^^ (r >>> 8) := by
  unfold cpass
  rw [stps_split, BitVec.ushiftRight_xor_distrib, zb_shr]
  have : (r ^^^ zb b).setWidth 8 = (r.setWidth 8 ^^^ b.toBitVec) := by
    rw [BitVec.setWidth_xor]; congr 1
    unfold zb; apply BitVec.eq_of_getLsbD_eq; intro i hi; simp [hi]
  rw [this]
  have h2 : UInt8.ofBitVec (r.setWidth 8 ^^^ b.toBitVec) = UInt8.ofBitVec (r.setWidth 8) ^^^ b := rfl
  rw [h2]; congr 1; exact BitVec.xor_zero

def regs (l : List UInt8) (r : R32) : R32 := l.foldl cpass r
theorem cpass_xor (a d : R32) (b : UInt8) : cpass (a ^^^ d) b = cpass a b ^^^ stps 8 d := by
  unfold cpass
  rw [← stps_xor]; congr 1
  rw [BitVec.xor_assoc, BitVec.xor_comm d, ← BitVec.xor_assoc]
theorem regs_xor (l : List UInt8) : ∀ (a d : R32), regs l (a ^^^ d) = regs l a ^^^ stps (8 * l.length) d := by
  induction l with
  | nil => intro a d; simp [regs, stps]
  | cons b l ih =>
    intro a d
    show regs l (cpass (a ^^^ d) b) = regs l (cpass a b) ^^^ _
    rw [cpass_xor, ih, List.length_cons, Nat.mul_succ, Nat.add_comm, stps_add]
theorem regs_append (l m : List UInt8) (r : R32) : regs (l ++ m) r = regs m (regs l r) := by simp [regs]
theorem regs_inj (l : List UInt8) (a b : R32) (h : regs l a = regs l b) : a = b := by
  have := regs_xor l b (a ^^^ b)
  rw [show b ^^^ (a ^^^ b) = a from by rw [BitVec.xor_comm a, ← BitVec.xor_assoc, BitVec.xor_self]; simp, h] at this
  have h3 : stps (8 * l.length) (a ^^^ b) = 0 := by
    have h4 := congrArg (fun x => regs l b ^^^ x) this
    simp only [BitVec.xor_self, ← BitVec.xor_assoc, BitVec.zero_xor] at h4
    exact h4.symm
  exact xor_eq_zero _ _ (stps_inj _ _ _ (h3.trans (stps_zero _).symm))
theorem regs_zeros (n : Nat) (r : R32) : regs (List.replicate n 0) r = stps (8 * n) r := by
  induction n generalizing r with
  | zero => rfl
  | succ n ih =>
    show regs (List.replicate n 0) (cpass r 0) = _
    rw [ih, Nat.mul_succ, Nat.add_comm, stps_add]
    congr 1; unfold cpass; congr 1; exact BitVec.xor_zero

/-- the csum of bytes behind others; of bytes; of two parts -/
def cmore (csum : R32) (b : List UInt8) : R32 := ~~~ regs b (~~~ csum)
def csum (b : List UInt8) : R32 := cmore 0 b
def cjoin (a b : R32) (n : Nat) : R32 := stps (8 * n) a ^^^ b

theorem not_eq_xor (a : R32) : ~~~ a = a ^^^ (~~~ (0 : R32)) := by
  show ~~~ a = a ^^^ BitVec.allOnes 32
  exact (BitVec.xor_allOnes).symm
theorem cmore_join (a : R32) (b : List UInt8) : cmore a b = cjoin a (csum b) b.length := by
  unfold cmore csum cjoin cmore
  rw [not_eq_xor a, BitVec.xor_comm, regs_xor, not_eq_xor (_ ^^^ _), not_eq_xor (regs b _), BitVec.xor_comm (stps _ _), BitVec.xor_assoc, BitVec.xor_assoc, BitVec.xor_comm (stps _ _)]
theorem not_not (a : R32) : ~~~ (~~~ a) = a := by simp
theorem csum_append (a b : List UInt8) : csum (a ++ b) = cmore (csum a) b := by
  unfold csum cmore; rw [regs_append]; simp

/-- four bytes as one word -/
def word4 (b0 b1 b2 b3 : UInt8) : R32 := zb b0 ^^^ (zb b1 <<< 8) ^^^ (zb b2 <<< 16) ^^^ (zb b3 <<< 24)
theorem stps_shl (n : Nat) (b : UInt8) (h : n ≤ 24) : stps n (zb b <<< n) = zb b := by
  rw [stps_low n _ (fun i hi => by rw [BitVec.getLsbD_shiftLeft]; simp [hi])]
  apply BitVec.eq_of_getLsbD_eq
  intro i hi
  simp only [BitVec.getLsbD_ushiftRight, BitVec.getLsbD_shiftLeft]
  by_cases h8 : i < 8
  · simp [show n + i < 32 from by omega]
  · rw [zb_low b i (by omega)]; simp [zb_low b i (by omega)]
theorem regs4 (r : R32) (b0 b1 b2 b3 : UInt8) : regs [b0, b1, b2, b3] r = stps 32 (r ^^^ word4 b0 b1 b2 b3) := by
  show cpass (cpass (cpass (cpass r b0) b1) b2) b3 = _
  unfold cpass word4
  have e1 : ∀ x : R32, stps 8 x ^^^ zb b1 = stps 8 (x ^^^ zb b1 <<< 8) := fun x => by rw [stps_xor, stps_shl 8 b1 (by omega)]
  have e2 : ∀ x : R32, stps 16 x ^^^ zb b2 = stps 16 (x ^^^ zb b2 <<< 16) := fun x => by rw [stps_xor, stps_shl 16 b2 (by omega)]
  have e3 : ∀ x : R32, stps 24 x ^^^ zb b3 = stps 24 (x ^^^ zb b3 <<< 24) := fun x => by rw [stps_xor, stps_shl 24 b3 (by omega)]
  rw [e1, ← stps_add, e2, ← stps_add, e3, ← stps_add]
  simp only [BitVec.xor_assoc]
def ctail (s : R32) : List UInt8 := [UInt8.ofBitVec (s.setWidth 8), UInt8.ofBitVec ((s >>> 8).setWidth 8), UInt8.ofBitVec ((s >>> 16).setWidth 8), UInt8.ofBitVec ((s >>> 24).setWidth 8)]
theorem word4_bit (b0 b1 b2 b3 : UInt8) (i : Nat) (hi : i < 32) : (word4 b0 b1 b2 b3).getLsbD i =
    (if i < 8 then b0.toBitVec.getLsbD i else if i < 16 then b1.toBitVec.getLsbD (i - 8) else if i < 24 then b2.toBitVec.getLsbD (i - 16) else b3.toBitVec.getLsbD (i - 24)) := by
  unfold word4 zb
  simp only [BitVec.getLsbD_xor, BitVec.getLsbD_shiftLeft, BitVec.getLsbD_setWidth]
  by_cases h0 : i < 8
  · simp [h0, hi, show i < 16 from by omega, show i < 24 from by omega]
  · by_cases h1 : i < 16
    · simp [h0, hi, h1, show i < 24 from by omega, show i - 8 < 32 from by omega, BitVec.getLsbD_of_ge b0.toBitVec i (by omega)]
    · by_cases h2 : i < 24
      · simp [h0, hi, h1, h2, show i - 8 < 32 from by omega, show i - 16 < 32 from by omega, BitVec.getLsbD_of_ge b0.toBitVec i (by omega), BitVec.getLsbD_of_ge b1.toBitVec (i - 8) (by omega)]
      · simp [h0, hi, h1, h2, show i - 8 < 32 from by omega, show i - 16 < 32 from by omega, show i - 24 < 32 from by omega, BitVec.getLsbD_of_ge b0.toBitVec i (by omega), BitVec.getLsbD_of_ge b1.toBitVec (i - 8) (by omega), BitVec.getLsbD_of_ge b2.toBitVec (i - 16) (by omega)]
theorem word4_tail (s : R32) : word4 (UInt8.ofBitVec (s.setWidth 8)) (UInt8.ofBitVec ((s >>> 8).setWidth 8)) (UInt8.ofBitVec ((s >>> 16).setWidth 8)) (UInt8.ofBitVec ((s >>> 24).setWidth 8)) = s := by
  apply BitVec.eq_of_getLsbD_eq
  intro i hi
  rw [word4_bit _ _ _ _ i hi]
  simp only [BitVec.getLsbD_setWidth, BitVec.getLsbD_ushiftRight]
  split
  · simp [*]
  · split
    · simp [show i - 8 < 8 from by omega, show 8 + (i - 8) = i from by omega]
    · split
      · simp [show i - 16 < 8 from by omega, show 16 + (i - 16) = i from by omega]
      · simp [show i - 24 < 8 from by omega, show 24 + (i - 24) = i from by omega]
theorem byte_ext {a b : UInt8} (h : ∀ i, i < 8 → a.toBitVec.getLsbD i = b.toBitVec.getLsbD i) : a = b := by
  have : a.toBitVec = b.toBitVec := BitVec.eq_of_getLsbD_eq fun i hi => h i hi
  exact UInt8.toBitVec_inj.1 this
theorem word4_inj {a0 a1 a2 a3 b0 b1 b2 b3 : UInt8} (h : word4 a0 a1 a2 a3 = word4 b0 b1 b2 b3) : a0 = b0 ∧ a1 = b1 ∧ a2 = b2 ∧ a3 = b3 := by
  have hb : ∀ i, i < 32 → _ := fun i hi => by
    have := congrArg (fun x : R32 => x.getLsbD i) h
    simp only [word4_bit _ _ _ _ i hi] at this
    exact this
  refine ⟨byte_ext fun i hi => ?_, byte_ext fun i hi => ?_, byte_ext fun i hi => ?_, byte_ext fun i hi => ?_⟩
  · have := hb i (by omega); simpa [hi] using this
  · have := hb (i + 8) (by omega); simpa [hi, show ¬ i + 8 < 8 from by omega, show i + 8 < 16 from by omega] using this
  · have := hb (i + 16) (by omega); simpa [hi, show ¬ i + 16 < 8 from by omega, show ¬ i + 16 < 16 from by omega, show i + 16 < 24 from by omega] using this
  · have := hb (i + 24) (by omega); simpa [hi, show ¬ i + 24 < 8 from by omega, show ¬ i + 24 < 16 from by omega, show ¬ i + 24 < 24 from by omega] using this

theorem regs_tail (r s : R32) : regs (ctail s) r = stps 32 (r ^^^ s) := by
  unfold ctail; rw [regs4, word4_tail]
def csealed (l : List UInt8) : List UInt8 := l ++ ctail (csum l)
/-- csealed bytes are those whose register ends at one number -/
theorem csealed_iff (l t : List UInt8) (ht : t.length = 4) : t = ctail (csum l) ↔ regs (l ++ t) (~~~ 0) = stps 32 (~~~ 0) := by
  have hx : ∀ r : R32, r ^^^ ~~~ r = ~~~ 0 := fun r => by rw [not_eq_xor r, ← BitVec.xor_assoc, BitVec.xor_self]; exact BitVec.zero_xor
  match t, ht with
  | [a, b, c, d], _ =>
    rw [regs_append, regs4]
    constructor
    · intro h
      simp only [ctail, List.cons.injEq, and_true] at h
      obtain ⟨rfl, rfl, rfl, rfl⟩ := h
      rw [word4_tail]; unfold csum cmore; congr 1; rw [show (~~~ (0 : R32)) = ~~~ 0#32 from rfl]; exact hx _
    · intro h
      have h2 := stps_inj _ _ _ h
      have h3 : word4 a b c d = csum l := by
        unfold csum cmore
        have := congrArg (fun x => regs l (~~~ 0) ^^^ x) h2
        simp only [← BitVec.xor_assoc, BitVec.xor_self, BitVec.zero_xor] at this
        rw [this]; exact (not_eq_xor _).symm
      have h4 := word4_inj (h3.trans (word4_tail (csum l)).symm)
      obtain ⟨rfl, rfl, rfl, rfl⟩ := h4
      rfl
/-- damage: four side by side turned -/
theorem damage (P Q : List UInt8) (a0 a1 a2 a3 b0 b1 b2 b3 : UInt8) (r : R32) (h : regs (P ++ [a0, a1, a2, a3] ++ Q) r = regs (P ++ [b0, b1, b2, b3] ++ Q) r) :
    a0 = b0 ∧ a1 = b1 ∧ a2 = b2 ∧ a3 = b3 := by
  simp only [regs_append] at h
  have h := regs_inj _ _ _ h
  rw [regs4, regs4] at h
  have h := stps_inj _ _ _ h
  have h2 := congrArg (fun x => regs P r ^^^ x) h
  simp only [← BitVec.xor_assoc, BitVec.xor_self, BitVec.zero_xor] at h2
  exact word4_inj h2

/-- columns: what becomes of each bit -/
def ap (m : Nat → R32) : Nat → R32 → R32
  | 0, _ => 0
  | k + 1, r => ap m k r ^^^ (if r.getLsbD k then m k else 0)
def lin (f : R32 → R32) : Prop := ∀ a b, f (a ^^^ b) = f a ^^^ f b
theorem lin_zero {f : R32 → R32} (h : lin f) : f 0 = 0 := by
  have := h 0 0
  simpa using this
theorem ap_lin {f : R32 → R32} (h : lin f) (r : R32) : ∀ k, k ≤ 32 → ∃ q : R32, ap (fun i => f (1#32 <<< i)) k r = f q ∧ ∀ i, q.getLsbD i = (decide (i < k) && r.getLsbD i) := by
  intro k
  induction k with
  | zero => intro _; exact ⟨0, (lin_zero h).symm, by simp⟩
  | succ k ih =>
    intro hk
    obtain ⟨q, h1, h2⟩ := ih (by omega)
    refine ⟨q ^^^ (if r.getLsbD k then 1#32 <<< k else 0), ?_, ?_⟩
    · rw [ap, h1, h]; congr 1; split
      · rfl
      · exact (lin_zero h).symm
    · intro i
      rw [BitVec.getLsbD_xor, h2]
      by_cases hik : i = k
      · subst hik
        cases hb : r.getLsbD i
        · simp
        · simp [show i < 32 from by omega]
      · have : (if r.getLsbD k = true then 1#32 <<< k else 0).getLsbD i = false := by
          split
          · rw [BitVec.getLsbD_shiftLeft]; simp; intro _ _; omega
          · simp
        rw [this]
        by_cases h3 : i < k
        · simp [h3, show i < k + 1 from by omega]
        · simp [h3, show ¬ i < k + 1 from by omega]
theorem ap_all {f : R32 → R32} (h : lin f) (r : R32) : ap (fun i => f (1#32 <<< i)) 32 r = f r := by
  obtain ⟨q, h1, h2⟩ := ap_lin h r 32 (by omega)
  rw [h1]; congr 1
  apply BitVec.eq_of_getLsbD_eq; intro i hi; rw [h2]; simp [hi]
theorem ap_congr {m m' : Nat → R32} (r : R32) : ∀ k, (∀ i, i < k → m i = m' i) → ap m k r = ap m' k r := by
  intro k
  induction k with
  | zero => intro _; rfl
  | succ k ih => intro h; rw [ap, ap, ih (fun i hi => h i (by omega)), h k (by omega)]
theorem lin_steps (n : Nat) : lin (stps n) := fun a b => stps_xor n a b
/-- a matrix that is n zero bits -/
def colsOf (n : Nat) (i : Nat) : R32 := stps n (1#32 <<< i)
theorem ap_cols (n : Nat) (r : R32) : ap (colsOf n) 32 r = stps n r := ap_all (lin_steps n) r
theorem cols_bit (i : Nat) (h : i < 31) : colsOf 1 (i + 1) = 1#32 <<< i := by
  have : ∀ i : Fin 31, colsOf 1 (i.val + 1) = 1#32 <<< i.val := by decide
  exact this ⟨i, h⟩
theorem cols_bit0 : colsOf 1 0 = cpoly := by decide
theorem cols_sq (n i : Nat) : ap (colsOf n) 32 (colsOf n i) = colsOf (n + n) i := by
  rw [ap_cols]; unfold colsOf; rw [← stps_add]
/-- what is opened of bytes, or why not -/
def cOpen (l : List UInt8) : List UInt8 × Int :=
  if l.length < 4 then ([], 6) else if ctail (csum (l.take (l.length - 4))) = l.drop (l.length - 4) then (l.take (l.length - 4), 0) else ([], 5)
theorem cOpen_len (l : List UInt8) : (cOpen l).1.length ≤ l.length := by
  unfold cOpen
  split
  · simp
  · split
    · simp
    · simp
theorem ctail_length (s : R32) : (ctail s).length = 4 := rfl
end Go.Proofs.Ytlondopgibcikaa.Ent
