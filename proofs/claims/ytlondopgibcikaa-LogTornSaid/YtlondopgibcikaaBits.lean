/- Bridges between the walk's integers and plain registers and bytes. -/
import Derived.Test.YtlondopgibcikaaPlainCrc
import Derived.WalkKit
namespace Go.Proofs.Ytlondopgibcikaa
open Go.RowKit Ent

theorem of32 (r : R32) : BitVec.ofInt 32 (r.toNat : Int) = r := by
  apply BitVec.eq_of_toNat_eq
  rw [BitVec.toNat_ofInt]; have := r.isLt; omega
theorem wrap32' (r : R32) : IntKind.u32.wrap (r.toNat : Int) = r.toNat := by
  rw [IntKind.wrap_u32']; have := r.isLt; omega
theorem xor32 (a b : R32) : bits .xor .u32 (a.toNat : Int) (b.toNat : Int) = ((a ^^^ b).toNat : Int) := by
  show IntKind.u32.wrap ((BitVec.ofInt 32 (a.toNat : Int) ^^^ BitVec.ofInt 32 (b.toNat : Int)).toNat : Int) = _
  rw [of32, of32, wrap32']
theorem and32 (a b : R32) : bits .and .u32 (a.toNat : Int) (b.toNat : Int) = ((a &&& b).toNat : Int) := by
  show IntKind.u32.wrap ((BitVec.ofInt 32 (a.toNat : Int) &&& BitVec.ofInt 32 (b.toNat : Int)).toNat : Int) = _
  rw [of32, of32, wrap32']
theorem shr32 (a : R32) (n : Nat) (m : Int) (hm : m = ((2 ^ n : Nat) : Int)) : (a.toNat : Int) / m = ((a >>> n).toNat : Int) := by
  subst hm
  rw [BitVec.toNat_ushiftRight, Nat.shiftRight_eq_div_pow]; simp
theorem neg32 (a : R32) : (-(a.toNat : Int)) % 4294967296 = ((-a).toNat : Int) := by
  rw [BitVec.toNat_neg]; have := a.isLt; omega
theorem lit32 (n : Nat) (h : n < 4294967296) : (n : Int) = ((BitVec.ofNat 32 n).toNat : Int) := by
  rw [BitVec.toNat_ofNat]; omega
theorem lsb_and (r : R32) : r &&& 1#32 = if r.getLsbD 0 then 1#32 else 0#32 := by
  apply BitVec.eq_of_getLsbD_eq; intro i hi
  by_cases h0 : i = 0
  · subst h0; rw [BitVec.getLsbD_and]; cases hb : r.getLsbD 0 <;> simp
  · have : (1#32).getLsbD i = false := by
      have : ∀ i : Fin 32, ¬ i.val = 0 → (1#32).getLsbD i = false := by decide
      exact this ⟨i, hi⟩ h0
    rw [BitVec.getLsbD_and, this]
    split
    · rw [this]; simp
    · simp
theorem stp_int (r : R32) : bits BinOp.xor IntKind.u32 ((r.toNat : Int) / 2) (bits BinOp.and IntKind.u32 3988292384 (-bits BinOp.and IntKind.u32 (r.toNat : Int) 1 % 4294967296)) = ((stp r).toNat : Int) := by
  have e1 : bits BinOp.and IntKind.u32 (r.toNat : Int) 1 = ((r &&& 1#32).toNat : Int) := and32 r 1#32
  have e2 : ((r.toNat : Int) / (2 : Int)) = ((r >>> 1).toNat : Int) := shr32 r 1 2 rfl
  have e3 : (3988292384 : Int) = (cpoly.toNat : Int) := rfl
  rw [e1, neg32, e2, e3, and32, xor32]
  unfold stp
  rw [lsb_and]
  split
  · rfl
  · rw [show cpoly &&& -0#32 = 0#32 from by decide]; simp
theorem ofInt_toNat (x : Int) (h0 : 0 ≤ x) (h1 : x < 4294967296) : ((BitVec.ofInt 32 x).toNat : Int) = x := by
  rw [BitVec.toNat_ofInt]; omega
theorem zb_int0 (c : UInt8) : (c.toNat : Int) = ((zb c).toNat : Int) := by
  unfold zb; rw [BitVec.toNat_setWidth]
  have h : c.toBitVec.toNat = c.toNat := rfl
  rw [h]; have := c.toNat_lt; omega
theorem zb_int (r : R32) (c : UInt8) : bits BinOp.xor IntKind.u32 (r.toNat : Int) (c.toNat : Int) = ((r ^^^ zb c).toNat : Int) := by
  rw [zb_int0, xor32]
theorem bit_int (r : R32) (k : Nat) : bits BinOp.and IntKind.u32 ((r.toNat : Int) / 2 ^ k) 1 = if r.getLsbD k then 1 else 0 := by
  have e : ((r.toNat : Int) / 2 ^ k) = ((r >>> k).toNat : Int) := shr32 r k (2 ^ k) (by simp)
  have e1 : bits BinOp.and IntKind.u32 ((r >>> k).toNat : Int) 1 = ((r >>> k &&& 1#32).toNat : Int) := and32 (r >>> k) 1#32
  rw [e, e1, lsb_and, BitVec.getLsbD_ushiftRight, Nat.add_zero]
  split <;> rfl
theorem bit_true {r : R32} {k : Nat} (h : (bits BinOp.and IntKind.u32 ((r.toNat : Int) / 2 ^ k) 1 == 1) = true) : r.getLsbD k = true := by
  rw [bit_int] at h
  cases hb : r.getLsbD k
  · rw [hb] at h; simp at h
  · rfl
theorem bit_false {r : R32} {k : Nat} (h : (bits BinOp.and IntKind.u32 ((r.toNat : Int) / 2 ^ k) 1 == 1) = false) : r.getLsbD k = false := by
  rw [bit_int] at h
  cases hb : r.getLsbD k
  · rfl
  · rw [hb] at h; simp at h
theorem and1_i64 (k : Nat) (h : k ≤ 1073741824) : bits BinOp.and IntKind.i64 (k : Int) 1 = ((k % 2 : Nat) : Int) := by
  show IntKind.i64.wrap ((BitVec.ofInt 64 (k : Int) &&& BitVec.ofInt 64 1).toNat : Int) = _
  have e : (BitVec.ofInt 64 (k : Int) &&& BitVec.ofInt 64 1).toNat = k % 2 := by
    rw [BitVec.toNat_and]
    have h1 : (BitVec.ofInt 64 1).toNat = 1 := by decide
    have h2 : (BitVec.ofInt 64 (k : Int)).toNat = k := by rw [BitVec.toNat_ofInt]; omega
    rw [h1, h2, Nat.and_one_is_mod]
  rw [e]; exact IntWalk.i64_in _ (by omega)
theorem of8 (c : UInt8) : BitVec.ofInt 8 (c.toNat : Int) = c.toBitVec := by
  apply BitVec.eq_of_toNat_eq
  rw [BitVec.toNat_ofInt]; have := c.toNat_lt; simp; omega
theorem idx_int (r : R32) (c : UInt8) : bits BinOp.xor IntKind.u8 ((r.toNat : Int) % 256) (c.toNat : Int) = ((UInt8.ofBitVec (r.setWidth 8) ^^^ c).toNat : Int) := by
  show IntKind.u8.wrap ((BitVec.ofInt 8 ((r.toNat : Int) % 256) ^^^ BitVec.ofInt 8 (c.toNat : Int)).toNat : Int) = _
  have e : BitVec.ofInt 8 ((r.toNat : Int) % 256) = r.setWidth 8 := by
    apply BitVec.eq_of_toNat_eq
    rw [BitVec.toNat_ofInt, BitVec.toNat_setWidth]; omega
  rw [e, of8, IntKind.wrap_u8']
  have e2 : (UInt8.ofBitVec (r.setWidth 8) ^^^ c).toNat = (r.setWidth 8 ^^^ c.toBitVec).toNat := rfl
  rw [e2]; have := (r.setWidth 8 ^^^ c.toBitVec).isLt; omega
theorem cpass_int (r : R32) (c : UInt8) : bits BinOp.xor IntKind.u32 ((ctab (UInt8.ofBitVec (r.setWidth 8) ^^^ c)).toNat : Int) ((r.toNat : Int) / 256) = ((cpass r c).toNat : Int) := by
  have e2 : ((r.toNat : Int) / (256 : Int)) = ((r >>> 8).toNat : Int) := shr32 r 8 256 rfl
  rw [e2, xor32, ← cpass_tab]
theorem byte_lt (x : UInt8) : (x.toNat : Int) < 256 := by have := x.toNat_lt; omega
theorem not32 (a : R32) : bits BinOp.xor IntKind.u32 IntKind.u32.max (a.toNat : Int) = ((~~~ a).toNat : Int) := by
  have h : IntKind.u32.max = ((BitVec.allOnes 32).toNat : Int) := by decide
  rw [h, xor32, BitVec.xor_comm, BitVec.xor_allOnes]
theorem byte32 (s : R32) (n : Nat) (m : Int) (hm : m = ((2 ^ n : Nat) : Int)) : (s.toNat : Int) / m % 256 = ((UInt8.ofBitVec ((s >>> n).setWidth 8)).toNat : Int) := by
  rw [shr32 s n m hm]
  have e : (UInt8.ofBitVec ((s >>> n).setWidth 8)).toNat = ((s >>> n).setWidth 8).toNat := rfl
  rw [e, BitVec.toNat_setWidth]; omega
theorem byte32_0 (s : R32) : (s.toNat : Int) % 256 = ((UInt8.ofBitVec (s.setWidth 8)).toNat : Int) := by
  have e : (UInt8.ofBitVec (s.setWidth 8)).toNat = (s.setWidth 8).toNat := rfl
  rw [e, BitVec.toNat_setWidth]; omega
theorem byte32_24 (s : R32) : (s.toNat : Int) / (16777216 : Int) = ((UInt8.ofBitVec ((s >>> 24).setWidth 8)).toNat : Int) := by
  rw [← byte32 s 24 16777216 rfl]; have := s.isLt; omega
theorem xor8 (a b : UInt8) : bits BinOp.xor IntKind.u8 (a.toNat : Int) (b.toNat : Int) = ((a ^^^ b).toNat : Int) := by
  show IntKind.u8.wrap ((BitVec.ofInt 8 (a.toNat : Int) ^^^ BitVec.ofInt 8 (b.toNat : Int)).toNat : Int) = _
  rw [of8, of8, IntKind.wrap_u8']
  have e2 : (a ^^^ b).toNat = (a.toBitVec ^^^ b.toBitVec).toNat := rfl
  rw [e2]; have := (a.toBitVec ^^^ b.toBitVec).isLt; omega
end Go.Proofs.Ytlondopgibcikaa
