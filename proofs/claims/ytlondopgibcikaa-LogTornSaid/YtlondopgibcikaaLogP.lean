/- The log, plainly: sectors that tell of themselves what they are. -/
import Derived.Test.YtlondopgibcikaaRows
import Derived.Test.YtlondopgibcikaaPlainCrc
import Derived.Test.YtlondopgibcikaaHeap
import Derived.Test.YtlondopgibcikaaDev
namespace Go.Proofs.Ytlondopgibcikaa
open Go.RowKit Ent

def be4 (n : Nat) : List UInt8 := [UInt8.ofNat (n / 16777216), UInt8.ofNat (n / 65536), UInt8.ofNat (n / 256), UInt8.ofNat n]
@[simp] theorem be4_len (n : Nat) : (be4 n).length = 4 := rfl
theorem be4_inj {m n : Nat} (hm : m < 4294967296) (hn : n < 4294967296) (h : be4 m = be4 n) : m = n := by
  have h0 := congrArg (fun l => (l.getD 0 0).toNat) h
  have h1 := congrArg (fun l => (l.getD 1 0).toNat) h
  have h2 := congrArg (fun l => (l.getD 2 0).toNat) h
  have h3 := congrArg (fun l => (l.getD 3 0).toNat) h
  simp [be4] at h0 h1 h2 h3
  omega
/-- zeros -/
def zr (n : Nat) : List UInt8 := List.replicate n 0
@[simp] theorem zr_len (n : Nat) : (zr n).length = n := by simp [zr]
theorem zr_add (a b : Nat) : zr (a + b) = zr a ++ zr b := by simp [zr]
/-- a sector behind its sum -/
def secBody (gen index kind : Nat) (part : List UInt8) : List UInt8 := be4 gen ++ (be4 index ++ ([UInt8.ofNat kind, UInt8.ofNat part.length] ++ (part ++ (zr (49 - part.length) ++ [165]))))
def logSec (gen index kind : Nat) (part : List UInt8) : List UInt8 := be4 (csum (secBody gen index kind part)).toNat ++ secBody gen index kind part
theorem secBody_len {gen index kind : Nat} {part : List UInt8} (h : part.length ≤ 49) : (secBody gen index kind part).length = 60 := by
  simp [secBody]; omega
theorem logSec_len {gen index kind : Nat} {part : List UInt8} (h : part.length ≤ 49) : (logSec gen index kind part).length = 64 := by
  rw [logSec, List.length_append, secBody_len h]; rfl
/-- bytes written over others -/
def putAt (l : List UInt8) (i : Nat) (s : List UInt8) : List UInt8 := l.take i ++ s ++ l.drop (i + s.length)
theorem putAt_mid (a b c s : List UInt8) (i : Nat) (hi : i = a.length) (hb : b.length = s.length) : putAt (a ++ (b ++ c)) i s = a ++ (s ++ c) := by
  subst hi
  unfold putAt
  rw [List.take_append, List.take_length, Nat.sub_self, List.take_zero, List.append_nil, List.drop_append, List.drop_of_length_le (by omega), List.nil_append, Nat.add_sub_cancel_left, List.drop_append, List.drop_of_length_le (by omega), List.nil_append, hb, Nat.sub_self, List.drop_zero, List.append_assoc]
theorem putAt_len (l : List UInt8) (i : Nat) (s : List UInt8) (h : i + s.length ≤ l.length) : (putAt l i s).length = l.length := by
  simp [putAt]; omega
theorem putAt_one (l : List UInt8) (i : Nat) (x : UInt8) (h : i < l.length) : l.set i x = putAt l i [x] := by
  rw [putAt, List.set_eq_take_append_cons_drop, if_pos h]; simp
/-- the kind of a part of so many -/
def kindOf (i many : Nat) : Nat := if many = 1 then 1 else if i = 0 then 2 else if i = many - 1 then 4 else 3
def needOf (n : Nat) : Nat := if n = 0 then 1 else (n + 48) / 49
/-- a sector's kind and part, if it is right -/
def rightOf (b : List UInt8) (gen index : Nat) : Option (Nat × List UInt8) :=
  let kind := (b.getD 12 0).toNat
  let used := (b.getD 13 0).toNat
  if (kind < 1 ∨ 4 < kind) ∨ 49 < used ∨ (kind = 2 ∨ kind = 3) ∧ used ≠ 49 ∨ kind = 4 ∧ used = 0 then none
  else if logSec gen index kind ((b.drop 14).take used) = b then some (kind, (b.drop 14).take used) else none
end Go.Proofs.Ytlondopgibcikaa
