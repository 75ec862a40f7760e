/- The closed facts on the program as a whole that every row of this seat asks for, each proved once. The plain law of the sums (CRC-32): registers are linear, injective, joined by noughts; csealed bytes; columns. No program in sight. Memory: blocks that are known whole, frames, byte slices. Bridges between the walk's integers and plain registers and bytes. The walks of what the laws share: bytes side by side, copied, lent, written over; picks. -/
import Derived.Test.YtlondopgibcikaaGreatRows
import Derived.ProofKit
import Derived.WalkKit
import Derived.Deep.MidRow
import Derived.Laws.AppendOwnNone
import Derived.WalkSpells
import Derived.WalkLawsBesides
import Derived.Deep.RegionHeld3
import Derived.BigQuiet
import Derived.Deep.RegionWith
import Derived.Deep.QuietTactic
namespace Go.Proofs.YtlondopgibcikaaGreat
theorem pf_laid : laidOutB Tryz.prog = true := by kernel_rfl
theorem pf_maps : mapsRowed Tryz.prog = true := by kernel_rfl
theorem pf_keys : Tryz.prog.plainKeys = true := by kernel_rfl
theorem pf_heard : Tryz.prog.stopsHeard = true := by kernel_rfl
theorem pf_may : Tryz.prog.mayEnter = true := by kernel_rfl
theorem pf_lifts : Tryz.prog.liftsFinal = false := by kernel_rfl
theorem pf_make : Tryz.prog.make = some .cut := by kernel_rfl
end Go.Proofs.YtlondopgibcikaaGreat
namespace Go.Proofs.YtlondopgibcikaaGreat.Ent
abbrev R32 := BitVec 32
def cpoly : R32 := 0xEDB88320#32
def stp (r : R32) : R32 := if r.getLsbD 0 then (r >>> 1) ^^^ cpoly else r >>> 1
def stps : Nat → R32 → R32
  | 0, r => r
  | n + 1, r => stps n (stp r)
theorem stps_add (a b : Nat) (r : R32) : stps (a + b) r = stps b (stps a r) := by
  induction a generalizing r with
  | zero => simp [stps]
  | succ a ih => rw [Nat.succ_add]; simp only [stps]; exact ih _
theorem stp_xor (a b : R32) : stp (a ^^^ b) = stp a ^^^ stp b := by
  unfold stp
  rw [BitVec.getLsbD_xor, BitVec.ushiftRight_xor_distrib]
  generalize a >>> 1 = x; generalize b >>> 1 = y; generalize cpoly = p
  cases a.getLsbD 0 <;> cases b.getLsbD 0 <;> simp
  · rw [BitVec.xor_assoc]
  · rw [BitVec.xor_assoc, BitVec.xor_assoc]; congr 1; exact BitVec.xor_comm _ _
  · rw [BitVec.xor_assoc, ← BitVec.xor_assoc p, BitVec.xor_comm p y, BitVec.xor_assoc y, BitVec.xor_self]; simp
theorem stps_xor (n : Nat) (a b : R32) : stps n (a ^^^ b) = stps n a ^^^ stps n b := by
  induction n generalizing a b with
  | zero => rfl
  | succ n ih => simp only [stps]; rw [stp_xor, ih]
/-- low bits nought: a plain shift -/
theorem stps_low (n : Nat) : ∀ (y : R32), (∀ i, i < n → y.getLsbD i = false) → stps n y = y >>> n := by
  induction n with
  | zero => intro y _; simp [stps]
  | succ n ih =>
    intro y h
    have h0 : y.getLsbD 0 = false := h 0 (by omega)
    simp only [stps]
    rw [stp, if_neg (by rw [h0]; decide), ih]
    · apply BitVec.eq_of_getLsbD_eq; intro i hi
      simp only [BitVec.getLsbD_ushiftRight]; congr 1; omega
    · intro i hi; rw [BitVec.getLsbD_ushiftRight]; exact h _ (by omega)
def zb (b : UInt8) : R32 := b.toBitVec.setWidth 32
def cpass (r : R32) (b : UInt8) : R32 := stps 8 (r ^^^ zb b)
theorem split8 (r : R32) : r = (r &&& 0xff#32) ^^^ ((r >>> 8) <<< 8) := by
  apply BitVec.eq_of_getLsbD_eq
  intro i hi
  simp only [BitVec.getLsbD_xor, BitVec.getLsbD_and, BitVec.getLsbD_shiftLeft, BitVec.getLsbD_ushiftRight]
  by_cases h : i < 8
  · have : (0xff#32).getLsbD i = true := by
      have : ∀ i : Fin 8, (0xff#32).getLsbD i = true := by decide
      exact this ⟨i, h⟩
    simp [this, h]
  · have : (0xff#32).getLsbD i = false := by
      have : ∀ i : Fin 32, ¬ i.val < 8 → (0xff#32).getLsbD i = false := by decide
      exact this ⟨i, hi⟩ h
    rw [this]; simp only [Bool.and_false, Bool.false_xor, h, hi, decide_true, decide_false, Bool.not_false, Bool.true_and, show 8 + (i - 8) = i from by omega]
theorem zb_low (b : UInt8) (i : Nat) (h : 8 ≤ i) : (zb b).getLsbD i = false := by
  unfold zb
  rw [BitVec.getLsbD_setWidth, BitVec.getLsbD_of_ge _ _ h]; simp
theorem zb_shr (b : UInt8) : zb b >>> 8 = 0 := by
  apply BitVec.eq_of_getLsbD_eq
  intro i hi
  rw [BitVec.getLsbD_ushiftRight, zb_low _ _ (by omega)]; simp
/-- a byte through the register, by the table -/
def ctab (i : UInt8) : R32 := stps 8 (zb i)
theorem low8 (r : R32) : r &&& 0xff#32 = zb (UInt8.ofBitVec (r.setWidth 8)) := by
  apply BitVec.eq_of_getLsbD_eq
  intro i hi
  unfold zb
  simp only [BitVec.getLsbD_and, BitVec.getLsbD_setWidth]
  by_cases h : i < 8
  · have : (0xff#32).getLsbD i = true := by
      have : ∀ i : Fin 8, (0xff#32).getLsbD i = true := by decide
      exact this ⟨i, h⟩
    simp [this, h, hi]
  · have : (0xff#32).getLsbD i = false := by
      have : ∀ i : Fin 32, ¬ i.val < 8 → (0xff#32).getLsbD i = false := by decide
      exact this ⟨i, hi⟩ h
    simp [this, h]
theorem shl8_low (x : R32) (i : Nat) (h : i < 8) : (x <<< 8).getLsbD i = false := by
  rw [BitVec.getLsbD_shiftLeft]; simp [h]
theorem stps_split (r : R32) : stps 8 r = ctab (UInt8.ofBitVec (r.setWidth 8)) ^^^ (r >>> 8) := by
  have h := stps_low 8 ((r >>> 8) <<< 8) (fun i hi => shl8_low _ i hi)
  have h2 : ((r >>> 8) <<< 8) >>> 8 = r >>> 8 := by
    apply BitVec.eq_of_getLsbD_eq
    intro i hi
    simp only [BitVec.getLsbD_shiftLeft, BitVec.getLsbD_ushiftRight]
    by_cases h : 8 + i < 32
    · simp [h]
    · rw [show 8 + (8 + i - 8) = 8 + i from by omega, BitVec.getLsbD_of_ge r (8 + i) (by omega)]; simp
  calc stps 8 r = stps 8 ((r &&& 0xff#32) ^^^ ((r >>> 8) <<< 8)) := by rw [← split8]
    _ = stps 8 (r &&& 0xff#32) ^^^ stps 8 ((r >>> 8) <<< 8) := stps_xor _ _ _
    _ = _ := by rw [h, h2, low8]; rfl
theorem cpass_tab (r : R32) (b : UInt8) : cpass r b = ctab (UInt8.ofBitVec (r.setWidth 8) ^^^ b) ^^^ (r >>> 8) := by
  unfold cpass
  rw [stps_split, BitVec.ushiftRight_xor_distrib, zb_shr]
  have : (r ^^^ zb b).setWidth 8 = (r.setWidth 8 ^^^ b.toBitVec) := by
    rw [BitVec.setWidth_xor]; congr 1
    unfold zb; apply BitVec.eq_of_getLsbD_eq; intro i hi; simp [hi]
  rw [this]
  have h2 : UInt8.ofBitVec (r.setWidth 8 ^^^ b.toBitVec) = UInt8.ofBitVec (r.setWidth 8) ^^^ b := rfl
  rw [h2]; congr 1; exact BitVec.xor_zero
def regs (l : List UInt8) (r : R32) : R32 := l.foldl cpass r
theorem regs_append (l m : List UInt8) (r : R32) : regs (l ++ m) r = regs m (regs l r) := by simp [regs]
/-- the csum of bytes behind others; of bytes; of two parts -/
def cmore (csum : R32) (b : List UInt8) : R32 := ~~~ regs b (~~~ csum)
def csum (b : List UInt8) : R32 := cmore 0 b
end Go.Proofs.YtlondopgibcikaaGreat.Ent
namespace Go.Proofs.YtlondopgibcikaaGreat
open Go.RowKit Ent
theorem hid {p : Prop} (h : p) : Hid p := h
/-- a block known whole -/
theorem cell_blk {w : World} {b : Nat} {cs : Array Value} {T : TypeId} {fr : Nat × Nat} (h : w.heap[b]? = some (.cells cs T fr)) {j : Nat} {v : Value} (hj : cs[j]? = some v) : w.cell? ⟨b, j, none⟩ = some v := by
  rw [cell_of_row w b j cs T fr h, hj]
theorem free_blk {w : World} {b : Nat} {cs : Array Value} {T : TypeId} (h : w.heap[b]? = some (.cells cs T (0, 0))) (j : Nat) : w.frozen? ⟨b, j, none⟩ = false := frozen_of_row w b j cs T h
theorem lt_blk {w : World} {b : Nat} {o : Obj} (h : w.heap[b]? = some o) : b < w.heap.size := (Array.getElem?_eq_some_iff.1 h).1
theorem set_blk {w : World} {b : Nat} {cs : Array Value} {T : TypeId} (h : w.heap[b]? = some (.cells cs T (0, 0))) (j : Nat) (v : Value) : (w.setCell ⟨b, j, none⟩ v).heap[b]? = some (.cells (cs.setIfInBounds j v) T (0, 0)) := heap_setCell_same w b j cs T v h
theorem set_other {w : World} {a : Addr} {b : Nat} {o : Option Obj} (h : w.heap[b]? = o) (v : Value) (hne : b ≠ a.block) : (w.setCell a v).heap[b]? = o := by rw [heap_setCell_other w a b v hne, h]
theorem alloc_old {w : World} {b : Nat} {o : Obj} (h : w.heap[b]? = some o) (p : Obj) : (w.alloc p).heap[b]? = some o := by rw [Go.heap_alloc_old w p (lt_blk h), h]
theorem alloc_new (w : World) (p : Obj) : (w.alloc p).heap[w.heap.size]? = some p := Go.heap_alloc_new w p
theorem at_some {cs : Array Value} {k : Nat} (h : k < cs.size) : ∃ v, cs[k]? = some v := ⟨cs[k], by simp [h]⟩
theorem size_set_blk (cs : Array Value) (j : Nat) (v : Value) : (cs.setIfInBounds j v).size = cs.size := by simp
theorem below_setRow' {B : Nat} {w0 w : World} (hb : Below B w0 w) {g : Nat} (hg : B ≤ g) (cs : Array Value) : Below B w0 (w.setRow g cs) :=
  hb.trans ⟨rfl, rfl, rfl, by simp, fun k hk => setRow_other w g k _ (by omega)⟩
theorem ret_int {k : IntKind} {a b : Int} (h : a = b) : Ending.returned (.int k a) = .returned (.int k b) := by rw [h]
/-- all blocks of before, but those of F, are as they were -/
structure Keep (F : Nat → Prop) (w w' : World) : Prop where
  os : w'.os = w.os
  tape : w'.tape = w.tape
  output : w'.output = w.output
  size : w.heap.size ≤ w'.heap.size
  block : ∀ k, k < w.heap.size → ¬ F k → w'.heap[k]? = w.heap[k]?
theorem Keep.refl (F : Nat → Prop) (w : World) : Keep F w w := ⟨rfl, rfl, rfl, Nat.le_refl _, fun _ _ _ => rfl⟩
theorem Keep.trans {F : Nat → Prop} {a b c : World} (h : Keep F a b) (k : Keep F b c) : Keep F a c :=
  ⟨k.os.trans h.os, k.tape.trans h.tape, k.output.trans h.output, Nat.le_trans h.size k.size, fun i hi hF => (k.block i (Nat.lt_of_lt_of_le hi h.size) hF).trans (h.block i hi hF)⟩
/-- the second may touch what is new to the first, too -/
theorem Keep.comp {F G H : Nat → Prop} {a b c : World} (h : Keep F a b) (k : Keep G b c) (hF : ∀ i, i < a.heap.size → F i → H i) (hG : ∀ i, i < a.heap.size → G i → H i) : Keep H a c :=
  ⟨k.os.trans h.os, k.tape.trans h.tape, k.output.trans h.output, Nat.le_trans h.size k.size, fun i hi hH => (k.block i (Nat.lt_of_lt_of_le hi h.size) (fun hg => hH (hG i hi hg))).trans (h.block i hi (fun hf => hH (hF i hi hf)))⟩
theorem Keep.mono {F G : Nat → Prop} {a b : World} (h : Keep F a b) (hFG : ∀ i, i < a.heap.size → F i → G i) : Keep G a b := ⟨h.os, h.tape, h.output, h.size, fun i hi hg => h.block i hi (fun hf => hg (hFG i hi hf))⟩
theorem Keep.alloc {F : Nat → Prop} {a w : World} (h : Keep F a w) (o : Obj) : Keep F a (w.alloc o) :=
  h.trans ⟨rfl, rfl, rfl, by simp, fun k hk _ => Go.heap_alloc_old w o hk⟩
theorem Keep.drew {F : Nat → Prop} {a w : World} (h : Keep F a w) : Keep F a w.drew := ⟨h.os, h.tape, h.output, h.size, h.block⟩
theorem Keep.setCell {F : Nat → Prop} {a w : World} (h : Keep F a w) {p : Addr} (hp : F p.block) (u : Value) : Keep F a (w.setCell p u) :=
  h.trans ⟨rfl, rfl, rfl, by simp [World.setCell], fun k hk hF => heap_setCell_other w p k u (fun e => hF (e ▸ hp))⟩
theorem Keep.setRow {F : Nat → Prop} {a w : World} (h : Keep F a w) {g : Nat} (hp : F g) (cs : Array Value) : Keep F a (w.setRow g cs) :=
  h.trans ⟨rfl, rfl, rfl, by simp, fun k hk hF => setRow_other w g k _ (fun e => hF (e ▸ hp))⟩
theorem Keep.ofBelow {F : Nat → Prop} {a b : World} (h : Below a.heap.size a b) : Keep F a b := ⟨h.os, h.tape, h.output, h.size, fun k hk _ => h.block k hk⟩
theorem Keep.below {F : Nat → Prop} {a b : World} (h : Keep F a b) (hF : ∀ k, k < a.heap.size → ¬ F k) : Below a.heap.size a b := ⟨h.os, h.tape, h.output, h.size, fun k hk => h.block k hk (hF k hk)⟩
theorem Keep.belowB {F : Nat → Prop} {a b : World} {B : Nat} (h : Keep F a b) (hB : B ≤ a.heap.size) (hF : ∀ k, k < B → ¬ F k) : Below B a b := ⟨h.os, h.tape, h.output, h.size, fun k hk => h.block k (by omega) (hF k hk)⟩
theorem Keep.grown {F : Nat → Prop} {a w w' : World} {row : Option Nat} (h : Keep F a w) (hg : w.grownBy w' row) (hr : ∀ k, row = some k → k < a.heap.size → F k) : Keep F a w' :=
  ⟨hg.os.trans h.os, hg.tape.trans h.tape, hg.output.trans h.output, Nat.le_trans h.size hg.size, fun k hk hF => (hg.block k (Nat.lt_of_lt_of_le hk h.size) (fun e => hF (hr k e.symm hk))).trans (h.block k hk hF)⟩
theorem Keep.cell {F : Nat → Prop} {w w' : World} (h : Keep F w w') {p : Addr} (hp : p.block < w.heap.size) (hF : ¬ F p.block) : w'.cell? p = w.cell? p := World.cell?_of_block (h.block _ hp hF)
theorem Keep.frozen {F : Nat → Prop} {w w' : World} (h : Keep F w w') {p : Addr} (hp : p.block < w.heap.size) (hF : ¬ F p.block) : w'.frozen? p = w.frozen? p := World.frozen?_of_block (h.block _ hp hF)
theorem Keep.range {F : Nat → Prop} {w w' : World} (h : Keep F w w') {b o : Nat} {cs : List Value} (hr : w.rangeAt b o cs) (hF : ¬ F b) : w'.rangeAt b o cs := fun j v hv => by
  have hc := hr j v hv
  rw [h.cell (World.block_lt_of_cell? w _ hc) hF]; exact hc
theorem Keep.blk {F : Nat → Prop} {w w' : World} (h : Keep F w w') {b : Nat} {o : Obj} (hb : w.heap[b]? = some o) (hF : ¬ F b) : w'.heap[b]? = some o := by rw [h.block b (lt_blk hb) hF, hb]
/-- bytes as cells; a slice of bytes that may be read -/
def bv (l : List UInt8) : List Value := l.map fun x => Value.int .u8 (x.toNat : Int)
@[simp] theorem bv_length (l : List UInt8) : (bv l).length = l.length := by simp [bv]
theorem bv_append (a b : List UInt8) : bv (a ++ b) = bv a ++ bv b := by simp [bv]
theorem bv_get (l : List UInt8) (i : Nat) : (bv l)[i]? = (l[i]?).map fun x => Value.int .u8 (x.toNat : Int) := by simp [bv]
theorem bv_one (l : List UInt8) : ∀ v ∈ bv l, v.oneCell' = true := by
  intro v hv; simp [bv] at hv; obtain ⟨x, _, rfl⟩ := hv; rfl
def SB (w : World) (ao : Option Addr) (cap : Nat) (l : List UInt8) : Prop := (ao = none ∧ cap = 0 ∧ l = []) ∨ (∃ a, ao = some a ∧ l = []) ∨ ∃ b o, ao = some ⟨b, o, none⟩ ∧ w.rangeAt b o (bv l)
theorem rangeAt_byte {w : World} {b o : Nat} {l : List UInt8} (h : w.rangeAt b o (bv l)) {i : Nat} {x : UInt8} (hx : l[i]? = some x) : w.cell? ⟨b, o + i, none⟩ = some (.int .u8 (x.toNat : Int)) :=
  h i _ (by rw [bv_get, hx]; rfl)
theorem SB.below {w w' : World} {ao : Option Addr} {cap : Nat} {l : List UInt8} (h : SB w ao cap l) (hb : Below w.heap.size w w') : SB w' ao cap l := by
  rcases h with h | h | ⟨b, o, rfl, h⟩
  · exact .inl h
  · exact .inr (.inl h)
  · refine .inr (.inr ⟨b, o, rfl, fun j v hv => ?_⟩)
    have hc := h j v hv
    rw [hb.cell (World.block_lt_of_cell? w _ hc)]; exact hc
theorem SB.nil (w : World) : SB w none 0 [] := .inl ⟨rfl, rfl, rfl⟩
theorem info_u8 : ∃ i, Tryz.prog.info? 5 = some i ∧ i.zero = some (.int .u8 0) ∧ i.size = 1 ∧ i.bytes = 1 :=
  info_parts (P := Tryz.prog) (by kernel_rfl)
/-- append of bytes to a slice of the call's own, from any source -/
theorem run_append_SB (w : World) (ty : TypeId) (base : Nat) (v : Value) (n : Nat) (xs ys : List UInt8) (hown : w.ownsRow base 5 1 v n (bv xs)) (ao : Option Addr) (m c : Nat) (hm : m = ys.length) (hsrc : SB w ao c ys)
    (hb : n + m ≤ 1099511627776) (hbase : base ≤ w.heap.size) :
    ∃ v' w', (Builtin.append_ #[44, 44] ty #[v, .slice ao m c]).run Tryz.prog w = .ok v' w' ∧ w'.ownsRow base 5 1 v' (n + m) (bv (xs ++ ys)) ∧ w.grownBy w' v.ownBlock ∧ (v' = .slice none 0 0 ↔ v = .slice none 0 0 ∧ m = 0) := by
  obtain ⟨i, hi, hz0, hz1, hz2⟩ := info_u8
  subst hm
  rcases hsrc with ⟨rfl, rfl, rfl⟩ | ⟨ad, rfl, rfl⟩ | ⟨b, o', rfl, hr⟩
  · exact ⟨v, w, run_append_owned_none (P := Tryz.prog) w base 44 ty 5 i 1 Tryz.underlying44 hi v n (bv xs) hown, by simpa using hown, ⟨rfl, rfl, rfl, Nat.le_refl _, fun _ _ _ => rfl⟩, by simp⟩
  · obtain ⟨v', w', h1, h2, h3, h4⟩ := run_append_own (P := Tryz.prog) w base 44 ty 5 i (.int .u8 0) 1 1 Tryz.underlying44 hi hz0 hz1 hz2 rfl (by decide) v n (bv xs) hown ad 0 c (bv []) (by simp) (by intro j u hu; simp [bv] at hu) (bv_one []) (by simp [maxLen]; omega) (by omega) hbase
    rw [← bv_append] at h2
    exact ⟨v', w', h1, h2, h3, h4⟩
  · obtain ⟨v', w', h1, h2, h3, h4⟩ := run_append_own (P := Tryz.prog) w base 44 ty 5 i (.int .u8 0) 1 1 Tryz.underlying44 hi hz0 hz1 hz2 rfl (by decide) v n (bv xs) hown ⟨b, o', none⟩ ys.length c (bv ys) (by simp) (by intro j u hu; rw [Addr.add_mid]; exact hr j u hu) (bv_one ys) (by simp [maxLen]; omega) (by omega) hbase
    rw [← bv_append] at h2
    exact ⟨v', w', h1, h2, h3, h4⟩
theorem wpo_append {w : World} {o : Oper} {a : Act} {K : Act → World → Prop} {Q : Exit → Act → World → Prop} (s x : Operand)
    (ho : o.op = .call { callee := .builtin .append, args := #[s, x], argTypes := #[44, 44] })
    (base : Nat) (v : Value) (n : Nat) (xs ys : List UInt8) (hs : a.eval s = v) (hown : w.ownsRow base 5 1 v n (bv xs)) (ao : Option Addr) (m c : Nat) (hx : a.eval x = .slice ao m c) (hm : m = ys.length) (hsrc : SB w ao c ys)
    (hb : n + m ≤ 1099511627776) (hbase : base ≤ w.heap.size)
    (h : ∀ v' w', w'.ownsRow base 5 1 v' (n + m) (bv (xs ++ ys)) → w.grownBy w' v.ownBlock → (v' = .slice none 0 0 ↔ v = .slice none 0 0 ∧ m = 0) → K (a.put o.dst v') w') : o.wp Tryz.prog a w K Q := by
  obtain ⟨v', w', hr, h2, h3, h4⟩ := run_append_SB w o.type base v n xs ys hown ao m c hm hsrc hb hbase
  unfold Oper.wp execOp
  simp only [ho, resolve, invoke, builtin, Sem.run_bind, Sem.run_pure, Result.andThen_ok, List.map_toArray, List.map_cons, List.map_nil, hs, hx, hr]
  exact h v' w' h2 h3 h4
theorem wpl_append {w : World} {ops : Array Oper} {rest : List Oper} {o : Oper} {a : Act} {Q : Exit → Act → World → Prop} (hgd : o.guard = none) (s x : Operand)
    (ho : o.op = .call { callee := .builtin .append, args := #[s, x], argTypes := #[44, 44] })
    (base : Nat) (v : Value) (n : Nat) (xs ys : List UInt8) (hs : a.eval s = v) (hown : w.ownsRow base 5 1 v n (bv xs)) (ao : Option Addr) (m c : Nat) (hx : a.eval x = .slice ao m c) (hm : m = ys.length) (hsrc : SB w ao c ys)
    (hb : n + m ≤ 1099511627776) (hbase : base ≤ w.heap.size)
    (h : ∀ v' w', w'.ownsRow base 5 1 v' (n + m) (bv (xs ++ ys)) → w.grownBy w' v.ownBlock → (v' = .slice none 0 0 ↔ v = .slice none 0 0 ∧ m = 0) → wpList Tryz.prog ops Q rest (a.put o.dst v') w') : wpList Tryz.prog ops Q (o :: rest) a w :=
  wpList_plain hgd fun _ hK => wpo_append s x ho base v n xs ys hs hown ao m c hx hm hsrc hb hbase fun v' w' h1 h2 h3 => hK _ _ (h v' w' h1 h2 h3)
theorem made_zeros (n : Nat) : (madeCells (Value.cells (.int .u8 0)) n).toList = bv (List.replicate n 0) := by
  apply List.ext_getElem?
  intro i
  by_cases hi : i < n
  · simp [madeCells, bv, hi, Value.cells, Nat.mod_one]
  · simp [madeCells, bv, hi]
/-- what is owned may be read -/
theorem SB.ofOwns {w : World} {base n : Nat} {v : Value} {l : List UInt8} (h : w.ownsRow base 5 1 v n (bv l)) : ∃ ao cap, v = .slice ao n cap ∧ n = l.length ∧ SB w ao cap l := by
  have hl := h.1
  simp at hl
  rcases h.2 with ⟨rfl, rfl⟩ | ⟨g, cap, cur, rfl, _, hh, _, _, _, ht⟩
  · exact ⟨none, 0, rfl, hl.symm, .inl ⟨rfl, rfl, List.eq_nil_of_length_eq_zero hl⟩⟩
  · refine ⟨_, cap, rfl, hl.symm, .inr (.inr ⟨g, 0, rfl, fun j u hu => ?_⟩)⟩
    rw [Nat.zero_add, cell_of_row w g j cur _ _ hh]
    rw [← ht, List.getElem?_take] at hu
    split at hu
    · simpa using hu
    · cases hu
theorem owns_below {w w' : World} {base : Nat} {e : TypeId} {size : Nat} {v : Value} {n : Nat} {xs : List Value} (h : w.ownsRow base e size v n xs) (hb : Below w.heap.size w w') : w'.ownsRow base e size v n xs := by
  refine ⟨h.1, ?_⟩
  rcases h.2 with hn | ⟨g, cap, cur, hv, hg, hh, r⟩
  · exact .inl hn
  · exact .inr ⟨g, cap, cur, hv, hg, by rw [hb.block g (lt_blk hh)]; exact hh, r⟩
theorem owns_ge {w : World} {base : Nat} {e : TypeId} {size : Nat} {v : Value} {n : Nat} {xs : List Value} (h : w.ownsRow base e size v n xs) : ∀ k, v.ownBlock = some k → base ≤ k := fun k hk => (h.lt k hk).1
/-- a slice of no bytes that the call has made -/
theorem owns_empty (w : World) : (w.alloc (.cells #[] 5)).ownsRow w.heap.size 5 1 (.slice (some ⟨w.heap.size, 0, none⟩) 0 0) 0 (bv []) :=
  World.ownsRow_made w #[] 0 (Nat.le_refl _) (by simp [maxLen]) rfl
/-- two steps; two steps with a block laid between -/
theorem th {w a c : World} (h : Below w.heap.size w a) (k : Below a.heap.size a c) : Below w.heap.size w c := h.trans (k.mono h.size)
theorem fresh_alloc (w : World) (o : Obj) : Below w.heap.size w (w.alloc o) := (Below.refl _ _).alloc (Nat.le_refl _) o
/-- behind an append to what the call owns -/
theorem below_grown {B : Nat} {w0 w w' : World} {v : Value} {e : TypeId} {size n : Nat} {xs : List Value} (hb : Below B w0 w) (h : w.ownsRow B e size v n xs) (hg : w.grownBy w' v.ownBlock) (hB : B ≤ w0.heap.size) : Below B w0 w' :=
  hb.grown hg (Nat.le_trans hB hb.size) (owns_ge h)
theorem SB.laid (w : World) (l : List UInt8) (T : TypeId) (cap : Nat) {fr : Nat × Nat} : SB (w.alloc (.cells (bv l).toArray T fr)) (some ⟨w.heap.size, 0, none⟩) cap l :=
  .inr (.inr ⟨_, _, rfl, fun j v hv => by rw [Nat.zero_add, cell_of_row _ _ _ _ _ _ (alloc_new w _)]; simpa using hv⟩)
end Go.Proofs.YtlondopgibcikaaGreat
namespace Go.Proofs.YtlondopgibcikaaGreat
open Go.RowKit Ent
theorem of32 (r : R32) : BitVec.ofInt 32 (r.toNat : Int) = r := by
  apply BitVec.eq_of_toNat_eq
  rw [BitVec.toNat_ofInt]; have := r.isLt; omega
theorem wrap32' (r : R32) : IntKind.u32.wrap (r.toNat : Int) = r.toNat := by
  rw [IntKind.wrap_u32']; have := r.isLt; omega
theorem xor32 (a b : R32) : bits .xor .u32 (a.toNat : Int) (b.toNat : Int) = ((a ^^^ b).toNat : Int) := by
  show IntKind.u32.wrap ((BitVec.ofInt 32 (a.toNat : Int) ^^^ BitVec.ofInt 32 (b.toNat : Int)).toNat : Int) = _
  rw [of32, of32, wrap32']
theorem and32 (a b : R32) : bits .and .u32 (a.toNat : Int) (b.toNat : Int) = ((a &&& b).toNat : Int) := by
  show IntKind.u32.wrap ((BitVec.ofInt 32 (a.toNat : Int) &&& BitVec.ofInt 32 (b.toNat : Int)).toNat : Int) = _
  rw [of32, of32, wrap32']
theorem shr32 (a : R32) (n : Nat) (m : Int) (hm : m = ((2 ^ n : Nat) : Int)) : (a.toNat : Int) / m = ((a >>> n).toNat : Int) := by
  subst hm
  rw [BitVec.toNat_ushiftRight, Nat.shiftRight_eq_div_pow]; simp
theorem neg32 (a : R32) : (-(a.toNat : Int)) % 4294967296 = ((-a).toNat : Int) := by
  rw [BitVec.toNat_neg]; have := a.isLt; omega
theorem lsb_and (r : R32) : r &&& 1#32 = if r.getLsbD 0 then 1#32 else 0#32 := by
  apply BitVec.eq_of_getLsbD_eq; intro i hi
  by_cases h0 : i = 0
  · subst h0; rw [BitVec.getLsbD_and]; cases hb : r.getLsbD 0 <;> simp
  · have : (1#32).getLsbD i = false := by
      have : ∀ i : Fin 32, ¬ i.val = 0 → (1#32).getLsbD i = false := by decide
      exact this ⟨i, hi⟩ h0
    rw [BitVec.getLsbD_and, this]
    split
    · rw [this]; simp
    · simp
theorem stp_int (r : R32) : bits BinOp.xor IntKind.u32 ((r.toNat : Int) / 2) (bits BinOp.and IntKind.u32 3988292384 (-bits BinOp.and IntKind.u32 (r.toNat : Int) 1 % 4294967296)) = ((stp r).toNat : Int) := by
  have e1 : bits BinOp.and IntKind.u32 (r.toNat : Int) 1 = ((r &&& 1#32).toNat : Int) := and32 r 1#32
  have e2 : ((r.toNat : Int) / (2 : Int)) = ((r >>> 1).toNat : Int) := shr32 r 1 2 rfl
  have e3 : (3988292384 : Int) = (cpoly.toNat : Int) := rfl
  rw [e1, neg32, e2, e3, and32, xor32]
  unfold stp
  rw [lsb_and]
  split
  · rfl
  · rw [show cpoly &&& -0#32 = 0#32 from by decide]; simp
theorem ofInt_toNat (x : Int) (h0 : 0 ≤ x) (h1 : x < 4294967296) : ((BitVec.ofInt 32 x).toNat : Int) = x := by
  rw [BitVec.toNat_ofInt]; omega
theorem zb_int0 (c : UInt8) : (c.toNat : Int) = ((zb c).toNat : Int) := by
  unfold zb; rw [BitVec.toNat_setWidth]
  have h : c.toBitVec.toNat = c.toNat := rfl
  rw [h]; have := c.toNat_lt; omega
theorem zb_int (r : R32) (c : UInt8) : bits BinOp.xor IntKind.u32 (r.toNat : Int) (c.toNat : Int) = ((r ^^^ zb c).toNat : Int) := by
  rw [zb_int0, xor32]
theorem of8 (c : UInt8) : BitVec.ofInt 8 (c.toNat : Int) = c.toBitVec := by
  apply BitVec.eq_of_toNat_eq
  rw [BitVec.toNat_ofInt]; have := c.toNat_lt; simp; omega
theorem idx_int (r : R32) (c : UInt8) : bits BinOp.xor IntKind.u8 ((r.toNat : Int) % 256) (c.toNat : Int) = ((UInt8.ofBitVec (r.setWidth 8) ^^^ c).toNat : Int) := by
  show IntKind.u8.wrap ((BitVec.ofInt 8 ((r.toNat : Int) % 256) ^^^ BitVec.ofInt 8 (c.toNat : Int)).toNat : Int) = _
  have e : BitVec.ofInt 8 ((r.toNat : Int) % 256) = r.setWidth 8 := by
    apply BitVec.eq_of_toNat_eq
    rw [BitVec.toNat_ofInt, BitVec.toNat_setWidth]; omega
  rw [e, of8, IntKind.wrap_u8']
  have e2 : (UInt8.ofBitVec (r.setWidth 8) ^^^ c).toNat = (r.setWidth 8 ^^^ c.toBitVec).toNat := rfl
  rw [e2]; have := (r.setWidth 8 ^^^ c.toBitVec).isLt; omega
theorem cpass_int (r : R32) (c : UInt8) : bits BinOp.xor IntKind.u32 ((ctab (UInt8.ofBitVec (r.setWidth 8) ^^^ c)).toNat : Int) ((r.toNat : Int) / 256) = ((cpass r c).toNat : Int) := by
  have e2 : ((r.toNat : Int) / (256 : Int)) = ((r >>> 8).toNat : Int) := shr32 r 8 256 rfl
  rw [e2, xor32, ← cpass_tab]
theorem byte_lt (x : UInt8) : (x.toNat : Int) < 256 := by have := x.toNat_lt; omega
theorem not32 (a : R32) : bits BinOp.xor IntKind.u32 IntKind.u32.max (a.toNat : Int) = ((~~~ a).toNat : Int) := by
  have h : IntKind.u32.max = ((BitVec.allOnes 32).toNat : Int) := by decide
  rw [h, xor32, BitVec.xor_comm, BitVec.xor_allOnes]
theorem xor8 (a b : UInt8) : bits BinOp.xor IntKind.u8 (a.toNat : Int) (b.toNat : Int) = ((a ^^^ b).toNat : Int) := by
  show IntKind.u8.wrap ((BitVec.ofInt 8 (a.toNat : Int) ^^^ BitVec.ofInt 8 (b.toNat : Int)).toNat : Int) = _
  rw [of8, of8, IntKind.wrap_u8']
  have e2 : (a ^^^ b).toNat = (a.toBitVec ^^^ b.toBitVec).toNat := rfl
  rw [e2]; have := (a.toBitVec ^^^ b.toBitVec).isLt; omega
end Go.Proofs.YtlondopgibcikaaGreat
namespace Go.Proofs.YtlondopgibcikaaGreat
open Go.RowKit Ent
/-- bytes as a text -/
def str (l : List UInt8) : ByteArray := ⟨l.toArray⟩
theorem b2s (w : World) (ao : Option Addr) (n c : Nat) (l : List UInt8) (hn : n = l.length) (h : SB w ao c l) :
    (convert 44 9 (.slice ao n c)).run Tryz.prog w = .ok (.string (str l)) w := by
  subst hn
  rcases h with ⟨rfl, rfl, rfl⟩ | ⟨a, rfl, rfl⟩ | ⟨b, o, rfl, hr⟩
  · rw [run_convert_bytes_string w _ _ _ _ _ _ Tryz.underlying44 Tryz.underlying5 Tryz.underlying9]
    simp [Conv.bytesToString]; rfl
  · exact run_convert_bytes_back w _ _ _ a c [] Tryz.underlying44 Tryz.underlying5 Tryz.underlying9 (fun j hj => by simp at hj)
  · exact run_convert_bytes_back w _ _ _ _ c l Tryz.underlying44 Tryz.underlying5 Tryz.underlying9 (fun j hj => by
      rw [Addr.add_mid]; exact rangeAt_byte hr (by simp [hj]))
def sameB (a b : List UInt8) : Bool := decide (a = b)
theorem str_list (a : List UInt8) : (str a).toList = a := ByteArray.toList_mk a
theorem str_eq (a b : List UInt8) : ((str a).toList == (str b).toList) = sameB a b := by
  rw [str_list, str_list]; unfold sameB
  by_cases h : a = b <;> simp [h]
theorem same_self (a : List UInt8) : sameB a a = true := by simp [sameB]
theorem same_iff {a b : List UInt8} : sameB a b = true ↔ a = b := by simp [sameB]
set_option maxRecDepth 100000 in
set_option maxHeartbeats 400000 in
theorem same_any (ao bo : Option Addr) (n m c d : Nat) (l r : List UInt8) (hn : n = l.length) (hm : m = r.length) (w : World) (hl : SB w ao c l) (hr : SB w bo d r) :
    Calls Tryz.prog 44 #[.slice ao n c, .slice bo m d] w fun e w' => e = .returned (.bool (sameB l r)) ∧ w = w' := by
  have h1 := b2s w ao n c l hn hl
  have h2 := b2s w bo m d r hm hr
  clear hn hm
  go_enter Tryz.func44, Tryz.ntmps44
  go_wp2
  go_ret
  exact ⟨by rw [← str_eq]; rfl, rfl⟩
set_option maxRecDepth 100000 in
set_option maxHeartbeats 400000 in
theorem copy_any (ao : Option Addr) (n c : Nat) (l : List UInt8) (hn : n = l.length) (hb : n ≤ 1073741824) (w : World) (hl : SB w ao c l) :
    Calls Tryz.prog 15 #[.slice ao n c] w fun e w' => ∃ v, e = .returned v ∧ w'.ownsRow w.heap.size 5 1 v l.length (bv l) ∧ v ≠ .slice none 0 0 ∧ Below w.heap.size w w' := by
  subst hn
  go_enter Tryz.func15, Tryz.ntmps15
  go_wp2_with (first
    | (refine wpl_append rfl (.tmp 3) (.tmp 4) rfl w.heap.size _ _ _ l rfl (owns_empty w) ao _ c rfl rfl (hl.below ((Below.refl _ _).alloc (Nat.le_refl _) _)) (by omega) (by simp) ?_; intro v2 w2 ho2 hg2 hne))
  go_ret
  exact ⟨v2, rfl, by simpa using ho2, (by intro h; have := (hne.1 h).1; cases this), below_grown ((Below.refl _ _).alloc (Nat.le_refl _) _) (owns_empty w) hg2 (Nat.le_refl _)⟩
theorem tmod_pos (x n : Int) (h0 : 0 < n) (h : 0 ≤ x.tmod n) : x.tmod n = x % n := by
  have h1 := Int.tmod_eq_emod (a := x) (b := n)
  have h2 := Int.emod_nonneg x (show n ≠ 0 by omega)
  have h3 := Int.emod_lt_of_pos x h0
  split at h1 <;> omega
theorem tmod_neg (x n : Int) (h0 : 0 < n) (h : x.tmod n < 0) : x.tmod n + n = x % n := by
  have h1 := Int.tmod_eq_emod (a := x) (b := n)
  have h2 := Int.emod_nonneg x (show n ≠ 0 by omega)
  have h3 := Int.emod_lt_of_pos x h0
  split at h1 <;> omega
set_option maxRecDepth 100000 in
set_option maxHeartbeats 400000 in
theorem pick_any (x n : Int) (h0 : 0 < n) (h1 : n ≤ 4611686018427387904) (_hx : -9223372036854775808 ≤ x) (_hx' : x ≤ 9223372036854775807) (w : World) :
    Calls Tryz.prog 7 #[.int .i64 x, .int .i64 n] w fun e w' => e = .returned (.int .i64 (x % n)) ∧ w = w' := by
  go_enter Tryz.func7, Tryz.ntmps7
  go_wp2
  · have h : x.tmod n < 0 := by assumption
    have e := tmod_neg x n h0 h
    have h3 := Int.emod_lt_of_pos x h0
    have h2 := Int.emod_nonneg x (show n ≠ 0 by omega)
    go_ret
    refine ⟨ret_int ?_, rfl⟩
    show wrap64 (x.tmod n + n) = x % n
    rw [e]; exact IntWalk.wrap64_in _ ⟨by omega, by omega⟩
  · have h : 0 ≤ x.tmod n := by assumption
    have e := tmod_pos x n h0 h
    go_ret
    exact ⟨ret_int e, rfl⟩
/-- bytes that may be written -/
def WB (w : World) (ao : Option Addr) (n : Nat) : Prop := n = 0 ∨ ∃ b o, ao = some ⟨b, o, none⟩ ∧ ∀ j, j < n → (∃ x : UInt8, w.cell? ⟨b, o + j, none⟩ = some (.int .u8 (x.toNat : Int))) ∧ w.frozen? ⟨b, o + j, none⟩ = false
theorem WB.ofOwns {w : World} {base n : Nat} {v : Value} {l : List UInt8} (h : w.ownsRow base 5 1 v n (bv l)) : ∃ ao cap, v = .slice ao n cap ∧ WB w ao n := by
  have hl := h.1
  simp at hl
  rcases h.2 with ⟨rfl, rfl⟩ | ⟨g, cap, cur, rfl, _, hh, _, _, _, ht⟩
  · exact ⟨none, 0, rfl, .inl rfl⟩
  · refine ⟨_, cap, rfl, .inr ⟨g, 0, rfl, fun j hj => ⟨⟨l[j]'(by omega), ?_⟩, by rw [Nat.zero_add]; exact free_blk hh j⟩⟩⟩
    rw [Nat.zero_add, cell_of_row w g j cur _ _ hh]
    have : (cur.toList.take (n * 1))[j]? = some (.int .u8 ((l[j]'(by omega)).toNat : Int)) := by
      rw [ht, bv_get]; simp [show j < l.length by omega]
    rw [List.getElem?_take] at this
    split at this
    · simpa using this
    · cases this
theorem WB.below {w w' : World} {ao : Option Addr} {n : Nat} (h : WB w ao n) (hb : Below w.heap.size w w') : WB w' ao n := by
  rcases h with h | ⟨b, o, rfl, h⟩
  · exact .inl h
  · refine .inr ⟨b, o, rfl, fun j hj => ?_⟩
    obtain ⟨⟨x, hx⟩, hf⟩ := h j hj
    have hlt := World.block_lt_of_cell? w _ hx
    exact ⟨⟨x, by rw [hb.cell hlt]; exact hx⟩, by rw [hb.frozen hlt]; exact hf⟩
theorem own_all {w : World} {base n : Nat} {v : Value} {l : List UInt8} (h : w.ownsRow base 5 1 v n (bv l)) :
    ∃ ao cap, v = .slice ao n cap ∧ n = l.length ∧ n ≤ cap ∧ SB w ao cap l ∧ WB w ao n ∧ ∀ a, ao = some a → base ≤ a.block ∧ a.block < w.heap.size := by
  obtain ⟨ao, cap, hv, hw⟩ := WB.ofOwns h
  obtain ⟨ao', cap', hv', hn, hs⟩ := SB.ofOwns h
  have e := hv.symm.trans hv'
  injection e with e1 e2 e3
  subst e1; subst e3
  refine ⟨ao, cap, hv, hn, ?_, hs, hw, fun a ha => ?_⟩
  · rcases h.2 with ⟨_, h0⟩ | ⟨g, c, cur, hvv, _, _, hc, _⟩
    · omega
    · rw [hv] at hvv; injection hvv with _ _ e3; omega
  · exact h.lt a.block (by rw [hv, ha]; rfl)
theorem owns_keep {w w' : World} {F : Nat → Prop} {base : Nat} {e : TypeId} {size : Nat} {v : Value} {n : Nat} {xs : List Value} (h : w.ownsRow base e size v n xs) (hk : Keep F w w') (hF : ∀ k, v.ownBlock = some k → ¬ F k) : w'.ownsRow base e size v n xs := by
  refine ⟨h.1, ?_⟩
  rcases h.2 with hn | ⟨g, cap, cur, hv, hg, hh, r⟩
  · exact .inl hn
  · exact .inr ⟨g, cap, cur, hv, hg, hk.blk hh (hF g (by rw [hv]; rfl)), r⟩
theorem SB.keep {w w' : World} {F : Nat → Prop} {ao : Option Addr} {cap : Nat} {l : List UInt8} (h : SB w ao cap l) (hk : Keep F w w') (hF : ∀ a, ao = some a → ¬ F a.block) : SB w' ao cap l := by
  rcases h with h | h | ⟨b, o, rfl, h⟩
  · exact .inl h
  · exact .inr (.inl h)
  · exact .inr (.inr ⟨b, o, rfl, hk.range h (hF _ rfl)⟩)
theorem WB.keep {w w' : World} {F : Nat → Prop} {ao : Option Addr} {n : Nat} (h : WB w ao n) (hk : Keep F w w') (hF : ∀ a, ao = some a → ¬ F a.block) : WB w' ao n := by
  rcases h with h | ⟨b, o, rfl, h⟩
  · exact .inl h
  · refine .inr ⟨b, o, rfl, fun j hj => ?_⟩
    obtain ⟨⟨x, hx⟩, hf⟩ := h j hj
    have hlt := World.block_lt_of_cell? w _ hx
    exact ⟨⟨x, by rw [hk.cell hlt (hF ⟨b, o, none⟩ rfl)]; exact hx⟩, by rw [hk.frozen hlt (hF ⟨b, o, none⟩ rfl)]; exact hf⟩
/-- where a slice begins that is cut at its front -/
def sl (ao : Option Addr) (m cap : Nat) : Option Addr := if cap = m then ao else ao.map (·.add m)
theorem run_sl (ao : Option Addr) (n cap m : Nat) (hm : m ≤ n) (w : World) :
    (Instr.slice 44 (.slice ao n cap) (some (.int .i64 (m : Int))) none none).run Tryz.prog w = .ok (.slice (sl ao m cap) (n - m) (cap - m)) w := by
  obtain ⟨i, hi, _, hz1, _⟩ := info_u8
  have h1 : (0 : Int) ≤ (m : Int) ∧ (m : Int) ≤ (n : Int) := by omega
  simp [Instr.slice, Instr.sliceBounds, Instr.sliceBound, asIntOf, run_underlying Tryz.underlying44, sizeOf, typeInfo, hi, hz1, sl, h1]
  intro h; omega
theorem SB.sl {w : World} {ao : Option Addr} {cap : Nat} {l : List UInt8} (h : SB w ao cap l) {m : Nat} (hm : m ≤ l.length) (hc : l.length ≤ cap) : SB w (sl ao m cap) (cap - m) (l.drop m) := by
  unfold Proofs.YtlondopgibcikaaGreat.sl
  by_cases hcm : cap = m
  · rw [if_pos hcm]
    have h0 : l.drop m = [] := List.drop_of_length_le (by omega)
    rw [h0]
    rcases h with ⟨rfl, h2, rfl⟩ | ⟨a, rfl, rfl⟩ | ⟨b, o, rfl, _⟩
    · exact .inl ⟨rfl, by omega, rfl⟩
    · exact .inr (.inl ⟨a, rfl, rfl⟩)
    · exact .inr (.inl ⟨_, rfl, rfl⟩)
  · rw [if_neg hcm]
    rcases h with ⟨rfl, rfl, rfl⟩ | ⟨a, rfl, rfl⟩ | ⟨b, o, rfl, hr⟩
    · simp at hm; omega
    · exact .inr (.inl ⟨_, rfl, by simp⟩)
    · refine .inr (.inr ⟨b, o + m, by rw [Option.map_some, Addr.add_mid], fun j v hv => ?_⟩)
      rw [Nat.add_assoc]; refine hr (m + j) v ?_
      rw [bv_get] at hv ⊢; simpa using hv
/-- bytes that came in, as the shells tell of them -/
theorem row_SB {w : World} {a : Option Addr} {len cap : Nat} {zs : List Int} (h : (a = none ∧ len = 0 ∧ cap = 0 ∧ zs = []) ∨
    ∃ x, a = some x ∧ len ≤ cap ∧ cap ≤ maxLen ∧ zs.length = cap ∧ (∀ i, i < zs.length → w.cell? (x.add i) = some (.int .u8 (zs.getD i 0))) ∧ ∀ n ∈ zs, (Lit.int .u8 n).wf = true) :
    ∃ l : List UInt8, len = l.length ∧ len ≤ cap ∧ len ≤ 9223372036854775807 ∧ SB w a cap l ∧ ∀ x, a = some x → l ≠ [] → x.block < w.heap.size := by
  rcases h with ⟨rfl, rfl, rfl, rfl⟩ | ⟨x, rfl, hlc, hcm, hz, hc, hwf⟩
  · exact ⟨[], rfl, Nat.le_refl _, by omega, .inl ⟨rfl, rfl, rfl⟩, by simp⟩
  · have hm : len ≤ 9223372036854775807 := by unfold maxLen at hcm; omega
    have hll : len = ((zs.take len).map fun n => UInt8.ofNat n.toNat).length := by simp; omega
    by_cases h0 : len = 0
    · subst h0
      exact ⟨[], rfl, hlc, by omega, .inr (.inl ⟨x, rfl, rfl⟩), by simp⟩
    · obtain ⟨b, o, sp⟩ := x
      have hcell := hc 0 (by omega)
      have hsp : sp = none := by simpa [Addr.add] using World.cell?_spot hcell
      subst hsp
      refine ⟨_, hll, hlc, hm, .inr (.inr ⟨b, o, rfl, fun j v hv => ?_⟩), fun x hx _ => ?_⟩
      · rw [bv_get] at hv
        simp only [List.getElem?_map, List.getElem?_take] at hv
        by_cases hj : j < len
        · have hcj := hc j (by omega)
          rw [Addr.add_mid] at hcj
          rw [hcj]
          have hjz : zs[j]? = some (zs.getD j 0) := by simp [List.getD, List.getElem?_eq_getElem (show j < zs.length by omega)]
          rw [if_pos hj, hjz] at hv
          have hw := hwf (zs.getD j 0) (List.mem_of_getElem? hjz)
          have hb : 0 ≤ zs.getD j 0 ∧ zs.getD j 0 ≤ 255 := by
            have h1 : IntKind.u8.min = 0 := rfl
            have h2 : IntKind.u8.max = 255 := rfl
            simp only [Lit.wf, Bool.and_eq_true, decide_eq_true_eq] at hw
            omega
          simp at hv
          rw [← hv]
          have : ((zs.getD j 0).toNat % 256 : Nat) = (zs.getD j 0).toNat := Nat.mod_eq_of_lt (by omega)
          simp at this hb ⊢
          omega
        · rw [if_neg hj] at hv; simp at hv
      · injection hx with hx; subst hx
        exact World.block_lt_of_cell? w _ (by simpa [Addr.add] using hcell)
theorem over_int (x : UInt8) : bits BinOp.xor IntKind.u8 (x.toNat : Int) 165 = ((x ^^^ 165).toNat : Int) := xor8 x 165
end Go.Proofs.YtlondopgibcikaaGreat
