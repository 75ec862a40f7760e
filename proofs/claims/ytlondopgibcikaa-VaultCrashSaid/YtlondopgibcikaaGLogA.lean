/- The log, plainly: sectors that tell of themselves what they are. The walks of the log's small functions. The walks of slices.Equal and of the log's right, Check, Need, kinds. (Printed by wip/log1.py.) The walks of the log's Check, Need, kinds. (Printed by wip/log1.py.) A device that is turned by calls one behind the other. The walk of the log's Blank. The walk of the log's right. (Printed by wip/log2.py.) The walk of slices.Chunk's iterator. The walk of the log's parts: a record, cut. -/
import Derived.Test.YtlondopgibcikaaRows
import Derived.Test.YtlondopgibcikaaGBase
import Derived.Test.YtlondopgibcikaaGDevice
import Derived.Test.YtlondopgibcikaaGRefDev
import Derived.WalkKit
import Derived.WalkSpells
import Derived.WalkLawsBesides
import Derived.Deep.RegionHeld3
import Derived.Laws.IdiomCopy
import Derived.Deep.QuietTactic
import Derived.BigQuiet
import Derived.RangeFuncNested
import Derived.RangeFuncBox
import Derived.RangeFuncLeaves
import Derived.Shelf.Abstract
import Derived.Shelf.RegionOpen
import Derived.OwnWalkIn
import Derived.TacticsInMore
import Derived.LoopNIn
import Derived.LoopIn
import Derived.Maps.AppendAt
import Derived.Lib.SliceRun
namespace Go.Proofs.Ytlondopgibcikaa
open Go.RowKit Ent

def be4 (n : Nat) : List UInt8 := [UInt8.ofNat (n / 16777216), UInt8.ofNat (n / 65536), UInt8.ofNat (n / 256), UInt8.ofNat n]
@[simp] theorem be4_len (n : Nat) : (be4 n).length = 4 := rfl
theorem be4_inj {m n : Nat} (hm : m < 4294967296) (hn : n < 4294967296) (h : be4 m = be4 n) : m = n := by
  have h0 := congrArg (fun l => (l.getD 0 0).toNat) h
  have h1 := congrArg (fun l => (l.getD 1 0).toNat) h
  have h2 := congrArg (fun l => (l.getD 2 0).toNat) h
  have h3 := congrArg (fun l => (l.getD 3 0).toNat) h
  simp [be4] at h0 h1 h2 h3
  omega
/-- zeros -/
def zr (n : Nat) : List UInt8 := List.replicate n 0
@[simp] theorem zr_len (n : Nat) : (zr n).length = n := by simp [zr]
theorem zr_add (a b : Nat) : zr (a + b) = zr a ++ zr b := by simp [zr]
/-- a sector behind its sum -/
def secBody (gen index kind : Nat) (part : List UInt8) : List UInt8 := be4 gen ++ (be4 index ++ ([UInt8.ofNat kind, UInt8.ofNat part.length] ++ (part ++ (zr (49 - part.length) ++ [165]))))
def logSec (gen index kind : Nat) (part : List UInt8) : List UInt8 := be4 (csum (secBody gen index kind part)).toNat ++ secBody gen index kind part
theorem secBody_len {gen index kind : Nat} {part : List UInt8} (h : part.length ≤ 49) : (secBody gen index kind part).length = 60 := by
  simp [secBody]; omega
theorem logSec_len {gen index kind : Nat} {part : List UInt8} (h : part.length ≤ 49) : (logSec gen index kind part).length = 64 := by
  rw [logSec, List.length_append, secBody_len h]; rfl
/-- bytes written over others -/
def putAt (l : List UInt8) (i : Nat) (s : List UInt8) : List UInt8 := l.take i ++ s ++ l.drop (i + s.length)
theorem putAt_mid (a b c s : List UInt8) (i : Nat) (hi : i = a.length) (hb : b.length = s.length) : putAt (a ++ (b ++ c)) i s = a ++ (s ++ c) := by
  subst hi
  unfold putAt
  rw [List.take_append, List.take_length, Nat.sub_self, List.take_zero, List.append_nil, List.drop_append, List.drop_of_length_le (by omega), List.nil_append, Nat.add_sub_cancel_left, List.drop_append, List.drop_of_length_le (by omega), List.nil_append, hb, Nat.sub_self, List.drop_zero, List.append_assoc]
theorem putAt_len (l : List UInt8) (i : Nat) (s : List UInt8) (h : i + s.length ≤ l.length) : (putAt l i s).length = l.length := by
  simp [putAt]; omega
theorem putAt_one (l : List UInt8) (i : Nat) (x : UInt8) (h : i < l.length) : l.set i x = putAt l i [x] := by
  rw [putAt, List.set_eq_take_append_cons_drop, if_pos h]; simp
/-- the kind of a part of so many -/
def kindOf (i many : Nat) : Nat := if many = 1 then 1 else if i = 0 then 2 else if i = many - 1 then 4 else 3
def needOf (n : Nat) : Nat := if n = 0 then 1 else (n + 48) / 49
/-- a sector's kind and part, if it is right -/
def rightOf (b : List UInt8) (gen index : Nat) : Option (Nat × List UInt8) :=
  let kind := (b.getD 12 0).toNat
  let used := (b.getD 13 0).toNat
  if (kind < 1 ∨ 4 < kind) ∨ 49 < used ∨ (kind = 2 ∨ kind = 3) ∧ used ≠ 49 ∨ kind = 4 ∧ used = 0 then none
  else if logSec gen index kind ((b.drop 14).take used) = b then some (kind, (b.drop 14).take used) else none
end Go.Proofs.Ytlondopgibcikaa
namespace Go.Proofs.Ytlondopgibcikaa
open Go.RowKit Ent

theorem Blk.putB {w : World} {g : Nat} {T : TypeId} {l : List UInt8} (h : Blk w g T (bv l)) (o : Nat) (s : List UInt8) (hs : o + s.length ≤ l.length) : Blk (w.setCells g o (bv s)) g T (bv (putAt l o s)) := by
  have := h.setCells (bv s) _ o (by rw [bv_length, bv_length]; exact hs)
  rw [bv_length] at this
  simpa [putAt, bv, List.map_take, List.map_drop] using this
theorem Blk.setB {w : World} {g : Nat} {T : TypeId} {l : List UInt8} (h : Blk w g T (bv l)) (i : Nat) (x : UInt8) : Blk (w.setCell ⟨g, i, none⟩ (.int .u8 (x.toNat : Int))) g T (bv (l.set i x)) := by
  have := h.set i (.int .u8 (x.toNat : Int))
  rwa [show (bv l).set i (.int .u8 (x.toNat : Int)) = bv (l.set i x) by simp [bv, List.map_set]] at this
/-- copy of bytes, whatever the lengths -/
theorem wpl_copyB {ops : Array Oper} {rest : List Oper} {o : Oper} {a : Act} {w : World} {Q : Exit → Act → World → Prop} (hgd : o.guard = none) (s x : Operand)
    (ho : o.op = .call { callee := .builtin .copy, args := #[s, x], argTypes := #[22, 22] })
    (gi oi dl dc : Nat) (T : TypeId) (cur : List UInt8) (ao : Option Addr) (sl sc : Nat) (l : List UInt8) (hs : a.eval s = .slice (some ⟨gi, oi, none⟩) dl dc) (hx : a.eval x = .slice ao sl sc) (hl : l.length = sl) (hle : sl ≤ dl) (hsb : SB w ao sc l) (hb : Blk w gi T (bv cur)) (hc : oi + sl ≤ cur.length)
    (h : ∀ w', Blk w' gi T (bv (putAt cur oi l)) → Keep (fun k => k = gi) w w' → wpList Try.prog ops Q rest (a.put o.dst (goInt sl)) w') : wpList Try.prog ops Q (o :: rest) a w := by
  obtain ⟨i, hi, _, hz, _⟩ := info_u8
  have hin : (Try.prog.info? 5).map (·.size) = some 1 := by rw [hi]; simp [hz]
  refine wpList_plain hgd fun _ hK => ?_
  unfold Oper.wp execOp
  subst hl
  have hth := hb.there (o := oi) (n := l.length) (by rw [bv_length]; exact hc)
  have key : (Builtin.copy_ #[22, 22] o.type #[.slice (some ⟨gi, oi, none⟩) dl dc, .slice ao l.length sc]).run Try.prog w = .ok (goInt (l.length : Nat)) (w.setCells gi oi (bv l)) := by
    by_cases h0 : l = []
    · subst h0
      have := run_copy_none (P := Try.prog) w 22 22 o.type 5 (some ⟨gi, oi, none⟩) ao dl dc 0 sc Try.underlying22 hin (by simp)
      simpa [bv, World.setCells] using this
    · rcases hsb with ⟨_, _, h1⟩ | ⟨_, _, h1⟩ | ⟨b, o', rfl, hr⟩
      · exact absurd h1 h0
      · exact absurd h1 h0
      · have := run_copy_cells (P := Try.prog) w 22 22 o.type 5 gi oi dl dc ⟨b, o', none⟩ l.length sc (bv l) Try.underlying22 hin (by rw [bv_length]; exact (Nat.min_eq_left hle).symm) (fun j v hv => by rw [Addr.add_mid]; exact hr j v hv) (fun j hj => (hth j (by simpa using hj)).1) (fun j hj => (hth j (by simpa using hj)).2) (bv_one l)
        rwa [bv_length] at this
  simp only [ho, resolve, invoke, builtin, Sem.run_bind, Sem.run_pure, Result.andThen_ok, List.map_toArray, List.map_cons, List.map_nil, hs, hx, key]
  exact hK _ _ (h _ (hb.putB oi l hc) (Keep.setCells (F := fun k => k = gi) rfl _ _ (Keep.refl _ w)))
theorem run_cut_log (t : Nat) (ht : t ≤ 60) (w : World) (b : Nat) : (Instr.sliceAt 145 (.pointer (some ⟨b, 0, none⟩)) (some (.int .i64 (t : Int))) none none).run Try.prog w = .ok (.slice (some ⟨b, t, none⟩) (64 - t) (64 - t)) w := by
  obtain ⟨i, hi, _, hz1, _⟩ := info_u8
  have h1 : (0 : Int) ≤ (t : Int) ∧ (t : Int) ≤ 64 := by omega
  have h2 : ¬ 64 = t := by omega
  simp [Instr.sliceAt, Instr.sliceBounds, Instr.sliceBound, Instr.sureAddr, asIntOf, run_underlying Try.underlying145, sizeOf, typeInfo, hi, hz1, h1, h2, Addr.add]
  rw [if_pos (by omega)]
  by_cases h0 : t = 0
  · subst h0; simp
  · simp [h0]
theorem be4_cells (n : Nat) (h : n < 4294967296) : (#[.int .u8 ((n : Int) / 16777216), .int .u8 ((n : Int) / 65536 % 256), .int .u8 ((n : Int) / 256 % 256), .int .u8 ((n : Int) % 256)] : Array Value) = (bv (be4 n)).toArray := by
  have q : ∀ m : Nat, ((UInt8.ofNat m).toNat : Int) = ((m % 256 : Nat) : Int) := fun m => by simp
  have b0 : ((UInt8.ofNat (n / 16777216)).toNat : Int) = (n : Int) / 16777216 := by rw [q]; omega
  have b1 : ((UInt8.ofNat (n / 65536)).toNat : Int) = (n : Int) / 65536 % 256 := by rw [q]; omega
  have b2 : ((UInt8.ofNat (n / 256)).toNat : Int) = (n : Int) / 256 % 256 := by rw [q]; omega
  have b3 : ((UInt8.ofNat n).toNat : Int) = (n : Int) % 256 := by rw [q]; omega
  show _ = #[Value.int .u8 ((UInt8.ofNat (n / 16777216)).toNat : Int), .int .u8 ((UInt8.ofNat (n / 65536)).toNat : Int), .int .u8 ((UInt8.ofNat (n / 256)).toNat : Int), .int .u8 ((UInt8.ofNat n).toNat : Int)]
  rw [b0, b1, b2, b3]
set_option maxRecDepth 100000 in
set_option maxHeartbeats 400000 in
theorem lay_any (g t n : Nat) (l : List UInt8) (ht : t ≤ 60) (hn : n < 4294967296) (hl : l.length = 64) (w : World) (h : Blk w g 145 (bv l)) :
    Calls Try.prog 148 #[.pointer (some ⟨g, 0, none⟩), .int .i64 t, .int .i64 n] w fun e w' => e = .returned (.tuple #[]) ∧ Blk w' g 145 (bv (putAt l t (be4 n))) ∧ Keep (fun k => k = g) w w' := by
  have hr := run_cut_log t ht
  have e := be4_cells n hn
  have HSB : Hid (SB (w.alloc (.cells #[.int .u8 ((n : Int) / 16777216), .int .u8 ((n : Int) / 65536 % 256), .int .u8 ((n : Int) / 256 % 256), .int .u8 ((n : Int) % 256)] 5)) (some ⟨w.heap.size, 0, none⟩) 4 (be4 n)) := hid (by rw [e]; exact SB.laid w (be4 n) 5 4)
  have H1 : Hid (Blk (w.alloc (.cells #[.int .u8 ((n : Int) / 16777216), .int .u8 ((n : Int) / 65536 % 256), .int .u8 ((n : Int) / 256 % 256), .int .u8 ((n : Int) % 256)] 5)) g 145 (bv l)) := hid (h.alloc _)
  have HL := hid hl
  have HB : Hid (Below w.heap.size w (w.alloc (.cells #[.int .u8 ((n : Int) / 16777216), .int .u8 ((n : Int) / 65536 % 256), .int .u8 ((n : Int) / 256 % 256), .int .u8 ((n : Int) % 256)] 5))) := hid (fresh_alloc w _)
  clear h hl e
  go_enter Try.func148, Try.ntmps148
  go_wp2_with (refine wpl_copyB rfl (.tmp 9) (.tmp 21) rfl g t (64 - t) (64 - t) 145 l (some ⟨w.heap.size, 0, none⟩) 4 4 (be4 n) rfl rfl rfl (by omega) HSB.out H1.out (by rw [HL.out]; omega) ?_; intro w2 h2 hk2; have H2 := hid h2; have HK2 := hid hk2; clear h2 hk2)
  go_end0
  exact ⟨rfl, H2.out, (Keep.ofBelow HB.out).trans HK2.out⟩
theorem logsec_info : (Try.prog.info? 145).map (·.size) = some 64 := by kernel_rfl
/-- a kind or a length as a byte -/
theorem byte_nat (n : Nat) : ((n : Int) % 256) = ((UInt8.ofNat n).toNat : Int) := by
  have q : ((UInt8.ofNat n).toNat : Int) = ((n % 256 : Nat) : Int) := by simp
  rw [q]; omega
def mk1 (gen : Nat) : List UInt8 := zr 4 ++ (be4 gen ++ zr 56)
def mk2 (gen index : Nat) : List UInt8 := zr 4 ++ (be4 gen ++ (be4 index ++ zr 52))
def mk3 (gen index kind : Nat) (part : List UInt8) : List UInt8 := zr 4 ++ (be4 gen ++ (be4 index ++ ([UInt8.ofNat kind, UInt8.ofNat part.length] ++ zr 50)))
def mk4 (gen index kind : Nat) (part : List UInt8) : List UInt8 := zr 4 ++ (be4 gen ++ (be4 index ++ ([UInt8.ofNat kind, UInt8.ofNat part.length] ++ (part ++ zr (50 - part.length)))))
def mk5 (gen index kind : Nat) (part : List UInt8) : List UInt8 := zr 4 ++ secBody gen index kind part
theorem mk1_of (gen : Nat) : putAt (zr 64) 4 (be4 gen) = mk1 gen := by
  rw [show (64 : Nat) = 4 + (4 + 56) from rfl, zr_add 4 (4 + 56), zr_add 4 56]
  exact putAt_mid (zr 4) (zr 4) (zr 56) (be4 gen) 4 rfl rfl
theorem mk2_of (gen index : Nat) : putAt (mk1 gen) 8 (be4 index) = mk2 gen index := by
  have := putAt_mid (zr 4 ++ be4 gen) (zr 4) (zr 52) (be4 index) 8 rfl rfl
  rw [← zr_add 4 52] at this
  simpa [mk1, mk2] using this
theorem mk3_of (gen index kind : Nat) (part : List UInt8) : ((mk2 gen index).set 12 (UInt8.ofNat kind)).set 13 (UInt8.ofNat part.length) = mk3 gen index kind part := rfl
theorem mk4_of (gen index kind : Nat) (part : List UInt8) (h : part.length ≤ 49) : putAt (mk3 gen index kind part) 14 part = mk4 gen index kind part := by
  have := putAt_mid (zr 4 ++ (be4 gen ++ (be4 index ++ [UInt8.ofNat kind, UInt8.ofNat part.length]))) (zr part.length) (zr (50 - part.length)) part 14 rfl (by simp)
  rw [← zr_add, show part.length + (50 - part.length) = 50 by omega] at this
  simpa [mk3, mk4] using this
theorem mk5_of (gen index kind : Nat) (part : List UInt8) (h : part.length ≤ 49) : (mk4 gen index kind part).set 63 165 = mk5 gen index kind part := by
  rw [putAt_one _ _ _ (by simp [mk4]; omega)]
  have := putAt_mid (zr 4 ++ (be4 gen ++ (be4 index ++ ([UInt8.ofNat kind, UInt8.ofNat part.length] ++ (part ++ zr (49 - part.length)))))) (zr 1) [] [165] 63 (by simp; omega) rfl
  have e : zr (50 - part.length) = zr (49 - part.length) ++ zr 1 := by rw [← zr_add]; congr 1; omega
  rw [List.append_nil] at this
  simpa [mk4, mk5, secBody, e] using this
theorem mk5_drop (gen index kind : Nat) (part : List UInt8) : (mk5 gen index kind part).drop 4 = secBody gen index kind part := by
  unfold mk5; rw [List.drop_append, zr_len]; simp [zr]
theorem mk6_of (gen index kind : Nat) (part : List UInt8) : putAt (mk5 gen index kind part) 0 (be4 (csum (secBody gen index kind part)).toNat) = logSec gen index kind part := by
  have := putAt_mid [] (zr 4) (secBody gen index kind part) (be4 (csum (secBody gen index kind part)).toNat) 0 rfl rfl
  simpa [mk5, logSec] using this
theorem blk_some {w : World} {g : Nat} {T : TypeId} {vs : List Value} (h : Blk w g T vs) {j : Nat} (hj : j < vs.length) : ∃ v, w.cell? ⟨g, j, none⟩ = some v := ⟨_, h.cell (List.getElem?_eq_getElem hj)⟩
theorem byte_small (n : Nat) (h : n ≤ 255) : (n : Int) = ((UInt8.ofNat n).toNat : Int) := by
  have q : ((UInt8.ofNat n).toNat : Int) = ((n % 256 : Nat) : Int) := by simp
  rw [q]; omega
set_option maxRecDepth 100000 in
set_option maxHeartbeats 1000000 in
theorem lmade_any (gen index kind : Nat) (ao : Option Addr) (n c : Nat) (part : List UInt8) (hn : n = part.length) (h49 : n ≤ 49) (hg : gen < 4294967296) (hi : index < 4294967296) (hk : kind ≤ 255) (w : World) (hp : SB w ao c part) :
    Calls Try.prog 115 #[.int .i64 gen, .int .i64 index, .int .i64 kind, .slice ao n c] w fun e w' => e = .returned (.agg (bv (logSec gen index kind part)).toArray) ∧ Below w.heap.size w w' := by
  have HN := hid hn
  clear hn
  have HP := hid hp
  clear hp
  have HKI := hid (byte_small kind hk)
  have HNI := hid (byte_small n (by omega))
  obtain ⟨g, hgg⟩ : ∃ g, g = w.heap.size := ⟨_, rfl⟩
  have HG := hid hgg
  clear hgg
  go_enter Try.func115, Try.ntmps115
  go_wp2_with fail
  generalize hw1 : w.alloc _ = w1
  have H1 : Hid (Blk w1 w.heap.size 145 (bv (zr 64))) := hid (by rw [← hw1]; exact alloc_new w _)
  have HB1 : Hid (Below w.heap.size w w1) := hid (by rw [← hw1]; exact fresh_alloc w _)
  clear hw1
  rw [← HG.out]
  rw [← HG.out] at H1
  refine (lay_any g 4 gen (zr 64) (by omega) hg (by simp) w1 H1.out).mono ?_
  rintro e w2 ⟨rfl, h2, hk2⟩
  rw [mk1_of] at h2
  have H2 := hid h2; have HK2 := hid hk2
  clear h2 hk2
  go_wp2_with fail
  refine (lay_any g 8 index (mk1 gen) (by omega) hi (by simp [mk1]) w2 H2.out).mono ?_
  rintro e w3 ⟨rfl, h3, hk3⟩
  rw [mk2_of] at h3
  have H3 := hid h3; have HK3 := hid (HK2.out.trans hk3)
  have HB3 : Hid (Below w.heap.size w w3) := hid (HB1.out.trans (HK3.out.belowB (by rw [← HG.out]; exact Nat.le_of_lt (lt_blk H1.out)) (fun k hk e => by rw [e, HG.out] at hk; omega)))
  have c12 : w3.cell? ⟨g, 12, none⟩ = some (.int .u8 0) := h3.cell (j := 12) rfl
  have f12 := h3.free 12
  have h4 := h3.setB 12 (UInt8.ofNat kind)
  rw [← HKI.out] at h4
  have c13 : (w3.setCell ⟨g, 12, none⟩ (.int .u8 (kind : Int))).cell? ⟨g, 13, none⟩ = some (.int .u8 0) := h4.cell (j := 13) rfl
  have f13 := h4.free 13
  have h5 := h4.setB 13 (UInt8.ofNat n)
  rw [← HNI.out] at h5
  have H5 : Hid (Blk ((w3.setCell ⟨g, 12, none⟩ (.int .u8 (kind : Int))).setCell ⟨g, 13, none⟩ (.int .u8 (n : Int))) g 145 (bv (mk3 gen index kind part))) := hid (by rw [HN.out, mk3_of] at h5; rw [← HN.out] at h5; exact h5)
  have HB5 : Hid (Below w.heap.size w ((w3.setCell ⟨g, 12, none⟩ (.int .u8 (kind : Int))).setCell ⟨g, 13, none⟩ (.int .u8 (n : Int)))) := hid ((HB3.out.setCell (p := ⟨g, 12, none⟩) (by rw [HG.out]; exact Nat.le_refl _) _).setCell (p := ⟨g, 13, none⟩) (by rw [HG.out]; exact Nat.le_refl _) _)
  clear h3 hk3 h4 h5
  go_wp2_with (refine wpl_copyB rfl (.tmp 20) (.tmp 21) rfl g 14 49 50 145 (mk3 gen index kind part) ao n c part rfl rfl HN.out.symm h49 (HP.out.below HB5.out) H5.out (by simp [mk3]; omega) ?_; intro w6 h6 hk6; have H6 := hid h6; have HB6 := hid (HB5.out.trans (hk6.belowB HB5.out.size (fun k hk e => by rw [e, HG.out] at hk; omega))); obtain ⟨v63, c63⟩ := blk_some h6 (j := 63) (by rw [bv_length, putAt_len _ _ _ (by simp [mk3]; rw [← HN.out]; omega)]; simp [mk3]); have f63 := h6.free 63; clear h6 hk6)
  have H7 : Hid (Blk (w6.setCell ⟨g, 63, none⟩ (.int .u8 165)) g 145 (bv (mk5 gen index kind part))) := hid (by
    have := H6.out.setB 63 165
    rw [mk4_of _ _ _ _ (by rw [← HN.out]; exact h49), mk5_of _ _ _ _ (by rw [← HN.out]; exact h49)] at this
    exact this)
  have HB7 : Hid (Below w.heap.size w (w6.setCell ⟨g, 63, none⟩ (.int .u8 165))) := hid (HB6.out.setCell (p := ⟨g, 63, none⟩) (by rw [HG.out]; exact Nat.le_refl _) _)
  generalize hw7 : w6.setCell ⟨g, 63, none⟩ (.int .u8 165) = w7 at *
  clear hw7
  refine (sum_any (some ⟨g, 4, none⟩) 60 60 (secBody gen index kind part) (secBody_len (by rw [← HN.out]; exact h49)).symm (by omega) w7 (.inr (.inr ⟨g, 4, rfl, H7.out.range fun j v hv => by
    rw [bv_get, show (mk5 gen index kind part)[4 + j]? = (secBody gen index kind part)[j]? by rw [← mk5_drop, List.getElem?_drop], ← bv_get]; exact hv⟩))).mono ?_
  rintro e w8 ⟨rfl, hb8⟩
  have H8 := hid (H7.out.below hb8 H7.out.lt)
  have HB8 := hid (th HB7.out hb8)
  clear hb8
  go_wp2_with fail
  refine (lay_any g 0 (csum (secBody gen index kind part)).toNat (mk5 gen index kind part) (by omega) (by have := (csum (secBody gen index kind part)).isLt; omega) (by rw [mk5, List.length_append, secBody_len (by rw [← HN.out]; exact h49)]; rfl) w8 H8.out).mono ?_
  rintro e w9 ⟨rfl, h9, hk9⟩
  rw [mk6_of] at h9
  have H9 := hid h9
  have HB9 := hid (HB8.out.trans (hk9.belowB HB8.out.size (fun k hk e => by rw [e, HG.out] at hk; omega)))
  have HL := hid (logSec_len (gen := gen) (index := index) (kind := kind) (part := part) (by rw [← HN.out]; exact h49))
  clear h9 hk9
  go_wp2_with (first | (refine wpList_load_row rfl 145 (.tmp 8) rfl _ rfl _ _ _ _ H9.out Try.underlying145 rfl (by rw [List.size_toArray, bv_length, HL.out]; exact logsec_info) ?_) | (refine wpList_store_row rfl 145 (.tmp 8) (.tmp 28) rfl _ _ rfl rfl _ _ H9.out (by rw [List.size_toArray, bv_length, HL.out]; exact logsec_info) ?_ ?_ ?_))
  · rfl
  · exact bv_cells _
  · refine bodyPost_ret (results_cell_row rfl _ _ g 145 (bv (logSec gen index kind part)).toArray (0, 0) _ rfl (setRow_heap _ _ _ _ _ _ H9.out) Try.underlying145 rfl (by rw [List.size_toArray, bv_length, HL.out]; exact logsec_info)) rfl ⟨rfl, ?_⟩
    exact below_setRow' HB9.out (by rw [HG.out]; exact Nat.le_refl _) _
end Go.Proofs.Ytlondopgibcikaa
namespace Go.Proofs.Ytlondopgibcikaa
open Go.RowKit Ent

theorem sb_at {w : World} {ao : Option Addr} {cap : Nat} {l : List UInt8} (h : SB w ao cap l) {k : Nat} {x : UInt8} (hx : l[k]? = some x) : ∃ b o, ao = some ⟨b, o, none⟩ ∧ w.cell? ⟨b, o + k, none⟩ = some (.int .u8 (x.toNat : Int)) := by
  rcases h with ⟨_, _, rfl⟩ | ⟨_, _, rfl⟩ | ⟨b, o, rfl, hr⟩
  · simp at hx
  · simp at hx
  · exact ⟨b, o, rfl, rangeAt_byte hr hx⟩
set_option maxRecDepth 100000 in
set_option maxHeartbeats 1000000 in
theorem equal_any (ao bo : Option Addr) (n m c d : Nat) (l r : List UInt8) (hn : n = l.length) (hm : m = r.length) (hb : n ≤ 1073741824) (hb2 : m ≤ 1073741824) (w : World) (hl : SB w ao c l) (hr : SB w bo d r) :
    Calls Try.prog 149 #[.slice ao n c, .slice bo m d] w fun e w' => e = .returned (.bool (sameB l r)) ∧ Below w.heap.size w w' := by
  have HN := hid hn; have HM := hid hm
  have HL := hid hl; have HR := hid hr
  clear hn hm hl hr
  by_cases hne : n = m
  rotate_left
  · have HS : Hid (sameB l r = false) := hid (by
      unfold sameB
      rw [decide_eq_false_iff_not]; intro h; rw [h] at HN; exact hne (HN.out.trans HM.out.symm))
    go_enter Try.func149, Try.ntmps149
    go_wp2
    go_ret
    exact ⟨by rw [HS.out]; rfl, Below.refl _ _⟩
  subst hne
  go_enter Try.func149, Try.ntmps149
  go_wp2_with fail
  go_loopw [13] (fun i wr => ∃ k : Nat, k ≤ n ∧ i = .int .i64 k ∧ l.take k = r.take k ∧ Below w.heap.size w wr) (fun i _ => n - (intOf i).toNat)
  case atStart => exact ⟨0, Nat.zero_le _, rfl, by simp, Below.refl _ _⟩
  case round =>
    obtain ⟨k, hk, rfl, ht, hbe⟩ := hrel
    have HT := hid ht; have HB := hid hbe
    clear ht hbe
    by_cases hlt : k < n
    · obtain ⟨x, hx⟩ : ∃ x, l[k]? = some x := ⟨_, List.getElem?_eq_getElem (by rw [← HN.out]; exact hlt)⟩
      obtain ⟨y, hy⟩ : ∃ y, r[k]? = some y := ⟨_, List.getElem?_eq_getElem (by rw [← HM.out]; exact hlt)⟩
      obtain ⟨b1, o1, rfl, cx⟩ := sb_at (HL.out.below HB.out) hx
      obtain ⟨b2, o2, rfl, cy⟩ := sb_at (HR.out.below HB.out) hy
      have HX := hid hx; have HY := hid hy
      clear hx hy
      by_cases hxy : x = y
      · subst hxy
        go_wp2_with fail
        refine wp_region_held_drew (S := fun w' => w'.cell? ⟨b1, o1 + k, none⟩ = some (.int .u8 (x.toNat : Int)) ∧ w'.cell? ⟨b2, o2 + k, none⟩ = some (.int .u8 (x.toNat : Int))) (by kernel_rfl) ⟨cx, cy⟩ (fun hS => ?_)
        refine wpAnyH_take (i := 0) (v := ?v0x1a) (by simp only [List.getElem?_toArray, List.getElem?_cons_zero]; exact rfl) (by kernel_rfl) (by kernel_rfl) (by kernel_rfl) (by exact fun _ _ _ h => h) (Or.inl ⟨by rfl, ?y0x1a⟩) hS ?r0x1a
        case y0x1a => (intro w' hSw; (try dsimp only at hSw); go_simp; (try with_reducible rfl))
        simp only [Act.put, List.setIfInBounds_toArray, List.set_cons_zero, List.set_cons_succ]
        refine wpAnyH_take (i := 1) (v := ?v1x2a) (by simp only [List.getElem?_toArray, List.getElem?_cons_zero, List.getElem?_cons_succ]; exact rfl) (by kernel_rfl) (by kernel_rfl) (by kernel_rfl) (by exact fun _ _ _ h => h) (Or.inl ⟨by rfl, ?y1x2a⟩) hS ?r1x2a
        case y1x2a => (intro w' hSw; (try dsimp only at hSw); go_simp; (try with_reducible rfl))
        simp only [Act.put, List.setIfInBounds_toArray, List.set_cons_zero, List.set_cons_succ]
        refine wpAnyH_take (i := 2) (v := ?v2x3a) (by simp only [List.getElem?_toArray, List.getElem?_cons_zero, List.getElem?_cons_succ]; exact rfl) (by kernel_rfl) (by kernel_rfl) (by kernel_rfl) (by exact fun _ _ _ h => h) (Or.inl ⟨by rfl, ?y2x3a⟩) hS ?r2x3a
        case y2x3a => (intro w' hSw; (try dsimp only at hSw); go_simp; (try with_reducible rfl))
        simp only [Act.put, List.setIfInBounds_toArray, List.set_cons_zero, List.set_cons_succ]
        refine wpAnyH_take (i := 3) (v := ?v3x4a) (by simp only [List.getElem?_toArray, List.getElem?_cons_zero, List.getElem?_cons_succ]; exact rfl) (by kernel_rfl) (by kernel_rfl) (by kernel_rfl) (by exact fun _ _ _ h => h) (Or.inl ⟨by rfl, ?y3x4a⟩) hS ?r3x4a
        case y3x4a => (intro w' hSw; (try dsimp only at hSw); go_simp; (try with_reducible rfl))
        simp only [Act.put, List.setIfInBounds_toArray, List.set_cons_zero, List.set_cons_succ]
        refine wpAnyH_take (i := 4) (v := ?v4x5a) (by simp only [List.getElem?_toArray, List.getElem?_cons_zero, List.getElem?_cons_succ]; exact rfl) (by kernel_rfl) (by kernel_rfl) (by kernel_rfl) (by exact fun _ _ _ h => h) (Or.inl ⟨by rfl, ?y4x5a⟩) hS ?r4x5a
        case y4x5a => (intro w' hSw; (try dsimp only at hSw); go_simp; (try with_reducible rfl))
        simp only [Act.put, List.setIfInBounds_toArray, List.set_cons_zero, List.set_cons_succ]
        refine wpAnyH_take (i := 5) (v := ?v5x6a) (by simp only [List.getElem?_toArray, List.getElem?_cons_zero, List.getElem?_cons_succ]; exact rfl) (by kernel_rfl) (by kernel_rfl) (by kernel_rfl) (by exact fun _ _ _ h => h) (Or.inl ⟨by rfl, ?y5x6a⟩) hS ?r5x6a
        case y5x6a => (intro w' hSw; (try dsimp only at hSw); go_simp; (try with_reducible rfl))
        simp only [Act.put, List.setIfInBounds_toArray, List.set_cons_zero, List.set_cons_succ]
        refine wpAnyH_take (i := 6) (v := ?v6x7a) (by simp only [List.getElem?_toArray, List.getElem?_cons_zero, List.getElem?_cons_succ]; exact rfl) (by kernel_rfl) (by kernel_rfl) (by kernel_rfl) (by exact fun _ _ _ h => h) (Or.inl ⟨by rfl, ?y6x7a⟩) hS ?r6x7a
        case y6x7a => (intro w' hSw; (try dsimp only at hSw); go_simp; (try with_reducible rfl))
        simp only [Act.put, List.setIfInBounds_toArray, List.set_cons_zero, List.set_cons_succ]
        refine wpAnyH_take (i := 7) (v := ?v7x8a) (by simp only [List.getElem?_toArray, List.getElem?_cons_zero, List.getElem?_cons_succ]; exact rfl) (by kernel_rfl) (by kernel_rfl) (by kernel_rfl) (by exact fun _ _ _ h => h) (Or.inl ⟨by rfl, ?y7x8a⟩) hS ?r7x8a
        case y7x8a => (intro w' hSw; (try dsimp only at hSw); go_simp; (try with_reducible rfl))
        simp only [Act.put, List.setIfInBounds_toArray, List.set_cons_zero, List.set_cons_succ]
        refine wpAnyH_take (i := 8) (v := ?v8x9a) (by simp only [List.getElem?_toArray, List.getElem?_cons_zero, List.getElem?_cons_succ]; exact rfl) (by kernel_rfl) (by kernel_rfl) (by kernel_rfl) (by exact fun _ _ _ h => h) (Or.inl ⟨by rfl, ?y8x9a⟩) hS ?r8x9a
        case y8x9a => (intro w' hSw; (try dsimp only at hSw); go_simp; (try with_reducible rfl))
        simp only [Act.put, List.setIfInBounds_toArray, List.set_cons_zero, List.set_cons_succ]
        refine wpAnyH_done (by kernel_rfl) ?_ _
        clear hS
        go_wp2
        go_roundw
        case rel => exact ⟨k + 1, by omega, by go_num, by rw [List.take_add_one, List.take_add_one, HT.out, HX.out, HY.out], HB.out.drew⟩
        case measure => simp [intOf]; omega
      · have hf1 : ((x.toNat : Int) == (y.toNat : Int)) = false := by
          rw [beq_eq_false_iff_ne]; intro h
          exact hxy (UInt8.toNat_inj.1 (by omega))
        have hf2 : ((x.toNat : Int) != (y.toNat : Int)) = true := by rw [bne, hf1]; rfl
        have HXY := hid hxy
        clear hxy
        go_wp2_with fail
        refine wp_region_held_drew (S := fun w' => w'.cell? ⟨b1, o1 + k, none⟩ = some (.int .u8 (x.toNat : Int)) ∧ w'.cell? ⟨b2, o2 + k, none⟩ = some (.int .u8 (y.toNat : Int))) (by kernel_rfl) ⟨cx, cy⟩ (fun hS => ?_)
        refine wpAnyH_take (i := 0) (v := ?v0x1b) (by simp only [List.getElem?_toArray, List.getElem?_cons_zero]; exact rfl) (by kernel_rfl) (by kernel_rfl) (by kernel_rfl) (by exact fun _ _ _ h => h) (Or.inl ⟨by rfl, ?y0x1b⟩) hS ?r0x1b
        case y0x1b => (intro w' hSw; (try dsimp only at hSw); go_simp; (try with_reducible rfl))
        simp only [Act.put, List.setIfInBounds_toArray, List.set_cons_zero, List.set_cons_succ]
        refine wpAnyH_take (i := 1) (v := ?v1x2b) (by simp only [List.getElem?_toArray, List.getElem?_cons_zero, List.getElem?_cons_succ]; exact rfl) (by kernel_rfl) (by kernel_rfl) (by kernel_rfl) (by exact fun _ _ _ h => h) (Or.inl ⟨by rfl, ?y1x2b⟩) hS ?r1x2b
        case y1x2b => (intro w' hSw; (try dsimp only at hSw); go_simp; (try with_reducible rfl))
        simp only [Act.put, List.setIfInBounds_toArray, List.set_cons_zero, List.set_cons_succ]
        refine wpAnyH_take (i := 2) (v := ?v2x3b) (by simp only [List.getElem?_toArray, List.getElem?_cons_zero, List.getElem?_cons_succ]; exact rfl) (by kernel_rfl) (by kernel_rfl) (by kernel_rfl) (by exact fun _ _ _ h => h) (Or.inl ⟨by rfl, ?y2x3b⟩) hS ?r2x3b
        case y2x3b => (intro w' hSw; (try dsimp only at hSw); go_simp; (try with_reducible rfl))
        simp only [Act.put, List.setIfInBounds_toArray, List.set_cons_zero, List.set_cons_succ]
        refine wpAnyH_take (i := 3) (v := ?v3x4b) (by simp only [List.getElem?_toArray, List.getElem?_cons_zero, List.getElem?_cons_succ]; exact rfl) (by kernel_rfl) (by kernel_rfl) (by kernel_rfl) (by exact fun _ _ _ h => h) (Or.inl ⟨by rfl, ?y3x4b⟩) hS ?r3x4b
        case y3x4b => (intro w' hSw; (try dsimp only at hSw); go_simp; (try with_reducible rfl))
        simp only [Act.put, List.setIfInBounds_toArray, List.set_cons_zero, List.set_cons_succ]
        refine wpAnyH_take (i := 4) (v := ?v4x5b) (by simp only [List.getElem?_toArray, List.getElem?_cons_zero, List.getElem?_cons_succ]; exact rfl) (by kernel_rfl) (by kernel_rfl) (by kernel_rfl) (by exact fun _ _ _ h => h) (Or.inl ⟨by rfl, ?y4x5b⟩) hS ?r4x5b
        case y4x5b => (intro w' hSw; (try dsimp only at hSw); go_simp; (try with_reducible rfl))
        simp only [Act.put, List.setIfInBounds_toArray, List.set_cons_zero, List.set_cons_succ]
        refine wpAnyH_take (i := 5) (v := ?v5x6b) (by simp only [List.getElem?_toArray, List.getElem?_cons_zero, List.getElem?_cons_succ]; exact rfl) (by kernel_rfl) (by kernel_rfl) (by kernel_rfl) (by exact fun _ _ _ h => h) (Or.inl ⟨by rfl, ?y5x6b⟩) hS ?r5x6b
        case y5x6b => (intro w' hSw; (try dsimp only at hSw); go_simp; (try with_reducible rfl))
        simp only [Act.put, List.setIfInBounds_toArray, List.set_cons_zero, List.set_cons_succ]
        refine wpAnyH_take (i := 6) (v := ?v6x7b) (by simp only [List.getElem?_toArray, List.getElem?_cons_zero, List.getElem?_cons_succ]; exact rfl) (by kernel_rfl) (by kernel_rfl) (by kernel_rfl) (by exact fun _ _ _ h => h) (Or.inl ⟨by rfl, ?y6x7b⟩) hS ?r6x7b
        case y6x7b => (intro w' hSw; (try dsimp only at hSw); go_simp; (try with_reducible rfl))
        simp only [Act.put, List.setIfInBounds_toArray, List.set_cons_zero, List.set_cons_succ]
        refine wpAnyH_take (i := 7) (v := ?v7x8b) (by simp only [List.getElem?_toArray, List.getElem?_cons_zero, List.getElem?_cons_succ]; exact rfl) (by kernel_rfl) (by kernel_rfl) (by kernel_rfl) (by exact fun _ _ _ h => h) (Or.inl ⟨by rfl, ?y7x8b⟩) hS ?r7x8b
        case y7x8b => (intro w' hSw; (try dsimp only at hSw); go_simp; (try with_reducible rfl))
        simp only [Act.put, List.setIfInBounds_toArray, List.set_cons_zero, List.set_cons_succ]
        refine wpAnyH_take (i := 8) (v := ?v8x9b) (by simp only [List.getElem?_toArray, List.getElem?_cons_zero, List.getElem?_cons_succ]; exact rfl) (by kernel_rfl) (by kernel_rfl) (by kernel_rfl) (by exact fun _ _ _ h => h) (Or.inl ⟨by rfl, ?y8x9b⟩) hS ?r8x9b
        case y8x9b => (intro w' hSw; (try dsimp only at hSw); go_simp; (try with_reducible rfl))
        simp only [Act.put, List.setIfInBounds_toArray, List.set_cons_zero, List.set_cons_succ]
        refine wpAnyH_done (by kernel_rfl) ?_ _
        clear hS
        go_wp2
        go_ret
        exact ⟨by
          have h : sameB l r = false := by
            unfold sameB
            rw [decide_eq_false_iff_not]; intro h
            have h1 := HX.out; have h2 := HY.out
            rw [h, h2] at h1; injection h1 with h1; exact HXY.out h1.symm
          rw [h]; rfl, HB.out.drew⟩
    · have hk9 : k = n := by omega
      have HS : Hid (sameB l r = true) := hid (by
        have h := HT.out
        rw [hk9, List.take_of_length_le (by rw [HN.out]; exact Nat.le_refl _), List.take_of_length_le (by rw [HM.out]; exact Nat.le_refl _)] at h
        rw [h]; exact same_self r)
      go_wp2
      go_ret
      exact ⟨by rw [HS.out]; rfl, HB.out⟩
end Go.Proofs.Ytlondopgibcikaa
namespace Go.Proofs.Ytlondopgibcikaa
open Go.RowKit Ent

theorem below_drewN {B : Nat} {w0 w : World} (h : Below B w0 w) (n : Nat) : Below B w0 (w.drewN n) := ⟨h.os, h.tape, h.output, h.size, h.block⟩
theorem size_drewN {W : World} {a : Nat} {F : Nat → Prop} {d : Dev} (h : PDev W a F d) (n : Nat) : Calls Try.prog 55 #[ptr a] (W.drewN n) fun e w' => e = .returned (.int .i64 d.img.length) ∧ w' = W.drewN n :=
  lift_size _ (h.below (below_drewN (Below.refl _ _) n))
/-- why an area may not be -/
def checkOf (d : Dev) (f t g : Int) : Int := if f < 0 ∨ t < f ∨ (d.img.length : Int) < t ∨ g < 1 ∨ 2147483647 < g then 3 else 0
set_option maxRecDepth 100000 in
set_option maxHeartbeats 2000000 in
theorem check_any {a : Nat} {F : Nat → Prop} {d : Dev} (f t g : Int) (w : World) (h : PDev w a F d) :
    Calls Try.prog 66 #[ptr a, .agg #[.int .i64 f, .int .i64 t, .int .i64 g]] w fun e w' => e = .returned (.int .i64 (checkOf d f t g)) ∧ Below w.heap.size w w' := by
  have hok : d.ok := by obtain ⟨_, _, _, _, _, h⟩ := h; exact h.ok
  have hpos := hok.pos
  have hlen := hok.len
  have hz : (((d.img.length : Nat) : Int) == 0) = false := by rw [beq_eq_false_iff_ne]; omega
  have H1 := hid (h.below (fresh_alloc w (.cells #[.int .i64 f, .int .i64 t, .int .i64 g] 76)))
  have HB := hid (fresh_alloc w (.cells #[.int .i64 f, .int .i64 t, .int .i64 g] 76))
  clear h hok
  unfold ptr at *
  by_cases h1 : f < 0
  · have HC : Hid (checkOf d f t g = 3) := hid (by unfold checkOf; rw [if_pos (.inl h1)])
    have hd1 : decide (f < 0) = true := decide_eq_true h1
    go_enter Try.func66, Try.ntmps66
    go_wp2_with fail
    refine (lift_size _ H1.out).mono ?_
    rintro e w' ⟨rfl, rfl⟩
    go_wp2_with fail
    go_quiet ((go_at_call 55; exact Calls.quiet_of_same (size_drewN H1.out _)))
    go_wp2
    go_ret
    exact ⟨by rw [HC.out]; rfl, below_drewN HB.out _⟩
  have hd1 : decide (f < 0) = false := decide_eq_false h1
  by_cases h2 : t < f
  · have HC : Hid (checkOf d f t g = 3) := hid (by unfold checkOf; rw [if_pos (.inr (.inl h2))])
    have hd2 : decide (t < f) = true := decide_eq_true h2
    go_enter Try.func66, Try.ntmps66
    go_wp2_with fail
    refine (lift_size _ H1.out).mono ?_
    rintro e w' ⟨rfl, rfl⟩
    go_wp2_with fail
    go_quiet ((go_at_call 55; exact Calls.quiet_of_same (size_drewN H1.out _)))
    go_wp2
    go_ret
    exact ⟨by rw [HC.out]; rfl, below_drewN HB.out _⟩
  have hd2 : decide (t < f) = false := decide_eq_false h2
  by_cases h3 : (d.img.length : Int) < t
  · have HC : Hid (checkOf d f t g = 3) := hid (by unfold checkOf; rw [if_pos (.inr (.inr (.inl h3)))])
    have hd3 : decide ((d.img.length : Int) < t) = true := decide_eq_true h3
    go_enter Try.func66, Try.ntmps66
    go_wp2_with fail
    refine (lift_size _ H1.out).mono ?_
    rintro e w' ⟨rfl, rfl⟩
    go_wp2_with fail
    go_quiet ((go_at_call 55; exact Calls.quiet_of_same (size_drewN H1.out _)))
    go_wp2
    go_ret
    exact ⟨by rw [HC.out]; rfl, below_drewN HB.out _⟩
  have hd3 : decide ((d.img.length : Int) < t) = false := decide_eq_false h3
  by_cases h4 : g < 1
  · have HC : Hid (checkOf d f t g = 3) := hid (by unfold checkOf; rw [if_pos (.inr (.inr (.inr (.inl h4))))])
    have hd4 : decide (g < 1) = true := decide_eq_true h4
    go_enter Try.func66, Try.ntmps66
    go_wp2_with fail
    refine (lift_size _ H1.out).mono ?_
    rintro e w' ⟨rfl, rfl⟩
    go_wp2_with fail
    go_quiet ((go_at_call 55; exact Calls.quiet_of_same (size_drewN H1.out _)))
    go_wp2
    go_ret
    exact ⟨by rw [HC.out]; rfl, below_drewN HB.out _⟩
  have hd4 : decide (g < 1) = false := decide_eq_false h4
  by_cases h5 : 2147483647 < g
  · have HC : Hid (checkOf d f t g = 3) := hid (by unfold checkOf; rw [if_pos (.inr (.inr (.inr (.inr h5))))])
    have hd5 : decide (2147483647 < g) = true := decide_eq_true h5
    go_enter Try.func66, Try.ntmps66
    go_wp2_with fail
    refine (lift_size _ H1.out).mono ?_
    rintro e w' ⟨rfl, rfl⟩
    go_wp2_with fail
    go_quiet ((go_at_call 55; exact Calls.quiet_of_same (size_drewN H1.out _)))
    go_wp2
    go_ret
    exact ⟨by rw [HC.out]; rfl, below_drewN HB.out _⟩
  have hd5 : decide (2147483647 < g) = false := decide_eq_false h5
  have HC : Hid (checkOf d f t g = 0) := hid (by unfold checkOf; rw [if_neg (by rintro (h | h | h | h | h) <;> contradiction)])
  go_enter Try.func66, Try.ntmps66
  go_wp2_with fail
  refine (lift_size _ H1.out).mono ?_
  rintro e w' ⟨rfl, rfl⟩
  go_wp2_with fail
  go_quiet ((go_at_call 55; exact Calls.quiet_of_same (size_drewN H1.out _)))
  go_wp2
  go_ret
  exact ⟨by rw [HC.out]; rfl, below_drewN HB.out _⟩
set_option maxRecDepth 100000 in
theorem need_bad (n : Int) (h : n < 0 ∨ 1048576 < n) (w : World) : Calls Try.prog 61 #[.int .i64 n] w fun e w' => e = .returned (.int .i64 0) ∧ w' = w := by
  by_cases h1 : n < 0
  all_goals
    (try have h2 : 1048576 < n := by omega)
    go_enter Try.func61, Try.ntmps61
    go_wp2
    go_ret
    exact ⟨rfl, rfl⟩
set_option maxRecDepth 100000 in
set_option maxHeartbeats 400000 in
theorem need_any (n : Nat) (h : n ≤ 1048576) (w : World) : Calls Try.prog 61 #[.int .i64 n] w fun e w' => e = .returned (.int .i64 (needOf n)) ∧ w' = w := by
  by_cases h0 : n = 0
  · subst h0
    go_enter Try.func61, Try.ntmps61
    go_wp2
    go_ret
    exact ⟨rfl, rfl⟩
  · have HE : Hid (needOf n = (n + 48) / 49) := hid (by unfold needOf; rw [if_neg h0])
    go_enter Try.func61, Try.ntmps61
    go_wp2
    go_ret
    refine ⟨?_, rfl⟩
    rw [HE.out]
    show Ending.returned (.int .i64 (max 1 (((n : Int) + 49 - 1) / 49))) = _
    congr 2
    rw [Int.max_eq_right (by omega)]; omega
set_option maxRecDepth 100000 in
set_option maxHeartbeats 400000 in
theorem kinds_any (i many : Nat) (h : many ≤ 65536) (h1 : 1 ≤ many) (w : World) : Calls Try.prog 116 #[.int .i64 i, .int .i64 many] w fun e w' => e = .returned (.int .i64 (kindOf i many)) ∧ w' = w := by
  by_cases h1 : many = 1
  · have b1 : ((many : Int) == 1) = true := by simp [h1]
    have HK : Hid (kindOf i many = 1) := hid (by unfold kindOf; rw [if_pos h1])
    clear h1
    go_enter Try.func116, Try.ntmps116
    go_wp2
    go_ret
    exact ⟨by rw [HK.out]; rfl, rfl⟩
  have b1 : ((many : Int) == 1) = false := by rw [beq_eq_false_iff_ne]; omega
  by_cases h2 : i = 0
  · have b2 : ((i : Int) == 0) = true := by simp [h2]
    have HK : Hid (kindOf i many = 2) := hid (by unfold kindOf; rw [if_neg h1, if_pos h2])
    clear h1 h2
    go_enter Try.func116, Try.ntmps116
    go_wp2
    go_ret
    exact ⟨by rw [HK.out]; rfl, rfl⟩
  have b2 : ((i : Int) == 0) = false := by rw [beq_eq_false_iff_ne]; omega
  by_cases h3 : i = many - 1
  · have b3 : ((i : Int) == (many : Int) - 1) = true := by rw [beq_iff_eq]; omega
    have HK : Hid (kindOf i many = 4) := hid (by unfold kindOf; rw [if_neg h1, if_neg h2, if_pos h3])
    clear h1 h2 h3
    go_enter Try.func116, Try.ntmps116
    go_wp2
    go_ret
    exact ⟨by rw [HK.out]; rfl, rfl⟩
  · have b3 : ((i : Int) == (many : Int) - 1) = false := by rw [beq_eq_false_iff_ne]; omega
    have HK : Hid (kindOf i many = 3) := hid (by unfold kindOf; rw [if_neg h1, if_neg h2, if_neg h3])
    clear h1 h2 h3
    go_enter Try.func116, Try.ntmps116
    go_wp2
    go_ret
    exact ⟨by rw [HK.out]; rfl, rfl⟩
end Go.Proofs.Ytlondopgibcikaa
namespace Go.Proofs.Ytlondopgibcikaa
open Go.RowKit Ent

/-- since w, a device at a has been turned; G is its own now -/
structure Turn (F : Nat → Prop) (w w' : World) (a : Nat) (d : Dev) (G : Nat → Prop) : Prop where
  p : PDev w' a G d
  g : ∀ k, G k → grow F w w' k
  k : Keep F w w'
section
variable {F G : Nat → Prop} {w w1 w2 : World} {a : Nat} {d d2 : Dev}
theorem Turn.start (h : PDev w a F d) : Turn F w w a d F := ⟨h, fun _ => .inl, Keep.refl _ _⟩
theorem Turn.below (h : Turn F w w1 a d G) (hb : Below w1.heap.size w1 w2) : Turn F w w2 a d G :=
  ⟨h.p.below hb, fun k hk => (h.g k hk).imp id fun x => ⟨x.1, Nat.lt_of_lt_of_le x.2 hb.size⟩, h.k.trans (Keep.ofBelow hb)⟩
theorem Turn.step (h : Turn F w w1 a d G) (hp : PDev w2 a (grow G w1 w2) d2) (hk : Keep G w1 w2) : Turn F w w2 a d2 (grow G w1 w2) where
  p := hp
  g := fun k hh => by
    rcases hh with hh | hh
    · exact (h.g k hh).imp id fun x => ⟨x.1, Nat.lt_of_lt_of_le x.2 hk.size⟩
    · exact .inr ⟨Nat.le_trans h.k.size hh.1, hh.2⟩
  k := h.k.comp hk (fun _ _ x => x) (fun i hi hg => by
    rcases h.g i hg with x | x
    · exact x
    · omega)
theorem Turn.lt (h : Turn F w w1 a d G) (hF : ∀ k, F k → k < w.heap.size) : ∀ k, G k → k < w1.heap.size := fun k hk => by
  rcases h.g k hk with x | x
  · exact Nat.lt_of_lt_of_le (hF k x) h.k.size
  · exact x.2
theorem Turn.stop (h : Turn F w w1 a d G) : PDev w1 a (grow F w w1) d ∧ Keep F w w1 := ⟨h.p.mono h.g, h.k⟩
theorem Turn.rebase (h : Turn F w1 w2 a d G) (hb : Below w.heap.size w w1) : Turn F w w2 a d G :=
  ⟨h.p, fun k hk => (h.g k hk).imp id fun x => ⟨Nat.le_trans hb.size x.1, x.2⟩, (Keep.ofBelow hb).trans h.k⟩
theorem Turn.aside {g : Nat} (h : Turn F w w1 a d G) (hk : Keep (fun j => j = g) w1 w2) (hg : ¬ G g) (hw : w.heap.size ≤ g) : Turn F w w2 a d G where
  p := h.p.keep hk (fun k hk e => hg (by rw [← e]; exact hk))
  g := fun k hh => (h.g k hh).imp id fun x => ⟨x.1, Nat.lt_of_lt_of_le x.2 hk.size⟩
  k := h.k.comp hk (fun _ _ x => x) (fun i hi e => by omega)
end
end Go.Proofs.Ytlondopgibcikaa
namespace Go.Proofs.Ytlondopgibcikaa
open Go.RowKit Ent

def blankLoop : Dev → Nat → Nat → Int × Dev
  | d, _, 0 => (0, d)
  | d, i, m + 1 => if (d.write (i : Int) (zr 64)).1 ≠ 0 then d.write (i : Int) (zr 64) else blankLoop (d.write (i : Int) (zr 64)).2 (i + 1) m
def blankOf (d : Dev) (f t g : Int) : Int × Dev :=
  if checkOf d f t g ≠ 0 then (checkOf d f t g, d) else if (blankLoop d f.toNat (t - f).toNat).1 ≠ 0 then blankLoop d f.toNat (t - f).toNat else (blankLoop d f.toNat (t - f).toNat).2.flush
theorem check_ok {d : Dev} {f t g : Int} (h : ¬ checkOf d f t g ≠ 0) : 0 ≤ f ∧ f ≤ t ∧ t ≤ d.img.length ∧ 1 ≤ g ∧ g ≤ 2147483647 := by
  unfold checkOf at h
  split at h
  · simp at h
  · omega
theorem check_code (d : Dev) (f t g : Int) : checkOf d f t g = 0 ∨ checkOf d f t g = 3 := by
  unfold checkOf; split
  · exact .inr rfl
  · exact .inl rfl
theorem wpl_makeZ {ops : Array Oper} {rest : List Oper} {o : Oper} {a : Act} {w : World} {Q : Exit → Act → World → Prop} (hgd : o.guard = none) (l c : Operand) (ho : o.op = .makeSlice 22 l c) (n : Nat) (hl : a.eval l = .int .i64 n) (hc : a.eval c = .int .i64 n) (hn : n ≤ 65536)
    (h : ∀ w', Below w.heap.size w w' → Blk w' w.heap.size 5 (bv (zr n)) → wpList Try.prog ops Q rest (a.put o.dst (.slice (some ⟨w.heap.size, 0, none⟩) n n)) w') : wpList Try.prog ops Q (o :: rest) a w :=
  wpList_plain hgd fun _ hK => wpo_make l c ho n hl hc hn fun w' h1 h2 => hK _ _ (h w' h1 h2)
set_option maxRecDepth 100000 in
set_option maxHeartbeats 2000000 in
theorem blank_any {a : Nat} {F : Nat → Prop} {d : Dev} (f t g : Int) (w : World) (h : PDev w a F d) (hF : ∀ k, F k → k < w.heap.size) (hlo : d.loose.length ≤ 1073000000) :
    Calls Try.prog 67 #[ptr a, .agg #[.int .i64 f, .int .i64 t, .int .i64 g]] w fun e w' => e = .returned (.int .i64 (blankOf d f t g).1) ∧ PDev w' a (grow F w w') (blankOf d f t g).2 ∧ Keep F w w' := by
  have hok : d.ok := by obtain ⟨_, _, _, _, _, h⟩ := h; exact h.ok
  have HLEN := hid hok.len
  obtain ⟨w1, hw1⟩ : ∃ w1, w.alloc (.cells #[.int .i64 f, .int .i64 t, .int .i64 g] 76) = w1 := ⟨_, rfl⟩
  have HW1 := hid hw1
  have HBX : Hid (Blk w1 w.heap.size 76 [.int .i64 f, .int .i64 t, .int .i64 g]) := hid (by rw [← hw1]; exact alloc_new w _)
  have HB1 : Hid (Below w.heap.size w w1) := hid (by rw [← hw1]; exact fresh_alloc w _)
  have H1 := hid (h.below HB1.out)
  have HF := hid hF
  clear hw1 h hF hok
  unfold ptr
  by_cases hc : checkOf d f t g ≠ 0
  · have HE : Hid (blankOf d f t g = (checkOf d f t g, d)) := hid (by unfold blankOf; rw [if_pos hc])
    have h3 : checkOf d f t g = 3 := (check_code d f t g).resolve_left hc
    have H3 := hid h3
    clear h3 hc
    go_enter Try.func67, Try.ntmps67
    go_wp2_with fail
    rw [HW1.out]
    refine (check_any f t g w1 H1.out).mono ?_
    rintro e w2 ⟨rfl, hb2⟩
    rw [H3.out]
    have HB2 := hid hb2
    clear hb2
    go_wp2
    go_ret
    exact ⟨by rw [HE.out]; show _ = Ending.returned (.int .i64 (checkOf d f t g)); rw [H3.out]; rfl, by rw [HE.out]; exact (H1.out.below HB2.out).mono fun _ => .inl, (Keep.ofBelow HB1.out).trans (Keep.ofBelow HB2.out)⟩
  obtain ⟨h1, h2, h3, h4, h5⟩ := check_ok hc
  have H0 : Hid (checkOf d f t g = 0) := hid (by simpa using hc)
  have HCN := hid hc
  clear hc
  obtain ⟨n, rfl⟩ : ∃ n : Nat, f = (n : Int) := ⟨f.toNat, by omega⟩
  obtain ⟨m, rfl⟩ : ∃ m : Nat, t = (n : Int) + (m : Int) := ⟨(t - n).toNat, by omega⟩
  have hnm : n + m ≤ 65536 := by have := HLEN.out; omega
  have HE : Hid (blankOf d n (n + m) g = if (blankLoop d n m).1 ≠ 0 then blankLoop d n m else (blankLoop d n m).2.flush) := hid (by
    unfold blankOf; rw [if_neg HCN.out, Int.toNat_natCast, show ((n : Int) + (m : Int) - (n : Int)).toNat = m by omega])
  clear h1 h2 h3
  go_enter Try.func67, Try.ntmps67
  go_wp2_with fail
  rw [HW1.out]
  refine (check_any n (n + m) g w1 H1.out).mono ?_
  rintro e w2 ⟨rfl, hb2⟩
  rw [H0.out]
  have H2 := hid (H1.out.below hb2)
  have HB2 := hid hb2
  have HBX2 := hid (HBX.out.below hb2 HBX.out.lt)
  have HK2 : Hid (Keep F w w2) := hid ((Keep.ofBelow HB1.out).trans (Keep.ofBelow hb2))
  have hsz : w.heap.size < w2.heap.size := HBX2.out.lt
  have HSZ := hid hsz
  clear hb2 hsz
  have cb0 := HBX2.out.cell (j := 0) rfl
  go_wp2_with fail
  clear cb0
  go_loopw [6] (fun i wr => ∃ (k : Nat) (d' : Dev) (G : Nat → Prop), k ≤ m ∧ i = .int .i64 ((n + k : Nat) : Int) ∧ blankLoop d n m = blankLoop d' (n + k) (m - k) ∧ Turn F w2 wr a d' G ∧ d'.loose.length ≤ d.loose.length + k) (fun i _ => n + m - (intOf i).toNat)
  case atStart => exact ⟨0, d, F, Nat.zero_le _, rfl, rfl, Turn.start H2.out, Nat.le_refl _⟩
  case round =>
    obtain ⟨k, d', G, hk, rfl, hl, ht, hlo'⟩ := hrel
    have HL := hid hl; have HT := hid ht
    have HBXr := hid (HBX2.out.keep ht.k (fun hh => by have := HF.out _ hh; omega))
    have cb1 := HBXr.out.cell (j := 1) rfl
    have HGL := hid (ht.lt (fun j hj => Nat.lt_trans (HF.out j hj) HSZ.out))
    clear hl ht
    by_cases hlt : k < m
    · obtain ⟨q, hq⟩ : ∃ q, m - k = q + 1 := ⟨m - k - 1, by omega⟩
      have HL1 : Hid (blankLoop d n m = if (d'.write ((n + k : Nat) : Int) (zr 64)).1 ≠ 0 then d'.write ((n + k : Nat) : Int) (zr 64) else blankLoop (d'.write ((n + k : Nat) : Int) (zr 64)).2 (n + (k + 1)) (m - (k + 1))) := hid (by
        rw [HL.out, hq, blankLoop, show m - (k + 1) = q by omega]; rfl)
      clear hq
      have hlo2 := (write_loose d' ((n + k : Nat) : Int) (zr 64)).1
      have hlt2 : ((n + k : Nat) : Int) < (n : Int) + (m : Int) := by omega
      go_wp2_with (refine wpl_makeZ rfl (.const (.int .i64 64)) (.const (.int .i64 64)) rfl 64 rfl rfl (by omega) ?_; intro w3 hb3 hm3; have HB3 := hid hb3; have HM3 := hid hm3; clear hb3 hm3)
      refine (lift_write ((n + k : Nat) : Int) (some ⟨wr.heap.size, 0, none⟩) 64 64 (zr 64) rfl w3 (.inr (.inr ⟨_, 0, rfl, HM3.out.range fun j v hv => by rw [Nat.zero_add]; exact hv⟩)) (fun x hx hh => by cases hx; have := HGL.out _ hh; simp at this) (by omega) (HT.out.below HB3.out).p).mono ?_
      rintro e w4 ⟨rfl, h4, hk4⟩
      obtain ⟨r, hr⟩ : ∃ r, d'.write ((n + k : Nat) : Int) (zr 64) = r := ⟨_, rfl⟩
      rw [hr] at h4 hlo2 HL1 ⊢
      have HT4 := hid ((HT.out.below HB3.out).step h4 hk4)
      clear hr h4 hk4
      by_cases hc : r.1 = 0
      · have HL2 : Hid (blankLoop d n m = blankLoop r.2 (n + (k + 1)) (m - (k + 1))) := hid (by rw [HL1.out, if_neg (by simpa using hc)])
        rw [hc]
        clear hc
        go_wp2
        go_roundw
        case rel => exact ⟨k + 1, r.2, _, by omega, by go_num, HL2.out, HT4.out, by omega⟩
        case measure => simp [intOf]; omega
      · have HR : Hid (blankOf d n (n + m) g = r) := hid (by rw [HE.out, HL1.out, if_pos hc, if_pos hc])
        have hz : (r.1 == 0) = false := by simpa using hc
        have hz2 : (r.1 != 0) = true := by simpa using hc
        clear hc
        go_wp2
        go_ret
        have hst := (HT4.out.rebase (th HB1.out HB2.out)).stop
        exact ⟨by rw [HR.out]; rfl, by rw [HR.out]; exact hst.1, hst.2⟩
    · have hk9 : k = m := by omega
      have HL1 : Hid (blankLoop d n m = (0, d')) := hid (by rw [HL.out, hk9, Nat.sub_self, blankLoop])
      have HR : Hid (blankOf d n (n + m) g = d'.flush) := hid (by rw [HE.out, HL1.out]; simp)
      have hlt2 : ¬ ((n + k : Nat) : Int) < (n : Int) + (m : Int) := by omega
      go_wp2_with fail
      refine (lift_flush wr HT.out.p).mono ?_
      rintro e w4 ⟨rfl, h4, hk4⟩
      have HT4 := hid (HT.out.step (h4.mono fun _ => .inl) hk4)
      clear h4 hk4
      go_wp2
      go_ret
      have hst := (HT4.out.rebase (th HB1.out HB2.out)).stop
      exact ⟨by rw [HR.out]; rfl, by rw [HR.out]; exact hst.1, hst.2⟩
end Go.Proofs.Ytlondopgibcikaa
namespace Go.Proofs.Ytlondopgibcikaa
open Go.RowKit Ent

/-- what is told of a sector -/
def RightRet (b : List UInt8) (gen index g o cap : Nat) (e : Ending) : Prop :=
  match rightOf b gen index with
  | none => e = .returned (.tuple #[.int .i64 0, .slice none 0 0])
  | some (k, p) => e = .returned (.tuple #[.int .i64 (k : Int), .slice (some ⟨g, o + 14, none⟩) p.length (cap - 14)])
theorem right_bad {b : List UInt8} {gen index K U : Nat} (hK : (b.getD 12 0).toNat = K) (hU : (b.getD 13 0).toNat = U) (h : (K < 1 ∨ 4 < K) ∨ 49 < U ∨ (K = 2 ∨ K = 3) ∧ U ≠ 49 ∨ K = 4 ∧ U = 0) : rightOf b gen index = none := by
  unfold rightOf
  simp only [hK, hU]
  rw [if_pos h]
theorem right_good {b : List UInt8} {gen index K U : Nat} (hK : (b.getD 12 0).toNat = K) (hU : (b.getD 13 0).toNat = U) (h : ¬ ((K < 1 ∨ 4 < K) ∨ 49 < U ∨ (K = 2 ∨ K = 3) ∧ U ≠ 49 ∨ K = 4 ∧ U = 0)) :
    (sameB (logSec gen index K ((b.drop 14).take U)) b = true ∧ rightOf b gen index = some (K, (b.drop 14).take U)) ∨ (sameB (logSec gen index K ((b.drop 14).take U)) b = false ∧ rightOf b gen index = none) := by
  unfold rightOf sameB
  simp only [hK, hU]
  rw [if_neg h]
  by_cases he : logSec gen index K ((b.drop 14).take U) = b
  · left; rw [if_pos he]; exact ⟨decide_eq_true he, rfl⟩
  · right; rw [if_neg he]; exact ⟨decide_eq_false he, rfl⟩
set_option maxRecDepth 100000 in
set_option maxHeartbeats 4000000 in
theorem right_any (g o cap : Nat) (b : List UInt8) (hb : b.length = 64) (hcap : 64 ≤ cap) (gen index : Nat) (hg : gen < 4294967296) (hi : index < 4294967296) (w : World) (hr : w.rangeAt g o (bv b)) :
    Calls Try.prog 117 #[.slice (some ⟨g, o, none⟩) 64 cap, .int .i64 gen, .int .i64 index] w fun e w' => RightRet b gen index g o cap e ∧ Below w.heap.size w w' := by
  obtain ⟨x12, hx12⟩ : ∃ x, b[12]? = some x := ⟨_, List.getElem?_eq_getElem (by omega)⟩
  obtain ⟨x13, hx13⟩ : ∃ x, b[13]? = some x := ⟨_, List.getElem?_eq_getElem (by omega)⟩
  have c12 := rangeAt_byte hr hx12
  have c13 := rangeAt_byte hr hx13
  have hK : (b.getD 12 0).toNat = x12.toNat := by simp [List.getD, hx12]
  have hU : (b.getD 13 0).toNat = x13.toNat := by simp [List.getD, hx13]
  have hk256 := x12.toNat_lt
  have hu256 := x13.toNat_lt
  generalize x12.toNat = K at *
  generalize x13.toNat = U at *
  have hHK := hid hK; have hHU := hid hU
  have HB64 := hid hb
  have HR := hid hr
  have HPR : Hid (w.rangeAt g (o + 14) (bv ((b.drop 14).take U))) := hid (fun j v hv => by
    rw [Nat.add_assoc]
    refine hr (14 + j) v ?_
    rw [bv_get] at hv ⊢
    rw [List.getElem?_take] at hv
    split at hv
    · rwa [List.getElem?_drop] at hv
    · cases hv)
  clear hb hr hx12 hx13 hK hU
  by_cases k2 : K = 2
  · subst k2
    by_cases hul : U < 49
    · have HBAD : Hid (rightOf b gen index = none) := hid (right_bad hHK.out hHU.out (by omega))
      go_enter Try.func117, Try.ntmps117
      go_wp2_with fail
      go_quiet (fail)
      go_wp2
      go_ret2
      exact ⟨by unfold RightRet; rw [HBAD.out]; rfl, below_drewN (Below.refl _ _) _⟩
    by_cases hum : 49 < U
    · have HBAD : Hid (rightOf b gen index = none) := hid (right_bad hHK.out hHU.out (by omega))
      go_enter Try.func117, Try.ntmps117
      go_wp2_with fail
      go_quiet (fail)
      go_wp2
      go_ret2
      exact ⟨by unfold RightRet; rw [HBAD.out]; rfl, below_drewN (Below.refl _ _) _⟩
    have HGOOD := hid (right_good (gen := gen) (index := index) hHK.out hHU.out (by omega))
    have HLL : Hid ((logSec gen index 2 ((b.drop 14).take U)).length = 64) := hid (logSec_len (by simp; omega))
    have HPL : Hid (((b.drop 14).take U).length = U) := hid (by simp [HB64.out]; omega)
    go_enter Try.func117, Try.ntmps117
    go_wp2_with fail
    go_quiet (fail)
    go_wp2_with fail
    refine (lmade_any gen index 2 (some ⟨g, o + 14, none⟩) U (cap - 14) ((b.drop 14).take U) (by simp [HB64.out]; omega) (by omega) hg hi (by omega) (w.drewN nq) (.inr (.inr ⟨g, o + 14, rfl, HPR.out⟩))).mono ?_
    rintro e w2 ⟨rfl, hb2⟩
    have HB2 : Hid (Below w.heap.size w w2) := hid ((below_drewN (Below.refl _ _) _).trans hb2)
    clear hb2
    go_wp2_with (refine wpl_store_new rfl 145 (.tmp 13) (.tmp 46) rfl _ _ (bv (logSec gen index 2 ((b.drop 14).take U))) rfl rfl (by rw [bv_length, HLL.out]; exact logsec_info) (by rw [bv_length, HLL.out]; kernel_rfl) (bv_one _) ?_; intro w3 h3 hb3; have H3 := hid h3; have HB3 := hid (th HB2.out hb3); clear h3 hb3)
    refine (equal_any (some ⟨w2.heap.size, 0, none⟩) (some ⟨g, o, none⟩) 64 64 64 cap (logSec gen index 2 ((b.drop 14).take U)) b HLL.out.symm HB64.out.symm (by omega) (by omega) _ (.inr (.inr ⟨w2.heap.size, 0, rfl, H3.out.range fun j v hv => by rw [Nat.zero_add]; exact hv⟩)) (.inr (.inr ⟨g, o, rfl, (Keep.ofBelow (F := fun _ => False) HB3.out).range HR.out id⟩))).mono ?_
    rintro e w4 ⟨rfl, hb4⟩
    have HB4 := hid (th HB3.out hb4)
    clear hb4
    rcases HGOOD.out with ⟨hs, hr⟩ | ⟨hs, hr⟩
    all_goals
      have HR2 := hid hr
      rw [hs]
      clear hs hr
      go_wp2
      go_ret2
      exact ⟨by unfold RightRet; rw [HR2.out]; first | rfl | (show _ = Ending.returned (.tuple #[.int .i64 ((2 : Nat) : Int), .slice (some ⟨g, o + 14, none⟩) ((b.drop 14).take U).length (cap - 14)]); rw [HPL.out]; rfl), HB4.out⟩
  have e2 : ((K : Int) == 2) = false := by rw [beq_eq_false_iff_ne]; omega
  by_cases k3 : K = 3
  · subst k3
    clear k2 e2
    by_cases hul : U < 49
    · have HBAD : Hid (rightOf b gen index = none) := hid (right_bad hHK.out hHU.out (by omega))
      go_enter Try.func117, Try.ntmps117
      go_wp2_with fail
      go_quiet (fail)
      go_wp2
      go_ret2
      exact ⟨by unfold RightRet; rw [HBAD.out]; rfl, below_drewN (Below.refl _ _) _⟩
    by_cases hum : 49 < U
    · have HBAD : Hid (rightOf b gen index = none) := hid (right_bad hHK.out hHU.out (by omega))
      go_enter Try.func117, Try.ntmps117
      go_wp2_with fail
      go_quiet (fail)
      go_wp2
      go_ret2
      exact ⟨by unfold RightRet; rw [HBAD.out]; rfl, below_drewN (Below.refl _ _) _⟩
    have HGOOD := hid (right_good (gen := gen) (index := index) hHK.out hHU.out (by omega))
    have HLL : Hid ((logSec gen index 3 ((b.drop 14).take U)).length = 64) := hid (logSec_len (by simp; omega))
    have HPL : Hid (((b.drop 14).take U).length = U) := hid (by simp [HB64.out]; omega)
    go_enter Try.func117, Try.ntmps117
    go_wp2_with fail
    go_quiet (fail)
    go_wp2_with fail
    refine (lmade_any gen index 3 (some ⟨g, o + 14, none⟩) U (cap - 14) ((b.drop 14).take U) (by simp [HB64.out]; omega) (by omega) hg hi (by omega) (w.drewN nq) (.inr (.inr ⟨g, o + 14, rfl, HPR.out⟩))).mono ?_
    rintro e w2 ⟨rfl, hb2⟩
    have HB2 : Hid (Below w.heap.size w w2) := hid ((below_drewN (Below.refl _ _) _).trans hb2)
    clear hb2
    go_wp2_with (refine wpl_store_new rfl 145 (.tmp 13) (.tmp 46) rfl _ _ (bv (logSec gen index 3 ((b.drop 14).take U))) rfl rfl (by rw [bv_length, HLL.out]; exact logsec_info) (by rw [bv_length, HLL.out]; kernel_rfl) (bv_one _) ?_; intro w3 h3 hb3; have H3 := hid h3; have HB3 := hid (th HB2.out hb3); clear h3 hb3)
    refine (equal_any (some ⟨w2.heap.size, 0, none⟩) (some ⟨g, o, none⟩) 64 64 64 cap (logSec gen index 3 ((b.drop 14).take U)) b HLL.out.symm HB64.out.symm (by omega) (by omega) _ (.inr (.inr ⟨w2.heap.size, 0, rfl, H3.out.range fun j v hv => by rw [Nat.zero_add]; exact hv⟩)) (.inr (.inr ⟨g, o, rfl, (Keep.ofBelow (F := fun _ => False) HB3.out).range HR.out id⟩))).mono ?_
    rintro e w4 ⟨rfl, hb4⟩
    have HB4 := hid (th HB3.out hb4)
    clear hb4
    rcases HGOOD.out with ⟨hs, hr⟩ | ⟨hs, hr⟩
    all_goals
      have HR2 := hid hr
      rw [hs]
      clear hs hr
      go_wp2
      go_ret2
      exact ⟨by unfold RightRet; rw [HR2.out]; first | rfl | (show _ = Ending.returned (.tuple #[.int .i64 ((3 : Nat) : Int), .slice (some ⟨g, o + 14, none⟩) ((b.drop 14).take U).length (cap - 14)]); rw [HPL.out]; rfl), HB4.out⟩
  have e3 : ((K : Int) == 3) = false := by rw [beq_eq_false_iff_ne]; omega
  by_cases k4 : K = 4
  · subst k4
    clear k2 e2 k3 e3
    by_cases hul : U < 1
    · have HBAD : Hid (rightOf b gen index = none) := hid (right_bad hHK.out hHU.out (by omega))
      go_enter Try.func117, Try.ntmps117
      go_wp2_with fail
      go_quiet (fail)
      go_wp2
      go_ret2
      exact ⟨by unfold RightRet; rw [HBAD.out]; rfl, below_drewN (Below.refl _ _) _⟩
    by_cases hum : 49 < U
    · have HBAD : Hid (rightOf b gen index = none) := hid (right_bad hHK.out hHU.out (by omega))
      go_enter Try.func117, Try.ntmps117
      go_wp2_with fail
      go_quiet (fail)
      go_wp2
      go_ret2
      exact ⟨by unfold RightRet; rw [HBAD.out]; rfl, below_drewN (Below.refl _ _) _⟩
    have HGOOD := hid (right_good (gen := gen) (index := index) hHK.out hHU.out (by omega))
    have HLL : Hid ((logSec gen index 4 ((b.drop 14).take U)).length = 64) := hid (logSec_len (by simp; omega))
    have HPL : Hid (((b.drop 14).take U).length = U) := hid (by simp [HB64.out]; omega)
    go_enter Try.func117, Try.ntmps117
    go_wp2_with fail
    go_quiet (fail)
    go_wp2_with fail
    refine (lmade_any gen index 4 (some ⟨g, o + 14, none⟩) U (cap - 14) ((b.drop 14).take U) (by simp [HB64.out]; omega) (by omega) hg hi (by omega) (w.drewN nq) (.inr (.inr ⟨g, o + 14, rfl, HPR.out⟩))).mono ?_
    rintro e w2 ⟨rfl, hb2⟩
    have HB2 : Hid (Below w.heap.size w w2) := hid ((below_drewN (Below.refl _ _) _).trans hb2)
    clear hb2
    go_wp2_with (refine wpl_store_new rfl 145 (.tmp 13) (.tmp 46) rfl _ _ (bv (logSec gen index 4 ((b.drop 14).take U))) rfl rfl (by rw [bv_length, HLL.out]; exact logsec_info) (by rw [bv_length, HLL.out]; kernel_rfl) (bv_one _) ?_; intro w3 h3 hb3; have H3 := hid h3; have HB3 := hid (th HB2.out hb3); clear h3 hb3)
    refine (equal_any (some ⟨w2.heap.size, 0, none⟩) (some ⟨g, o, none⟩) 64 64 64 cap (logSec gen index 4 ((b.drop 14).take U)) b HLL.out.symm HB64.out.symm (by omega) (by omega) _ (.inr (.inr ⟨w2.heap.size, 0, rfl, H3.out.range fun j v hv => by rw [Nat.zero_add]; exact hv⟩)) (.inr (.inr ⟨g, o, rfl, (Keep.ofBelow (F := fun _ => False) HB3.out).range HR.out id⟩))).mono ?_
    rintro e w4 ⟨rfl, hb4⟩
    have HB4 := hid (th HB3.out hb4)
    clear hb4
    rcases HGOOD.out with ⟨hs, hr⟩ | ⟨hs, hr⟩
    all_goals
      have HR2 := hid hr
      rw [hs]
      clear hs hr
      go_wp2
      go_ret2
      exact ⟨by unfold RightRet; rw [HR2.out]; first | rfl | (show _ = Ending.returned (.tuple #[.int .i64 ((4 : Nat) : Int), .slice (some ⟨g, o + 14, none⟩) ((b.drop 14).take U).length (cap - 14)]); rw [HPL.out]; rfl), HB4.out⟩
  have e4 : ((K : Int) == 4) = false := by rw [beq_eq_false_iff_ne]; omega
  by_cases k1 : K = 1
  · subst k1
    clear k2 e2 k3 e3 k4 e4
    by_cases hum : 49 < U
    · have HBAD : Hid (rightOf b gen index = none) := hid (right_bad hHK.out hHU.out (by omega))
      go_enter Try.func117, Try.ntmps117
      go_wp2_with fail
      go_quiet (fail)
      go_wp2
      go_ret2
      exact ⟨by unfold RightRet; rw [HBAD.out]; rfl, below_drewN (Below.refl _ _) _⟩
    have HGOOD := hid (right_good (gen := gen) (index := index) hHK.out hHU.out (by omega))
    have HLL : Hid ((logSec gen index 1 ((b.drop 14).take U)).length = 64) := hid (logSec_len (by simp; omega))
    have HPL : Hid (((b.drop 14).take U).length = U) := hid (by simp [HB64.out]; omega)
    go_enter Try.func117, Try.ntmps117
    go_wp2_with fail
    go_quiet (fail)
    go_wp2_with fail
    refine (lmade_any gen index 1 (some ⟨g, o + 14, none⟩) U (cap - 14) ((b.drop 14).take U) (by simp [HB64.out]; omega) (by omega) hg hi (by omega) (w.drewN nq) (.inr (.inr ⟨g, o + 14, rfl, HPR.out⟩))).mono ?_
    rintro e w2 ⟨rfl, hb2⟩
    have HB2 : Hid (Below w.heap.size w w2) := hid ((below_drewN (Below.refl _ _) _).trans hb2)
    clear hb2
    go_wp2_with (refine wpl_store_new rfl 145 (.tmp 13) (.tmp 46) rfl _ _ (bv (logSec gen index 1 ((b.drop 14).take U))) rfl rfl (by rw [bv_length, HLL.out]; exact logsec_info) (by rw [bv_length, HLL.out]; kernel_rfl) (bv_one _) ?_; intro w3 h3 hb3; have H3 := hid h3; have HB3 := hid (th HB2.out hb3); clear h3 hb3)
    refine (equal_any (some ⟨w2.heap.size, 0, none⟩) (some ⟨g, o, none⟩) 64 64 64 cap (logSec gen index 1 ((b.drop 14).take U)) b HLL.out.symm HB64.out.symm (by omega) (by omega) _ (.inr (.inr ⟨w2.heap.size, 0, rfl, H3.out.range fun j v hv => by rw [Nat.zero_add]; exact hv⟩)) (.inr (.inr ⟨g, o, rfl, (Keep.ofBelow (F := fun _ => False) HB3.out).range HR.out id⟩))).mono ?_
    rintro e w4 ⟨rfl, hb4⟩
    have HB4 := hid (th HB3.out hb4)
    clear hb4
    rcases HGOOD.out with ⟨hs, hr⟩ | ⟨hs, hr⟩
    all_goals
      have HR2 := hid hr
      rw [hs]
      clear hs hr
      go_wp2
      go_ret2
      exact ⟨by unfold RightRet; rw [HR2.out]; first | rfl | (show _ = Ending.returned (.tuple #[.int .i64 ((1 : Nat) : Int), .slice (some ⟨g, o + 14, none⟩) ((b.drop 14).take U).length (cap - 14)]); rw [HPL.out]; rfl), HB4.out⟩
  have e1 : ((K : Int) == 1) = false := by rw [beq_eq_false_iff_ne]; omega
  have HBAD : Hid (rightOf b gen index = none) := hid (right_bad hHK.out hHU.out (by omega))
  clear k1 k2 k3 k4
  go_enter Try.func117, Try.ntmps117
  go_wp2_with fail
  go_quiet (fail)
  go_wp2
  go_ret2
  exact ⟨by unfold RightRet; rw [HBAD.out]; rfl, below_drewN (Below.refl _ _) _⟩
end Go.Proofs.Ytlondopgibcikaa
namespace Go.Proofs.Ytlondopgibcikaa
open Go.RowKit Go.Shelf Ent

attribute [local go_sem] Oper.semAt_some

/-- the pieces of so many: where they begin and how long they are, k of them -/
def pieces (n k : Nat) : List (Nat × Nat) := (List.range k).map fun j => (49 * j, min 49 (n - 49 * j))
theorem pieces_succ (n k : Nat) : pieces n (k + 1) = pieces n k ++ [(49 * k, min 49 (n - 49 * k))] := by simp [pieces, List.range_succ]
theorem pieces_len (n k : Nat) : (pieces n k).length = k := by simp [pieces]
def encP (b o : Nat) (x : Nat × Nat) : Array Value := #[.slice (some ⟨b, o + x.1, none⟩) x.2 x.2]
set_option maxRecDepth 100000 in
set_option maxHeartbeats 2000000 in
theorem chunk1_in (F : Fence) (m : Nat) (h7 : F.fn 160) (hro : F.round = none) (hm : 1 ≤ m) (l Bs Bn b o n c q : Nat) (hn : n ≤ 1073741824) (hc : n ≤ c) (hq : q = (n + 48) / 49) (Kp : World → World → Prop) (hKc : ∀ W W', Kp W W' → W'.cell? ⟨Bs, 0, none⟩ = W.cell? ⟨Bs, 0, none⟩ ∧ W'.cell? ⟨Bn, 0, none⟩ = W.cell? ⟨Bn, 0, none⟩)
    (J Jx : List (Nat × Nat) → World → Prop) (hJd : ∀ pre W, J pre W → J pre W.drew)
    (hY : ∀ pre x W, J pre W → pre.length < q → YieldAt F (m - 1) Try.prog l (encP b o x) W fun e W' =>
      (e = .returned (.bool true) ∧ J (pre ++ [x]) W' ∧ Kp W W') ∨ (e = .returned (.bool false) ∧ Jx (pre ++ [x]) W'))
    (W : World) (hBs : W.cell? ⟨Bs, 0, none⟩ = some (.slice (some ⟨b, o, none⟩) n c)) (hBn : W.cell? ⟨Bn, 0, none⟩ = some (.int .i64 49)) (h0 : J [] W) :
    CallsIn F m Try.prog 160 #[.func (.yield l) #[] #[], .pointer (some ⟨Bs, 0, none⟩), .pointer (some ⟨Bn, 0, none⟩)] W fun e W' => (∃ v, e = .returned v) ∧
      ((∃ ys, ys = pieces n q ∧ J ys W') ∨ (∃ pre, True ∧ Jx pre W')) := by
  refine callsIn_of_wp Try.func160 rfl h7 ?_ hro
  simp only [Try.ntmps160, List.size_toArray, List.length_cons, List.length_nil, Nat.reduceAdd, Nat.reduceSub, Array.replicate_succ, Array.replicate_zero, List.push_toArray, List.append_toArray, List.nil_append, List.cons_append]
  gi_wp2
  gi_loopw [4] (fun i wr => ∃ (k i' : Nat), k ≤ q ∧ i' = 49 * k ∧ i = .int .i64 i' ∧ J (pieces n k) wr ∧ wr.cell? ⟨Bs, 0, none⟩ = some (.slice (some ⟨b, o, none⟩) n c) ∧ wr.cell? ⟨Bn, 0, none⟩ = some (.int .i64 49))
    (fun i _ => 49 * q - (intOf i).toNat)
  case atStart => exact ⟨0, 0, Nat.zero_le _, rfl, rfl, h0, hBs, hBn⟩
  case round =>
    obtain ⟨k, i', hk, hi, rfl, hJs, hs1, hn1⟩ := hrel
    have HI := hid hi
    clear hi
    by_cases hlt : i' < n
    · have hkq : k < q := by have := HI.out; omega
      have hle : i' ≤ n := by omega
      obtain ⟨e, he⟩ : ∃ e, e = min 49 (n - i') := ⟨_, rfl⟩
      have HE := hid he
      have hmin : min 49 ((n - i' : Nat) : Int) = (e : Int) := by omega
      have he1 : 1 ≤ e := by omega
      have he2 : i' + e ≤ n := by omega
      clear he
      obtain ⟨fn, tmps, assign, body, hy, hR⟩ := hY _ (i', e) wr.drew (hJd _ _ hJs) (by rw [pieces_len]; exact hkq)
      dsimp only [encP] at hy
      gi_wp2
      gi_region
      all_goals
        gi_wp2
        refine hR.mono ?_
        rintro ee W3 (⟨rfl, hJ3, hk3⟩ | ⟨rfl, hJx3⟩)
        · have hc3 := hKc _ _ hk3
          have hs3 : W3.cell? ⟨Bs, 0, none⟩ = some (.slice (some ⟨b, o, none⟩) n c) := hc3.1.trans hs1
          have hn3 : W3.cell? ⟨Bn, 0, none⟩ = some (.int .i64 49) := hc3.2.trans hn1
          have HJ3 := hid hJ3
          clear hJ3 hk3 hc3 hJs hR hy
          gi_wp2
          go_roundw
          case rel => exact ⟨k + 1, i' + 49, by omega, by have := HI.out; omega, by go_num, by rw [pieces_succ, ← HI.out, ← HE.out]; exact HJ3.out, hs3, hn3⟩
          case measure => have := HI.out; simp [intOf]; omega
        · gi_wp2
          refine bodyPost_ret (results_none rfl _ _ _) rfl ?_
          exact ⟨⟨_, rfl⟩, .inr ⟨_, trivial, hJx3⟩⟩
    · have hk9 : k = q := by have := HI.out; omega
      have HJ := hid hJs
      clear hJs
      gi_wp2
      go_end0
      exact ⟨⟨_, rfl⟩, .inl ⟨_, rfl, by rw [← hk9]; exact HJ.out⟩⟩
set_option maxRecDepth 100000 in
set_option maxHeartbeats 1000000 in
theorem chunk0_in (F : Fence) (m : Nat) (h7 : F.fn 160) (hro : F.round = none) (l Bs Bn c : Nat) (ao : Option Addr) (J : List (Nat × Nat) → World → Prop) (W : World) (hBs : W.cell? ⟨Bs, 0, none⟩ = some (.slice ao 0 c)) (h0 : J [] W) :
    CallsIn F m Try.prog 160 #[.func (.yield l) #[] #[], .pointer (some ⟨Bs, 0, none⟩), .pointer (some ⟨Bn, 0, none⟩)] W fun e W' => (∃ v, e = .returned v) ∧ J [] W' := by
  refine callsIn_of_wp Try.func160 rfl h7 ?_ hro
  simp only [Try.ntmps160, List.size_toArray, List.length_cons, List.length_nil, Nat.reduceAdd, Nat.reduceSub, Array.replicate_succ, Array.replicate_zero, List.push_toArray, List.append_toArray, List.nil_append, List.cons_append]
  gi_wp2
  gi_loopw [4] (fun i wr => i = .int .i64 0 ∧ J [] wr ∧ wr.cell? ⟨Bs, 0, none⟩ = some (.slice ao 0 c)) (fun _ _ => 0)
  case atStart => exact ⟨rfl, h0, hBs⟩
  case round =>
    obtain ⟨rfl, hJs, hs⟩ := hrel
    have HJ := hid hJs
    clear hJs
    gi_wp2
    go_end0
    exact ⟨⟨_, rfl⟩, HJ.out⟩
set_option maxHeartbeats 1000000 in
theorem chunk_in (F : Fence) (m : Nat) (h5 : F.fn 147) (hro : F.round = none) (ao : Option Addr) (n c : Nat) (w : World) :
    CallsIn F m Try.prog 147 #[.slice ao n c, .int .i64 49] w fun e w' => e = .returned (.func (.func 160) #[] #[.pointer (some ⟨w.heap.size, 0, none⟩), .pointer (some ⟨w.heap.size + 1, 0, none⟩)]) ∧ w' = (w.alloc (.cells #[.slice ao n c] 22)).alloc (.cells #[.int .i64 49] 3) := by
  refine callsIn_of_wp Try.func147 rfl h5 ?_ hro
  simp only [Try.ntmps147, List.size_toArray, List.length_cons, List.length_nil, Nat.reduceAdd, Nat.reduceSub, Array.replicate_succ, Array.replicate_zero, List.push_toArray, List.append_toArray, List.nil_append, List.cons_append]
  gi_wp2
  go_ret
  exact ⟨rfl, rfl⟩
/-- all but B0, below n0, is as it was -/
def KpA (B0 n0 : Nat) (W W' : World) : Prop := ∀ p : Addr, p.block < n0 → p.block ≠ B0 → W'.cell? p = W.cell? p
theorem kpA_t {B0 n0 : Nat} {A B C : World} (h : KpA B0 n0 A B) (k : KpA B0 n0 B C) : KpA B0 n0 A C := fun p h1 h2 => (k p h1 h2).trans (h p h1 h2)
theorem kpA_b {B0 n0 : Nat} {w : World} (hn : n0 ≤ w.heap.size) (W : World) (l : Nat) (o o' : Obj) (hl : w.heap.size ≤ l) (_ : W.heap[l]? = some o) (_ : o.isCells = false) (_ : o.isWalk = false) : KpA B0 n0 W (W.putObj l o') := fun p h1 _ =>
  World.cell?_of_block (World.putObj_heap_other (by omega))
theorem KpA.refl {B0 n0 : Nat} (W : World) : KpA B0 n0 W W := fun _ _ _ => rfl
def q49 (n : Nat) : Nat := (n + 48) / 49
theorem chunk_stops (F : Fence) (m : Nat) (h7 : F.fn 160) (hro : F.round = none) (hm : 1 ≤ m) (B0 Bs Bn b o n c : Nat) (ao : Option Addr) (hao : n = 0 ∨ ao = some ⟨b, o, none⟩) (hn : n ≤ 1073741824) (hc : n ≤ c) (w : World) (hs1 : Bs < w.heap.size) (hs2 : Bn < w.heap.size) (h01 : Bs ≠ B0) (h02 : Bn ≠ B0)
    (hBs : w.cell? ⟨Bs, 0, none⟩ = some (.slice ao n c)) (hBn : w.cell? ⟨Bn, 0, none⟩ = some (.int .i64 49)) :
    SeqStopsK F m Try.prog 160 #[.pointer (some ⟨Bs, 0, none⟩), .pointer (some ⟨Bn, 0, none⟩)] (encP b o) (KpA B0 w.heap.size) (fun ys => ys = pieces n (q49 n)) (fun _ => True) (q49 n) w := fun l J Jx W hW hJ _ hY h0 => by
  have hBs' := (hW.cell (p := ⟨Bs, 0, none⟩) hs1).trans hBs
  have hBn' := (hW.cell (p := ⟨Bn, 0, none⟩) hs2).trans hBn
  by_cases hz : n = 0
  · subst hz
    refine (chunk0_in F m h7 hro l Bs Bn c ao J W hBs' h0).mono ?_
    rintro e W' ⟨he, hj⟩
    exact ⟨he, .inl ⟨[], rfl, hj⟩⟩
  · obtain rfl := hao.resolve_left hz
    refine (chunk1_in F m h7 hro hm l Bs Bn b o n c (q49 n) hn hc rfl (KpA B0 w.heap.size) (fun W1 W2 h => ⟨h ⟨Bs, 0, none⟩ hs1 h01, h ⟨Bn, 0, none⟩ hs2 h02⟩) J Jx (fun pre W1 h => hJ pre W1 W1.drew none h ⟨rfl, rfl, rfl, Nat.le_refl _, fun _ _ _ => rfl⟩ (fun r e => by cases e)) hY W hBs' hBn' h0).mono ?_
    rintro e W' ⟨he, h⟩
    exact ⟨he, h⟩
end Go.Proofs.Ytlondopgibcikaa
namespace Go.Proofs.Ytlondopgibcikaa
open Go.RowKit Go.Shelf Ent

attribute [local go_sem] Oper.semAt_some

theorem owns_mono {w : World} {base base' : Nat} {e : TypeId} {s : Nat} {v : Value} {n : Nat} {xs : List Value} (h : w.ownsRow base e s v n xs) (hb : base' ≤ base) : w.ownsRow base' e s v n xs :=
  ⟨h.1, h.2.imp id fun ⟨g, c, cur, h1, h2, h3⟩ => ⟨g, c, cur, h1, Nat.le_trans hb h2, h3⟩⟩
theorem results_cell1 {P : Program} {fn : Func} {p : Tmp} {ty e : TypeId} (h : fn.results = #[.cell p ty]) (tmps : Array Value) (w : World) (g : Nat) (v : Value) (hp : tmps.getD p undef = .pointer (some ⟨g, 0, none⟩)) (hu : P.underlying ty = some (.slice e)) (hc : w.cell? ⟨g, 0, none⟩ = some v) :
    (results fn tmps).run P w = .ok v w := by
  have hp' : tmps[p]?.getD undef = .pointer (some ⟨g, 0, none⟩) := by simpa using hp
  have ha : (isAgg ty).run P w = .ok false w := by simp [isAgg, run_underlying hu]
  simp [results, h, hp', asAddr, loadVar, ha, go_sem]
  rw [hc]
def encV (b o : Nat) (x : Nat × Nat) : Value := .slice (some ⟨b, o + x.1, none⟩) x.2 x.2
set_option maxRecDepth 100000 in
set_option maxHeartbeats 2000000 in
theorem parts_in (F : Fence) (m : Nat) (h3 : F.fn 114) (h4 : F.fn 147) (h5 : F.fn 160) (hro : F.round = none) (hm : 3 ≤ m) (b o n c : Nat) (ao : Option Addr) (hao : n = 0 ∨ ao = some ⟨b, o, none⟩) (hn : n ≤ 1073741824) (hc : n ≤ c) (w : World) :
    CallsIn F m Try.prog 114 #[.slice ao n c] w fun e W' => ∃ v, e = .returned v ∧ W'.ownsRow w.heap.size 22 1 v (needOf n) (if n = 0 then [.slice none 0 0] else (pieces n (q49 n)).map (encV b o)) ∧ Below w.heap.size w W' := by
  have h1 : 1 ≤ m := by omega
  obtain ⟨i0, hi, hz0, hz1, hz2⟩ := rowL.inf
  refine callsIn_of_wp_marks Try.func114 rfl h3 ?_ hro
  simp only [Try.ntmps114, List.size_toArray, List.length_cons, List.length_nil, Nat.reduceAdd, Nat.reduceSub, Array.replicate_succ, Array.replicate_zero, List.push_toArray, List.append_toArray, List.nil_append, List.cons_append]
  gi_wp2_with (gi_at_call 147; refine (chunk_in F (m - 1) h4 hro ao n c _).mono ?_; rintro e w' ⟨rfl, rfl⟩)
  have bO := Boxed.new w 79 (.slice none 0 0)
  have bO2 := (bO.alloc (.cells #[.slice ao n c] 22)).alloc (.cells #[.int .i64 49] 3)
  have bS := (Boxed.new (w.alloc (.cells #[.slice none 0 0] 79)) 22 (.slice ao n c)).alloc (.cells #[.int .i64 49] 3)
  have bN := Boxed.new ((w.alloc (.cells #[.slice none 0 0] 79)).alloc (.cells #[.slice ao n c] 22)) 3 (.int .i64 49)
  rw [World.size_alloc] at bS
  rw [World.size_alloc, World.size_alloc] at bN
  have hB0 : Below w.heap.size w (((w.alloc (.cells #[.slice none 0 0] 79)).alloc (.cells #[.slice ao n c] 22)).alloc (.cells #[.int .i64 49] 3)) := (((Below.refl _ w).alloc (Nat.le_refl _) _).alloc (by simp) _).alloc (by simp; omega) _
  have hsz0 : (((w.alloc (.cells #[.slice none 0 0] 79)).alloc (.cells #[.slice ao n c] 22)).alloc (.cells #[.int .i64 49] 3)).heap.size = w.heap.size + 3 := by simp
  obtain ⟨w0, hw0⟩ : ∃ w0, ((w.alloc (.cells #[.slice none 0 0] 79)).alloc (.cells #[.slice ao n c] 22)).alloc (.cells #[.int .i64 49] 3) = w0 := ⟨_, rfl⟩
  rw [hw0] at bO2 bS bN hB0 hsz0 ⊢
  clear hw0 bO
  refine wpIn_rangeFunc_ownG hro h1 (gf := 160) (lb := #[.pointer (some ⟨w.heap.size + 1, 0, none⟩), .pointer (some ⟨w.heap.size + 1 + 1, 0, none⟩)]) rfl h5 (enters_of Try.func160 (by kernel_rfl) rfl)
    (chunk_stops F (m - 1) h5 hro (by omega) w.heap.size (w.heap.size + 1) (w.heap.size + 1 + 1) b o n c ao hao hn hc w0 (by omega) (by omega) (by omega) (by omega) bS.cell bN.cell) kpA_t (kpA_b (Nat.le_refl _)) (Below.refl _ _) (fun _ => rfl)
    (fun pre W => ((∃ v, Boxed W w.heap.size 79 v ∧ W.ownsRow w0.heap.size 22 1 v pre.length (pre.map (encV b o)) ∧ (v = .slice none 0 0 ↔ pre = [])) ∧ Below w.heap.size w W) ∧ w0.heap.size ≤ W.heap.size)
    (fun _ _ _ => False)
    (OwnFrom.and (OwnFrom.and (Own.from (holdsRow_own w0.heap.size w.heap.size 79 22 1 (fun pre => pre.length) (fun pre => pre.map (encV b o)) (fun pre v => v = .slice none 0 0 ↔ pre = [])) _) (ownFrom_below (Nat.le_refl _) (by omega))) (fun s A B row h hg _ => Nat.le_trans h hg.size))
    (fun _ _ _ _ _ hs _ _ => hs)
    ⟨⟨⟨_, bO2, World.ownsRow_nil _ _ _ _, by simp⟩, hB0⟩, Nat.le_refl _⟩
    (fun x => { tmps := #[.slice ao n c, undef, .pointer (some ⟨w.heap.size, 0, none⟩), .slice (some ⟨b, o + x.1, none⟩) x.2 x.2, .slice ao n c, .func (.func 160) #[] #[.pointer (some ⟨w.heap.size + 1, 0, none⟩), .pointer (some ⟨w.heap.size + 1 + 1, 0, none⟩)], .slice (some ⟨b, o + x.1, none⟩) x.2 x.2, undef, undef, undef, undef, undef, undef, undef, undef], defers := [] }) ?assign ?body ?done ?stop
  case assign =>
    intro l x W K hK
    dsimp only [encP]
    gi_wp2
    exact hK
  case body =>
    rintro l pre x W ⟨⟨⟨v, hv, hrow, hnil⟩, hB⟩, hsz⟩ hlt
    have hc := hv.cell
    have hq : q49 n ≤ 1073741824 := by unfold q49; omega
    have hrow1 := owns_mono hrow (show w.heap.size ≤ w0.heap.size by omega)
    gi_wp2_with (gi_at_builtin; refine wpListIn_append_own _ rfl _ _ 79 rfl w0.heap.size 22 i0 (.slice none 0 0) 1 24 Try.underlying79 hi hz0 hz1 hz2 rfl (by decide) _ _ _ rfl (hrow.alloc _) ⟨W.heap.size, 0, none⟩ 1 1 [.slice (some ⟨b, o + x.1, none⟩) x.2 x.2] rfl rfl (cell_one_new _ _ _) (by simp [Value.oneCell']) (by simp [maxLen]; omega) (by omega) (by simp; omega) ?_; intro v' w1 hown' hgrow _; obtain ⟨g', cap', rfl⟩ := ownsRow_succ hown'; obtain ⟨hv1, hv2, hr2, hk2, hb2⟩ := hv.appended (by decide) hrow1 hB.size (Nat.le_refl _) (owns_mono hown' (show w.heap.size ≤ w0.heap.size by omega)) hgrow; have hc1 := hv1.cell; have hf1 := hv1.frozen)
    have hr3 : (w1.setCell ⟨w.heap.size, 0, none⟩ (.slice (some ⟨g', 0, none⟩) (pre.length + 1) cap')).ownsRow w0.heap.size 22 1 (.slice (some ⟨g', 0, none⟩) (pre.length + 1) cap') (pre.length + 1) (pre.map (encV b o) ++ [.slice (some ⟨b, o + x.1, none⟩) x.2 x.2]) :=
      hown'.kept (grownBy_setCell' w1 w.heap.size _) (.inr (hv1.not_row (by decide) hown').symm)
    have hkp : KpA w.heap.size w0.heap.size W (w1.setCell ⟨w.heap.size, 0, none⟩ (.slice (some ⟨g', 0, none⟩) (pre.length + 1) cap')) := fun p h1 h2 => by
      rw [World.cell?_setCell_other _ _ _ _ (fun e => h2 (by rw [← e]))]
      have hbl : p.block < (W.alloc (.cells #[.slice (some ⟨b, o + x.1, none⟩) x.2 x.2] 22)).heap.size := by simp; omega
      rw [World.cell?_of_block (hgrow.block p.block hbl (fun e => by have := owns_ge hrow _ e.symm; omega))]
      exact World.cell?_alloc_lt W _ p (by omega)
    refine ⟨hk2.from _, hkp, ⟨⟨_, hv2, ?_, by simp⟩, hB.trans hb2⟩, by have := hgrow.size; simp at this ⊢; omega⟩
    rw [List.length_append, List.map_append]; exact hr3
  case done =>
    rintro D ys W hD rfl ⟨⟨⟨v, hv, hrow, hnil⟩, hB⟩, hsz⟩ hK
    have hc := hv.cell
    have hf := hv.frozen
    rw [pieces_len] at hrow
    have HROW := hid hrow; have HNIL := hid hnil; have HB := hid hB; have HV := hid hv; have HS0 := hid (show w.heap.size + 3 ≤ w0.heap.size by omega); have HD := hid hD
    clear hD hB hB0 hsz0 hsz bO2 bS bN hi hz0 hz1 hz2 hnil hv h1 h3 h4 h5 hrow
    by_cases hz : n = 0
    · subst hz
      have hv0 : v = .slice none 0 0 := HNIL.out.2 rfl
      subst hv0
      clear HNIL hao
      have hel := fun W : World => Lib.run_eql_slice_nil (P := Try.prog) W 79 22 none 0 0 0 0 Try.underlying79
      have hc1 := alc hc
      have B3 := hid ((HV.out.set (.slice (some ⟨W.heap.size, 0, none⟩) 1 1)).alloc (.cells #[.slice none 0 0] 22))
      have HWS := hid (lt_blk hK)
      have hBW := HV.out.lt
      have HK := hid hK
      gi_wp2
      have hK3 : ((W.setCell ⟨w.heap.size, 0, none⟩ (.slice (some ⟨W.heap.size, 0, none⟩) 1 1)).alloc (.cells #[.slice none 0 0] 22)).heap[D]? = some (.deferred (some [])) :=
        alloc_old (set_other HK.out _ (by show D ≠ w.heap.size; have := HS0.out; have := HD.out; omega)) _
      have hnew := alloc_new (W.setCell ⟨w.heap.size, 0, none⟩ (.slice (some ⟨W.heap.size, 0, none⟩) 1 1)) (.cells #[.slice none 0 0] 22)
      rw [show (W.setCell ⟨w.heap.size, 0, none⟩ (.slice (some ⟨W.heap.size, 0, none⟩) 1 1)).heap.size = W.heap.size by simp] at hnew
      refine ⟨by simp, .inl ⟨_, _, rfl, run_takeDeferred hK3, ?_⟩⟩
      refine ⟨_, results_cell1 rfl _ _ w.heap.size _ rfl Try.underlying79 ((World.cell?_of_block (World.putObj_heap_other (show w.heap.size ≠ D by have := HS0.out; have := HD.out; omega))).trans B3.out.cell), _, rfl, ⟨rfl, .inr ⟨W.heap.size, 1, #[.slice none 0 0], rfl, HB.out.size, ?_, by simp [needOf], by simp [maxLen], rfl, rfl⟩⟩, ?_⟩
      · rw [World.putObj_heap_other (show W.heap.size ≠ D by have := HWS.out; omega)]
        exact hnew
      · exact ((HB.out.setCell (p := ⟨w.heap.size, 0, none⟩) (Nat.le_refl _) _).alloc (by simp; exact HB.out.size) _).trans (belowK_b (w := w) (Nat.le_refl _) _ D _ _ (by have := HS0.out; have := HD.out; omega) hK3 rfl rfl)
    · obtain ⟨j, hj⟩ : ∃ j, q49 n = j + 1 := ⟨q49 n - 1, by unfold q49; omega⟩
      have HNE : Hid (needOf n = q49 n) := hid (by unfold needOf; rw [if_neg hz]; rfl)
      obtain ⟨g, cap, rfl⟩ := ownsRow_succ (k := j) (by rw [← hj]; exact HROW.out)
      clear hj HNIL hao
      have hel := fun W : World => Lib.run_eql_slice_nil (P := Try.prog) W 79 22 (some ⟨g, 0, none⟩) (j + 1) cap 0 0 Try.underlying79
      have B2 := hid (HV.out.set (.slice (some ⟨g, 0, none⟩) (j + 1) cap))
      have HK := hid hK
      gi_wp2
      have hK3 : (W.setCell ⟨w.heap.size, 0, none⟩ (.slice (some ⟨g, 0, none⟩) (j + 1) cap)).heap[D]? = some (.deferred (some [])) :=
        set_other HK.out _ (by show D ≠ w.heap.size; have := HS0.out; have := HD.out; omega)
      refine ⟨by simp, .inl ⟨_, _, rfl, run_takeDeferred hK3, ?_⟩⟩
      refine ⟨_, results_cell1 rfl _ _ w.heap.size _ rfl Try.underlying79 ((World.cell?_of_block (World.putObj_heap_other (show w.heap.size ≠ D by have := HS0.out; have := HD.out; omega))).trans B2.out.cell), _, rfl, ?_, ?_⟩
      · rw [HNE.out]
        refine ownsRow_putObj ?_ _ hK3 rfl
        exact (owns_mono HROW.out (show w.heap.size ≤ w0.heap.size by have := HS0.out; omega)).kept (grownBy_setCell' W w.heap.size _) (.inr (HV.out.not_row (by decide) HROW.out).symm)
      · exact (HB.out.setCell (p := ⟨w.heap.size, 0, none⟩) (Nat.le_refl _) _).trans (belowK_b (w := w) (Nat.le_refl _) _ D _ _ (by have := HS0.out; have := HD.out; omega) hK3 rfl rfl)
  case stop =>
    rintro D c pre W _ _ h _
    exact h.elim
end Go.Proofs.Ytlondopgibcikaa
