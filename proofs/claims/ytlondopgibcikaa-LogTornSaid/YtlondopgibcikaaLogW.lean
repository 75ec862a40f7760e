/- The walks of the log's small functions. -/
import Derived.Test.YtlondopgibcikaaRows
import Derived.Test.YtlondopgibcikaaHeap
import Derived.Test.YtlondopgibcikaaKit
import Derived.Test.YtlondopgibcikaaCrcV
import Derived.Test.YtlondopgibcikaaDev
import Derived.Test.YtlondopgibcikaaDevW
import Derived.Test.YtlondopgibcikaaDevV
import Derived.Test.YtlondopgibcikaaDevU
import Derived.Test.YtlondopgibcikaaDevC
import Derived.Test.YtlondopgibcikaaLaw05
import Derived.Test.YtlondopgibcikaaLL
import Derived.Test.YtlondopgibcikaaLogP
import Derived.WalkKit
import Derived.WalkSpells
import Derived.WalkLawsBesides
import Derived.Deep.RegionHeld3
import Derived.Laws.IdiomCopy
namespace Go.Proofs.Ytlondopgibcikaa
open Go.RowKit Ent

theorem Blk.putB {w : World} {g : Nat} {T : TypeId} {l : List UInt8} (h : Blk w g T (bv l)) (o : Nat) (s : List UInt8) (hs : o + s.length ≤ l.length) : Blk (w.setCells g o (bv s)) g T (bv (putAt l o s)) := by
  have := h.setCells (bv s) _ o (by rw [bv_length, bv_length]; exact hs)
  rw [bv_length] at this
  simpa [putAt, bv, List.map_take, List.map_drop] using this
theorem Blk.setB {w : World} {g : Nat} {T : TypeId} {l : List UInt8} (h : Blk w g T (bv l)) (i : Nat) (x : UInt8) : Blk (w.setCell ⟨g, i, none⟩ (.int .u8 (x.toNat : Int))) g T (bv (l.set i x)) := by
  have := h.set i (.int .u8 (x.toNat : Int))
  rwa [show (bv l).set i (.int .u8 (x.toNat : Int)) = bv (l.set i x) by simp [bv, List.map_set]] at this
/-- copy of bytes, whatever the lengths -/
theorem wpl_copyB {ops : Array Oper} {rest : List Oper} {o : Oper} {a : Act} {w : World} {Q : Exit → Act → World → Prop} (hgd : o.guard = none) (s x : Operand)
    (ho : o.op = .call { callee := .builtin .copy, args := #[s, x], argTypes := #[22, 22] })
    (gi oi dl dc : Nat) (T : TypeId) (cur : List UInt8) (ao : Option Addr) (sl sc : Nat) (l : List UInt8) (hs : a.eval s = .slice (some ⟨gi, oi, none⟩) dl dc) (hx : a.eval x = .slice ao sl sc) (hl : l.length = sl) (hle : sl ≤ dl) (hsb : SB w ao sc l) (hb : Blk w gi T (bv cur)) (hc : oi + sl ≤ cur.length)
    (h : ∀ w', Blk w' gi T (bv (putAt cur oi l)) → Keep (fun k => k = gi) w w' → wpList Try.prog ops Q rest (a.put o.dst (goInt sl)) w') : wpList Try.prog ops Q (o :: rest) a w := by
  obtain ⟨i, hi, _, hz, _⟩ := info_u8
  have hin : (Try.prog.info? 5).map (·.size) = some 1 := by rw [hi]; simp [hz]
  refine wpList_plain hgd fun _ hK => ?_
  unfold Oper.wp execOp
  subst hl
  have hth := hb.there (o := oi) (n := l.length) (by rw [bv_length]; exact hc)
  have key : (Builtin.copy_ #[22, 22] o.type #[.slice (some ⟨gi, oi, none⟩) dl dc, .slice ao l.length sc]).run Try.prog w = .ok (goInt (l.length : Nat)) (w.setCells gi oi (bv l)) := by
    by_cases h0 : l = []
    · subst h0
      have := run_copy_none (P := Try.prog) w 22 22 o.type 5 (some ⟨gi, oi, none⟩) ao dl dc 0 sc Try.underlying22 hin (by simp)
      simpa [bv, World.setCells] using this
    · rcases hsb with ⟨_, _, h1⟩ | ⟨_, _, h1⟩ | ⟨b, o', rfl, hr⟩
      · exact absurd h1 h0
      · exact absurd h1 h0
      · have := run_copy_cells (P := Try.prog) w 22 22 o.type 5 gi oi dl dc ⟨b, o', none⟩ l.length sc (bv l) Try.underlying22 hin (by rw [bv_length]; exact (Nat.min_eq_left hle).symm) (fun j v hv => by rw [Addr.add_mid]; exact hr j v hv) (fun j hj => (hth j (by simpa using hj)).1) (fun j hj => (hth j (by simpa using hj)).2) (bv_one l)
        rwa [bv_length] at this
  simp only [ho, resolve, invoke, builtin, Sem.run_bind, Sem.run_pure, Result.andThen_ok, List.map_toArray, List.map_cons, List.map_nil, hs, hx, key]
  exact hK _ _ (h _ (hb.putB oi l hc) (Keep.setCells (F := fun k => k = gi) rfl _ _ (Keep.refl _ w)))
theorem run_cut_log (t : Nat) (ht : t ≤ 60) (w : World) (b : Nat) : (Instr.sliceAt 145 (.pointer (some ⟨b, 0, none⟩)) (some (.int .i64 (t : Int))) none none).run Try.prog w = .ok (.slice (some ⟨b, t, none⟩) (64 - t) (64 - t)) w := by
  obtain ⟨i, hi, _, hz1, _⟩ := info_u8
  have h1 : (0 : Int) ≤ (t : Int) ∧ (t : Int) ≤ 64 := by omega
  have h2 : ¬ 64 = t := by omega
  simp [Instr.sliceAt, Instr.sliceBounds, Instr.sliceBound, Instr.sureAddr, asIntOf, run_underlying Try.underlying145, sizeOf, typeInfo, hi, hz1, h1, h2, Addr.add]
  rw [if_pos (by omega)]
  by_cases h0 : t = 0
  · subst h0; simp
  · simp [h0]
theorem be4_cells (n : Nat) (h : n < 4294967296) : (#[.int .u8 ((n : Int) / 16777216), .int .u8 ((n : Int) / 65536 % 256), .int .u8 ((n : Int) / 256 % 256), .int .u8 ((n : Int) % 256)] : Array Value) = (bv (be4 n)).toArray := by
  have q : ∀ m : Nat, ((UInt8.ofNat m).toNat : Int) = ((m % 256 : Nat) : Int) := fun m => by simp
  have b0 : ((UInt8.ofNat (n / 16777216)).toNat : Int) = (n : Int) / 16777216 := by rw [q]; omega
  have b1 : ((UInt8.ofNat (n / 65536)).toNat : Int) = (n : Int) / 65536 % 256 := by rw [q]; omega
  have b2 : ((UInt8.ofNat (n / 256)).toNat : Int) = (n : Int) / 256 % 256 := by rw [q]; omega
  have b3 : ((UInt8.ofNat n).toNat : Int) = (n : Int) % 256 := by rw [q]; omega
  show _ = #[Value.int .u8 ((UInt8.ofNat (n / 16777216)).toNat : Int), .int .u8 ((UInt8.ofNat (n / 65536)).toNat : Int), .int .u8 ((UInt8.ofNat (n / 256)).toNat : Int), .int .u8 ((UInt8.ofNat n).toNat : Int)]
  rw [b0, b1, b2, b3]
set_option maxRecDepth 100000 in
set_option maxHeartbeats 400000 in
theorem lay_any (g t n : Nat) (l : List UInt8) (ht : t ≤ 60) (hn : n < 4294967296) (hl : l.length = 64) (w : World) (h : Blk w g 145 (bv l)) :
    Calls Try.prog 148 #[.pointer (some ⟨g, 0, none⟩), .int .i64 t, .int .i64 n] w fun e w' => e = .returned (.tuple #[]) ∧ Blk w' g 145 (bv (putAt l t (be4 n))) ∧ Keep (fun k => k = g) w w' := by
  have hr := run_cut_log t ht
  have e := be4_cells n hn
  have HSB : Hid (SB (w.alloc (.cells #[.int .u8 ((n : Int) / 16777216), .int .u8 ((n : Int) / 65536 % 256), .int .u8 ((n : Int) / 256 % 256), .int .u8 ((n : Int) % 256)] 5)) (some ⟨w.heap.size, 0, none⟩) 4 (be4 n)) := hid (by rw [e]; exact SB.laid w (be4 n) 5 4)
  have H1 : Hid (Blk (w.alloc (.cells #[.int .u8 ((n : Int) / 16777216), .int .u8 ((n : Int) / 65536 % 256), .int .u8 ((n : Int) / 256 % 256), .int .u8 ((n : Int) % 256)] 5)) g 145 (bv l)) := hid (h.alloc _)
  have HL := hid hl
  have HB : Hid (Below w.heap.size w (w.alloc (.cells #[.int .u8 ((n : Int) / 16777216), .int .u8 ((n : Int) / 65536 % 256), .int .u8 ((n : Int) / 256 % 256), .int .u8 ((n : Int) % 256)] 5))) := hid (fresh_alloc w _)
  clear h hl e
  go_enter Try.func148, Try.ntmps148
  go_wp2_with (refine wpl_copyB rfl (.tmp 9) (.tmp 21) rfl g t (64 - t) (64 - t) 145 l (some ⟨w.heap.size, 0, none⟩) 4 4 (be4 n) rfl rfl rfl (by omega) HSB.out H1.out (by rw [HL.out]; omega) ?_; intro w2 h2 hk2; have H2 := hid h2; have HK2 := hid hk2; clear h2 hk2)
  go_end0
  exact ⟨rfl, H2.out, (Keep.ofBelow HB.out).trans HK2.out⟩
theorem logsec_info : (Try.prog.info? 145).map (·.size) = some 64 := by kernel_rfl
/-- a kind or a length as a byte -/
theorem byte_nat (n : Nat) : ((n : Int) % 256) = ((UInt8.ofNat n).toNat : Int) := by
  have q : ((UInt8.ofNat n).toNat : Int) = ((n % 256 : Nat) : Int) := by simp
  rw [q]; omega
def mk1 (gen : Nat) : List UInt8 := zr 4 ++ (be4 gen ++ zr 56)
def mk2 (gen index : Nat) : List UInt8 := zr 4 ++ (be4 gen ++ (be4 index ++ zr 52))
def mk3 (gen index kind : Nat) (part : List UInt8) : List UInt8 := zr 4 ++ (be4 gen ++ (be4 index ++ ([UInt8.ofNat kind, UInt8.ofNat part.length] ++ zr 50)))
def mk4 (gen index kind : Nat) (part : List UInt8) : List UInt8 := zr 4 ++ (be4 gen ++ (be4 index ++ ([UInt8.ofNat kind, UInt8.ofNat part.length] ++ (part ++ zr (50 - part.length)))))
def mk5 (gen index kind : Nat) (part : List UInt8) : List UInt8 := zr 4 ++ secBody gen index kind part
theorem mk1_of (gen : Nat) : putAt (zr 64) 4 (be4 gen) = mk1 gen := by
  rw [show (64 : Nat) = 4 + (4 + 56) from rfl, zr_add 4 (4 + 56), zr_add 4 56]
  exact putAt_mid (zr 4) (zr 4) (zr 56) (be4 gen) 4 rfl rfl
theorem mk2_of (gen index : Nat) : putAt (mk1 gen) 8 (be4 index) = mk2 gen index := by
  have := putAt_mid (zr 4 ++ be4 gen) (zr 4) (zr 52) (be4 index) 8 rfl rfl
  rw [← zr_add 4 52] at this
  simpa [mk1, mk2] using this
theorem mk3_of (gen index kind : Nat) (part : List UInt8) : ((mk2 gen index).set 12 (UInt8.ofNat kind)).set 13 (UInt8.ofNat part.length) = mk3 gen index kind part := rfl
theorem mk4_of (gen index kind : Nat) (part : List UInt8) (h : part.length ≤ 49) : putAt (mk3 gen index kind part) 14 part = mk4 gen index kind part := by
  have := putAt_mid (zr 4 ++ (be4 gen ++ (be4 index ++ [UInt8.ofNat kind, UInt8.ofNat part.length]))) (zr part.length) (zr (50 - part.length)) part 14 rfl (by simp)
  rw [← zr_add, show part.length + (50 - part.length) = 50 by omega] at this
  simpa [mk3, mk4] using this
theorem mk5_of (gen index kind : Nat) (part : List UInt8) (h : part.length ≤ 49) : (mk4 gen index kind part).set 63 165 = mk5 gen index kind part := by
  rw [putAt_one _ _ _ (by simp [mk4]; omega)]
  have := putAt_mid (zr 4 ++ (be4 gen ++ (be4 index ++ ([UInt8.ofNat kind, UInt8.ofNat part.length] ++ (part ++ zr (49 - part.length)))))) (zr 1) [] [165] 63 (by simp; omega) rfl
  have e : zr (50 - part.length) = zr (49 - part.length) ++ zr 1 := by rw [← zr_add]; congr 1; omega
  rw [List.append_nil] at this
  simpa [mk4, mk5, secBody, e] using this
theorem mk5_drop (gen index kind : Nat) (part : List UInt8) : (mk5 gen index kind part).drop 4 = secBody gen index kind part := by
  unfold mk5; rw [List.drop_append, zr_len]; simp [zr]
theorem mk6_of (gen index kind : Nat) (part : List UInt8) : putAt (mk5 gen index kind part) 0 (be4 (csum (secBody gen index kind part)).toNat) = logSec gen index kind part := by
  have := putAt_mid [] (zr 4) (secBody gen index kind part) (be4 (csum (secBody gen index kind part)).toNat) 0 rfl rfl
  simpa [mk5, logSec] using this
theorem blk_some {w : World} {g : Nat} {T : TypeId} {vs : List Value} (h : Blk w g T vs) {j : Nat} (hj : j < vs.length) : ∃ v, w.cell? ⟨g, j, none⟩ = some v := ⟨_, h.cell (List.getElem?_eq_getElem hj)⟩
theorem byte_small (n : Nat) (h : n ≤ 255) : (n : Int) = ((UInt8.ofNat n).toNat : Int) := by
  have q : ((UInt8.ofNat n).toNat : Int) = ((n % 256 : Nat) : Int) := by simp
  rw [q]; omega
set_option maxRecDepth 100000 in
set_option maxHeartbeats 1000000 in
theorem lmade_any (gen index kind : Nat) (ao : Option Addr) (n c : Nat) (part : List UInt8) (hn : n = part.length) (h49 : n ≤ 49) (hg : gen < 4294967296) (hi : index < 4294967296) (hk : kind ≤ 255) (w : World) (hp : SB w ao c part) :
    Calls Try.prog 115 #[.int .i64 gen, .int .i64 index, .int .i64 kind, .slice ao n c] w fun e w' => e = .returned (.agg (bv (logSec gen index kind part)).toArray) ∧ Below w.heap.size w w' := by
  have HN := hid hn
  clear hn
  have HP := hid hp
  clear hp
  have HKI := hid (byte_small kind hk)
  have HNI := hid (byte_small n (by omega))
  obtain ⟨g, hgg⟩ : ∃ g, g = w.heap.size := ⟨_, rfl⟩
  have HG := hid hgg
  clear hgg
  go_enter Try.func115, Try.ntmps115
  go_wp2_with fail
  generalize hw1 : w.alloc _ = w1
  have H1 : Hid (Blk w1 w.heap.size 145 (bv (zr 64))) := hid (by rw [← hw1]; exact alloc_new w _)
  have HB1 : Hid (Below w.heap.size w w1) := hid (by rw [← hw1]; exact fresh_alloc w _)
  clear hw1
  rw [← HG.out]
  rw [← HG.out] at H1
  refine (lay_any g 4 gen (zr 64) (by omega) hg (by simp) w1 H1.out).mono ?_
  rintro e w2 ⟨rfl, h2, hk2⟩
  rw [mk1_of] at h2
  have H2 := hid h2; have HK2 := hid hk2
  clear h2 hk2
  go_wp2_with fail
  refine (lay_any g 8 index (mk1 gen) (by omega) hi (by simp [mk1]) w2 H2.out).mono ?_
  rintro e w3 ⟨rfl, h3, hk3⟩
  rw [mk2_of] at h3
  have H3 := hid h3; have HK3 := hid (HK2.out.trans hk3)
  have HB3 : Hid (Below w.heap.size w w3) := hid (HB1.out.trans (HK3.out.belowB (by rw [← HG.out]; exact Nat.le_of_lt (lt_blk H1.out)) (fun k hk e => by rw [e, HG.out] at hk; omega)))
  have c12 : w3.cell? ⟨g, 12, none⟩ = some (.int .u8 0) := h3.cell (j := 12) rfl
  have f12 := h3.free 12
  have h4 := h3.setB 12 (UInt8.ofNat kind)
  rw [← HKI.out] at h4
  have c13 : (w3.setCell ⟨g, 12, none⟩ (.int .u8 (kind : Int))).cell? ⟨g, 13, none⟩ = some (.int .u8 0) := h4.cell (j := 13) rfl
  have f13 := h4.free 13
  have h5 := h4.setB 13 (UInt8.ofNat n)
  rw [← HNI.out] at h5
  have H5 : Hid (Blk ((w3.setCell ⟨g, 12, none⟩ (.int .u8 (kind : Int))).setCell ⟨g, 13, none⟩ (.int .u8 (n : Int))) g 145 (bv (mk3 gen index kind part))) := hid (by rw [HN.out, mk3_of] at h5; rw [← HN.out] at h5; exact h5)
  have HB5 : Hid (Below w.heap.size w ((w3.setCell ⟨g, 12, none⟩ (.int .u8 (kind : Int))).setCell ⟨g, 13, none⟩ (.int .u8 (n : Int)))) := hid ((HB3.out.setCell (p := ⟨g, 12, none⟩) (by rw [HG.out]; exact Nat.le_refl _) _).setCell (p := ⟨g, 13, none⟩) (by rw [HG.out]; exact Nat.le_refl _) _)
  clear h3 hk3 h4 h5
  go_wp2_with (refine wpl_copyB rfl (.tmp 20) (.tmp 21) rfl g 14 49 50 145 (mk3 gen index kind part) ao n c part rfl rfl HN.out.symm h49 (HP.out.below HB5.out) H5.out (by simp [mk3]; omega) ?_; intro w6 h6 hk6; have H6 := hid h6; have HB6 := hid (HB5.out.trans (hk6.belowB HB5.out.size (fun k hk e => by rw [e, HG.out] at hk; omega))); obtain ⟨v63, c63⟩ := blk_some h6 (j := 63) (by rw [bv_length, putAt_len _ _ _ (by simp [mk3]; rw [← HN.out]; omega)]; simp [mk3]); have f63 := h6.free 63; clear h6 hk6)
  have H7 : Hid (Blk (w6.setCell ⟨g, 63, none⟩ (.int .u8 165)) g 145 (bv (mk5 gen index kind part))) := hid (by
    have := H6.out.setB 63 165
    rw [mk4_of _ _ _ _ (by rw [← HN.out]; exact h49), mk5_of _ _ _ _ (by rw [← HN.out]; exact h49)] at this
    exact this)
  have HB7 : Hid (Below w.heap.size w (w6.setCell ⟨g, 63, none⟩ (.int .u8 165))) := hid (HB6.out.setCell (p := ⟨g, 63, none⟩) (by rw [HG.out]; exact Nat.le_refl _) _)
  generalize hw7 : w6.setCell ⟨g, 63, none⟩ (.int .u8 165) = w7 at *
  clear hw7
  refine (sum_any (some ⟨g, 4, none⟩) 60 60 (secBody gen index kind part) (secBody_len (by rw [← HN.out]; exact h49)).symm (by omega) w7 (.inr (.inr ⟨g, 4, rfl, H7.out.range fun j v hv => by
    rw [bv_get, show (mk5 gen index kind part)[4 + j]? = (secBody gen index kind part)[j]? by rw [← mk5_drop, List.getElem?_drop], ← bv_get]; exact hv⟩))).mono ?_
  rintro e w8 ⟨rfl, hb8⟩
  have H8 := hid (H7.out.below hb8 H7.out.lt)
  have HB8 := hid (th HB7.out hb8)
  clear hb8
  go_wp2_with fail
  refine (lay_any g 0 (csum (secBody gen index kind part)).toNat (mk5 gen index kind part) (by omega) (by have := (csum (secBody gen index kind part)).isLt; omega) (by rw [mk5, List.length_append, secBody_len (by rw [← HN.out]; exact h49)]; rfl) w8 H8.out).mono ?_
  rintro e w9 ⟨rfl, h9, hk9⟩
  rw [mk6_of] at h9
  have H9 := hid h9
  have HB9 := hid (HB8.out.trans (hk9.belowB HB8.out.size (fun k hk e => by rw [e, HG.out] at hk; omega)))
  have HL := hid (logSec_len (gen := gen) (index := index) (kind := kind) (part := part) (by rw [← HN.out]; exact h49))
  clear h9 hk9
  go_wp2_with (first | (refine wpList_load_row rfl 145 (.tmp 8) rfl _ rfl _ _ _ _ H9.out Try.underlying145 rfl (by rw [List.size_toArray, bv_length, HL.out]; exact logsec_info) ?_) | (refine wpList_store_row rfl 145 (.tmp 8) (.tmp 28) rfl _ _ rfl rfl _ _ H9.out (by rw [List.size_toArray, bv_length, HL.out]; exact logsec_info) ?_ ?_ ?_))
  · rfl
  · exact bv_cells _
  · refine bodyPost_ret (results_cell_row rfl _ _ g 145 (bv (logSec gen index kind part)).toArray (0, 0) _ rfl (setRow_heap _ _ _ _ _ _ H9.out) Try.underlying145 rfl (by rw [List.size_toArray, bv_length, HL.out]; exact logsec_info)) rfl ⟨rfl, ?_⟩
    exact below_setRow' HB9.out (by rw [HG.out]; exact Nat.le_refl _) _
end Go.Proofs.Ytlondopgibcikaa
