/- The walk of DeviceKnown. -/
import Derived.Test.YtlondopgibcikaaRows
import Derived.Test.YtlondopgibcikaaHeap
import Derived.Test.YtlondopgibcikaaKit
import Derived.Test.YtlondopgibcikaaDev
import Derived.Test.YtlondopgibcikaaDevW
import Derived.Test.YtlondopgibcikaaDevV
import Derived.Test.YtlondopgibcikaaDevU
import Derived.Test.YtlondopgibcikaaDevT
import Derived.Test.YtlondopgibcikaaDevC
import Derived.Test.YtlondopgibcikaaLaw05
import Derived.WalkKit
import Derived.WalkSpells
import Derived.WalkLawsBesides
import Derived.Deep.RegionHeld3
namespace Go.Proofs.Ytlondopgibcikaa
open Go.RowKit Ent

/-- a device that was made since w0 -/
def DV (B : Nat) (w0 w : World) (a : Nat) (d : Dev) : Prop := B ≤ w.heap.size ∧ Below B w0 w ∧ ∃ F, PDev w a F d ∧ ∀ k, F k → B ≤ k ∧ k < w.heap.size
theorem DV.below {B : Nat} {w0 w w' : World} {a : Nat} {d : Dev} (h : DV B w0 w a d) (hb : Below w.heap.size w w') : DV B w0 w' a d := by
  obtain ⟨h1, h2, F, h3, h4⟩ := h
  exact ⟨Nat.le_trans h1 hb.size, h2.trans (hb.mono h1), F, h3.below hb, fun k hk => ⟨(h4 k hk).1, Nat.lt_of_lt_of_le (h4 k hk).2 hb.size⟩⟩
theorem DV.b {B : Nat} {w0 w : World} {a : Nat} {d : Dev} (h : DV B w0 w a d) : Below B w0 w := h.2.1
theorem DV.turn {B : Nat} {w0 w w' : World} {a : Nat} {d : Dev} {F : Nat → Prop} (h1 : B ≤ w.heap.size) (h2 : Below B w0 w) (h4 : ∀ k, F k → B ≤ k ∧ k < w.heap.size) (hp : PDev w' a (grow F w w') d) (hk : Keep F w w') : DV B w0 w' a d :=
  ⟨Nat.le_trans h1 hk.size, h2.trans (hk.belowB h1 fun k hkB hF => by have := (h4 k hF).1; omega), grow F w w', hp, fun k hkk => by
    rcases hkk with h | h
    · exact ⟨(h4 k h).1, Nat.lt_of_lt_of_le (h4 k h).2 hk.size⟩
    · exact ⟨Nat.le_trans h1 h.1, h.2⟩⟩
theorem dv_puts {B : Nat} {w0 : World} {a : Nat} {d : Dev} (i : Int) (x : UInt8) (w : World) (h : DV B w0 w a d) (hlo : d.loose.length ≤ 1073741824) :
    Calls Try.prog 38 #[ptr a, .int .i64 i, .int .u8 x.toNat] w fun e w' => e = .returned (.bool (putB d i x)) ∧ DV B w0 w' a (putD d i x) := by
  obtain ⟨h1, h2, F, h3, h4⟩ := h
  refine (puts_any i x w h3 (fun k hk => (h4 k hk).2) hlo).mono ?_
  rintro e w' ⟨he, hp, hk⟩
  exact ⟨he, DV.turn h1 h2 h4 hp hk⟩
theorem dv_flush {B : Nat} {w0 : World} {a : Nat} {d : Dev} (w : World) (h : DV B w0 w a d) :
    Calls Try.prog 41 #[ptr a] w fun e w' => e = .returned (.int .i64 d.flush.1) ∧ DV B w0 w' a d.flush.2 := by
  obtain ⟨h1, h2, F, h3, h4⟩ := h
  refine (lift_flush w h3).mono ?_
  rintro e w' ⟨he, hp, hk⟩
  exact ⟨he, DV.turn h1 h2 h4 (hp.mono fun _ => .inl) hk⟩
theorem dv_fuse {B : Nat} {w0 : World} {a : Nat} {d : Dev} (n : Int) (b1 : -9223372036854775808 ≤ n) (b2 : n ≤ 9223372036854775807) (w : World) (h : DV B w0 w a d) :
    Calls Try.prog 40 #[ptr a, .int .i64 n] w fun e w' => e = .returned (.int .i64 (d.setFuse n).1) ∧ DV B w0 w' a (d.setFuse n).2 := by
  obtain ⟨h1, h2, F, h3, h4⟩ := h
  refine (lift_fuse n b1 b2 w h3).mono ?_
  rintro e w' ⟨he, hp, hk⟩
  exact ⟨he, DV.turn h1 h2 h4 (hp.mono fun _ => .inl) hk⟩
/-- the bools lie where the device has nothing: new since, or ahead of B, or nowhere -/
theorem dv_crash {B : Nat} {w0 : World} {a : Nat} {d : Dev} (ko : Option Addr) (kn kc : Nat) (keep : List Bool) (hkn : kn = keep.length) (torn : Int) (w w1 : World) (h : DV B w0 w a d) (hb : Below w.heap.size w w1) (hbl : BL w1 ko keep) (hkF : ∀ x, ko = some x → x.block < B ∨ w.heap.size ≤ x.block) (hkb : kn ≤ 1073741824) (hlo : d.loose.length ≤ 1073741824) :
    Calls Try.prog 39 #[ptr a, .slice ko kn kc, .int .i64 torn] w1 fun e w' => e = .returned (.int .i64 (d.crash keep torn).1) ∧ DV B w0 w' a (d.crash keep torn).2 := by
  obtain ⟨h1, h2, F, h3, h4⟩ := h
  refine (lift_crash ko kn kc keep hkn torn w1 hbl (fun _ x hx hF => by rcases hkF x hx with h | h <;> have := h4 _ hF <;> omega) hkb hlo (h3.below hb)).mono ?_
  rintro e w' ⟨he, hp, hk⟩
  exact ⟨he, DV.turn (Nat.le_trans h1 hb.size) (h2.trans (hb.mono h1)) (fun k hk => ⟨(h4 k hk).1, Nat.lt_of_lt_of_le (h4 k hk).2 hb.size⟩) (hp.mono fun _ => .inl) hk⟩
theorem dv_reads {B : Nat} {w0 : World} {a : Nat} {d : Dev} (i : Int) (x : UInt8) (n : Nat) (hn : n ≤ 64) (y : UInt8) (w : World) (h : DV B w0 w a d) :
    Calls Try.prog 45 #[ptr a, .int .i64 i, .int .u8 x.toNat, .int .i64 n, .int .u8 y.toNat] w fun e w' => e = .returned (.bool (readB d i x n y)) ∧ DV B w0 w' a d := by
  have h' := h
  obtain ⟨h1, h2, F, h3, h4⟩ := h
  refine (reads_any i x n hn y w h3).mono ?_
  rintro e w' ⟨he, hb⟩
  exact ⟨he, h'.below hb⟩
theorem dv_image {B : Nat} {w0 : World} {a : Nat} {d : Dev} (i : Int) (x : UInt8) (n : Nat) (hn : n ≤ 64) (y : UInt8) (w : World) (h : DV B w0 w a d) :
    Calls Try.prog 44 #[ptr a, .int .i64 i, .int .u8 x.toNat, .int .i64 n, .int .u8 y.toNat] w fun e w' => e = .returned (.bool (imageB d i x n y)) ∧ DV B w0 w' a d := by
  have h' := h
  obtain ⟨h1, h2, F, h3, h4⟩ := h
  refine (images_any i x n hn y w h3).mono ?_
  rintro e w' ⟨he, hb⟩
  exact ⟨he, h'.below hb⟩
theorem dv_read {B : Nat} {w0 : World} {a : Nat} {d : Dev} (i : Int) (w : World) (h : DV B w0 w a d) :
    Calls Try.prog 43 #[ptr a, .int .i64 i] w fun e w' => ∃ v, e = .returned (.tuple #[v, .int .i64 (d.read i).2]) ∧ Fresh w.heap.size w' v (d.read i).1 ∧ DV B w0 w' a d := by
  have h' := h
  obtain ⟨h1, h2, F, h3, h4⟩ := h
  refine (lift_read i w h3).mono ?_
  rintro e w' ⟨v, he, hv, hb⟩
  exact ⟨v, he, hv, h'.below hb⟩
theorem dv_loose {B : Nat} {w0 : World} {a : Nat} {d : Dev} (w : World) (h : DV B w0 w a d) :
    Calls Try.prog 50 #[ptr a] w fun e w' => e = .returned (.int .i64 d.loose.length) ∧ w' = w := by
  obtain ⟨h1, h2, F, h3, h4⟩ := h; exact lift_loose w h3
theorem dv_out {B : Nat} {w0 : World} {a : Nat} {d : Dev} (w : World) (h : DV B w0 w a d) :
    Calls Try.prog 42 #[ptr a] w fun e w' => e = .returned (.bool d.out) ∧ w' = w := by
  obtain ⟨h1, h2, F, h3, h4⟩ := h; exact lift_out w h3
theorem dv_new (n : Nat) (hn1 : 1 ≤ n) (hn2 : n ≤ 65536) (w : World) :
    Calls Try.prog 46 #[.int .i64 n] w fun e w' => ∃ a, e = .returned (.tuple #[ptr a, .int .i64 0]) ∧ DV w.heap.size w w' a (Dev.new n) := by
  refine (new_any n hn1 hn2 w).mono ?_
  rintro e w' ⟨a, he, hp, hb⟩
  exact ⟨a, he, hb.size, hb, _, hp, fun k hk => hk⟩

def k0 : Dev := Dev.new 2
def k1 : Dev := putD k0 0 1
def k2 : Dev := k1.flush.2
theorem kf1 : putB k0 0 1 = true := by decide +kernel
theorem kf2 : readB k1 0 1 64 0 = true := by decide +kernel
theorem kf3 : imageB k1 0 0 64 0 = true := by decide +kernel
theorem kf4 : k1.loose.length = 1 := by decide +kernel
theorem kf5 : k1.flush.1 = 0 := by decide +kernel
theorem kf6 : imageB k2 0 1 64 0 = true := by decide +kernel
set_option maxRecDepth 100000 in
set_option maxHeartbeats 400000 in
theorem one_any (w : World) :
    Calls Try.prog 37 #[] w fun e w' => ∃ a, e = .returned (ptr a) ∧ DV w.heap.size w w' a k2 := by
  go_enter Try.func37, Try.ntmps37
  go_wp2_with fail
  refine (dv_new 2 (by omega) (by omega) w).mono ?_
  rintro e w1 ⟨a, rfl, hd1⟩
  have H1 : Hid (DV w.heap.size w w1 a k0) := hid hd1
  clear hd1
  unfold ptr
  go_wp2_with fail
  refine (dv_puts 0 1 w1 H1.out (by decide +kernel)).mono ?_
  rintro e w2 ⟨rfl, hd2⟩
  have H2 : Hid (DV w.heap.size w w2 a k1) := hid hd2
  clear hd2
  rw [kf1]
  go_wp2_with fail
  refine (dv_reads 0 1 64 (by omega) 0 w2 H2.out).mono ?_
  rintro e w3 ⟨rfl, hd3⟩
  have H3 := hid hd3
  clear hd3
  rw [kf2]
  go_wp2_with fail
  refine (dv_image 0 0 64 (by omega) 0 w3 H3.out).mono ?_
  rintro e w4 ⟨rfl, hd4⟩
  have H4 := hid hd4
  clear hd4
  rw [kf3]
  go_wp2_with fail
  refine (dv_loose w4 H4.out).mono ?_
  rintro e w' ⟨rfl, rfl⟩
  rw [kf4]
  go_wp2_with fail
  refine (dv_flush w' H4.out).mono ?_
  rintro e w5 ⟨rfl, hd5⟩
  have H5 : Hid (DV w.heap.size w w5 a k2) := hid hd5
  clear hd5
  rw [kf5]
  go_wp2_with fail
  refine (dv_image 0 1 64 (by omega) 0 w5 H5.out).mono ?_
  rintro e w6 ⟨rfl, hd6⟩
  have H6 := hid hd6
  clear hd6
  rw [kf6]
  go_wp2
  go_ret
  exact ⟨a, rfl, H6.out⟩
theorem dv_write {B : Nat} {w0 : World} {a : Nat} {d : Dev} (i : Int) (bo : Option Addr) (n c : Nat) (b : List UInt8) (hn : n = b.length) (w w1 : World) (h : DV B w0 w a d) (hb : Below w.heap.size w w1) (hs : SB w1 bo c b) (hkF : ∀ x, bo = some x → x.block < B ∨ w.heap.size ≤ x.block) (hlo : d.loose.length ≤ 1073741824) :
    Calls Try.prog 48 #[ptr a, .int .i64 i, .slice bo n c] w1 fun e w' => e = .returned (.int .i64 (d.write i b).1) ∧ DV B w0 w' a (d.write i b).2 := by
  obtain ⟨h1, h2, F, h3, h4⟩ := h
  refine (lift_write i bo n c b hn w1 hs (fun x hx hF => by rcases hkF x hx with h | h <;> have := h4 _ hF <;> omega) hlo (h3.below hb)).mono ?_
  rintro e w' ⟨he, hp, hk⟩
  exact ⟨he, DV.turn (Nat.le_trans h1 hb.size) (h2.trans (hb.mono h1)) (fun k hk => ⟨(h4 k hk).1, Nat.lt_of_lt_of_le (h4 k hk).2 hb.size⟩) hp hk⟩
def a3 : Dev := putD k2 0 2
def a4 : Dev := putD a3 1 3
def a5 : Dev := (a4.crash [false, true] 5).2
theorem af1 : putB k2 0 2 = true := by decide +kernel
theorem af2 : putB a3 1 3 = true := by decide +kernel
theorem af3 : (a4.crash [false, true] 5).1 = 0 := by decide +kernel
theorem af4 : readB a5 0 2 5 1 = true := by decide +kernel
theorem af5 : readB a5 1 3 64 0 = true := by decide +kernel
theorem af6 : a5.loose.length = 0 := by decide +kernel
theorem BL.laid (w : World) (l : List Bool) (T : TypeId) {fr : Nat × Nat} : BL (w.alloc (.cells (bbv l).toArray T fr)) (some ⟨w.heap.size, 0, none⟩) l :=
  .inr ⟨_, _, rfl, fun j v hv => by rw [Nat.zero_add, cell_of_row _ _ _ _ _ _ (alloc_new w _)]; simpa using hv⟩
set_option maxRecDepth 100000 in
set_option maxHeartbeats 400000 in
theorem awake5_any (w : World) :
    Calls Try.prog 47 #[] w fun e w' => e = .returned (.bool true) ∧ Below w.heap.size w w' := by
  go_enter Try.func47, Try.ntmps47
  go_wp2_with fail
  refine (one_any w).mono ?_
  rintro e w1 ⟨a, rfl, hd1⟩
  have H1 := hid hd1
  clear hd1
  unfold ptr
  go_wp2_with fail
  refine (dv_puts 0 2 w1 H1.out (by decide +kernel)).mono ?_
  rintro e w2 ⟨rfl, hd2⟩
  have H2 : Hid (DV w.heap.size w w2 a a3) := hid hd2
  clear hd2
  rw [af1]
  go_wp2_with fail
  refine (dv_puts 1 3 w2 H2.out (by decide +kernel)).mono ?_
  rintro e w3 ⟨rfl, hd3⟩
  have H3 : Hid (DV w.heap.size w w3 a a4) := hid hd3
  clear hd3
  rw [af2]
  go_wp2_with fail
  refine (dv_crash _ 2 2 [false, true] rfl 5 w3 _ H3.out (fresh_alloc w3 _) (BL.laid w3 [false, true] _) (by rintro x ⟨⟩; exact .inr (Nat.le_refl _)) (by decide) (by decide +kernel)).mono ?_
  rintro e w4 ⟨rfl, hd4⟩
  have H4 : Hid (DV w.heap.size w w4 a a5) := hid hd4
  clear hd4
  rw [af3]
  go_wp2_with fail
  refine (dv_reads 0 2 5 (by omega) 1 w4 H4.out).mono ?_
  rintro e w5 ⟨rfl, hd5⟩
  have H5 := hid hd5
  clear hd5
  rw [af4]
  go_wp2_with fail
  refine (dv_reads 1 3 64 (by omega) 0 w5 H5.out).mono ?_
  rintro e w6 ⟨rfl, hd6⟩
  have H6 := hid hd6
  clear hd6
  rw [af5]
  go_wp2_with fail
  refine (dv_loose w6 H6.out).mono ?_
  rintro e w' ⟨rfl, rfl⟩
  rw [af6]
  go_wp2
  go_ret
  exact ⟨rfl, H6.out.b⟩
def p1 : Dev := putD k2 0 2
def p2 : Dev := (p1.crash [] 5).2
def p3 : Dev := (p2.setFuse 1).2
def p4 : Dev := putD p3 0 4
def p5 : Dev := p4.flush.2
def p6 : Dev := (p5.crash [true] 0).2
def p7 : Dev := (p6.write 2 (rep 64 1)).2
def p8 : Dev := (p7.write 0 []).2
def p9 : Dev := (p8.crash [] 64).2
theorem pf2' : (p1.crash [] 5).1 = 0 := by decide +kernel
theorem pf3' : (p2.setFuse 1).1 = 0 := by decide +kernel
theorem pf4' : putB p3 0 4 = true := by decide +kernel
theorem pf5' : p4.flush.1 = 22 := by decide +kernel
theorem pf6' : p5.out = true := by decide +kernel
theorem pf7' : (p5.read 0).2 = 22 := by decide +kernel
theorem pf8' : imageB p5 0 2 5 1 = true := by decide +kernel
theorem pf9' : (p5.crash [true] 0).1 = 0 := by decide +kernel
theorem pf10' : readB p6 0 4 64 0 = true := by decide +kernel
theorem pf11' : (p6.read 2).2 = 3 := by decide +kernel
theorem pf12' : (p6.write 2 (rep 64 1)).1 = 3 := by decide +kernel
theorem pf13' : (p7.write 0 []).1 = 2 := by decide +kernel
theorem pf14' : (p8.crash [] 64).1 = 2 := by decide +kernel
theorem pf15' : (p9.setFuse (-1)).1 = 2 := by decide +kernel
set_option maxRecDepth 100000 in
set_option maxHeartbeats 1000000 in
theorem known5_any (w : World) :
    Calls Try.prog 7 #[] w fun e w' => e = .returned (.bool true) ∧ Below w.heap.size w w' := by
  go_enter Try.func7, Try.ntmps7
  go_wp2_with fail
  refine (one_any w).mono ?_
  rintro e w1 ⟨a, rfl, hd1⟩
  have H1 := hid hd1
  clear hd1
  unfold ptr
  go_wp2_with fail
  refine (dv_puts 0 2 w1 H1.out (by decide +kernel)).mono ?_
  rintro e w2 ⟨rfl, hd2⟩
  have H2 : Hid (DV w.heap.size w w2 a p1) := hid hd2
  clear hd2
  rw [af1]
  go_wp2_with fail
  refine (dv_crash none 0 0 [] rfl 5 w2 w2 H2.out (Below.refl _ _) (.inl rfl) (by rintro x ⟨⟩) (by decide) (by decide +kernel)).mono ?_
  rintro e w3 ⟨rfl, hd3⟩
  have H3 : Hid (DV w.heap.size w w3 a p2) := hid hd3
  clear hd3
  rw [pf2']
  go_wp2_with fail
  refine (dv_fuse 1 (by omega) (by omega) w3 H3.out).mono ?_
  rintro e w4 ⟨rfl, hd4⟩
  have H4 : Hid (DV w.heap.size w w4 a p3) := hid hd4
  clear hd4
  rw [pf3']
  go_wp2_with fail
  refine (dv_puts 0 4 w4 H4.out (by decide +kernel)).mono ?_
  rintro e w5 ⟨rfl, hd5⟩
  have H5 : Hid (DV w.heap.size w w5 a p4) := hid hd5
  clear hd5
  rw [pf4']
  go_wp2_with fail
  refine (dv_flush w5 H5.out).mono ?_
  rintro e w6 ⟨rfl, hd6⟩
  have H6 : Hid (DV w.heap.size w w6 a p5) := hid hd6
  clear hd6
  rw [pf5']
  go_wp2_with fail
  refine (dv_out w6 H6.out).mono ?_
  rintro e w' ⟨rfl, rfl⟩
  rw [pf6']
  go_wp2_with fail
  refine (dv_read 0 w' H6.out).mono ?_
  rintro e w7 ⟨v7, rfl, -, hd7⟩
  have H7 := hid hd7
  clear hd7
  rw [pf7']
  go_wp2_with fail
  refine (dv_image 0 2 5 (by omega) 1 w7 H7.out).mono ?_
  rintro e w8 ⟨rfl, hd8⟩
  have H8 := hid hd8
  clear hd8
  rw [pf8']
  go_wp2_with fail
  refine (dv_crash _ 1 1 [true] rfl 0 w8 _ H8.out (fresh_alloc w8 _) (BL.laid w8 [true] _) (by rintro x ⟨⟩; exact .inr (Nat.le_refl _)) (by decide) (by decide +kernel)).mono ?_
  rintro e w9 ⟨rfl, hd9⟩
  have H9 : Hid (DV w.heap.size w w9 a p6) := hid hd9
  clear hd9
  rw [pf9']
  go_wp2_with fail
  refine (dv_reads 0 4 64 (by omega) 0 w9 H9.out).mono ?_
  rintro e w10 ⟨rfl, hd10⟩
  have H10 := hid hd10
  clear hd10
  rw [pf10']
  go_wp2_with fail
  refine (dv_read 2 w10 H10.out).mono ?_
  rintro e w11 ⟨v11, rfl, -, hd11⟩
  have H11 := hid hd11
  clear hd11
  rw [pf11']
  go_wp2_with fail
  refine (new_bad 0 (by omega) w11).mono ?_
  rintro e w' ⟨rfl, rfl⟩
  go_wp2_with fail
  refine (awake5_any w').mono ?_
  rintro e w12 ⟨rfl, hb12⟩
  have H12 := hid (H11.out.below hb12)
  clear hb12
  go_wp2_with fail
  refine (full_any 1 64 (by decide) w12).mono ?_
  rintro e w13 ⟨rfl, hm13, hb13⟩
  have HM13 := hid hm13; have HB13 := hid hb13
  clear hm13 hb13
  go_wp2_with fail
  refine (dv_write 2 _ 64 64 (rep 64 1) (by simp) w12 w13 H12.out HB13.out (.inr (.inr ⟨_, _, rfl, HM13.out.range fun j v hv => by rw [Nat.zero_add]; exact hv⟩)) (by rintro x ⟨⟩; exact .inr (Nat.le_refl _)) (by decide +kernel)).mono ?_
  rintro e w14 ⟨rfl, hd14⟩
  have H14 : Hid (DV w.heap.size w w14 a p7) := hid hd14
  clear hd14
  rw [pf12']
  go_wp2_with fail
  refine (dv_write 0 none 0 0 [] rfl w14 w14 H14.out (Below.refl _ _) (SB.nil _) (by rintro x ⟨⟩) (by decide +kernel)).mono ?_
  rintro e w15 ⟨rfl, hd15⟩
  have H15 : Hid (DV w.heap.size w w15 a p8) := hid hd15
  clear hd15
  rw [pf13']
  go_wp2_with fail
  refine (dv_crash none 0 0 [] rfl 64 w15 w15 H15.out (Below.refl _ _) (.inl rfl) (by rintro x ⟨⟩) (by decide) (by decide +kernel)).mono ?_
  rintro e w16 ⟨rfl, hd16⟩
  have H16 : Hid (DV w.heap.size w w16 a p9) := hid hd16
  clear hd16
  rw [pf14']
  go_wp2_with fail
  refine (dv_fuse (-1) (by omega) (by omega) w16 H16.out).mono ?_
  rintro e w17 ⟨rfl, hd17⟩
  have HB := hid hd17.b
  clear hd17
  rw [pf15']
  go_wp2
  go_ret
  exact ⟨rfl, HB.out⟩
end Go.Proofs.Ytlondopgibcikaa
