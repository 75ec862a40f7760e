/- The walks of entrepotlaw05's helpers. -/
import Derived.Test.YtlondopgibcikaaRows
import Derived.Test.YtlondopgibcikaaHeap
import Derived.Test.YtlondopgibcikaaKit
import Derived.Test.YtlondopgibcikaaCrcPartsW
import Derived.Test.YtlondopgibcikaaDev
import Derived.Test.YtlondopgibcikaaDevW
import Derived.Test.YtlondopgibcikaaDevV
import Derived.Test.YtlondopgibcikaaDevU
import Derived.Test.YtlondopgibcikaaDevT
import Derived.Test.YtlondopgibcikaaDevC
import Derived.WalkKit
import Derived.WalkSpells
import Derived.WalkLawsBesides
import Derived.Deep.RegionHeld3
namespace Go.Proofs.Ytlondopgibcikaa
open Go.RowKit Ent

def rep (n : Nat) (x : UInt8) : List UInt8 := List.replicate n x
theorem rep_get (n : Nat) (x : UInt8) (i : Nat) : (rep n x)[i]? = if i < n then some x else none := by simp [rep, List.getElem?_replicate]
@[simp] theorem rep_len (n : Nat) (x : UInt8) : (rep n x).length = n := by simp [rep]
theorem made_blk {w : World} {base n g : Nat} {l : List UInt8} (h : w.ownsRow base 5 1 (.slice (some ⟨g, 0, none⟩) n n) n (bv l)) : Blk w g 5 (bv l) := by
  rcases h.2 with ⟨h1, _⟩ | ⟨g', cap', cur, hv, _, hh, hc, _, hs, ht⟩
  · cases h1
  · injection hv with e1 e2 e3
    injection e1 with e1; injection e1 with e1
    subst e1; subst e3
    rw [List.take_of_length_le (by simp; omega)] at ht
    unfold Blk; rw [← ht]; exact hh
theorem blk_owns {w : World} {base n g : Nat} {l : List UInt8} (h : Blk w g 5 (bv l)) (hn : n = l.length) (hb : base ≤ g) (hm : n ≤ maxLen) : w.ownsRow base 5 1 (.slice (some ⟨g, 0, none⟩) n n) n (bv l) :=
  ⟨by simp [hn], .inr ⟨g, n, (bv l).toArray, rfl, hb, h, Nat.le_refl _, hm, by simp [hn], by show ((bv l).toArray.toList).take (n * 1) = bv l; rw [List.take_of_length_le (by simp [hn])]⟩⟩
set_option maxRecDepth 100000 in
set_option maxHeartbeats 400000 in
theorem full_any (x : UInt8) (n : Nat) (hn : n ≤ 1073741824) (w : World) :
    Calls Try.prog 49 #[.int .u8 x.toNat, .int .i64 n] w fun e w' => e = .returned (.slice (some ⟨w.heap.size, 0, none⟩) n n) ∧ Blk w' w.heap.size 5 (bv (rep n x)) ∧ Below w.heap.size w w' := by
  go_enter Try.func49, Try.ntmps49
  go_wp2_with (refine wpl_make rfl (.tmp 7) (.tmp 7) rfl w.heap.size _ _ n rfl rfl rfl rfl (by omega) (Nat.le_refl _) ?_; intro w6 ho6 hg6; have HM := hid (made_blk ho6); have HB6 := hid (below_of_grown_none hg6); clear ho6 hg6)
  go_loopw [6] (fun i wr => ∃ k : Nat, k ≤ n ∧ i = .int .i64 k ∧ Blk wr w.heap.size 5 (bv (rep k x ++ rep (n - k) 0)) ∧ Below w.heap.size w wr) (fun i _ => n - (intOf i).toNat)
  case atStart => exact ⟨0, Nat.zero_le _, rfl, HM.out, HB6.out⟩
  case round =>
    obtain ⟨k, hk, rfl, hm, hb⟩ := hrel
    have HM := hid hm; have HB := hid hb
    clear hm hb
    by_cases hlt : k < n
    · have hc : wr.cell? ⟨w.heap.size, k, none⟩ = some (.int .u8 0) := HM.out.cell (by rw [bv_get, List.getElem?_append_right (by simp), rep_get, rep_len, if_pos (by omega)]; rfl)
      have hf := HM.out.free k
      go_wp2
      go_roundw
      case rel =>
        refine ⟨k + 1, by omega, by go_num, ?_, HB.out.setCell (by simp) _⟩
        have := HM.out.set k (.int .u8 x.toNat)
        have e : (bv (rep k x ++ rep (n - k) 0)).set k (.int .u8 x.toNat) = bv (rep (k + 1) x ++ rep (n - (k + 1)) 0) := by
          apply List.ext_getElem?
          intro j
          rw [List.getElem?_set, bv_get, bv_get]
          by_cases hjk : k = j
          · subst hjk
            rw [if_pos rfl, if_pos (by simp; omega), List.getElem?_append_left (by simp), rep_get, if_pos (by omega)]; rfl
          · rw [if_neg hjk]
            by_cases hj : j < k
            · rw [List.getElem?_append_left (by simpa using hj), List.getElem?_append_left (by simp; omega), rep_get, rep_get, if_pos hj, if_pos (by omega)]
            · rw [List.getElem?_append_right (by simp; omega), List.getElem?_append_right (by simp; omega), rep_get, rep_get, rep_len, rep_len]
              by_cases hjn : j < n
              · rw [if_pos (by omega), if_pos (by omega)]
              · rw [if_neg (by omega), if_neg (by omega)]
        rwa [e] at this
      case measure => simp [intOf]; omega
    · have hk8 : k = n := by omega
      subst hk8
      go_wp2
      go_ret
      have := HM.out
      rw [Nat.sub_self] at this
      exact ⟨rfl, by simpa [rep] using this, HB.out⟩

/-- behind a call that may lay new blocks: what is a device's own -/
def grow (F : Nat → Prop) (w w' : World) : Nat → Prop := fun k => F k ∨ (w.heap.size ≤ k ∧ k < w'.heap.size)
theorem lift_write {a : Nat} {F : Nat → Prop} {d : Dev} (i : Int) (bo : Option Addr) (n c : Nat) (b : List UInt8) (hn : n = b.length) (w : World) (hb : SB w bo c b) (hbF : ∀ x, bo = some x → ¬ F x.block) (hlo : d.loose.length ≤ 1073741824) (h : PDev w a F d) :
    Calls Try.prog 48 #[ptr a, .int .i64 i, .slice bo n c] w fun e w' => e = .returned (.int .i64 (d.write i b).1) ∧ PDev w' a (grow F w w') (d.write i b).2 ∧ Keep F w w' := by
  obtain ⟨gi, gn, vl, lets, left, h⟩ := h
  refine (write_any i bo n c b hn w hb hbF hlo h).mono ?_
  rintro e w' ⟨he, ⟨vl', left', h'⟩, hk⟩
  exact ⟨he, ⟨_, _, _, _, _, h'⟩, hk⟩
theorem lift_flush {a : Nat} {F : Nat → Prop} {d : Dev} (w : World) (h : PDev w a F d) :
    Calls Try.prog 41 #[ptr a] w fun e w' => e = .returned (.int .i64 d.flush.1) ∧ PDev w' a F d.flush.2 ∧ Keep F w w' := by
  obtain ⟨gi, gn, vl, lets, left, h⟩ := h
  refine (flush_any w h).mono ?_
  rintro e w' ⟨he, ⟨vl', left', h'⟩, hk⟩
  exact ⟨he, ⟨_, _, _, _, _, h'⟩, hk⟩
theorem lift_fuse {a : Nat} {F : Nat → Prop} {d : Dev} (n : Int) (h1 : -9223372036854775808 ≤ n) (h2 : n ≤ 9223372036854775807) (w : World) (h : PDev w a F d) :
    Calls Try.prog 40 #[ptr a, .int .i64 n] w fun e w' => e = .returned (.int .i64 (d.setFuse n).1) ∧ PDev w' a F (d.setFuse n).2 ∧ Keep F w w' := by
  obtain ⟨gi, gn, vl, lets, left, h⟩ := h
  refine (fuse_any n h1 h2 w h).mono ?_
  rintro e w' ⟨he, ⟨vl', left', h'⟩, hk⟩
  exact ⟨he, ⟨_, _, _, _, _, h'⟩, hk⟩
theorem lift_crash {a : Nat} {F : Nat → Prop} {d : Dev} (ko : Option Addr) (kn kc : Nat) (keep : List Bool) (hkn : kn = keep.length) (torn : Int) (w : World) (hbl : BL w ko keep) (hkF : keep ≠ [] → ∀ x, ko = some x → ¬ F x.block) (hkb : kn ≤ 1073741824) (hlo : d.loose.length ≤ 1073741824) (h : PDev w a F d) :
    Calls Try.prog 39 #[ptr a, .slice ko kn kc, .int .i64 torn] w fun e w' => e = .returned (.int .i64 (d.crash keep torn).1) ∧ PDev w' a F (d.crash keep torn).2 ∧ Keep F w w' := by
  obtain ⟨gi, gn, vl, lets, left, h⟩ := h
  refine (crash_any ko kn kc keep hkn torn w hbl hkF hkb hlo h).mono ?_
  rintro e w' ⟨he, ⟨vl', lets', left', h'⟩, hk⟩
  exact ⟨he, ⟨_, _, _, _, _, h'⟩, hk⟩
theorem lift_image {a : Nat} {F : Nat → Prop} {d : Dev} (i : Int) (w : World) (h : PDev w a F d) :
    Calls Try.prog 51 #[ptr a, .int .i64 i] w fun e w' => ∃ v, e = .returned (.tuple #[v, .int .i64 (d.image i).2]) ∧ Fresh w.heap.size w' v (d.image i).1 ∧ Below w.heap.size w w' := by
  obtain ⟨gi, gn, vl, lets, left, h⟩ := h; exact image_any i w h
theorem lift_read {a : Nat} {F : Nat → Prop} {d : Dev} (i : Int) (w : World) (h : PDev w a F d) :
    Calls Try.prog 43 #[ptr a, .int .i64 i] w fun e w' => ∃ v, e = .returned (.tuple #[v, .int .i64 (d.read i).2]) ∧ Fresh w.heap.size w' v (d.read i).1 ∧ Below w.heap.size w w' := by
  obtain ⟨gi, gn, vl, lets, left, h⟩ := h; exact read_any i w h
theorem lift_size {a : Nat} {F : Nat → Prop} {d : Dev} (w : World) (h : PDev w a F d) :
    Calls Try.prog 55 #[ptr a] w fun e w' => e = .returned (.int .i64 d.img.length) ∧ w' = w := by
  obtain ⟨gi, gn, vl, lets, left, h⟩ := h; exact size_any w h
theorem lift_out {a : Nat} {F : Nat → Prop} {d : Dev} (w : World) (h : PDev w a F d) :
    Calls Try.prog 42 #[ptr a] w fun e w' => e = .returned (.bool d.out) ∧ w' = w := by
  obtain ⟨gi, gn, vl, lets, left, h⟩ := h; exact out_any w h
theorem lift_loose {a : Nat} {F : Nat → Prop} {d : Dev} (w : World) (h : PDev w a F d) :
    Calls Try.prog 50 #[ptr a] w fun e w' => e = .returned (.int .i64 d.loose.length) ∧ w' = w := by
  obtain ⟨gi, gn, vl, lets, left, h⟩ := h; exact loose_any w h
/-- is a sector of one byte written? -/
def putB (d : Dev) (i : Int) (x : UInt8) : Bool := decide ((d.write i (rep 64 x)).1 = 0)
def putD (d : Dev) (i : Int) (x : UInt8) : Dev := (d.write i (rep 64 x)).2
set_option maxRecDepth 100000 in
set_option maxHeartbeats 400000 in
theorem puts_any {a : Nat} {F : Nat → Prop} {d : Dev} (i : Int) (x : UInt8) (w : World) (h : PDev w a F d) (hF : ∀ k, F k → k < w.heap.size) (hlo : d.loose.length ≤ 1073741824) :
    Calls Try.prog 38 #[ptr a, .int .i64 i, .int .u8 x.toNat] w fun e w' => e = .returned (.bool (putB d i x)) ∧ PDev w' a (grow F w w') (putD d i x) ∧ Keep F w w' := by
  have H := hid h
  clear h
  unfold ptr
  go_enter Try.func38, Try.ntmps38
  go_wp2_with fail
  refine (full_any x 64 (by decide) w).mono ?_
  rintro e w1 ⟨rfl, hm, hb⟩
  have HM := hid hm; have HB := hid hb
  clear hm hb
  go_wp2_with fail
  refine (lift_write i (some ⟨w.heap.size, 0, none⟩) 64 64 (rep 64 x) (by simp) w1 (.inr (.inr ⟨_, _, rfl, HM.out.range fun j v hv => by rw [Nat.zero_add]; exact hv⟩)) (by rintro y ⟨⟩ hy; have := hF _ hy; simp at this) hlo (H.out.below HB.out)).mono ?_
  rintro e w2 ⟨rfl, h2, hk2⟩
  have H2 := hid h2; have HK := hid hk2
  clear h2 hk2
  go_wp2
  go_ret
  refine ⟨?_, H2.out.mono fun k hk => hk.imp id fun h => ⟨Nat.le_trans HB.out.size h.1, h.2⟩, (Keep.ofBelow HB.out).trans HK.out⟩
  unfold putB; rfl
def readB (d : Dev) (i : Int) (x : UInt8) (n : Nat) (y : UInt8) : Bool := decide ((d.read i).2 = 0) && sameB (d.read i).1 (rep n x ++ rep (64 - n) y)
set_option maxRecDepth 100000 in
set_option maxHeartbeats 400000 in
theorem reads_any {a : Nat} {F : Nat → Prop} {d : Dev} (i : Int) (x : UInt8) (n : Nat) (hn : n ≤ 64) (y : UInt8) (w : World) (h : PDev w a F d) :
    Calls Try.prog 45 #[ptr a, .int .i64 i, .int .u8 x.toNat, .int .i64 n, .int .u8 y.toNat] w fun e w' => e = .returned (.bool (readB d i x n y)) ∧ Below w.heap.size w w' := by
  have H := hid h
  clear h
  have hm : ((64 : Int) - (n : Int)) = ((64 - n : Nat) : Int) := by omega
  have HM0 := hid hm
  clear hm
  unfold ptr
  go_enter Try.func45, Try.ntmps45
  go_wp2_with fail
  refine (lift_read i w H.out).mono ?_
  rintro e w1 ⟨v, rfl, hf, hb1⟩
  obtain ⟨ao, cap, rfl, hlc, hs, hwb, hfr⟩ := hf
  have HS := hid hs; have HB := hid hb1
  clear hs hwb hfr hb1 hlc
  by_cases hc : (d.read i).2 = 0
  · have HC := hid hc
    rw [hc]
    clear hc
    go_wp2_with fail
    refine (full_any x n (by omega) w1).mono ?_
    rintro e w2 ⟨rfl, hm2, hb2⟩
    have HM2 := hid hm2; have HB2 := hid hb2
    clear hm2 hb2
    go_wp2_with fail
    rw [HM0.out]
    refine (full_any y (64 - n) (by omega) w2).mono ?_
    rintro e w3 ⟨rfl, hm3, hb3⟩
    have HM3 := hid hm3; have HB3 := hid hb3
    have HO3 : Hid (w3.ownsRow w1.heap.size 5 1 (.slice (some ⟨w1.heap.size, 0, none⟩) n n) n (bv (rep n x))) := hid (blk_owns (HM2.out.below HB3.out HM2.out.lt) (by simp) (Nat.le_refl _) (by simp [maxLen]; omega))
    have HS3 : Hid (SB w3 (some ⟨w2.heap.size, 0, none⟩) (64 - n) (rep (64 - n) y)) := hid (.inr (.inr ⟨_, _, rfl, HM3.out.range fun j v hv => by rw [Nat.zero_add]; exact hv⟩))
    have hsz : Hid (w1.heap.size ≤ w3.heap.size) := hid (Nat.le_trans HB2.out.size HB3.out.size)
    clear hm3 hb3
    go_wp2_with (refine wpl_append_g (by rfl) (.tmp 25) (.tmp 29) rfl w1.heap.size _ n (rep n x) (rep (64 - n) y) rfl HO3.out _ (64 - n) (64 - n) rfl (by simp) HS3.out (by omega) hsz.out ?_; intro v4 w4 ho4 hg4 hn4; clear hn4; have HB4 := hid (below_grown (th HB2.out HB3.out) HO3.out hg4 (Nat.le_refl _)); clear hg4; have HO4 := hid (own_all ho4); clear ho4)
    obtain ⟨a4, c4, rfl, hn4', hc4, hs4', -, -⟩ := HO4.out
    have hs4 := hid hs4'
    have hn4 := hid hn4'
    clear HO4 hc4 hs4' hn4'
    refine (same_any ao a4 _ _ cap c4 (d.read i).1 (rep n x ++ rep (64 - n) y) rfl hn4.out _ (HS.out.below HB4.out) hs4.out).mono ?_
    rintro e w5 ⟨rfl, rfl⟩
    dsimp only
    go_wp2
    go_ret
    exact ⟨by unfold readB; rw [HC.out]; simp, th HB.out HB4.out⟩
  · have HC := hid hc
    have hz : ((d.read i).2 == 0) = false := by simpa using hc
    clear hc
    go_wp2
    go_ret
    exact ⟨by unfold readB; rw [decide_eq_false HC.out]; simp, HB.out⟩
def imageB (d : Dev) (i : Int) (x : UInt8) (n : Nat) (y : UInt8) : Bool := decide ((d.image i).2 = 0) && sameB (d.image i).1 (rep n x ++ rep (64 - n) y)
set_option maxRecDepth 100000 in
set_option maxHeartbeats 400000 in
theorem images_any {a : Nat} {F : Nat → Prop} {d : Dev} (i : Int) (x : UInt8) (n : Nat) (hn : n ≤ 64) (y : UInt8) (w : World) (h : PDev w a F d) :
    Calls Try.prog 44 #[ptr a, .int .i64 i, .int .u8 x.toNat, .int .i64 n, .int .u8 y.toNat] w fun e w' => e = .returned (.bool (imageB d i x n y)) ∧ Below w.heap.size w w' := by
  have H := hid h
  clear h
  have hm : ((64 : Int) - (n : Int)) = ((64 - n : Nat) : Int) := by omega
  have HM0 := hid hm
  clear hm
  unfold ptr
  go_enter Try.func44, Try.ntmps44
  go_wp2_with fail
  refine (lift_image i w H.out).mono ?_
  rintro e w1 ⟨v, rfl, hf, hb1⟩
  obtain ⟨ao, cap, rfl, hlc, hs, hwb, hfr⟩ := hf
  have HS := hid hs; have HB := hid hb1
  clear hs hwb hfr hb1 hlc
  by_cases hc : (d.image i).2 = 0
  · have HC := hid hc
    rw [hc]
    clear hc
    go_wp2_with fail
    refine (full_any x n (by omega) w1).mono ?_
    rintro e w2 ⟨rfl, hm2, hb2⟩
    have HM2 := hid hm2; have HB2 := hid hb2
    clear hm2 hb2
    go_wp2_with fail
    rw [HM0.out]
    refine (full_any y (64 - n) (by omega) w2).mono ?_
    rintro e w3 ⟨rfl, hm3, hb3⟩
    have HM3 := hid hm3; have HB3 := hid hb3
    have HO3 : Hid (w3.ownsRow w1.heap.size 5 1 (.slice (some ⟨w1.heap.size, 0, none⟩) n n) n (bv (rep n x))) := hid (blk_owns (HM2.out.below HB3.out HM2.out.lt) (by simp) (Nat.le_refl _) (by simp [maxLen]; omega))
    have HS3 : Hid (SB w3 (some ⟨w2.heap.size, 0, none⟩) (64 - n) (rep (64 - n) y)) := hid (.inr (.inr ⟨_, _, rfl, HM3.out.range fun j v hv => by rw [Nat.zero_add]; exact hv⟩))
    have hsz : Hid (w1.heap.size ≤ w3.heap.size) := hid (Nat.le_trans HB2.out.size HB3.out.size)
    clear hm3 hb3
    go_wp2_with (refine wpl_append_g (by rfl) (.tmp 25) (.tmp 29) rfl w1.heap.size _ n (rep n x) (rep (64 - n) y) rfl HO3.out _ (64 - n) (64 - n) rfl (by simp) HS3.out (by omega) hsz.out ?_; intro v4 w4 ho4 hg4 hn4; clear hn4; have HB4 := hid (below_grown (th HB2.out HB3.out) HO3.out hg4 (Nat.le_refl _)); clear hg4; have HO4 := hid (own_all ho4); clear ho4)
    obtain ⟨a4, c4, rfl, hn4', hc4, hs4', -, -⟩ := HO4.out
    have hs4 := hid hs4'
    have hn4 := hid hn4'
    clear HO4 hc4 hs4' hn4'
    refine (same_any ao a4 _ _ cap c4 (d.image i).1 (rep n x ++ rep (64 - n) y) rfl hn4.out _ (HS.out.below HB4.out) hs4.out).mono ?_
    rintro e w5 ⟨rfl, rfl⟩
    dsimp only
    go_wp2
    go_ret
    exact ⟨by unfold imageB; rw [HC.out]; simp, th HB.out HB4.out⟩
  · have HC := hid hc
    have hz : ((d.image i).2 == 0) = false := by simpa using hc
    clear hc
    go_wp2
    go_ret
    exact ⟨by unfold imageB; rw [decide_eq_false HC.out]; simp, HB.out⟩
end Go.Proofs.Ytlondopgibcikaa
