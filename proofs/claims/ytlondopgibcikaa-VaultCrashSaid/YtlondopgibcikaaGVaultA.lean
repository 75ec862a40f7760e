/- The vault's small functions: area, may, noughts, number, lay. slices.Clone, slices.Grow, slices.Concat; the vault's copied. The vault's superblocks: lay, super. (Printed by wip/vltb.py.) The vault's read. (Printed by wip/vltc.py.) The vault's all: things done one behind the other. slices.Grow of nothing, slices.Concat. The vault's counts. (Printed by wip/vltg.py.) The vault's counts, Format. (Printed by wip/vltg.py.) The vault's Format. (Printed by wip/vlti.py.) -/
import Derived.Test.YtlondopgibcikaaRows
import Derived.Test.YtlondopgibcikaaGBase
import Derived.Test.YtlondopgibcikaaGDevice
import Derived.Test.YtlondopgibcikaaGRefDev
import Derived.Test.YtlondopgibcikaaGLogA
import Derived.Test.YtlondopgibcikaaGLogC
import Derived.Test.YtlondopgibcikaaGRefLog
import Derived.WalkKit
import Derived.WalkSpells
import Derived.WalkLawsBesides
import Derived.Deep.RegionHeld3
import Derived.Deep.QuietTactic
import Derived.BigQuiet
import Derived.Laws.BitsAllLaws
import Derived.Stop.BytesEq
import Derived.Deep.CutRange
import Derived.Great.Walk
namespace Go.Proofs.Ytlondopgibcikaa
open Go.RowKit Ent

/-- half of what is behind the superblocks -/
def halfOf (n : Nat) : Nat := (n - 2) / 2
/-- where a generation's area begins -/
def fromOf (n gen : Nat) : Nat := 2 + gen % 2 * halfOf n
theorem fromOf_le (n gen : Nat) (h : 2 ≤ n) : fromOf n gen + halfOf n ≤ n := by
  unfold fromOf halfOf
  rcases Nat.mod_two_eq_zero_or_one gen with h1 | h1
  · rw [h1]; omega
  · rw [h1]; omega
set_option maxRecDepth 100000 in
set_option maxHeartbeats 400000 in
theorem varea_any {a : Nat} {F : Nat → Prop} {d : Dev} (gen : Nat) (hg : gen ≤ 2147483648) (w : World) (h : PDev w a F d) (hn : 2 ≤ d.img.length) :
    Calls Try.prog 123 #[ptr a, .int .i64 gen] w fun e w' => e = .returned (.agg #[.int .i64 (fromOf d.img.length gen : Nat), .int .i64 (fromOf d.img.length gen + halfOf d.img.length : Nat), .int .i64 gen]) ∧ Below w.heap.size w w' := by
  have hok : d.ok := by obtain ⟨_, _, _, _, _, h⟩ := h; exact h.ok
  have hlen := hok.len
  obtain ⟨n, hnn⟩ : ∃ n, d.img.length = n := ⟨_, rfl⟩
  have HN := hid hnn
  rw [hnn] at hn hlen ⊢
  obtain ⟨hf, hhf⟩ : ∃ hf, halfOf n = hf := ⟨_, rfl⟩
  obtain ⟨fr, hfr⟩ : ∃ fr, fromOf n gen = fr := ⟨_, rfl⟩
  obtain ⟨r, hr⟩ : ∃ r, gen % 2 = r := ⟨_, rfl⟩
  have hr2 : r < 2 := by omega
  have HR : Hid ((gen : Int) % 2 = (r : Int)) := hid (by omega)
  have HH : Hid (((n : Int) - 2) / 2 = (hf : Int)) := hid (by rw [← hhf, halfOf]; omega)
  have hhfb : hf ≤ 65536 := by rw [← hhf]; unfold halfOf; omega
  have HF2 : Hid (2 + (r : Int) * (hf : Int) = (fr : Int)) := hid (by
    rw [← hfr, fromOf, hr, hhf]; push_cast; rfl)
  have hfrb : fr ≤ 131072 := by
    rw [← hfr, fromOf, hr, hhf]
    have : r * hf ≤ 1 * 65536 := Nat.mul_le_mul (by omega) hhfb
    omega
  have E1 : Hid (wrap64 (2 + wrap64 ((gen : Int) % 2 * (((n : Int) - 2) / 2))) = (fr : Int)) := hid (by
    have h1 : (r : Int) * (hf : Int) ≤ 65536 := by
      have : r * hf ≤ 1 * 65536 := Nat.mul_le_mul (by omega) hhfb
      omega
    have h0 : (0 : Int) ≤ (r : Int) * (hf : Int) := Int.mul_nonneg (by omega) (by omega)
    rw [HR.out, HH.out, IntWalk.wrap64_in ((r : Int) * (hf : Int)) (by omega), HF2.out, IntWalk.wrap64_in _ (by omega)])
  have E2 : Hid (wrap64 ((fr : Int) + (((n : Int) - 2) / 2)) = ((fr + hf : Nat) : Int)) := hid (by
    rw [HH.out, IntWalk.wrap64_in _ (by omega)]; omega)
  rw [hhf, hfr]
  clear hok hnn hhf hfr hr
  have H := hid h
  clear h
  unfold ptr
  go_enter Try.func123, Try.ntmps123
  go_wp2_with fail
  refine (lift_size _ (H.out.below (fresh_alloc w _))).mono ?_
  rintro e w' ⟨rfl, hw'⟩
  subst w'
  rw [HN.out]
  go_wp2_with fail
  rw [E1.out, E2.out]
  refine bodyPost_ret (results_cell_row rfl _ _ w.heap.size 76 #[.int .i64 (fr : Nat), .int .i64 (fr + hf : Nat), .int .i64 gen] (0, 0) _ rfl (alloc_new w _) Try.underlying76 rfl (by kernel_rfl)) rfl ⟨rfl, fresh_alloc w _⟩
set_option maxRecDepth 100000 in
set_option maxHeartbeats 400000 in
/-- why a device is none of a vault -/
def mayOf (d : Dev) : Int := if d.img.length < 8 then 3 else 0
theorem vmay_any {a : Nat} {F : Nat → Prop} {d : Dev} (w : World) (h : PDev w a F d) :
    Calls Try.prog 132 #[ptr a] w fun e w' => e = .returned (.int .i64 (mayOf d)) ∧ w' = w := by
  have hok : d.ok := by obtain ⟨_, _, _, _, _, h⟩ := h; exact h.ok
  have hlen := hok.len
  have hpos := hok.pos
  obtain ⟨n, hnn⟩ : ∃ n, d.img.length = n := ⟨_, rfl⟩
  have HN := hid hnn
  rw [hnn] at hlen hpos
  have H := hid h
  clear h hok hnn
  have hz : ((n : Int) == 0) = false := by rw [beq_eq_false_iff_ne]; omega
  unfold ptr
  by_cases h8 : n < 8
  · have HM : Hid (mayOf d = 3) := hid (by rw [mayOf, HN.out, if_pos h8])
    go_enter Try.func132, Try.ntmps132
    go_wp2_with fail
    refine (lift_size w H.out).mono ?_
    rintro e w' ⟨rfl, hw'⟩
    subst w'
    rw [HN.out]
    go_wp2
    go_ret
    exact ⟨by rw [HM.out]; rfl, rfl⟩
  · have HM : Hid (mayOf d = 0) := hid (by rw [mayOf, HN.out, if_neg h8])
    go_enter Try.func132, Try.ntmps132
    go_wp2_with fail
    refine (lift_size w H.out).mono ?_
    rintro e w' ⟨rfl, hw'⟩
    subst w'
    rw [HN.out]
    go_wp2
    go_ret
    exact ⟨by rw [HM.out]; rfl, rfl⟩
set_option maxRecDepth 100000 in
theorem noughts_any (w : World) : Calls Try.prog 140 #[] w fun e w' => ∃ g, e = .returned (.slice (some ⟨g, 0, none⟩) 64 64) ∧ Blk w' g 5 (bv (zr 64)) ∧ w.heap.size ≤ g ∧ Below w.heap.size w w' := by
  go_enter Try.func140, Try.ntmps140
  go_wp2_with (refine wpl_makeZ rfl _ _ rfl 64 rfl rfl (by omega) ?_; intro w1 hb1 hm1)
  go_ret
  exact ⟨_, rfl, hm1, Nat.le_refl _, hb1⟩
theorem i64_or_nat (a b : Nat) (ha : a < 9223372036854775808) (hb : b < 9223372036854775808) : bits .or .i64 (a : Int) (b : Int) = ((a ||| b : Nat) : Int) := by
  have hx : a ||| b < 2 ^ 63 := Nat.or_lt_two_pow (by omega) (by omega)
  have e : ∀ n : Nat, n < 9223372036854775808 → (BitVec.ofInt 64 (n : Int)).toNat = n := fun n hn => by
    simp; omega
  show IntKind.i64.wrap ((BitVec.ofInt 64 (a : Int) ||| BitVec.ofInt 64 (b : Int)).toNat : Int) = _
  rw [BitVec.toNat_or, e a ha, e b hb]
  exact IntWalk.i64_in _ (by omega)
theorem or_byte (a b : Nat) (h : b < 256) : a * 256 ||| b = a * 256 + b := by
  rw [show a * 256 = a <<< 8 by rw [Nat.shiftLeft_eq], ← Nat.shiftLeft_add_eq_or_of_lt (show b < 2 ^ 8 by omega)]
/-- the number of some bytes, the highest first -/
def numOf (l : List UInt8) : Nat := l.foldl (fun n b => n * 256 + b.toNat) 0
theorem numOf_snoc (l : List UInt8) (b : UInt8) : numOf (l ++ [b]) = numOf l * 256 + b.toNat := by simp [numOf]
theorem numOf_lt : ∀ (l : List UInt8), l.length ≤ 4 → numOf l < 4294967296
  | [], _ => by decide
  | [a], _ => by have := a.toNat_lt; simp [numOf]; omega
  | [a, b], _ => by have := a.toNat_lt; have := b.toNat_lt; simp [numOf]; omega
  | [a, b, c], _ => by have := a.toNat_lt; have := b.toNat_lt; have := c.toNat_lt; simp [numOf]; omega
  | [a, b, c, d], _ => by have := a.toNat_lt; have := b.toNat_lt; have := c.toNat_lt; have := d.toNat_lt; simp [numOf]; omega
  | _ :: _ :: _ :: _ :: _ :: _, h => by simp at h
set_option maxRecDepth 100000 in
set_option maxHeartbeats 400000 in
theorem number_any (g o len cap : Nat) (b : List UInt8) (hb : b.length = 4) (hl : 4 ≤ len) (hc : len ≤ cap) (w : World) (hr : w.rangeAt g o (bv b)) :
    Calls Try.prog 154 #[.slice (some ⟨g, o, none⟩) len cap] w fun e w' => e = .returned (.int .i64 (numOf b : Nat)) ∧ w' = w := by
  have HB := hid hb; have HR := hid hr
  clear hb hr
  go_enter Try.func154, Try.ntmps154
  go_wp2_with fail
  go_loopw [2, 8] (fun v i wr => ∃ k : Nat, k ≤ 4 ∧ i = .int .i64 k ∧ v = .int .i64 (numOf (b.take k) : Nat) ∧ wr = w) (fun _ i _ => 4 - (intOf i).toNat)
  case atStart => exact ⟨0, by omega, rfl, rfl, rfl⟩
  case round =>
    obtain ⟨k, hk, rfl, rfl, hw⟩ := hrel
    subst wr
    by_cases hlt : k < 4
    · obtain ⟨x, hx⟩ : ∃ x, b[k]? = some x := ⟨_, List.getElem?_eq_getElem (by rw [HB.out]; exact hlt)⟩
      have cx := rangeAt_byte HR.out hx
      have HT : Hid (numOf (b.take (k + 1)) = numOf (b.take k) * 256 + x.toNat) := hid (by rw [List.take_add_one, hx]; exact numOf_snoc _ _)
      have hnk := numOf_lt (b.take k) (by simp; omega)
      obtain ⟨nk, hnk2⟩ : ∃ nk, numOf (b.take k) = nk := ⟨_, rfl⟩
      rw [hnk2] at hnk HT ⊢
      have hx8 := x.toNat_lt
      have hor : bits BinOp.or IntKind.i64 ((nk : Int) * 256) (x.toNat : Int) = ((nk * 256 + x.toNat : Nat) : Int) := by
        have := i64_or_nat (nk * 256) x.toNat (by omega) (by omega)
        rw [or_byte _ _ (by omega)] at this
        rw [← this]; congr 1
      clear hx hnk2
      go_wp2
      go_roundw
      case rel => exact ⟨k + 1, by omega, by go_num, by rw [HT.out]; exact congrArg (Value.int IntKind.i64) (by omega), by trivial⟩
      case measure => simp [intOf]; omega
    · obtain rfl : k = 4 := by omega
      have HE : Hid (b.take 4 = b) := hid (List.take_of_length_le (by rw [HB.out]; exact Nat.le_refl _))
      go_wp2
      go_ret
      exact ⟨by rw [HE.out]; rfl, rfl⟩
end Go.Proofs.Ytlondopgibcikaa
namespace Go.Proofs.Ytlondopgibcikaa
open Go.RowKit Ent
set_option maxRecDepth 100000 in
set_option maxHeartbeats 400000 in
theorem vclone_any (ao : Option Addr) (n c : Nat) (l : List UInt8) (hn : n = l.length) (hb : n ≤ 1073741824) (w : World) (hs : SB w ao c l) :
    Calls Try.prog 126 #[.slice ao n c] w fun e w' => ∃ v, e = .returned v ∧ w'.ownsRow w.heap.size 5 1 v n (bv l) ∧ Below w.heap.size w w' := by
  have HS := hid hs; have HN := hid hn
  rcases ao with _ | ad
  · have hl : l = [] := by
      rcases hs with ⟨_, _, h⟩ | ⟨_, h, _⟩ | ⟨_, _, h, _⟩
      · exact h
      · cases h
      · cases h
    subst hl
    have h0 : n = 0 := by rw [hn]; rfl
    subst h0
    clear hn hs
    have hel := fun W : World => Lib.run_eql_slice_nil (P := Try.prog) W 22 5 none 0 c 0 0 Try.underlying22
    go_enter Try.func126, Try.ntmps126
    go_wp2
    go_ret
    exact ⟨_, rfl, World.ownsRow_nil _ _ _ _, Below.refl _ _⟩
  · clear hn hs
    have hel := fun W : World => Lib.run_eql_slice_nil (P := Try.prog) W 22 5 (some ad) n c 0 0 Try.underlying22
    go_enter Try.func126, Try.ntmps126
    go_wp2_with (refine wpl_append rfl (.tmp 5) (.tmp 6) rfl w.heap.size _ _ _ l rfl (owns_empty w) (some ad) n c rfl HN.out (HS.out.below (fresh_alloc w _)) (by omega) (by simp) ?_; intro v2 w2 ho2 hg2 _; have HO2 := hid ho2; have HB2 := hid (below_grown (fresh_alloc w _) (owns_empty w) hg2 (Nat.le_refl _)); clear ho2 hg2)
    go_ret
    exact ⟨_, rfl, by have := HO2.out; rw [Nat.zero_add] at this; simpa using this, HB2.out⟩
/-- a row that is new is the record under way -/
theorem ScanI.took {B : Nat} {w0 wr w' : World} {vo vr v : Value} {out : List (List UInt8)} {rec l : List UInt8} {vs : List Value} {Fb : Nat → Prop} (h : ScanI B w0 wr vo vr out rec vs Fb) (ho : w'.ownsRow wr.heap.size 5 1 v l.length (bv l)) (hbe : Below wr.heap.size wr w') :
    ScanI B w0 w' vo v out l vs Fb :=
  { h.below hbe with
    rr := owns_mono ho h.bl
    nr := fun k hk => by
      have h1 := (ho.lt k hk).1
      exact ⟨fun hf => by have := (h.fb _ hf).2; omega, fun he => by have := own_lt h.oo _ he; omega⟩ }
set_option maxRecDepth 100000 in
set_option maxHeartbeats 1000000 in
theorem vcopied_any (lo : Option Addr) (n c : Nat) (L : List (List UInt8)) (hn : n = L.length) (hb : n ≤ 1073741824) (hl : ∀ l ∈ L, l.length ≤ 1073741824) (w : World) (hL : LR w lo L) :
    Calls Try.prog 131 #[.slice lo n c] w fun e w' => ∃ v, e = .returned v ∧ FreshL w.heap.size w' v L ∧ Below w.heap.size w w' := by
  have HN := hid hn; have HL := hid hL; have HLL := hid hl
  clear hn hL hl
  go_enter Try.func131, Try.ntmps131
  go_wp2_with fail
  go_loopw [2, 7] (fun v2 i wr => ∃ (vo : Value) (k : Nat) (vs : List Value) (Fb : Nat → Prop), vo = v2 ∧ k ≤ n ∧ i = .int .i64 k ∧ ScanI w.heap.size w wr vo (.slice none 0 0) (L.take k) [] vs Fb) (fun _ i _ => n - (intOf i).toNat)
  case atStart => exact ⟨_, 0, [], _, rfl, Nat.zero_le _, rfl, ScanI.start w⟩
  case round =>
    obtain ⟨vo, k, vs, Fb, rfl, hk, rfl, hI⟩ := hrel
    have HI := hid hI
    clear hI
    by_cases hlt : k < n
    · obtain ⟨l, hll⟩ : ∃ l, L[k]? = some l := ⟨_, List.getElem?_eq_getElem (by rw [← HN.out]; exact hlt)⟩
      obtain ⟨b1, o1, lo1, cap1, rfl, cx, hcap, hs1⟩ := (HL.out.below HI.out.be).at hll
      have hlb := HLL.out l (List.mem_of_getElem? hll)
      have HT : Hid (L.take (k + 1) = L.take k ++ [l]) := hid (by rw [List.take_add_one, hll]; rfl)
      have HTL : Hid ((L.take k).length = k) := hid (by simp; rw [← HN.out]; omega)
      obtain ⟨u, hu⟩ : ∃ u, l.length = u := ⟨_, rfl⟩
      rw [hu] at cx hlb
      have HU := hid hu; have HS1 := hid hs1
      clear hll hcap hs1 hu
      go_wp2_with fail
      refine (vclone_any lo1 u cap1 l HU.out.symm hlb wr HS1.out).mono ?_
      rintro e w4 ⟨v, rfl, ho, hb4⟩
      have HI4 := hid (HI.out.took (by rw [HU.out]; exact ho) hb4)
      obtain ⟨a4, c4, rfl⟩ := own_slice ho
      clear ho hb4
      go_wp2_with (refine wpl_appendR rowL rfl (.tmp 11) (.tmp 14) rfl w.heap.size vo _ vs rfl (HI4.out.below (fresh_alloc w4 _)).oo w4.heap.size rfl [.slice a4 u c4] (alloc_new w4 _) rfl (by intro u hu; simp at hu; subst hu; rfl) (by rw [HTL.out]; omega) (HI4.out.below (fresh_alloc w4 _)).bl ?_; intro v7 w7 ho7 hg7 hw7; have HI7 := hid ((HI4.out.below (fresh_alloc w4 (.cells #[.slice a4 u c4] 22))).told ho7 hg7 hw7); clear ho7 hg7 hw7)
      go_roundw
      case rel => exact ⟨v7, k + 1, _, _, rfl, by omega, by go_num, by rw [HT.out]; exact HI7.out⟩
      case measure => simp [intOf]; omega
    · obtain rfl : k = n := by omega
      have HE : Hid (L.take k = L) := hid (List.take_of_length_le (by rw [← HN.out]; exact Nat.le_refl _))
      go_wp2
      go_ret
      exact ⟨vo, rfl, by have := HI.out.fresh; rw [HE.out] at this; exact this, HI.out.be⟩
end Go.Proofs.Ytlondopgibcikaa
namespace Go.Proofs.Ytlondopgibcikaa
open Go.RowKit Ent

set_option maxRecDepth 100000 in
set_option maxHeartbeats 1000000 in
theorem vlay_any (g t len cap n : Nat) (T : TypeId) (l : List UInt8) (h4 : 4 ≤ len) (_hcap : len ≤ cap) (ht : t + 4 ≤ l.length) (hn : n < 4294967296) (w : World) (h : Blk w g T (bv l)) :
    Calls Try.prog 161 #[.slice (some ⟨g, t, none⟩) len cap, .int .i64 n] w fun e w' => e = .returned (.tuple #[]) ∧ Blk w' g T (bv (putAt l t (be4 n))) ∧ Keep (fun k => k = g) w w' := by
  have H := hid h
  have HT := hid ht
  clear h ht
  go_enter Try.func161, Try.ntmps161
  go_wp2_with fail
  go_loopw [5] (fun i wr => ∃ k : Nat, k ≤ 4 ∧ i = .int .i64 k ∧ Blk wr g T (bv (putAt l t ((be4 n).take k))) ∧ Keep (fun k => k = g) w wr) (fun i _ => 4 - (intOf i).toNat)
  case atStart => exact ⟨0, by omega, rfl, by simpa [putAt] using H.out, Keep.refl _ _⟩
  case round =>
    obtain ⟨k, hk4, rfl, hm, hkk⟩ := hrel
    have HM := hid hm; have HK := hid hkk
    clear hm hkk
    have HL : Hid ((putAt l t ((be4 n).take k)).length = l.length) := hid (putAt_len _ _ _ (by have := HT.out; simp; omega))
    by_cases hlt : k < 4
    · rcases (by omega : k = 0 ∨ k = 1 ∨ k = 2 ∨ k = 3) with rfl | rfl | rfl | rfl
      · obtain ⟨v0, c0⟩ := blk_some HM.out (j := t) (by have := HT.out; rw [bv_length, HL.out]; omega)
        have f0 := HM.out.free (t)
        have HM1 := hid (HM.out.setN (t) (bz0 n hn))
        have HM2 : Hid (Blk (wr.setCell ⟨g, t, none⟩ (.int .u8 ((n : Int) / 16777216))) g T (bv (putAt l t ((be4 n).take 1)))) := hid (Eq.mp (congrArg (fun z => Blk (wr.setCell ⟨g, t, none⟩ (.int .u8 ((n : Int) / 16777216))) g T (bv z)) (putAt_step (l := l) (i := t) (p := be4 n) (j := 0) rfl (by have := HT.out; omega))) HM1.out)
        have HK2 := hid (HK.out.setCell (p := ⟨g, t, none⟩) rfl (.int .u8 ((n : Int) / 16777216)))
        clear HM1
        go_wp2
        go_roundw
        case rel => exact ⟨1, by omega, by go_num, HM2.out, HK2.out⟩
        case measure => simp [intOf]
      · obtain ⟨v0, c0⟩ := blk_some HM.out (j := t + 1) (by have := HT.out; rw [bv_length, HL.out]; omega)
        have f0 := HM.out.free (t + 1)
        have HM1 := hid (HM.out.setN (t + 1) (bz1 n))
        have HM2 : Hid (Blk (wr.setCell ⟨g, t + 1, none⟩ (.int .u8 ((n : Int) / 65536 % 256))) g T (bv (putAt l t ((be4 n).take 2)))) := hid (Eq.mp (congrArg (fun z => Blk (wr.setCell ⟨g, t + 1, none⟩ (.int .u8 ((n : Int) / 65536 % 256))) g T (bv z)) (putAt_step (l := l) (i := t) (p := be4 n) (j := 1) rfl (by have := HT.out; omega))) HM1.out)
        have HK2 := hid (HK.out.setCell (p := ⟨g, t + 1, none⟩) rfl (.int .u8 ((n : Int) / 65536 % 256)))
        clear HM1
        go_wp2
        go_roundw
        case rel => exact ⟨2, by omega, by go_num, HM2.out, HK2.out⟩
        case measure => simp [intOf]
      · obtain ⟨v0, c0⟩ := blk_some HM.out (j := t + 2) (by have := HT.out; rw [bv_length, HL.out]; omega)
        have f0 := HM.out.free (t + 2)
        have HM1 := hid (HM.out.setN (t + 2) (bz2 n))
        have HM2 : Hid (Blk (wr.setCell ⟨g, t + 2, none⟩ (.int .u8 ((n : Int) / 256 % 256))) g T (bv (putAt l t ((be4 n).take 3)))) := hid (Eq.mp (congrArg (fun z => Blk (wr.setCell ⟨g, t + 2, none⟩ (.int .u8 ((n : Int) / 256 % 256))) g T (bv z)) (putAt_step (l := l) (i := t) (p := be4 n) (j := 2) rfl (by have := HT.out; omega))) HM1.out)
        have HK2 := hid (HK.out.setCell (p := ⟨g, t + 2, none⟩) rfl (.int .u8 ((n : Int) / 256 % 256)))
        clear HM1
        go_wp2
        go_roundw
        case rel => exact ⟨3, by omega, by go_num, HM2.out, HK2.out⟩
        case measure => simp [intOf]
      · obtain ⟨v0, c0⟩ := blk_some HM.out (j := t + 3) (by have := HT.out; rw [bv_length, HL.out]; omega)
        have f0 := HM.out.free (t + 3)
        have HM1 := hid (HM.out.setN (t + 3) (byte_nat n))
        have HM2 : Hid (Blk (wr.setCell ⟨g, t + 3, none⟩ (.int .u8 ((n : Int) % 256))) g T (bv (putAt l t ((be4 n).take 4)))) := hid (Eq.mp (congrArg (fun z => Blk (wr.setCell ⟨g, t + 3, none⟩ (.int .u8 ((n : Int) % 256))) g T (bv z)) (putAt_step (l := l) (i := t) (p := be4 n) (j := 3) rfl (by have := HT.out; omega))) HM1.out)
        have HK2 := hid (HK.out.setCell (p := ⟨g, t + 3, none⟩) rfl (.int .u8 ((n : Int) % 256)))
        clear HM1
        go_wp2
        go_roundw
        case rel => exact ⟨4, by omega, by go_num, HM2.out, HK2.out⟩
        case measure => simp [intOf]
    · obtain rfl : k = 4 := by omega
      have HE : Hid ((be4 n).take 4 = be4 n) := hid rfl
      go_wp2
      go_end0
      exact ⟨rfl, by rw [HE.out] at HM; exact HM.out, HK.out⟩
/-- a superblock's half behind its sum -/
def supBody (gen n : Nat) : List UInt8 := be4 gen ++ (be4 n ++ (7 :: zr 19))
def supHalf (gen n : Nat) : List UInt8 := be4 (csum (supBody gen n)).toNat ++ supBody gen n
theorem supBody_len (gen n : Nat) : (supBody gen n).length = 28 := rfl
theorem supHalf_len (gen n : Nat) : (supHalf gen n).length = 32 := by rw [supHalf, List.length_append, be4_len, supBody_len]
def sup1 (gen : Nat) : List UInt8 := zr 4 ++ (be4 gen ++ zr 24)
def sup2 (gen n : Nat) : List UInt8 := zr 4 ++ (be4 gen ++ (be4 n ++ zr 20))
def sup3 (gen n : Nat) : List UInt8 := zr 4 ++ supBody gen n
theorem sup1_of (gen : Nat) : putAt (zr 32) 4 (be4 gen) = sup1 gen := rfl
theorem sup2_of (gen n : Nat) : putAt (sup1 gen) 8 (be4 n) = sup2 gen n := rfl
theorem sup3_of (gen n : Nat) : (sup2 gen n).set 12 7 = sup3 gen n := rfl
theorem sup3_drop (gen n : Nat) : (sup3 gen n).drop 4 = supBody gen n := rfl
theorem sup4_of (gen n : Nat) : putAt (sup3 gen n) 0 (be4 (csum (supBody gen n)).toNat) = supHalf gen n := by
  have := putAt_mid [] (zr 4) (supBody gen n) (be4 (csum (supBody gen n)).toNat) 0 rfl rfl
  simpa [sup3, supHalf] using this
theorem half_info : (Try.prog.info? 172).map (·.size) = some 32 := by kernel_rfl
set_option maxRecDepth 100000 in
set_option maxHeartbeats 1000000 in
theorem vsuper_any (gen n : Nat) (hg : gen < 4294967296) (hn : n < 4294967296) (w : World) :
    Calls Try.prog 155 #[.int .i64 gen, .int .i64 n] w fun e w' => e = .returned (.agg (bv (supHalf gen n)).toArray) ∧ Below w.heap.size w w' := by
  obtain ⟨g, hgg⟩ : ∃ g, g = w.heap.size := ⟨_, rfl⟩
  have HG := hid hgg
  clear hgg
  go_enter Try.func155, Try.ntmps155
  go_wp2_with fail
  generalize hw1 : w.alloc _ = w1
  have H1 : Hid (Blk w1 w.heap.size 172 (bv (zr 32))) := hid (by rw [← hw1]; exact alloc_new w _)
  have HB1 : Hid (Below w.heap.size w w1) := hid (by rw [← hw1]; exact fresh_alloc w _)
  clear hw1
  rw [← HG.out]
  rw [← HG.out] at H1
  refine (vlay_any g 4 28 28 gen 172 (zr 32) (by omega) (by omega) (by simp) hg w1 H1.out).mono ?_
  rintro e w2 ⟨rfl, h2, hk2⟩
  rw [sup1_of] at h2
  have H2 := hid h2; have HK2 := hid hk2
  clear h2 hk2
  go_wp2_with fail
  refine (vlay_any g 8 24 24 n 172 (sup1 gen) (by omega) (by omega) (by simp [sup1]) hn w2 H2.out).mono ?_
  rintro e w3 ⟨rfl, h3, hk3⟩
  rw [sup2_of] at h3
  have HK3 := hid (HK2.out.trans hk3)
  have HB3 : Hid (Below w.heap.size w w3) := hid (HB1.out.trans (HK3.out.belowB (by rw [← HG.out]; exact Nat.le_of_lt (lt_blk H1.out)) (fun k hk e => by rw [e, HG.out] at hk; omega)))
  have c12 : w3.cell? ⟨g, 12, none⟩ = some (.int .u8 0) := h3.cell (j := 12) rfl
  have f12 := h3.free 12
  have h4 := h3.setB 12 7
  have H5 : Hid (Blk (w3.setCell ⟨g, 12, none⟩ (.int .u8 7)) g 172 (bv (sup3 gen n))) := hid (by rw [sup3_of] at h4; exact h4)
  have HB5 : Hid (Below w.heap.size w (w3.setCell ⟨g, 12, none⟩ (.int .u8 7))) := hid (HB3.out.setCell (p := ⟨g, 12, none⟩) (by rw [HG.out]; exact Nat.le_refl _) _)
  clear h3 hk3 h4
  go_wp2_with fail
  generalize w3.setCell ⟨g, 12, none⟩ (.int .u8 7) = w5 at *
  clear c12 f12
  refine wp_region_held_drew (S := fun _ => True) (by kernel_rfl) trivial (fun hS => ?_)
  refine wpAnyH_take (i := 0) (v := ?v0x1z) (by simp only [List.getElem?_toArray, List.getElem?_cons_zero]; exact rfl) (by kernel_rfl) (by kernel_rfl) (by kernel_rfl) (by exact fun _ _ _ h => h) (Or.inl ⟨by rfl, ?y0x1z⟩) hS ?r0x1z
  case y0x1z => (intro w' hSw; (try dsimp only at hSw); go_simp; (try with_reducible rfl))
  simp only [Act.put, List.setIfInBounds_toArray, List.set_cons_zero, List.set_cons_succ]
  refine wpAnyH_take (i := 1) (v := ?v1x2z) (by simp only [List.getElem?_toArray, List.getElem?_cons_zero, List.getElem?_cons_succ]; exact rfl) (by kernel_rfl) (by kernel_rfl) (by kernel_rfl) (by exact fun _ _ _ h => h) (Or.inl ⟨by rfl, ?y1x2z⟩) hS ?r1x2z
  case y1x2z => (intro w' hSw; (try dsimp only at hSw); go_simp; (try with_reducible rfl))
  simp only [Act.put, List.setIfInBounds_toArray, List.set_cons_zero, List.set_cons_succ]
  refine wpAnyH_ready (rs := [2]) (by kernel_rfl) (by simp) ?_
  refine AllReadyH.cons (by simp only [List.getElem?_toArray, List.getElem?_cons_zero, List.getElem?_cons_succ]; exact rfl) (fun K hK => ?_) AllReadyH.nil
  go_simp
  refine (sum_any (some ⟨g, 4, none⟩) 28 28 (supBody gen n) (supBody_len gen n).symm (by omega) _ (.inr (.inr ⟨g, 4, rfl, H5.out.drew.range fun j v hv => by
    rw [bv_get, show (sup3 gen n)[4 + j]? = (supBody gen n)[j]? by rw [← sup3_drop, List.getElem?_drop], ← bv_get]; exact hv⟩))).mono ?_
  rintro e w8 ⟨rfl, hb8⟩
  obtain ⟨s, hs⟩ : ∃ s, (csum (supBody gen n)).toNat = s := ⟨_, rfl⟩
  have hsb : s < 4294967296 := by rw [← hs]; exact (csum (supBody gen n)).isLt
  have HS := hid hs
  rw [hs]
  clear hs
  have H8 := hid (H5.out.drew.below hb8 H5.out.drew.lt)
  have HB8 := hid (th HB5.out.drew hb8)
  clear hb8
  refine hK.out _ _ ?k2x3z (fun hS => ?s2x3z)
  case k2x3z => exact trivial
  clear hK K
  try simp only [Act.put, List.setIfInBounds_toArray, List.set_cons_zero, List.set_cons_succ]
  refine wpAnyH_take (i := 3) (v := ?v3x4z) (by simp only [List.getElem?_toArray, List.getElem?_cons_zero, List.getElem?_cons_succ]; exact rfl) (by kernel_rfl) (by kernel_rfl) (by kernel_rfl) (by exact fun _ _ _ h => h) (Or.inl ⟨by rfl, ?y3x4z⟩) hS ?r3x4z
  case y3x4z => (intro w' hSw; (try dsimp only at hSw); go_simp; (try with_reducible rfl))
  simp only [Act.put, List.setIfInBounds_toArray, List.set_cons_zero, List.set_cons_succ]
  refine wpAnyH_ready (rs := [4]) (by kernel_rfl) (by simp) ?_
  refine AllReadyH.cons (by simp only [List.getElem?_toArray, List.getElem?_cons_zero, List.getElem?_cons_succ]; exact rfl) (fun K hK => ?_) AllReadyH.nil
  go_simp
  rw [IntWalk.i64_in (s : Int) (by omega)]
  refine (vlay_any g 0 32 32 s 172 (sup3 gen n) (by omega) (by omega) (by simp [sup3, supBody_len]) hsb w8 H8.out).mono ?_
  rintro e w9 ⟨rfl, h9, hk9⟩
  have H9 : Hid (Blk w9 g 172 (bv (supHalf gen n))) := hid (by rw [← HS.out, sup4_of] at h9; exact h9)
  have HB9 := hid (HB8.out.trans (hk9.belowB HB8.out.size (fun k hk e => by rw [e, HG.out] at hk; omega)))
  clear h9 hk9
  refine hK.out _ _ ?k4x5z (fun hS => ?s4x5z)
  case k4x5z => exact trivial
  clear hK K
  try simp only [Act.put, List.setIfInBounds_toArray, List.set_cons_zero, List.set_cons_succ]
  refine wpAnyH_done (by kernel_rfl) ?_ _
  clear hS
  go_wp2_with (first | (refine wpList_load_row rfl 172 (.tmp 4) rfl _ rfl _ _ _ _ H9.out Try.underlying172 rfl (by rw [List.size_toArray, bv_length, supHalf_len]; exact half_info) ?_) | (refine wpList_store_row rfl 172 (.tmp 4) (.tmp 17) rfl _ _ rfl rfl _ _ H9.out (by rw [List.size_toArray, bv_length, supHalf_len]; exact half_info) ?_ ?_ ?_))
  · rfl
  · exact bv_cells _
  · refine bodyPost_ret (results_cell_row rfl _ _ g 172 (bv (supHalf gen n)).toArray (0, 0) _ rfl (setRow_heap _ _ _ _ _ _ H9.out) Try.underlying172 rfl (by rw [List.size_toArray, bv_length, supHalf_len]; exact half_info)) rfl ⟨rfl, ?_⟩
    exact below_setRow' HB9.out (by rw [HG.out]; exact Nat.le_refl _) _
end Go.Proofs.Ytlondopgibcikaa
namespace Go.Proofs.Ytlondopgibcikaa
open Go.RowKit Ent
theorem beq_same (l m : List UInt8) : (l == m) = sameB l m := by
  unfold sameB
  by_cases h : l = m
  · subst h; simp
  · rw [decide_eq_false h, beq_eq_false_iff_ne]; exact h
theorem wpo_eqlA {o : Oper} {a : Act} {w : World} {K : Act → World → Prop} {Q : Exit → Act → World → Prop} (x y : Operand) (ho : o.op = .binOp .eql 172 x y 172) (l m : List UInt8) (hx : a.eval x = .agg (bv l).toArray) (hy : a.eval y = .agg (bv m).toArray) (hl : l.length = 32) (hm : m.length = 32)
    (h : K (a.put o.dst (.bool (sameB l m))) w) : o.wp Try.prog a w K Q := by
  have key := run_eql_bytes (P := Try.prog) w 172 5 32 Try.underlying172 Try.underlying5 (fun w => by kernel_rfl) l m hl hm
  rw [beq_same] at key
  have key2 : (binOp .eql 172 (.agg (bv l).toArray) (.agg (bv m).toArray)).run Try.prog w = .ok (.bool (sameB l m)) w := key
  have hgd : (eqGuard .eql 172 x y (.agg (bv l).toArray) (.agg (bv m).toArray)).run Try.prog w = .ok () w := run_eqGuard_agg w .eql 172 x y _ _ (by kernel_rfl)
  unfold Oper.wp execOp
  simp only [ho, hx, hy, Sem.run_bind, hgd, key2, Result.andThen_ok]
  exact h
/-- what four bytes tell of a superblock's generation; is it one? -/
def genOf (b : List UInt8) : Nat := numOf ((b.drop 4).take 4)
def isSup (b : List UInt8) (n : Nat) : Bool := (decide (1 ≤ genOf b) && decide (genOf b ≤ 2147483647)) && (sameB (b.take 32) (supHalf (genOf b) n) && sameB (b.take 32) (b.drop 32))
theorem run_arrayAt32 (w : World) (x : Addr) (c : Nat) : (Instr.arrayAt 172 (.slice (some x) 32 c)).run Try.prog w = .ok (.pointer (some x)) w := by
  simp [Instr.arrayAt, run_underlying Try.underlying172]
theorem genOf_lt (b : List UInt8) : genOf b < 4294967296 := numOf_lt _ (by simp; omega)
theorem results_cellrow_tmp {P : Program} {fn : Func} {u p : Tmp} {ty : TypeId} (h : fn.results = #[.cell p ty, .tmp u]) (tmps : Array Value) (w : World) (g : Nat) (t : TypeId) (cs : Array Value) (fr : Nat × Nat) (d : TypeDesc)
    (hp : tmps.getD p undef = .pointer (some ⟨g, 0, none⟩)) (hg : w.heap[g]? = some (.cells cs t fr))
    (hu : P.underlying ty = some d) (hd : (match d with | .struct _ | .array _ _ => true | _ => false) = true) (hi : (P.info? ty).map (·.size) = some cs.size) :
    (results fn tmps).run P w = .ok (.tuple #[.agg cs, tmps.getD u undef]) w := by
  have hp' : tmps[p]?.getD undef = .pointer (some ⟨g, 0, none⟩) := by simpa using hp
  have hl := run_loadVar_row w g t ty cs fr d hg hu hd hi
  simp [results, h, hp', asAddr, hl]
set_option maxRecDepth 100000 in
set_option maxHeartbeats 2000000 in
theorem vread_any (g o cap n : Nat) (b : List UInt8) (hb : b.length = 64) (hcap : 64 ≤ cap) (hn : n ≤ 65536) (w : World) (hr : w.rangeAt g o (bv b)) :
    Calls Try.prog 133 #[.slice (some ⟨g, o, none⟩) 64 cap, .int .i64 n] w fun e w' => e = .returned (.tuple #[.agg #[.int .i64 (genOf b : Nat)], .bool (isSup b n)]) ∧ Below w.heap.size w w' := by
  have HB := hid hb; have HR := hid hr
  have HH1 : Hid ((b.take 32).length = 32) := hid (by simp; omega)
  have HH2 : Hid ((b.drop 32).length = 32) := hid (by simp; omega)
  have HR1 : Hid (∀ w' : World, w'.rangeAt g o (bv b) → w'.rangeAt g o (bv (b.take 32))) := hid (fun w' h j v hv => by
    refine h j v ?_
    rw [bv_get] at hv ⊢
    rw [List.getElem?_take] at hv
    split at hv
    · exact hv
    · cases hv)
  have HR2 : Hid (∀ w' : World, w'.rangeAt g o (bv b) → w'.rangeAt g (o + 32) (bv (b.drop 32))) := hid (fun w' h j v hv => by
    rw [Nat.add_assoc]
    refine h (32 + j) v ?_
    rw [bv_get] at hv ⊢
    rwa [List.getElem?_drop] at hv)
  obtain ⟨gF, hgF⟩ : ∃ gF, gF = w.heap.size := ⟨_, rfl⟩
  obtain ⟨w1, hw1⟩ : ∃ w1, w.alloc (.cells #[.int .i64 0] 155) = w1 := ⟨_, rfl⟩
  have HW1 := hid hw1
  have HF1 : Hid (Blk w1 gF 155 [.int .i64 0]) := hid (by rw [← hw1, hgF]; exact alloc_new w _)
  have HB1 : Hid (Below w.heap.size w w1) := hid (by rw [← hw1]; exact fresh_alloc w _)
  have HG := hid hgF
  clear hb hr hw1 hgF
  go_enter Try.func133, Try.ntmps133
  have HRA : Hid (w1.rangeAt g o (bv b)) := hid ((Keep.ofBelow (F := fun _ => False) HB1.out).range HR.out id)
  have ra := run_arrayAt32
  have q32 : ¬ cap = 32 := by omega
  go_upto_region 1 with fail
  rw [HW1.out, ← HG.out]
  go_wp2_with (first
    | (refine wpList_load_mid rfl 172 (.tmp 11) rfl g o rfl (bv (b.take 32)) _ (HR1.out _ HRA.out) Try.underlying172 rfl (by rw [bv_length, HH1.out]; exact half_info) ?_)
    | (refine wpl_store_new rfl 172 (.tmp 6) (.tmp 12) rfl _ _ (bv (b.take 32)) rfl rfl (by rw [bv_length, HH1.out]; exact half_info) (by rw [bv_length, HH1.out]; kernel_rfl) (bv_one _) ?_; intro w3 h3 hb3; have H3 := hid h3; have HB3 := hid hb3; clear h3 hb3))
  obtain ⟨gH, hgH⟩ : ∃ gH, w1.heap.size = gH := ⟨_, rfl⟩
  rw [hgH] at H3 HB3 ⊢
  have HGH := hid hgH
  have hFH : gF < gH := by rw [← hgH]; exact HF1.out.lt
  have HF3 := hid (HF1.out.below HB3.out hFH)
  have HR3 : Hid (w3.rangeAt g o (bv b)) := hid (by
    have : Below w1.heap.size w1 w3 := by rw [hgH]; exact HB3.out
    exact (Keep.ofBelow (F := fun _ => False) this).range HRA.out id)
  have HBW : Hid (Below w.heap.size w w3) := hid (HB1.out.trans (HB3.out.mono (by rw [← hgH]; exact HB1.out.size)))
  obtain ⟨gn, hgn⟩ : ∃ gn, genOf b = gn := ⟨_, rfl⟩
  have HGN := hid hgn
  have hgnb : gn < 4294967296 := by rw [← hgn]; exact genOf_lt b
  clear hgH hgn
  refine (number_any gH 4 28 28 ((b.drop 4).take 4) (by simp; have := HB.out; omega) (by omega) (by omega) w3 (H3.out.range fun j v hv => by
    rw [bv_get] at hv ⊢
    rw [List.getElem?_take] at hv
    split at hv
    · rw [List.getElem?_take, if_pos (by omega)]
      rwa [List.getElem?_drop] at hv
    · cases hv)).mono ?_
  rintro e w' ⟨rfl, hw'⟩
  subst w'
  rw [show numOf ((b.drop 4).take 4) = gn from HGN.out]
  by_cases g1 : 1 ≤ gn
  rotate_left
  · have HE : Hid (isSup b n = false) := hid (by unfold isSup; rw [HGN.out, decide_eq_false g1]; rfl)
    have hd : decide ((1 : Int) ≤ (gn : Int)) = false := by simp; omega
    go_wp2_with fail
    go_quiet (fail)
    have HFD := hid (HF3.out.below (below_drewN (Below.refl w3.heap.size w3) nq) HF3.out.lt)
    have cF := HFD.out.cell (j := 0) rfl
    have fF := HFD.out.free 0
    go_wp2
    refine bodyPost_ret (results_cellrow_tmp rfl _ _ gF 155 #[.int .i64 (gn : Nat)] (0, 0) _ rfl (HFD.out.set 0 (.int .i64 (gn : Nat))) Try.underlying155 rfl (by kernel_rfl)) rfl ⟨by rw [HE.out, HGN.out]; rfl, ?_⟩
    exact (below_drewN HBW.out nq).setCell (p := ⟨gF, 0, none⟩) (by rw [HG.out]; exact Nat.le_refl _) _
  by_cases g2 : gn ≤ 2147483647
  rotate_left
  · have HE : Hid (isSup b n = false) := hid (by unfold isSup; rw [HGN.out, decide_eq_false g2]; simp)
    have hd : decide ((1 : Int) ≤ (gn : Int)) = true := by simp; omega
    have hd2 : decide ((gn : Int) ≤ 2147483647) = false := by simp; omega
    go_wp2_with fail
    go_quiet (fail)
    have HFD := hid (HF3.out.below (below_drewN (Below.refl w3.heap.size w3) nq) HF3.out.lt)
    have cF := HFD.out.cell (j := 0) rfl
    have fF := HFD.out.free 0
    go_wp2
    refine bodyPost_ret (results_cellrow_tmp rfl _ _ gF 155 #[.int .i64 (gn : Nat)] (0, 0) _ rfl (HFD.out.set 0 (.int .i64 (gn : Nat))) Try.underlying155 rfl (by kernel_rfl)) rfl ⟨by rw [HE.out, HGN.out]; rfl, ?_⟩
    exact (below_drewN HBW.out nq).setCell (p := ⟨gF, 0, none⟩) (by rw [HG.out]; exact Nat.le_refl _) _
  have hd : decide ((1 : Int) ≤ (gn : Int)) = true := by simp; omega
  have hd2 : decide ((gn : Int) ≤ 2147483647) = true := by simp; omega
  have HE : Hid (isSup b n = (sameB (b.take 32) (supHalf gn n) && sameB (b.take 32) (b.drop 32))) := hid (by unfold isSup; rw [HGN.out, decide_eq_true g1, decide_eq_true g2]; simp)
  go_wp2_with fail
  cases hs1 : sameB (b.take 32) (supHalf gn n)
  · have HS1 := hid hs1
    clear hs1
    refine wp_region_held_drew (S := fun w' => w'.rangeAt gH 0 (bv (b.take 32)) ∧ w'.rangeAt g o (bv b)) (by kernel_rfl) ⟨H3.out.drew.range (fun j v hv => by rw [Nat.zero_add]; exact hv), (Keep.ofBelow (F := fun _ => False) (Below.refl _ _).drew).range HR3.out id⟩ (fun hS => ?_)
    refine wpAnyH_take (i := 0) (v := ?v0x1y) (by simp only [List.getElem?_toArray, List.getElem?_cons_zero]; exact rfl) (by kernel_rfl) (by kernel_rfl) (by kernel_rfl) (by exact fun _ _ _ h => h) (Or.inl ⟨by rfl, ?y0x1y⟩) hS ?r0x1y
    case y0x1y => (intro w' hSw; (try dsimp only at hSw); go_simp; (try with_reducible rfl))
    simp only [Act.put, List.setIfInBounds_toArray, List.set_cons_zero, List.set_cons_succ]
    refine wpAnyH_take (i := 1) (v := ?v1x2y) (by simp only [List.getElem?_toArray, List.getElem?_cons_zero, List.getElem?_cons_succ]; exact rfl) (by kernel_rfl) (by kernel_rfl) (by kernel_rfl) (by exact fun _ _ _ h => h) (Or.inl ⟨by rfl, ?y1x2y⟩) hS ?r1x2y
    case y1x2y => (intro w' hSw; (try dsimp only at hSw); go_simp; (try with_reducible rfl))
    simp only [Act.put, List.setIfInBounds_toArray, List.set_cons_zero, List.set_cons_succ]
    refine wpAnyH_take (i := 2) (v := ?v2x3y) (by simp only [List.getElem?_toArray, List.getElem?_cons_zero, List.getElem?_cons_succ]; exact rfl) (by kernel_rfl) (by kernel_rfl) (by kernel_rfl) (by exact fun _ _ _ h => h) (Or.inl ⟨by rfl, ?y2x3y⟩) hS ?r2x3y
    case y2x3y => (intro w' hSw; (try dsimp only at hSw); go_simp; (try with_reducible rfl))
    simp only [Act.put, List.setIfInBounds_toArray, List.set_cons_zero, List.set_cons_succ]
    refine wpAnyH_take (i := 3) (v := ?v3x4y) (by simp only [List.getElem?_toArray, List.getElem?_cons_zero, List.getElem?_cons_succ]; exact rfl) (by kernel_rfl) (by kernel_rfl) (by kernel_rfl) (by exact fun _ _ _ h => h) (Or.inl ⟨by rfl, ?y3x4y⟩) hS ?r3x4y
    case y3x4y => (intro w' hSw; (try dsimp only at hSw); go_simp; (try with_reducible rfl))
    simp only [Act.put, List.setIfInBounds_toArray, List.set_cons_zero, List.set_cons_succ]
    refine wpAnyH_take (i := 4) (v := ?v4x5y) (by simp only [List.getElem?_toArray, List.getElem?_cons_zero, List.getElem?_cons_succ]; exact rfl) (by kernel_rfl) (by kernel_rfl) (by kernel_rfl) (by exact fun _ _ _ h => h) (Or.inl ⟨by rfl, ?y4x5y⟩) hS ?r4x5y
    case y4x5y => (intro w' hSw; (try dsimp only at hSw); go_simp; (try with_reducible rfl))
    simp only [Act.put, List.setIfInBounds_toArray, List.set_cons_zero, List.set_cons_succ]
    refine wpAnyH_take (i := 5) (v := ?v5x6y) (by simp only [List.getElem?_toArray, List.getElem?_cons_zero, List.getElem?_cons_succ]; exact rfl) (by kernel_rfl) (by kernel_rfl) (by kernel_rfl) (by exact fun _ _ _ h => h) (Or.inl ⟨by rfl, ?y5x6y⟩) hS ?r5x6y
    case y5x6y => (intro w' hSw; (try dsimp only at hSw); go_simp; (try with_reducible rfl))
    simp only [Act.put, List.setIfInBounds_toArray, List.set_cons_zero, List.set_cons_succ]
    refine wpAnyH_take (i := 6) (v := ?v6x7y) (by simp only [List.getElem?_toArray, List.getElem?_cons_zero, List.getElem?_cons_succ]; exact rfl) (by kernel_rfl) (by kernel_rfl) (by kernel_rfl) (by exact fun _ _ _ h => h) (Or.inl ⟨by rfl, ?y6x7y⟩) hS ?r6x7y
    case y6x7y => (intro w' hSw; (try dsimp only at hSw); go_simp; (try with_reducible rfl))
    simp only [Act.put, List.setIfInBounds_toArray, List.set_cons_zero, List.set_cons_succ]
    refine wpAnyH_take (i := 7) (v := ?v7x8y) (by simp only [List.getElem?_toArray, List.getElem?_cons_zero, List.getElem?_cons_succ]; exact rfl) (by kernel_rfl) (by kernel_rfl) (by kernel_rfl) (by exact fun _ _ _ h => h) ?y7x8y hS ?r7x8y
    case y7x8y => (refine yieldsIf_load_mid ?_ 172 (.tmp 6) ?_ gH 0 ?_ (bv (b.take 32)) _ ?_ Try.underlying172 ?_ ?_; rfl; rfl; rfl; exact (fun w' hSw => hSw.1); rfl; (rw [bv_length, HH1.out]; exact half_info))
    simp only [Act.put, List.setIfInBounds_toArray, List.set_cons_zero, List.set_cons_succ]
    refine wpAnyH_take (i := 8) (v := ?v8x9y) (by simp only [List.getElem?_toArray, List.getElem?_cons_zero, List.getElem?_cons_succ]; exact rfl) (by kernel_rfl) (by kernel_rfl) (by kernel_rfl) (by exact fun _ _ _ h => h) (Or.inl ⟨by rfl, ?y8x9y⟩) hS ?r8x9y
    case y8x9y => (intro w' hSw; (try dsimp only at hSw); go_simp; (try with_reducible rfl))
    simp only [Act.put, List.setIfInBounds_toArray, List.set_cons_zero, List.set_cons_succ]
    refine wpAnyH_take (i := 9) (v := ?v9x10y) (by simp only [List.getElem?_toArray, List.getElem?_cons_zero, List.getElem?_cons_succ]; exact rfl) (by kernel_rfl) (by kernel_rfl) (by kernel_rfl) (by exact fun _ _ _ h => h) (Or.inl ⟨by rfl, ?y9x10y⟩) hS ?r9x10y
    case y9x10y => (intro w' hSw; (try dsimp only at hSw); go_simp; (try with_reducible rfl))
    simp only [Act.put, List.setIfInBounds_toArray, List.set_cons_zero, List.set_cons_succ]
    refine wpAnyH_ready (rs := [10]) (by kernel_rfl) (by simp) ?_
    refine AllReadyH.cons (by simp only [List.getElem?_toArray, List.getElem?_cons_zero, List.getElem?_cons_succ]; exact rfl) (fun K hK => ?_) AllReadyH.nil
    go_simp
    refine (vsuper_any gn n (by omega) (by omega) _).mono ?_
    rintro e w5 ⟨rfl, hb5⟩
    have HBW := hid (HBW.out.drew.trans (hb5.mono HBW.out.drew.size))
    have HF3 := hid (HF3.out.drew.below hb5 HF3.out.drew.lt)
    have hS5 := And.intro ((Keep.ofBelow (F := fun _ => False) hb5).range hS.1 id) ((Keep.ofBelow (F := fun _ => False) hb5).range hS.2 id)
    clear hb5
    refine hK.out _ _ ?k10x11y (fun hS => ?s10x11y)
    case k10x11y => exact hS5
    clear hK K
    try simp only [Act.put, List.setIfInBounds_toArray, List.set_cons_zero, List.set_cons_succ]
    refine wpAnyH_ready (rs := [11]) (by kernel_rfl) (by simp) ?_
    refine AllReadyH.cons (by simp only [List.getElem?_toArray, List.getElem?_cons_zero, List.getElem?_cons_succ]; exact rfl) (fun K hK => ?_) AllReadyH.nil
    refine wpo_eqlA (.tmp 22) (.tmp 25) rfl (b.take 32) (supHalf gn n) rfl rfl HH1.out (supHalf_len _ _) ?_
    rw [HS1.out]
    refine hK.out _ _ ?k11x12y (fun hS => ?s11x12y)
    case k11x12y => exact hS
    clear hK K
    try simp only [Act.put, List.setIfInBounds_toArray, List.set_cons_zero, List.set_cons_succ]
    refine wpAnyH_take (i := 12) (v := ?v12x13y) (by simp only [List.getElem?_toArray, List.getElem?_cons_zero, List.getElem?_cons_succ]; exact rfl) (by kernel_rfl) (by kernel_rfl) (by kernel_rfl) (by exact fun _ _ _ h => h) (Or.inl ⟨by rfl, ?y12x13y⟩) hS ?r12x13y
    case y12x13y => (intro w' hSw; (try dsimp only at hSw); go_simp; (try with_reducible rfl))
    simp only [Act.put, List.setIfInBounds_toArray, List.set_cons_zero, List.set_cons_succ]
    refine wpAnyH_take (i := 13) (v := ?v13x14y) (by simp only [List.getElem?_toArray, List.getElem?_cons_zero, List.getElem?_cons_succ]; exact rfl) (by kernel_rfl) (by kernel_rfl) (by kernel_rfl) (by exact fun _ _ _ h => h) (Or.inl ⟨by rfl, ?y13x14y⟩) hS ?r13x14y
    case y13x14y => (intro w' hSw; (try dsimp only at hSw); go_simp; (try with_reducible rfl))
    simp only [Act.put, List.setIfInBounds_toArray, List.set_cons_zero, List.set_cons_succ]
    refine wpAnyH_take (i := 14) (v := undef) (by simp only [List.getElem?_toArray, List.getElem?_cons_zero, List.getElem?_cons_succ]; exact rfl) (by kernel_rfl) (by kernel_rfl) (by kernel_rfl) (by exact fun _ _ _ h => h) (Or.inr ⟨by rfl, rfl⟩) hS ?_
    simp only [Act.put, List.setIfInBounds_toArray, List.set_cons_zero, List.set_cons_succ]
    refine wpAnyH_take (i := 15) (v := undef) (by simp only [List.getElem?_toArray, List.getElem?_cons_zero, List.getElem?_cons_succ]; exact rfl) (by kernel_rfl) (by kernel_rfl) (by kernel_rfl) (by exact fun _ _ _ h => h) (Or.inr ⟨by rfl, rfl⟩) hS ?_
    simp only [Act.put, List.setIfInBounds_toArray, List.set_cons_zero, List.set_cons_succ]
    refine wpAnyH_take (i := 16) (v := undef) (by simp only [List.getElem?_toArray, List.getElem?_cons_zero, List.getElem?_cons_succ]; exact rfl) (by kernel_rfl) (by kernel_rfl) (by kernel_rfl) (by exact fun _ _ _ h => h) (Or.inr ⟨by rfl, rfl⟩) hS ?_
    simp only [Act.put, List.setIfInBounds_toArray, List.set_cons_zero, List.set_cons_succ]
    refine wpAnyH_take (i := 17) (v := undef) (by simp only [List.getElem?_toArray, List.getElem?_cons_zero, List.getElem?_cons_succ]; exact rfl) (by kernel_rfl) (by kernel_rfl) (by kernel_rfl) (by exact fun _ _ _ h => h) (Or.inr ⟨by rfl, rfl⟩) hS ?_
    simp only [Act.put, List.setIfInBounds_toArray, List.set_cons_zero, List.set_cons_succ]
    refine wpAnyH_take (i := 18) (v := undef) (by simp only [List.getElem?_toArray, List.getElem?_cons_zero, List.getElem?_cons_succ]; exact rfl) (by kernel_rfl) (by kernel_rfl) (by kernel_rfl) (by exact fun _ _ _ h => h) (Or.inr ⟨by rfl, rfl⟩) hS ?_
    simp only [Act.put, List.setIfInBounds_toArray, List.set_cons_zero, List.set_cons_succ]
    refine wpAnyH_take (i := 19) (v := undef) (by simp only [List.getElem?_toArray, List.getElem?_cons_zero, List.getElem?_cons_succ]; exact rfl) (by kernel_rfl) (by kernel_rfl) (by kernel_rfl) (by exact fun _ _ _ h => h) (Or.inr ⟨by rfl, rfl⟩) hS ?_
    simp only [Act.put, List.setIfInBounds_toArray, List.set_cons_zero, List.set_cons_succ]
    refine wpAnyH_take (i := 20) (v := ?v20x21y) (by simp only [List.getElem?_toArray, List.getElem?_cons_zero, List.getElem?_cons_succ]; exact rfl) (by kernel_rfl) (by kernel_rfl) (by kernel_rfl) (by exact fun _ _ _ h => h) (Or.inl ⟨by rfl, ?y20x21y⟩) hS ?r20x21y
    case y20x21y => (intro w' hSw; (try dsimp only at hSw); go_simp; (try with_reducible rfl))
    simp only [Act.put, List.setIfInBounds_toArray, List.set_cons_zero, List.set_cons_succ]
    refine wpAnyH_take (i := 21) (v := ?v21x22y) (by simp only [List.getElem?_toArray, List.getElem?_cons_zero, List.getElem?_cons_succ]; exact rfl) (by kernel_rfl) (by kernel_rfl) (by kernel_rfl) (by exact fun _ _ _ h => h) (Or.inl ⟨by rfl, ?y21x22y⟩) hS ?r21x22y
    case y21x22y => (intro w' hSw; (try dsimp only at hSw); go_simp; (try with_reducible rfl))
    simp only [Act.put, List.setIfInBounds_toArray, List.set_cons_zero, List.set_cons_succ]
    refine wpAnyH_done (by kernel_rfl) ?_ _
    clear hS
    have cF := HF3.out.cell (j := 0) rfl
    have fF := HF3.out.free 0
    go_wp2
    refine bodyPost_ret (results_cellrow_tmp rfl _ _ gF 155 #[.int .i64 (gn : Nat)] (0, 0) _ rfl (HF3.out.set 0 (.int .i64 (gn : Nat))) Try.underlying155 rfl (by kernel_rfl)) rfl ⟨by rw [HE.out, HGN.out, HS1.out]; rfl, ?_⟩
    exact HBW.out.setCell (p := ⟨gF, 0, none⟩) (by rw [HG.out]; exact Nat.le_refl _) _
  · have HS1 := hid hs1
    clear hs1
    refine wp_region_held_drew (S := fun w' => w'.rangeAt gH 0 (bv (b.take 32)) ∧ w'.rangeAt g o (bv b)) (by kernel_rfl) ⟨H3.out.drew.range (fun j v hv => by rw [Nat.zero_add]; exact hv), (Keep.ofBelow (F := fun _ => False) (Below.refl _ _).drew).range HR3.out id⟩ (fun hS => ?_)
    refine wpAnyH_take (i := 0) (v := ?v0x1z) (by simp only [List.getElem?_toArray, List.getElem?_cons_zero]; exact rfl) (by kernel_rfl) (by kernel_rfl) (by kernel_rfl) (by exact fun _ _ _ h => h) (Or.inl ⟨by rfl, ?y0x1z⟩) hS ?r0x1z
    case y0x1z => (intro w' hSw; (try dsimp only at hSw); go_simp; (try with_reducible rfl))
    simp only [Act.put, List.setIfInBounds_toArray, List.set_cons_zero, List.set_cons_succ]
    refine wpAnyH_take (i := 1) (v := ?v1x2z) (by simp only [List.getElem?_toArray, List.getElem?_cons_zero, List.getElem?_cons_succ]; exact rfl) (by kernel_rfl) (by kernel_rfl) (by kernel_rfl) (by exact fun _ _ _ h => h) (Or.inl ⟨by rfl, ?y1x2z⟩) hS ?r1x2z
    case y1x2z => (intro w' hSw; (try dsimp only at hSw); go_simp; (try with_reducible rfl))
    simp only [Act.put, List.setIfInBounds_toArray, List.set_cons_zero, List.set_cons_succ]
    refine wpAnyH_take (i := 2) (v := ?v2x3z) (by simp only [List.getElem?_toArray, List.getElem?_cons_zero, List.getElem?_cons_succ]; exact rfl) (by kernel_rfl) (by kernel_rfl) (by kernel_rfl) (by exact fun _ _ _ h => h) (Or.inl ⟨by rfl, ?y2x3z⟩) hS ?r2x3z
    case y2x3z => (intro w' hSw; (try dsimp only at hSw); go_simp; (try with_reducible rfl))
    simp only [Act.put, List.setIfInBounds_toArray, List.set_cons_zero, List.set_cons_succ]
    refine wpAnyH_take (i := 3) (v := ?v3x4z) (by simp only [List.getElem?_toArray, List.getElem?_cons_zero, List.getElem?_cons_succ]; exact rfl) (by kernel_rfl) (by kernel_rfl) (by kernel_rfl) (by exact fun _ _ _ h => h) (Or.inl ⟨by rfl, ?y3x4z⟩) hS ?r3x4z
    case y3x4z => (intro w' hSw; (try dsimp only at hSw); go_simp; (try with_reducible rfl))
    simp only [Act.put, List.setIfInBounds_toArray, List.set_cons_zero, List.set_cons_succ]
    refine wpAnyH_take (i := 4) (v := ?v4x5z) (by simp only [List.getElem?_toArray, List.getElem?_cons_zero, List.getElem?_cons_succ]; exact rfl) (by kernel_rfl) (by kernel_rfl) (by kernel_rfl) (by exact fun _ _ _ h => h) (Or.inl ⟨by rfl, ?y4x5z⟩) hS ?r4x5z
    case y4x5z => (intro w' hSw; (try dsimp only at hSw); go_simp; (try with_reducible rfl))
    simp only [Act.put, List.setIfInBounds_toArray, List.set_cons_zero, List.set_cons_succ]
    refine wpAnyH_take (i := 5) (v := ?v5x6z) (by simp only [List.getElem?_toArray, List.getElem?_cons_zero, List.getElem?_cons_succ]; exact rfl) (by kernel_rfl) (by kernel_rfl) (by kernel_rfl) (by exact fun _ _ _ h => h) (Or.inl ⟨by rfl, ?y5x6z⟩) hS ?r5x6z
    case y5x6z => (intro w' hSw; (try dsimp only at hSw); go_simp; (try with_reducible rfl))
    simp only [Act.put, List.setIfInBounds_toArray, List.set_cons_zero, List.set_cons_succ]
    refine wpAnyH_take (i := 6) (v := ?v6x7z) (by simp only [List.getElem?_toArray, List.getElem?_cons_zero, List.getElem?_cons_succ]; exact rfl) (by kernel_rfl) (by kernel_rfl) (by kernel_rfl) (by exact fun _ _ _ h => h) (Or.inl ⟨by rfl, ?y6x7z⟩) hS ?r6x7z
    case y6x7z => (intro w' hSw; (try dsimp only at hSw); go_simp; (try with_reducible rfl))
    simp only [Act.put, List.setIfInBounds_toArray, List.set_cons_zero, List.set_cons_succ]
    refine wpAnyH_take (i := 7) (v := ?v7x8z) (by simp only [List.getElem?_toArray, List.getElem?_cons_zero, List.getElem?_cons_succ]; exact rfl) (by kernel_rfl) (by kernel_rfl) (by kernel_rfl) (by exact fun _ _ _ h => h) ?y7x8z hS ?r7x8z
    case y7x8z => (refine yieldsIf_load_mid ?_ 172 (.tmp 6) ?_ gH 0 ?_ (bv (b.take 32)) _ ?_ Try.underlying172 ?_ ?_; rfl; rfl; rfl; exact (fun w' hSw => hSw.1); rfl; (rw [bv_length, HH1.out]; exact half_info))
    simp only [Act.put, List.setIfInBounds_toArray, List.set_cons_zero, List.set_cons_succ]
    refine wpAnyH_take (i := 8) (v := ?v8x9z) (by simp only [List.getElem?_toArray, List.getElem?_cons_zero, List.getElem?_cons_succ]; exact rfl) (by kernel_rfl) (by kernel_rfl) (by kernel_rfl) (by exact fun _ _ _ h => h) (Or.inl ⟨by rfl, ?y8x9z⟩) hS ?r8x9z
    case y8x9z => (intro w' hSw; (try dsimp only at hSw); go_simp; (try with_reducible rfl))
    simp only [Act.put, List.setIfInBounds_toArray, List.set_cons_zero, List.set_cons_succ]
    refine wpAnyH_take (i := 9) (v := ?v9x10z) (by simp only [List.getElem?_toArray, List.getElem?_cons_zero, List.getElem?_cons_succ]; exact rfl) (by kernel_rfl) (by kernel_rfl) (by kernel_rfl) (by exact fun _ _ _ h => h) (Or.inl ⟨by rfl, ?y9x10z⟩) hS ?r9x10z
    case y9x10z => (intro w' hSw; (try dsimp only at hSw); go_simp; (try with_reducible rfl))
    simp only [Act.put, List.setIfInBounds_toArray, List.set_cons_zero, List.set_cons_succ]
    refine wpAnyH_ready (rs := [10]) (by kernel_rfl) (by simp) ?_
    refine AllReadyH.cons (by simp only [List.getElem?_toArray, List.getElem?_cons_zero, List.getElem?_cons_succ]; exact rfl) (fun K hK => ?_) AllReadyH.nil
    go_simp
    refine (vsuper_any gn n (by omega) (by omega) _).mono ?_
    rintro e w5 ⟨rfl, hb5⟩
    have HBW := hid (HBW.out.drew.trans (hb5.mono HBW.out.drew.size))
    have HF3 := hid (HF3.out.drew.below hb5 HF3.out.drew.lt)
    have hS5 := And.intro ((Keep.ofBelow (F := fun _ => False) hb5).range hS.1 id) ((Keep.ofBelow (F := fun _ => False) hb5).range hS.2 id)
    clear hb5
    refine hK.out _ _ ?k10x11z (fun hS => ?s10x11z)
    case k10x11z => exact hS5
    clear hK K
    try simp only [Act.put, List.setIfInBounds_toArray, List.set_cons_zero, List.set_cons_succ]
    refine wpAnyH_ready (rs := [11]) (by kernel_rfl) (by simp) ?_
    refine AllReadyH.cons (by simp only [List.getElem?_toArray, List.getElem?_cons_zero, List.getElem?_cons_succ]; exact rfl) (fun K hK => ?_) AllReadyH.nil
    refine wpo_eqlA (.tmp 22) (.tmp 25) rfl (b.take 32) (supHalf gn n) rfl rfl HH1.out (supHalf_len _ _) ?_
    rw [HS1.out]
    refine hK.out _ _ ?k11x12z (fun hS => ?s11x12z)
    case k11x12z => exact hS
    clear hK K
    try simp only [Act.put, List.setIfInBounds_toArray, List.set_cons_zero, List.set_cons_succ]
    refine wpAnyH_take (i := 12) (v := ?v12x13z) (by simp only [List.getElem?_toArray, List.getElem?_cons_zero, List.getElem?_cons_succ]; exact rfl) (by kernel_rfl) (by kernel_rfl) (by kernel_rfl) (by exact fun _ _ _ h => h) (Or.inl ⟨by rfl, ?y12x13z⟩) hS ?r12x13z
    case y12x13z => (intro w' hSw; (try dsimp only at hSw); go_simp; (try with_reducible rfl))
    simp only [Act.put, List.setIfInBounds_toArray, List.set_cons_zero, List.set_cons_succ]
    refine wpAnyH_take (i := 13) (v := ?v13x14z) (by simp only [List.getElem?_toArray, List.getElem?_cons_zero, List.getElem?_cons_succ]; exact rfl) (by kernel_rfl) (by kernel_rfl) (by kernel_rfl) (by exact fun _ _ _ h => h) (Or.inl ⟨by rfl, ?y13x14z⟩) hS ?r13x14z
    case y13x14z => (intro w' hSw; (try dsimp only at hSw); go_simp; (try with_reducible rfl))
    simp only [Act.put, List.setIfInBounds_toArray, List.set_cons_zero, List.set_cons_succ]
    refine wpAnyH_take (i := 14) (v := ?v14x15z) (by simp only [List.getElem?_toArray, List.getElem?_cons_zero, List.getElem?_cons_succ]; exact rfl) (by kernel_rfl) (by kernel_rfl) (by kernel_rfl) (by exact fun _ _ _ h => h) ?y14x15z hS ?r14x15z
    case y14x15z => (refine yieldsIf_load_mid ?_ 172 (.tmp 6) ?_ gH 0 ?_ (bv (b.take 32)) _ ?_ Try.underlying172 ?_ ?_; rfl; rfl; rfl; exact (fun w' hSw => hSw.1); rfl; (rw [bv_length, HH1.out]; exact half_info))
    simp only [Act.put, List.setIfInBounds_toArray, List.set_cons_zero, List.set_cons_succ]
    refine wpAnyH_take (i := 15) (v := ?v15x16z) (by simp only [List.getElem?_toArray, List.getElem?_cons_zero, List.getElem?_cons_succ]; exact rfl) (by kernel_rfl) (by kernel_rfl) (by kernel_rfl) (by exact fun _ _ _ h => h) (Or.inl ⟨by rfl, ?y15x16z⟩) hS ?r15x16z
    case y15x16z => (intro w' hSw; (try dsimp only at hSw); go_simp; (try with_reducible rfl))
    simp only [Act.put, List.setIfInBounds_toArray, List.set_cons_zero, List.set_cons_succ]
    refine wpAnyH_take (i := 16) (v := ?v16x17z) (by simp only [List.getElem?_toArray, List.getElem?_cons_zero, List.getElem?_cons_succ]; exact rfl) (by kernel_rfl) (by kernel_rfl) (by kernel_rfl) (by exact fun _ _ _ h => h) (Or.inl ⟨by rfl, ?y16x17z⟩) hS ?r16x17z
    case y16x17z => (intro w' hSw; (try dsimp only at hSw); go_simp; (try with_reducible rfl))
    simp only [Act.put, List.setIfInBounds_toArray, List.set_cons_zero, List.set_cons_succ]
    refine wpAnyH_take (i := 17) (v := ?v17x18z) (by simp only [List.getElem?_toArray, List.getElem?_cons_zero, List.getElem?_cons_succ]; exact rfl) (by kernel_rfl) (by kernel_rfl) (by kernel_rfl) (by exact fun _ _ _ h => h) (Or.inl ⟨by rfl, ?y17x18z⟩) hS ?r17x18z
    case y17x18z => (intro w' hSw; (try dsimp only at hSw); go_simp; (try with_reducible rfl))
    simp only [Act.put, List.setIfInBounds_toArray, List.set_cons_zero, List.set_cons_succ]
    refine wpAnyH_take (i := 18) (v := ?v18x19z) (by simp only [List.getElem?_toArray, List.getElem?_cons_zero, List.getElem?_cons_succ]; exact rfl) (by kernel_rfl) (by kernel_rfl) (by kernel_rfl) (by exact fun _ _ _ h => h) ?y18x19z hS ?r18x19z
    case y18x19z => (refine yieldsIf_load_mid ?_ 172 (.tmp 32) ?_ g (o + 32) ?_ (bv (b.drop 32)) _ ?_ Try.underlying172 ?_ ?_; rfl; rfl; rfl; exact (fun w' hSw => HR2.out _ hSw.2); rfl; (rw [bv_length, HH2.out]; exact half_info))
    simp only [Act.put, List.setIfInBounds_toArray, List.set_cons_zero, List.set_cons_succ]
    refine wpAnyH_ready (rs := [19]) (by kernel_rfl) (by simp) ?_
    refine AllReadyH.cons (by simp only [List.getElem?_toArray, List.getElem?_cons_zero, List.getElem?_cons_succ]; exact rfl) (fun K hK => ?_) AllReadyH.nil
    refine wpo_eqlA (.tmp 29) (.tmp 33) rfl (b.take 32) (b.drop 32) rfl rfl HH1.out HH2.out ?_
    refine hK.out _ _ ?k19x20z (fun hS => ?s19x20z)
    case k19x20z => exact hS
    clear hK K
    try simp only [Act.put, List.setIfInBounds_toArray, List.set_cons_zero, List.set_cons_succ]
    refine wpAnyH_take (i := 20) (v := ?v20x21z) (by simp only [List.getElem?_toArray, List.getElem?_cons_zero, List.getElem?_cons_succ]; exact rfl) (by kernel_rfl) (by kernel_rfl) (by kernel_rfl) (by exact fun _ _ _ h => h) (Or.inl ⟨by rfl, ?y20x21z⟩) hS ?r20x21z
    case y20x21z => (intro w' hSw; (try dsimp only at hSw); go_simp; (try with_reducible rfl))
    simp only [Act.put, List.setIfInBounds_toArray, List.set_cons_zero, List.set_cons_succ]
    refine wpAnyH_take (i := 21) (v := ?v21x22z) (by simp only [List.getElem?_toArray, List.getElem?_cons_zero, List.getElem?_cons_succ]; exact rfl) (by kernel_rfl) (by kernel_rfl) (by kernel_rfl) (by exact fun _ _ _ h => h) (Or.inl ⟨by rfl, ?y21x22z⟩) hS ?r21x22z
    case y21x22z => (intro w' hSw; (try dsimp only at hSw); go_simp; (try with_reducible rfl))
    simp only [Act.put, List.setIfInBounds_toArray, List.set_cons_zero, List.set_cons_succ]
    refine wpAnyH_done (by kernel_rfl) ?_ _
    clear hS
    have cF := HF3.out.cell (j := 0) rfl
    have fF := HF3.out.free 0
    go_wp2
    refine bodyPost_ret (results_cellrow_tmp rfl _ _ gF 155 #[.int .i64 (gn : Nat)] (0, 0) _ rfl (HF3.out.set 0 (.int .i64 (gn : Nat))) Try.underlying155 rfl (by kernel_rfl)) rfl ⟨by rw [HE.out, HGN.out, HS1.out]; rfl, ?_⟩
    exact HBW.out.setCell (p := ⟨gF, 0, none⟩) (by rw [HG.out]; exact Nat.le_refl _) _
end Go.Proofs.Ytlondopgibcikaa
namespace Go.Proofs.Ytlondopgibcikaa
open Go.RowKit Ent
set_option maxRecDepth 100000 in
set_option maxHeartbeats 400000 in
theorem vall_any (g n : Nat) (hn : n ≤ 1000) (ids : Nat → FuncId) (firsts caps : Nat → Array Value) (I : Nat → World → Prop) (R : Int → World → Prop)
    (hcell : ∀ i w, i < n → I i w → w.cell? ⟨g, i, none⟩ = some (.func (.func (ids i)) (firsts i) (caps i)))
    (hstep : ∀ i w, i < n → I i w → Calls Try.prog (ids i) (firsts i ++ caps i) w fun e w' => ∃ c : Int, e = .returned (.int .i64 c) ∧ (c = 0 → I (i + 1) w') ∧ (c ≠ 0 → R c w'))
    (henter : ∀ i, i < n → ∀ (xs : Array Value) (w : World), (callFunc (ids i) xs).run Try.prog w = .ok (.enter (ids i) xs) w) (w : World) (h0 : I 0 w) :
    Calls Try.prog 125 #[.slice (some ⟨g, 0, none⟩) n n] w fun e w' => ∃ c : Int, e = .returned (.int .i64 c) ∧ (c = 0 → I n w') ∧ (c ≠ 0 → R c w') := by
  have HC := hid hcell; have HS := hid hstep; have H0 := hid h0; have HE := hid henter
  clear hcell hstep h0 henter
  go_enter Try.func125, Try.ntmps125
  go_wp2_with fail
  go_loopw [8] (fun i wr => ∃ k : Nat, k ≤ n ∧ i = .int .i64 k ∧ I k wr) (fun i _ => n - (intOf i).toNat)
  case atStart => exact ⟨0, Nat.zero_le _, rfl, H0.out⟩
  case round =>
    obtain ⟨k, hk, rfl, hi⟩ := hrel
    have HI := hid hi
    clear hi
    by_cases hlt : k < n
    · have hc := HC.out k wr hlt HI.out
      have HST := hid (HS.out k wr hlt HI.out)
      go_wp2_with fail
      rw [HE.out k hlt, Oper.upon_enter]
      refine HST.out.mono ?_
      rintro e w2 ⟨c, rfl, h1, h2⟩
      by_cases hc0 : c = 0
      · subst hc0
        have HI2 := hid (h1 rfl)
        clear h1 h2 hc
        go_wp2
        go_roundw
        case rel => exact ⟨k + 1, by omega, by go_num, HI2.out⟩
        case measure => simp [intOf]; omega
      · have HR2 := hid (h2 hc0)
        have HN := hid hc0
        have hz : (c == 0) = false := by simpa using hc0
        have hz2 : (c != 0) = true := by simpa using hc0
        clear h1 h2 hc hc0
        go_wp2
        go_ret
        exact ⟨c, rfl, fun h => absurd h HN.out, fun _ => HR2.out⟩
    · obtain rfl : k = n := by omega
      go_wp2
      go_ret
      exact ⟨0, rfl, fun _ => HI.out, fun h => absurd rfl h⟩
theorem enter_flush (xs : Array Value) (w : World) : (callFunc 41 xs).run Try.prog w = .ok (.enter 41 xs) w := by kernel_rfl
end Go.Proofs.Ytlondopgibcikaa
namespace Go.Proofs.Ytlondopgibcikaa
open Go.RowKit Ent
theorem run_append_zeros {P : Program} (w : World) (t u ty e : TypeId) (i : TypeInfo) (z : Value) (ht : P.underlying t = some (.slice e)) (hu : P.underlying u = some (.int .i64)) (hi : P.info? e = some i) (hz : i.zero = some z)
    (n : Nat) (h0 : 0 < n) (hs : n * i.size ≠ 0) (h63 : n ≤ 65536) (h48 : n * i.bytes ≤ 281474976710656) :
    (Builtin.append_ #[t, u] ty #[.slice none 0 0, .int .i64 (n : Int)]).run P w =
      .ok (.slice (some ⟨w.heap.size, 0, none⟩) n (grownCap w n 0 e)) (w.drew.alloc (.cells (Builtin.zeroCells z.cells n ++ Builtin.zeroCells z.cells (grownCap w n 0 e - n)) e)) := by
  have hn : n ≠ 0 := by omega
  have h63' : ¬ (9223372036854775807 < (n : Int)) := by omega
  have h48' : ¬ (281474976710656 < Builtin.nextslicecap n 0 * i.bytes) := by rw [nextslicecap_zero h0]; omega
  have hw : IntKind.i64.wrap (n : Int) = (n : Int) := IntWalk.i64_in _ (by omega)
  have hb : ¬ ((281474976710656 : Int) < (n : Int) * (i.bytes : Int)) := by
    rw [← Int.natCast_mul]; omega
  have hneg : ¬ ((n : Int) < 0) := by omega
  have hmax : max (n : Int) 0 = (n : Int) := by omega
  simp [Builtin.append_, run_underlying ht, run_underlying hu, sizeOf, typeInfo, zeroValue, hi, hz, asInt, asIntOf, hw, hb, hneg, hmax, hn, hs, h63', h48', Question.forced, run_firstCells_none, newRow, grownCap]
theorem wpl_appendZ {w : World} {ops : Array Oper} {rest : List Oper} {o : Oper} {a : Act} {Q : Exit → Act → World → Prop} (hgd : o.guard = none) (s x : Operand)
    (ho : o.op = .call { callee := .builtin .append, args := #[s, x], argTypes := #[22, 3] })
    (n : Nat) (h0 : 0 < n) (h1 : n ≤ 65536) (hs : a.eval s = .slice none 0 0) (hx : a.eval x = .int .i64 n)
    (h : ∀ w' c, w'.ownsRow w.heap.size 5 1 (.slice (some ⟨w.heap.size, 0, none⟩) 0 c) 0 (bv []) → Below w.heap.size w w' → n ≤ c → wpList Try.prog ops Q rest (a.put o.dst (.slice (some ⟨w.heap.size, 0, none⟩) n c)) w') : wpList Try.prog ops Q (o :: rest) a w := by
  refine wpList_plain hgd fun _ hK => ?_
  obtain ⟨i, hi, hz0, hz1, hz2⟩ := info_u8
  have hag := run_append_zeros (P := Try.prog) w 22 3 o.type 5 i (.int .u8 0) Try.underlying22 Try.underlying3 hi hz0 n h0 (by rw [hz1]; omega) h1 (by rw [hz2]; omega)
  obtain ⟨gc, hgc⟩ : ∃ gc, grownCap w n 0 5 = gc := ⟨_, rfl⟩
  have hge : n ≤ gc := by rw [← hgc]; exact grownCap_ge w n 0 _
  have hle : gc ≤ maxLen := by rw [← hgc]; exact grownCap_le_maxLen w n 0 _ (by simp [maxLen]; omega)
  rw [hgc] at hag
  obtain ⟨w1, hw1⟩ : ∃ w1, w.drew.alloc (.cells (Builtin.zeroCells (Value.int .u8 0).cells n ++ Builtin.zeroCells (Value.int .u8 0).cells (gc - n)) 5) = w1 := ⟨_, rfl⟩
  have HO : w1.ownsRow w.heap.size 5 1 (.slice (some ⟨w.heap.size, 0, none⟩) 0 gc) 0 (bv []) := by
    rw [← hw1]
    exact World.ownsRow_made (base := w.heap.size) (e := 5) (size := 1) w.drew (Builtin.zeroCells (Value.int .u8 0).cells n ++ Builtin.zeroCells (Value.int .u8 0).cells (gc - n)) gc (Nat.le_refl _) hle (by rw [Array.size_append, size_zeroCells, size_zeroCells]; simp [Value.cells]; omega)
  have HB : Below w.heap.size w w1 := by rw [← hw1]; exact ((Below.refl _ _).drew).alloc (Nat.le_refl _) _
  rw [hw1] at hag
  have := h _ _ HO HB hge
  unfold Oper.wp execOp
  simp only [ho, resolve, invoke, builtin, Sem.run_bind, Sem.run_pure, Result.andThen_ok, List.map_toArray, List.map_cons, List.map_nil, hs, hx, hag]
  exact hK _ _ this
set_option maxRecDepth 100000 in
set_option maxHeartbeats 400000 in
theorem vgrow_nil (n : Nat) (h0 : 0 < n) (h1 : n ≤ 65536) (w : World) :
    Calls Try.prog 162 #[.slice none 0 0, .int .i64 n] w fun e w' => ∃ v, e = .returned v ∧ w'.ownsRow w.heap.size 5 1 v 0 (bv []) ∧ Below w.heap.size w w' := by
  have HD : Hid (decide ((n : Int) < 0) = false ∧ decide (0 < (n : Int)) = true) := hid ⟨by simp, by simpa using h0⟩
  have HW : Hid (IntKind.i64.wrap ((n : Int) - 0) = n) := hid (by rw [Int.sub_zero]; exact IntWalk.i64_in _ (by omega))
  have HW2 : Hid (IntKind.i64.wrap (n : Int) = n) := hid (IntWalk.i64_in _ (by omega))
  have hw := HW.out
  have hw2 := HW2.out
  have hd := HD.out.1
  have hd2 := HD.out.2
  have H0 := hid h0; have H1 := hid h1
  clear h0 h1
  go_enter Try.func162, Try.ntmps162
  go_wp2_with (refine wpl_appendZ rfl (.tmp 20) (.tmp 21) rfl n H0.out H1.out rfl rfl ?_; intro w1 c ho hb hc; have HO := hid ho; have HB := hid hb; clear ho hb)
  go_ret
  exact ⟨_, rfl, HO.out, HB.out⟩
set_option maxRecDepth 100000 in
set_option maxHeartbeats 1000000 in
theorem vconcat_two (g : Nat) (h : List UInt8) (hl : h.length = 32) (w : World) (hL : LR w (some ⟨g, 0, none⟩) [h, h]) :
    Calls Try.prog 158 #[.slice (some ⟨g, 0, none⟩) 2 2] w fun e w' => ∃ v, e = .returned v ∧ w'.ownsRow w.heap.size 5 1 v 64 (bv (h ++ h)) ∧ Below w.heap.size w w' := by
  have HH := hid hl; have HL := hid hL
  have hcell : ∀ k, k < 2 → ∃ lo cap, w.cell? ⟨g, k, none⟩ = some (.slice lo 32 cap) ∧ SB w lo cap h := by
    intro k hk
    rcases hL with hL | ⟨b, o, hbo, hL⟩
    · cases hL
    · cases hbo
      obtain ⟨lo, cap, hc, _, hs⟩ := hL k h (by rcases k with _ | _ | k <;> first | rfl | omega)
      exact ⟨lo, cap, by rw [hl] at hc; simpa using hc, hs⟩
  have HC := hid hcell
  clear hl hL hcell
  go_enter Try.func158, Try.ntmps158
  go_wp2_with fail
  go_loopw [3, 11] (fun v3 i wr => ∃ (k : Nat) (s : Int), k ≤ 2 ∧ s = 32 * (k : Int) ∧ v3 = .int .i64 s ∧ i = .int .i64 k ∧ wr = w) (fun _ i _ => 2 - (intOf i).toNat)
  case atStart => exact ⟨0, 0, Nat.zero_le _, rfl, rfl, rfl, rfl⟩
  case round =>
    obtain ⟨k, s, hk, hs, rfl, rfl, hwr⟩ := hrel
    subst wr
    by_cases hlt : k < 2
    · obtain ⟨lo, cap, cx, _⟩ := HC.out k hlt
      obtain ⟨t, ht⟩ : ∃ t : Int, t = s + 32 := ⟨_, rfl⟩
      have q1 : IntKind.i64.wrap (s + 32) = t := by rw [IntWalk.i64_in _ (by omega)]; omega
      have q2 : decide (t < 0) = false := decide_eq_false (by omega)
      have HT := hid ht; have HS := hid hs
      clear ht hs
      go_wp2_with fail
      go_roundw
      case rel => exact ⟨k + 1, t, by omega, by have := HT.out; have := HS.out; omega, by trivial, by go_num, by trivial⟩
      case measure => simp [intOf]; omega
    · obtain rfl : k = 2 := by omega
      obtain rfl : s = ((64 : Nat) : Int) := by omega
      go_wp2_with fail
      go_at_call 162
      refine (vgrow_nil 64 (by omega) (by omega) w).mono ?_
      rintro e w1 ⟨v, rfl, ho, hb⟩
      have HO := hid ho; have HB := hid hb
      clear ho hb
      go_wp2_with fail
      go_loopw [6, 27] (fun v6 i w2 => ∃ k : Nat, k ≤ 2 ∧ i = .int .i64 k ∧ w2.ownsRow w.heap.size 5 1 v6 (32 * k) (bv (List.replicate k h).flatten) ∧ Below w.heap.size w w2) (fun _ i _ => 2 - (intOf i).toNat)
      case atStart => exact ⟨0, Nat.zero_le _, rfl, HO.out, HB.out⟩
      case round =>
        obtain ⟨k, hk, rfl, ho, hb⟩ := hrel
        have HO2 := hid ho; have HB2 := hid hb
        clear ho hb
        by_cases hlt : k < 2
        · obtain ⟨lo, cap, cx0, hs⟩ := HC.out k hlt
          have cx := (HB2.out.cell (World.block_lt_of_cell? w _ cx0)).trans cx0
          have HS := hid (hs.below HB2.out)
          clear cx0 hs
          go_wp2_with (refine wpl_append rfl (.tmp 31) (.tmp 32) rfl w.heap.size _ _ _ h rfl HO2.out _ _ _ rfl HH.out.symm HS.out (by omega) HB2.out.size ?_; intro v3 w3 ho3 hg3 _; have HO3 := hid ho3; have HB3 := hid (hg3); clear ho3 hg3)
          go_roundw
          case rel => exact ⟨k + 1, by omega, by go_num, by have := HO3.out; rw [show 32 * (k + 1) = 32 * k + 32 by omega, List.replicate_succ', List.flatten_append]; simpa using this, below_grown HB2.out HO2.out HB3.out (Nat.le_refl _)⟩
          case measure => simp [intOf]; omega
        · obtain rfl : k = 2 := by omega
          go_wp2
          go_ret
          exact ⟨_, rfl, by have := HO2.out; simpa [List.replicate] using this, HB2.out⟩
end Go.Proofs.Ytlondopgibcikaa
namespace Go.Proofs.Ytlondopgibcikaa
open Go.RowKit Ent
theorem rowF : RowT 170 46 .nilFunc 1 8 := ⟨Try.underlying170, info_parts (P := Try.prog) (by kernel_rfl), rfl, by decide, by decide, by decide⟩
/-- values of one cell laid side by side -/
theorem wpo_layV {t e : TypeId} {z : Value} {by_ : Nat} (R : RowT t e z 1 by_) {o : Oper} {a : Act} {w : World} {K : Act → World → Prop} {Q : Exit → Act → World → Prop} (n : Nat) (parts : Array (Nat × Operand)) (ho : o.op = .buildSlice t n parts) (vs : List Value) (hn : vs.length = n) (h0 : 0 < n) (h1 : n ≤ 1000) (hv : ∀ v ∈ vs, v.cells = #[v])
    (hx : (parts.map fun (i, x) => (i, a.eval x)).toList = (vs.zipIdx 0).map fun x => (x.2, x.1))
    (h : ∀ w', Below w.heap.size w w' → Blk w' w.heap.size e vs → K (a.put o.dst (.slice (some ⟨w.heap.size, 0, none⟩) n n)) w') : o.wp Try.prog a w K Q := by
  obtain ⟨i, hi, hz, hsz, _⟩ := R.inf
  refine wp_buildSlice t e n parts ho vs.toArray i z R.un hi hz (by rw [hsz]; omega) (by rw [hsz]; omega) ?_ (h _ (fresh_alloc w _) (by unfold Blk; rw [alloc_new]))
  rw [hsz, hx]
  have e := Go.Great.fill_whole (s := 1) (by omega) vs ((Array.range (n * 1)).map (z.cells[· % z.cells.size]!)) (by intro u hu; rw [hv u hu]; rfl) (by simp [hn])
  have e2 : (vs.flatMap fun v => v.cells.toList) = vs := by
    clear e hx h ho hn
    induction vs with
    | nil => rfl
    | cons v r ih => rw [List.flatMap_cons, ih (fun u hu => hv u (by simp [hu])), hv v (by simp)]; rfl
  rw [e2] at e
  exact e
theorem wpl_layV {t e : TypeId} {z : Value} {by_ : Nat} (R : RowT t e z 1 by_) {ops : Array Oper} {rest : List Oper} {o : Oper} {a : Act} {w : World} {Q : Exit → Act → World → Prop} (hgd : o.guard = none) (n : Nat) (parts : Array (Nat × Operand)) (ho : o.op = .buildSlice t n parts) (vs : List Value) (hn : vs.length = n) (h0 : 0 < n) (h1 : n ≤ 1000) (hv : ∀ v ∈ vs, v.cells = #[v])
    (hx : (parts.map fun (i, x) => (i, a.eval x)).toList = (vs.zipIdx 0).map fun x => (x.2, x.1))
    (h : ∀ w', Below w.heap.size w w' → Blk w' w.heap.size e vs → wpList Try.prog ops Q rest (a.put o.dst (.slice (some ⟨w.heap.size, 0, none⟩) n n)) w') : wpList Try.prog ops Q (o :: rest) a w :=
  wpList_plain hgd fun _ hK => wpo_layV R n parts ho vs hn h0 h1 hv hx fun w' h1 h2 => hK _ _ (h w' h1 h2)
section
variable {B : Nat} {w0 w w1 : World} {As X : List Asset} {a : Nat} {d : Dev}
theorem St.dev_write2 (h : St B w0 w As) (hb : Below w.heap.size w w1) (i : Nat) (hi : As[i]? = some (dev a d)) (n : Int) (bo : Option Addr) (m c : Nat) (b : List UInt8) (hm : m = b.length) (hs : SB w1 bo c b) (hap : ∀ x, bo = some x → x.block < B ∨ w.heap.size ≤ x.block) (hlo : d.loose.length ≤ 1073741824) :
    Calls Try.prog 48 #[ptr a, .int .i64 n, .slice bo m c] w1 fun e w' => e = .returned (.int .i64 (d.write n b).1) ∧ St B w0 w' (As.set i (dev a (d.write n b).2)) := by
  obtain ⟨F, hA, hF, hcl⟩ := h.open2 hb i hi
  refine (lift_write n bo m c b hm w1 hs (fun x hx hF' => by rcases hap x hx with h | h <;> have := hF _ hF' <;> omega) hlo hA).mono ?_
  rintro e w' ⟨he, hp, hk⟩
  exact ⟨he, hcl w' _ _ hk (good_dev _ _) hp (fun _ h => h)⟩
theorem St.dev_flush2 (h : St B w0 w As) (hb : Below w.heap.size w w1) (i : Nat) (hi : As[i]? = some (dev a d)) :
    Calls Try.prog 41 #[ptr a] w1 fun e w' => e = .returned (.int .i64 d.flush.1) ∧ St B w0 w' (As.set i (dev a d.flush.2)) := (h.below hb).dev_flush i hi
theorem get_pre {A : Asset} {i : Nat} (hi : As[i]? = some A) : (As ++ X)[i]? = some A := by
  rw [List.getElem?_append_left (List.getElem?_eq_some_iff.1 hi).1]; exact hi
theorem get_post (k : Nat) {A : Asset} (hk : X[k]? = some A) : (As ++ X)[As.length + k]? = some A := by
  rw [List.getElem?_append_right (by omega), Nat.add_sub_cancel_left]; exact hk
theorem set_pre {A C : Asset} {i : Nat} (hi : As[i]? = some A) : (As ++ X).set i C = As.set i C ++ X := List.set_append_left _ _ (List.getElem?_eq_some_iff.1 hi).1
theorem set_get {A C : Asset} {i : Nat} (hi : As[i]? = some A) : (As.set i C)[i]? = some C := List.getElem?_set_self (List.getElem?_eq_some_iff.1 hi).1
theorem St.drop_post (h : St B w0 w (As ++ X)) : St B w0 w As := by
  have := h.take As.length
  rwa [List.take_left] at this
end
theorem ownsSB {w : World} {base : Nat} {v : Value} {n : Nat} {l : List UInt8} (h : w.ownsRow base 5 1 v n (bv l)) (hn : 0 < n) : ∃ g c, v = .slice (some ⟨g, 0, none⟩) n c ∧ base ≤ g ∧ SB w (some ⟨g, 0, none⟩) c l := by
  rcases h.2 with ⟨h1, h0⟩ | ⟨g, c, cur, hv, hg, hh, hc, hm, hs, ht⟩
  · omega
  · refine ⟨g, c, hv, hg, .inr (.inr ⟨g, 0, rfl, fun j u hu => ?_⟩)⟩
    rw [Nat.zero_add, cell_of_row w g j cur _ _ hh]
    rw [← ht, List.getElem?_take] at hu
    split at hu
    · simpa using hu
    · cases hu
/-- things done one behind the other, up to the first that fails -/
def seqOf {S : Type} (fs : Nat → S → Int × S) : Nat → Nat → S → Int × S
  | _, 0, s => (0, s)
  | k, m + 1, s => let r := fs k s; if r.1 = 0 then seqOf fs (k + 1) m r.2 else r
theorem vall_seq {S : Type} (A : S → World → Prop) (Q : Nat → S → Prop) (fs : Nat → S → Int × S) (g n : Nat) (hn : n ≤ 1000) (ids : Nat → FuncId) (firsts caps : Nat → Array Value)
    (hcell : ∀ i s w, i < n → A s w → w.cell? ⟨g, i, none⟩ = some (.func (.func (ids i)) (firsts i) (caps i)))
    (hstep : ∀ i s w, i < n → Q i s → A s w → Calls Try.prog (ids i) (firsts i ++ caps i) w fun e w' => e = .returned (.int .i64 (fs i s).1) ∧ A (fs i s).2 w' ∧ ((fs i s).1 = 0 → Q (i + 1) (fs i s).2))
    (henter : ∀ i, i < n → ∀ (xs : Array Value) (w : World), (callFunc (ids i) xs).run Try.prog w = .ok (.enter (ids i) xs) w) (w : World) (s : S) (h0 : A s w) (hQ : Q 0 s) :
    Calls Try.prog 125 #[.slice (some ⟨g, 0, none⟩) n n] w fun e w' => e = .returned (.int .i64 (seqOf fs 0 n s).1) ∧ A (seqOf fs 0 n s).2 w' := by
  refine (vall_any g n hn ids firsts caps (fun k w => ∃ s', A s' w ∧ Q k s' ∧ seqOf fs 0 n s = seqOf fs k (n - k) s') (fun c w => ∃ s', A s' w ∧ seqOf fs 0 n s = (c, s')) ?_ ?_ henter w ⟨s, h0, hQ, rfl⟩).mono ?_
  · rintro i w hi ⟨s', ha, _, _⟩
    exact hcell i s' w hi ha
  · rintro i w hi ⟨s', ha, hq, hs⟩
    refine (hstep i s' w hi hq ha).mono ?_
    rintro e w' ⟨he, ha', hq'⟩
    have hm : n - i = (n - (i + 1)) + 1 := by omega
    rw [hm] at hs
    have hs2 : seqOf fs 0 n s = if (fs i s').1 = 0 then seqOf fs (i + 1) (n - (i + 1)) (fs i s').2 else fs i s' := hs
    refine ⟨_, he, fun hc => ⟨_, ha', hq' hc, ?_⟩, fun hc => ⟨_, ha', ?_⟩⟩
    · rw [hs2, if_pos hc]
    · rw [hs2, if_neg hc]
  · rintro e w' ⟨c, rfl, h1, h2⟩
    by_cases hc : c = 0
    · subst hc
      obtain ⟨s', ha, _, hs⟩ := h1 rfl
      rw [Nat.sub_self] at hs
      rw [hs]
      exact ⟨rfl, ha⟩
    · obtain ⟨s', ha, hs⟩ := h2 hc
      rw [hs]
      exact ⟨rfl, ha⟩
set_option maxRecDepth 100000 in
set_option maxHeartbeats 1000000 in
theorem vcounts1 {B : Nat} {w0 w : World} {As : List Asset} {a : Nat} {d : Dev} (h : St B w0 w As) (i : Nat) (hi : As[i]? = some (dev a d)) (jd jg jh bd bg bh gen : Nat) (hh : List UInt8) (hjd : As[jd]? = some (blkA bd 41 [ptr a])) (hjg : As[jg]? = some (blkA bg 3 [.int .i64 gen])) (hjh : As[jh]? = some (blkA bh 172 (bv hh))) (hid1 : i ≠ jd) (hig : i ≠ jg) (hl : hh.length = 32) (hg : gen ≤ 2147483648) (hlo : d.loose.length ≤ 1073741824) :
    Calls Try.prog 157 #[ptr bd, ptr bg, ptr bh] w fun e w' => e = .returned (.int .i64 (d.write ((gen % 2 : Nat) : Int) (hh ++ hh)).1) ∧ St B w0 w' (As.set i (dev a (d.write ((gen % 2 : Nat) : Int) (hh ++ hh)).2)) := by
  have cd := (h.blk jd hjd).cell (j := 0) rfl
  have cg := (h.blk jg hjg).cell (j := 0) rfl
  have CD := hid cd; have CG := hid cg
  have HH := hid (h.blk jh hjh)
  have H := hid h; have HI := hid hi; have HL := hid hl; have HJD := hid hjd; have HJG := hid hjg
  obtain ⟨r, hr⟩ : ∃ r, gen % 2 = r := ⟨_, rfl⟩
  have hr2 : r < 2 := by omega
  have HR : Hid ((gen : Int).tmod 2 = (r : Int)) := hid (by rw [Int.tmod_eq_emod_of_nonneg (by omega)]; omega)
  rw [hr]
  clear h hi hjd hjg hjh hl hr
  unfold ptr at cd cg ⊢
  go_enter Try.func157, Try.ntmps157
  go_upto_region 1 with fail
  refine wp_region_held_drew (S := fun w' => w'.cell? ⟨bd, 0, none⟩ = some (.pointer (some ⟨a, 0, none⟩)) ∧ w'.cell? ⟨bg, 0, none⟩ = some (.int .i64 gen)) (by kernel_rfl) ⟨cd, cg⟩ (fun hS => ?_)
  refine wpAnyH_take (i := 0) (v := ?v0x1z) (by simp only [List.getElem?_toArray, List.getElem?_cons_zero]; exact rfl) (by kernel_rfl) (by kernel_rfl) (by kernel_rfl) (by exact fun _ _ _ h => h) (Or.inl ⟨by rfl, ?y0x1z⟩) hS ?r0x1z
  case y0x1z => (intro w' hSw; (try dsimp only at hSw); go_simp; (try with_reducible rfl))
  simp only [Act.put, List.setIfInBounds_toArray, List.set_cons_zero, List.set_cons_succ]
  refine wpAnyH_take (i := 1) (v := ?v1x2z) (by simp only [List.getElem?_toArray, List.getElem?_cons_zero, List.getElem?_cons_succ]; exact rfl) (by kernel_rfl) (by kernel_rfl) (by kernel_rfl) (by exact fun _ _ _ h => h) (Or.inl ⟨by rfl, ?y1x2z⟩) hS ?r1x2z
  case y1x2z => (intro w' hSw; (try dsimp only at hSw); go_simp; (try with_reducible rfl))
  simp only [Act.put, List.setIfInBounds_toArray, List.set_cons_zero, List.set_cons_succ]
  refine wpAnyH_take (i := 2) (v := ?v2x3z) (by simp only [List.getElem?_toArray, List.getElem?_cons_zero, List.getElem?_cons_succ]; exact rfl) (by kernel_rfl) (by kernel_rfl) (by kernel_rfl) (by exact fun _ _ _ h => h) (Or.inl ⟨by rfl, ?y2x3z⟩) hS ?r2x3z
  case y2x3z => (intro w' hSw; (try dsimp only at hSw); go_simp; (try with_reducible rfl))
  simp only [Act.put, List.setIfInBounds_toArray, List.set_cons_zero, List.set_cons_succ]
  refine wpAnyH_take (i := 3) (v := ?v3x4z) (by simp only [List.getElem?_toArray, List.getElem?_cons_zero, List.getElem?_cons_succ]; exact rfl) (by kernel_rfl) (by kernel_rfl) (by kernel_rfl) (by exact fun _ _ _ h => h) (Or.inl ⟨by rfl, ?y3x4z⟩) hS ?r3x4z
  case y3x4z => (intro w' hSw; (try dsimp only at hSw); go_simp; (try with_reducible rfl))
  simp only [Act.put, List.setIfInBounds_toArray, List.set_cons_zero, List.set_cons_succ]
  refine wpAnyH_take (i := 4) (v := ?v4x5z) (by simp only [List.getElem?_toArray, List.getElem?_cons_zero, List.getElem?_cons_succ]; exact rfl) (by kernel_rfl) (by kernel_rfl) (by kernel_rfl) (by exact fun _ _ _ h => h) (Or.inl ⟨by rfl, ?y4x5z⟩) hS ?r4x5z
  case y4x5z => (intro w' hSw; (try dsimp only at hSw); go_simp; (try with_reducible rfl))
  simp only [Act.put, List.setIfInBounds_toArray, List.set_cons_zero, List.set_cons_succ]
  refine wpAnyH_ready (rs := [5]) (by kernel_rfl) (by simp) ?_
  refine AllReadyH.cons (by simp only [List.getElem?_toArray, List.getElem?_cons_zero, List.getElem?_cons_succ]; exact rfl) (fun K hK => ?_) AllReadyH.nil
  refine wpo_layV rowL 2 _ rfl [.slice (some ⟨bh, 0, none⟩) 32 32, .slice (some ⟨bh, 0, none⟩) 32 32] rfl (by omega) (by omega) (by simp [Value.cells]) (by simp [Act.eval]) ?_
  intro w5 hb5 h5
  have hS5 := And.intro ((hb5.cell (World.block_lt_of_cell? _ _ hS.1)).trans hS.1) ((hb5.cell (World.block_lt_of_cell? _ _ hS.2)).trans hS.2)
  have HB5 : Hid (Below w.heap.size w w5) := hid ((Below.refl w.heap.size w).drew.trans hb5)
  have HH5 := hid (HH.out.drew.below hb5 HH.out.drew.lt)
  have HLR : Hid (LR w5 (some ⟨w.heap.size, 0, none⟩) [hh, hh]) := hid (.inr ⟨_, _, rfl, fun k l hk => by
    rcases k with _ | _ | k
    · cases hk; exact ⟨some ⟨bh, 0, none⟩, 32, by rw [HL.out]; exact h5.cell (j := 0) rfl, by rw [HL.out]; exact Nat.le_refl _, .inr (.inr ⟨_, _, rfl, HH5.out.range fun j v hv => by rw [Nat.zero_add]; exact hv⟩)⟩
    · cases hk; exact ⟨some ⟨bh, 0, none⟩, 32, by rw [HL.out]; exact h5.cell (j := 1) rfl, by rw [HL.out]; exact Nat.le_refl _, .inr (.inr ⟨_, _, rfl, HH5.out.range fun j v hv => by rw [Nat.zero_add]; exact hv⟩)⟩
    · cases hk⟩)
  clear hb5 h5
  refine hK.out _ _ ?k5x6z (fun hS => ?s5x6z)
  case k5x6z => exact hS5
  clear hK K
  try simp only [Act.put, List.setIfInBounds_toArray, List.set_cons_zero, List.set_cons_succ]
  refine wpAnyH_ready (rs := [6]) (by kernel_rfl) (by simp) ?_
  refine AllReadyH.cons (by simp only [List.getElem?_toArray, List.getElem?_cons_zero, List.getElem?_cons_succ]; exact rfl) (fun K hK => ?_) AllReadyH.nil
  go_simp
  refine (vconcat_two w.heap.size hh HL.out w5 HLR.out).mono ?_
  rintro e w6 ⟨v6, rfl, ho6, hb6⟩
  obtain ⟨g6, c6, rfl, hg6, hs6⟩ := ownsSB ho6 (by omega)
  have hS6 := And.intro ((hb6.cell (World.block_lt_of_cell? _ _ hS5.1)).trans hS5.1) ((hb6.cell (World.block_lt_of_cell? _ _ hS5.2)).trans hS5.2)
  have HB6 := hid (th HB5.out hb6)
  have HG6 : Hid (w.heap.size ≤ g6) := hid (Nat.le_trans HB5.out.size hg6)
  have HS6 := hid hs6
  clear ho6 hb6 hs6 hg6
  refine hK.out _ _ ?k6x7z (fun hS => ?s6x7z)
  case k6x7z => exact hS6
  clear hK K
  try simp only [Act.put, List.setIfInBounds_toArray, List.set_cons_zero, List.set_cons_succ]
  refine wpAnyH_ready (rs := [7]) (by kernel_rfl) (by simp) ?_
  refine AllReadyH.cons (by simp only [List.getElem?_toArray, List.getElem?_cons_zero, List.getElem?_cons_succ]; exact rfl) (fun K hK => ?_) AllReadyH.nil
  go_simp
  rw [HR.out]
  refine (H.out.dev_write2 HB6.out i HI.out r _ 64 _ (hh ++ hh) (by simp [HL.out]) HS6.out (fun x hx => by cases hx; exact .inr HG6.out) hlo).mono ?_
  rintro e w7 ⟨rfl, h7⟩
  have H7 := hid h7
  have hS7 := And.intro ((H7.out.blk jd (by rw [List.getElem?_set_ne hid1]; exact HJD.out)).cell (j := 0) rfl) ((H7.out.blk jg (by rw [List.getElem?_set_ne hig]; exact HJG.out)).cell (j := 0) rfl)
  clear h7
  refine hK.out _ _ ?k7x8z (fun hS => ?s7x8z)
  case k7x8z => exact hS7
  clear hK K
  try simp only [Act.put, List.setIfInBounds_toArray, List.set_cons_zero, List.set_cons_succ]
  refine wpAnyH_take (i := 8) (v := ?v8x9z) (by simp only [List.getElem?_toArray, List.getElem?_cons_zero, List.getElem?_cons_succ]; exact rfl) (by kernel_rfl) (by kernel_rfl) (by kernel_rfl) (by exact fun _ _ _ h => h) (Or.inl ⟨by rfl, ?y8x9z⟩) hS ?r8x9z
  case y8x9z => (intro w' hSw; (try dsimp only at hSw); go_simp; (try with_reducible rfl))
  simp only [Act.put, List.setIfInBounds_toArray, List.set_cons_zero, List.set_cons_succ]
  refine wpAnyH_done (by kernel_rfl) ?_ _
  go_wp2
  go_ret
  exact ⟨rfl, H7.out⟩
end Go.Proofs.Ytlondopgibcikaa
namespace Go.Proofs.Ytlondopgibcikaa
open Go.RowKit Ent
theorem if_wanted {c p q : Prop} [Decidable c] (hc : c) (hp : p) : if c then p else q := by rw [if_pos hc]; exact hp
/-- a superblock's sector -/
def supSec (gen n : Nat) : List UInt8 := supHalf gen n ++ supHalf gen n
theorem supSec_len (gen n : Nat) : (supSec gen n).length = 64 := by simp [supSec, supHalf_len]
/-- one more thing, if the first went well -/
def andD (r : Int × Dev) (f : Dev → Int × Dev) : Int × Dev := if r.1 = 0 then f r.2 else r
theorem andD_last (r : Int × Dev) : (if r.1 = 0 then (0, r.2) else r) = r := by
  obtain ⟨c, d⟩ := r
  by_cases h : c = 0
  · simp [h]
  · simp [h]
/-- the superblock of a generation is written -/
def countsD (d : Dev) (gen : Nat) : Int × Dev := andD (d.write ((gen % 2 : Nat) : Int) (supSec gen d.img.length)) Dev.flush
section
variable {B : Nat} {w0 w w1 : World} {As X : List Asset} {a : Nat} {d : Dev}
theorem get_post' (i : Nat) {A C Y : Asset} (hi : As[i]? = some A) (k : Nat) (hk : X[k]? = some Y) : ((As ++ X).set i C)[As.length + k]? = some Y := by
  have := (List.getElem?_eq_some_iff.1 hi).1
  rw [List.getElem?_set_ne (by omega)]
  exact get_post k hk
theorem ne_post {i : Nat} {A : Asset} (hi : As[i]? = some A) (k : Nat) : i ≠ As.length + k := by
  have := (List.getElem?_eq_some_iff.1 hi).1
  omega
theorem St.addBlk' (h : St B w0 w (As ++ X)) (hb : Below w.heap.size w w1) {g : Nat} {T : TypeId} {vs : List Value} (hg : Blk w1 g T vs) (h0 : w.heap.size ≤ g) : St B w0 w1 (As ++ (X ++ [blkA g T vs])) := by
  rw [← List.append_assoc]; exact h.addBlk hb hg h0
theorem set_same {i : Nat} {A : Asset} (hi : As[i]? = some A) : As.set i A = As := by
  obtain ⟨h1, h2⟩ := List.getElem?_eq_some_iff.1 hi
  rw [← h2]; exact List.set_getElem_self h1
theorem set_twice {i : Nat} {A C : Asset} : (As.set i A).set i C = As.set i C := List.set_set ..
end
theorem enter_c1 (xs : Array Value) (w : World) : (callFunc 157 xs).run Try.prog w = .ok (.enter 157 xs) w := by kernel_rfl
theorem vcounts_all {B : Nat} {w0 w : World} {As : List Asset} {a : Nat} {d : Dev} (bd bg bh g gen n : Nat) (h : St B w0 w (As ++ [blkA bd 41 [ptr a], blkA bg 3 [.int .i64 gen], blkA bh 172 (bv (supHalf gen n)), blkA g 46 [.func (.func 157) #[] #[ptr bd, ptr bg, ptr bh], .func (.func 41) #[ptr a] #[]]])) (i : Nat) (hi : As[i]? = some (dev a d)) (hn : d.img.length = n) (hg : gen ≤ 2147483648) (hlo : d.loose.length ≤ 1073741824) :
    Calls Try.prog 125 #[.slice (some ⟨g, 0, none⟩) 2 2] w fun e w' => e = .returned (.int .i64 (countsD d gen).1) ∧ St B w0 w' (As.set i (dev a (countsD d gen).2)) := by
  refine (vall_seq (S := Dev) (fun s w => St B w0 w ((As ++ [blkA bd 41 [ptr a], blkA bg 3 [.int .i64 gen], blkA bh 172 (bv (supHalf gen n)), blkA g 46 [.func (.func 157) #[] #[ptr bd, ptr bg, ptr bh], .func (.func 41) #[ptr a] #[]]]).set i (dev a s))) (fun k s => k = 0 → s = d) (fun k s => if k = 0 then s.write ((gen % 2 : Nat) : Int) (supSec gen n) else s.flush) g 2 (by omega) (fun k => if k = 0 then 157 else 41) (fun k => if k = 0 then #[] else #[ptr a]) (fun k => if k = 0 then #[ptr bd, ptr bg, ptr bh] else #[]) ?_ ?_ ?_ w d ?_ (fun _ => rfl)).mono ?_
  · intro k s w' hk hs
    have := hs.blk (As.length + 3) (get_post' i hi 3 rfl)
    rcases (by omega : k = 0 ∨ k = 1) with rfl | rfl
    · exact this.cell (j := 0) rfl
    · exact this.cell (j := 1) rfl
  · intro k s w' hk hq hs
    have hi' := set_get (C := dev a s) (get_pre (X := [blkA bd 41 [ptr a], blkA bg 3 [.int .i64 gen], blkA bh 172 (bv (supHalf gen n)), blkA g 46 [.func (.func 157) #[] #[ptr bd, ptr bg, ptr bh], .func (.func 41) #[ptr a] #[]]]) hi)
    rcases (by omega : k = 0 ∨ k = 1) with rfl | rfl
    · obtain rfl := hq rfl
      refine (vcounts1 hs i hi' (As.length + 0) (As.length + 1) (As.length + 2) bd bg bh gen (supHalf gen n) (get_post' i hi 0 rfl) (get_post' i hi 1 rfl) (get_post' i hi 2 rfl) (ne_post hi 0) (ne_post hi 1) (supHalf_len _ _) hg hlo).mono ?_
      rintro e w2 ⟨rfl, h2⟩
      rw [set_twice] at h2
      exact ⟨rfl, h2, fun _ h0 => absurd h0 (by omega)⟩
    · refine (hs.dev_flush i hi').mono ?_
      rintro e w2 ⟨rfl, h2⟩
      rw [set_twice] at h2
      exact ⟨rfl, h2, fun _ h0 => absurd h0 (by omega)⟩
  · intro k hk xs w'
    rcases (by omega : k = 0 ∨ k = 1) with rfl | rfl
    · exact enter_c1 xs w'
    · exact enter_flush xs w'
  · have : ((As ++ [blkA bd 41 [ptr a], blkA bg 3 [.int .i64 gen], blkA bh 172 (bv (supHalf gen n)), blkA g 46 [.func (.func 157) #[] #[ptr bd, ptr bg, ptr bh], .func (.func 41) #[ptr a] #[]]]).set i (dev a d)) = _ := set_same (get_pre hi)
    rw [this]; exact h
  · rintro e w' ⟨rfl, h'⟩
    have e1 : seqOf (fun k s => if k = 0 then s.write ((gen % 2 : Nat) : Int) (supSec gen n) else Dev.flush s) 0 2 d = countsD d gen := by
      unfold countsD andD
      rw [hn]
      show (if (d.write ((gen % 2 : Nat) : Int) (supSec gen n)).1 = 0 then (if (Dev.flush (d.write ((gen % 2 : Nat) : Int) (supSec gen n)).2).1 = 0 then (0, (Dev.flush (d.write ((gen % 2 : Nat) : Int) (supSec gen n)).2).2) else Dev.flush (d.write ((gen % 2 : Nat) : Int) (supSec gen n)).2) else d.write ((gen % 2 : Nat) : Int) (supSec gen n)) = _
      rw [andD_last]
    rw [e1] at h' ⊢
    rw [set_pre hi] at h'
    exact ⟨rfl, h'.drop_post⟩
set_option maxRecDepth 100000 in
set_option maxHeartbeats 1000000 in
theorem vcounts_any {B : Nat} {w0 w : World} {As : List Asset} {a : Nat} {d : Dev} (h : St B w0 w As) (i : Nat) (hi : As[i]? = some (dev a d)) (gen : Nat) (hg : gen ≤ 2147483648) (hlo : d.loose.length ≤ 1073741824) :
    Calls Try.prog 144 #[ptr a, .int .i64 gen] w fun e w' => e = .returned (.int .i64 (countsD d gen).1) ∧ St B w0 w' (As.set i (dev a (countsD d gen).2)) := by
  have hok := (h.ok i hi).len
  have HI := hid hi
  obtain ⟨w1, hw1⟩ : ∃ w1, w.alloc (.cells #[ptr a] 41) = w1 := ⟨_, rfl⟩
  obtain ⟨bd, hbd⟩ : ∃ bd, w.heap.size = bd := ⟨_, rfl⟩
  have h1 : St B w0 w1 (As ++ [blkA bd 41 [ptr a]]) := by rw [← hw1, ← hbd]; exact h.box _ _
  obtain ⟨wb, hwb⟩ : ∃ wb, w1.alloc (.cells #[.int .i64 gen] 3) = wb := ⟨_, rfl⟩
  obtain ⟨bg, hbg⟩ : ∃ bg, w1.heap.size = bg := ⟨_, rfl⟩
  have h2 : St B w0 wb (As ++ [blkA bd 41 [ptr a], blkA bg 3 [.int .i64 gen]]) := by
    rw [← hwb, ← hbg]; exact h1.addBlk' (fresh_alloc w1 _) (alloc_new w1 _) (Nat.le_refl _)
  have H2 := hid h2
  have cd := (h2.blk (As.length + 0) (get_post 0 rfl)).cell (j := 0) rfl
  have cg := (h2.blk (As.length + 1) (get_post 1 rfl)).cell (j := 0) rfl
  obtain ⟨n, hn⟩ : ∃ n, d.img.length = n := ⟨_, rfl⟩
  have HN := hid hn
  rw [hn] at hok
  have HBG : Hid (bd + 1 = bg) := hid (by rw [← hbg, ← hw1, ← hbd]; exact (World.size_alloc _ _).symm)
  have HW1 := hid hw1; have HWB := hid hwb; have HBD := hid hbd
  clear h hi h1 h2 hn hw1 hwb hbd hbg
  unfold ptr at cd HW1 ⊢
  go_enter Try.func144, Try.ntmps144
  go_upto_region 1 with fail
  rw [HW1.out, HWB.out, HBD.out, HBG.out]
  have HB : Hid (Below wb.heap.size wb wb.drew) := hid (Below.refl _ _).drew
  refine wp_region_held_drew (S := fun w' => w'.cell? ⟨bd, 0, none⟩ = some (.pointer (some ⟨a, 0, none⟩)) ∧ w'.cell? ⟨bg, 0, none⟩ = some (.int .i64 gen)) (by kernel_rfl) ⟨cd, cg⟩ (fun hS => ?_)
  refine wpAnyH_take (i := 0) (v := ?v0x1z) (by simp only [List.getElem?_toArray, List.getElem?_cons_zero]; exact rfl) (by kernel_rfl) (by kernel_rfl) (by kernel_rfl) (by exact fun _ _ _ h => h) (Or.inl ⟨by rfl, ?y0x1z⟩) hS ?r0x1z
  case y0x1z => (intro w' hSw; (try dsimp only at hSw); go_simp; (try with_reducible rfl))
  simp only [Act.put, List.setIfInBounds_toArray, List.set_cons_zero, List.set_cons_succ]
  refine wpAnyH_take (i := 1) (v := ?v1x2z) (by simp only [List.getElem?_toArray, List.getElem?_cons_zero, List.getElem?_cons_succ]; exact rfl) (by kernel_rfl) (by kernel_rfl) (by kernel_rfl) (by exact fun _ _ _ h => h) (Or.inl ⟨by rfl, ?y1x2z⟩) hS ?r1x2z
  case y1x2z => (intro w' hSw; (try dsimp only at hSw); go_simp; (try with_reducible rfl))
  simp only [Act.put, List.setIfInBounds_toArray, List.set_cons_zero, List.set_cons_succ]
  refine wpAnyH_ready (rs := [2, 4]) (by kernel_rfl) (by simp) ?_
  refine AllReadyH.cons (by simp only [List.getElem?_toArray, List.getElem?_cons_zero, List.getElem?_cons_succ]; exact rfl) (fun K hK => ?_) (AllReadyH.cons (by simp only [List.getElem?_toArray, List.getElem?_cons_zero, List.getElem?_cons_succ]; exact rfl) (fun K hK => ?_) AllReadyH.nil)
  · go_simp
    first | refine ((H2.out.below HB.out).dev_size i (get_pre HI.out)).mono ?_ | (have HB := hid HB.out.drew; have HZ := hid HZ.out.drew; refine ((H2.out.below HB.out).dev_size i (get_pre HI.out)).mono ?_)
    rintro e w' ⟨rfl, hw'⟩
    subst w'
    rw [HN.out]
    refine hK.out _ _ ?k2x3z (fun hS => ?s2x3z)
    case k2x3z => exact hS
    clear hK K
    try simp only [Act.put, List.setIfInBounds_toArray, List.set_cons_zero, List.set_cons_succ]
    refine wpAnyH_ready (rs := [3, 4]) (by kernel_rfl) (by simp) ?_
    refine AllReadyH.cons (by simp only [List.getElem?_toArray, List.getElem?_cons_zero, List.getElem?_cons_succ]; exact rfl) (fun K hK => ?_) (AllReadyH.cons (by simp only [List.getElem?_toArray, List.getElem?_cons_zero, List.getElem?_cons_succ]; exact rfl) (fun K hK => ?_) AllReadyH.nil)
    · go_simp
      refine (vsuper_any gen n (by omega) (by omega) _).mono ?_
      rintro e w5 ⟨rfl, hb5⟩
      have hS5 := And.intro ((hb5.cell (World.block_lt_of_cell? _ _ hS.1)).trans hS.1) ((hb5.cell (World.block_lt_of_cell? _ _ hS.2)).trans hS.2)
      have HB : Hid (Below wb.heap.size wb w5) := by first | exact hid (th HB.out hb5) | exact hid (th HB.out.drew hb5)
      try have HZ : Hid (Blk w5 bh 172 (bv (zr 32))) := by first | exact hid (HZ.out.below hb5 HZ.out.lt) | exact hid (HZ.out.drew.below hb5 HZ.out.drew.lt)
      clear hb5
      refine hK.out _ _ ?k3x4z (fun hS => ?s3x4z)
      case k3x4z => exact hS5
      clear hK K
      try simp only [Act.put, List.setIfInBounds_toArray, List.set_cons_zero, List.set_cons_succ]
      refine wpAnyH_ready (rs := [4]) (by kernel_rfl) (by simp) ?_
      refine AllReadyH.cons (by simp only [List.getElem?_toArray, List.getElem?_cons_zero, List.getElem?_cons_succ]; exact rfl) (fun K hK => ?_) AllReadyH.nil
      go_simp
      try (refine if_wanted (by first | rfl | kernel_rfl) ?_; go_simp)
      first | generalize hbE : w5.heap.size = bh | generalize hbE : wb.heap.size = bh
      generalize hw4 : World.alloc _ _ = w4
      have hbh : wb.heap.size ≤ bh := by rw [← hbE]; first | exact HB.out.size | exact Nat.le_refl _
      have hz : Blk w4 bh 172 (bv (zr 32)) := by rw [← hw4, ← hbE]; exact alloc_new _ _
      have hS4 : w4.cell? ⟨bd, 0, none⟩ = some (.pointer (some ⟨a, 0, none⟩)) ∧ w4.cell? ⟨bg, 0, none⟩ = some (.int .i64 gen) := by rw [← hw4]; exact ⟨alc hS.1 _, alc hS.2 _⟩
      have HB : Hid (Below wb.heap.size wb w4) := hid (by rw [← hw4]; first | exact HB.out.alloc HB.out.size _ | exact ((Below.refl _ _).alloc (Nat.le_refl _) _))
      have HZ := hid hz
      clear hz hw4 hbE
      refine hK.out _ _ ?k4x5z (fun hS => ?s4x5z)
      case k4x5z => exact hS4
      clear hK K
      try simp only [Act.put, List.setIfInBounds_toArray, List.set_cons_zero, List.set_cons_succ]
      refine wpAnyH_ready (rs := [5]) (by kernel_rfl) (by simp) ?_
      refine AllReadyH.cons (by simp only [List.getElem?_toArray, List.getElem?_cons_zero, List.getElem?_cons_succ]; exact rfl) (fun K hK => ?_) AllReadyH.nil
      refine wp_store_row 172 (.tmp 5) (.tmp 9) rfl bh (bv (supHalf gen n)).toArray rfl rfl _ _ HZ.out (by rw [List.size_toArray, bv_length, supHalf_len]; exact half_info) (by rw [List.size_toArray, List.size_toArray, bv_length, bv_length, supHalf_len]; rfl) (by exact bv_cells _) ?_
      have HB5 := hid (below_setRow' HB.out hbh (bv (supHalf gen n)).toArray)
      have HZ5 := hid (setRow_heap _ _ _ (bv (supHalf gen n)).toArray _ _ HZ.out)
      have hS5 := And.intro ((HB5.out.cell (World.block_lt_of_cell? wb _ cd)).trans cd) ((HB5.out.cell (World.block_lt_of_cell? wb _ cg)).trans cg)
      refine hK.out _ _ ?k5x6z (fun hS => ?s5x6z)
      case k5x6z => exact hS5
      clear hK K
      try simp only [Act.put]
      refine wpAnyH_done (by kernel_rfl) ?_ _
      have H5 : Hid (St B w0 _ (As ++ [blkA bd 41 [ptr a], blkA bg 3 [.int .i64 gen], blkA bh 172 (bv (supHalf gen n))])) := hid (H2.out.addBlk' HB5.out HZ5.out hbh)
      generalize hws : World.setRow _ _ _ = ws at H5 hS5 ⊢
      clear hS HB5 HZ5 hws
      have cd5 := hS5.1
      go_wp2_with (refine wpl_layV rowF rfl 2 _ rfl [.func (.func 157) #[] #[ptr bd, ptr bg, ptr bh], .func (.func 41) #[ptr a] #[]] rfl (by omega) (by omega) (by simp [Value.cells]) (by simp [Act.eval, ptr]) ?_; intro w6 hb6 h6; have H6 := hid (H5.out.addBlk' hb6 h6 (Nat.le_refl _)); clear hb6 h6)
      obtain ⟨g6, hg6⟩ : ∃ g6, ws.heap.size = g6 := ⟨_, rfl⟩
      rw [hg6]
      rw [hg6] at H6
      clear hg6
      refine (vcounts_all bd bg bh g6 gen n H6.out i HI.out HN.out hg hlo).mono ?_
      rintro e w7 ⟨rfl, h7⟩
      have H7 := hid h7
      clear h7
      go_wp2
      go_ret
      exact ⟨rfl, H7.out⟩
    · go_simp
      try (refine if_wanted (by first | rfl | kernel_rfl) ?_; go_simp)
      first | generalize hbE : w5.heap.size = bh | generalize hbE : wb.heap.size = bh
      generalize hw4 : World.alloc _ _ = w4
      have hbh : wb.heap.size ≤ bh := by rw [← hbE]; first | exact HB.out.size | exact Nat.le_refl _
      have hz : Blk w4 bh 172 (bv (zr 32)) := by rw [← hw4, ← hbE]; exact alloc_new _ _
      have hS4 : w4.cell? ⟨bd, 0, none⟩ = some (.pointer (some ⟨a, 0, none⟩)) ∧ w4.cell? ⟨bg, 0, none⟩ = some (.int .i64 gen) := by rw [← hw4]; exact ⟨alc hS.1 _, alc hS.2 _⟩
      have HB : Hid (Below wb.heap.size wb w4) := hid (by rw [← hw4]; first | exact HB.out.alloc HB.out.size _ | exact ((Below.refl _ _).alloc (Nat.le_refl _) _))
      have HZ := hid hz
      clear hz hw4 hbE
      refine hK.out _ _ ?k4x7z (fun hS => ?s4x7z)
      case k4x7z => exact hS4
      clear hK K
      try simp only [Act.put, List.setIfInBounds_toArray, List.set_cons_zero, List.set_cons_succ]
      refine wpAnyH_ready (rs := [3]) (by kernel_rfl) (by simp) ?_
      refine AllReadyH.cons (by simp only [List.getElem?_toArray, List.getElem?_cons_zero, List.getElem?_cons_succ]; exact rfl) (fun K hK => ?_) AllReadyH.nil
      go_simp
      refine (vsuper_any gen n (by omega) (by omega) _).mono ?_
      rintro e w5 ⟨rfl, hb5⟩
      have hS5 := And.intro ((hb5.cell (World.block_lt_of_cell? _ _ hS.1)).trans hS.1) ((hb5.cell (World.block_lt_of_cell? _ _ hS.2)).trans hS.2)
      have HB : Hid (Below wb.heap.size wb w5) := by first | exact hid (th HB.out hb5) | exact hid (th HB.out.drew hb5)
      try have HZ : Hid (Blk w5 bh 172 (bv (zr 32))) := by first | exact hid (HZ.out.below hb5 HZ.out.lt) | exact hid (HZ.out.drew.below hb5 HZ.out.drew.lt)
      clear hb5
      refine hK.out _ _ ?k3x8z (fun hS => ?s3x8z)
      case k3x8z => exact hS5
      clear hK K
      try simp only [Act.put, List.setIfInBounds_toArray, List.set_cons_zero, List.set_cons_succ]
      refine wpAnyH_ready (rs := [5]) (by kernel_rfl) (by simp) ?_
      refine AllReadyH.cons (by simp only [List.getElem?_toArray, List.getElem?_cons_zero, List.getElem?_cons_succ]; exact rfl) (fun K hK => ?_) AllReadyH.nil
      refine wp_store_row 172 (.tmp 5) (.tmp 9) rfl bh (bv (supHalf gen n)).toArray rfl rfl _ _ HZ.out (by rw [List.size_toArray, bv_length, supHalf_len]; exact half_info) (by rw [List.size_toArray, List.size_toArray, bv_length, bv_length, supHalf_len]; rfl) (by exact bv_cells _) ?_
      have HB5 := hid (below_setRow' HB.out hbh (bv (supHalf gen n)).toArray)
      have HZ5 := hid (setRow_heap _ _ _ (bv (supHalf gen n)).toArray _ _ HZ.out)
      have hS5 := And.intro ((HB5.out.cell (World.block_lt_of_cell? wb _ cd)).trans cd) ((HB5.out.cell (World.block_lt_of_cell? wb _ cg)).trans cg)
      refine hK.out _ _ ?k5x9z (fun hS => ?s5x9z)
      case k5x9z => exact hS5
      clear hK K
      try simp only [Act.put]
      refine wpAnyH_done (by kernel_rfl) ?_ _
      have H5 : Hid (St B w0 _ (As ++ [blkA bd 41 [ptr a], blkA bg 3 [.int .i64 gen], blkA bh 172 (bv (supHalf gen n))])) := hid (H2.out.addBlk' HB5.out HZ5.out hbh)
      generalize hws : World.setRow _ _ _ = ws at H5 hS5 ⊢
      clear hS HB5 HZ5 hws
      have cd5 := hS5.1
      go_wp2_with (refine wpl_layV rowF rfl 2 _ rfl [.func (.func 157) #[] #[ptr bd, ptr bg, ptr bh], .func (.func 41) #[ptr a] #[]] rfl (by omega) (by omega) (by simp [Value.cells]) (by simp [Act.eval, ptr]) ?_; intro w6 hb6 h6; have H6 := hid (H5.out.addBlk' hb6 h6 (Nat.le_refl _)); clear hb6 h6)
      obtain ⟨g6, hg6⟩ : ∃ g6, ws.heap.size = g6 := ⟨_, rfl⟩
      rw [hg6]
      rw [hg6] at H6
      clear hg6
      refine (vcounts_all bd bg bh g6 gen n H6.out i HI.out HN.out hg hlo).mono ?_
      rintro e w7 ⟨rfl, h7⟩
      have H7 := hid h7
      clear h7
      go_wp2
      go_ret
      exact ⟨rfl, H7.out⟩
  · go_simp
    try (refine if_wanted (by first | rfl | kernel_rfl) ?_; go_simp)
    first | generalize hbE : w5.heap.size = bh | generalize hbE : wb.heap.size = bh
    generalize hw4 : World.alloc _ _ = w4
    have hbh : wb.heap.size ≤ bh := by rw [← hbE]; first | exact HB.out.size | exact Nat.le_refl _
    have hz : Blk w4 bh 172 (bv (zr 32)) := by rw [← hw4, ← hbE]; exact alloc_new _ _
    have hS4 : w4.cell? ⟨bd, 0, none⟩ = some (.pointer (some ⟨a, 0, none⟩)) ∧ w4.cell? ⟨bg, 0, none⟩ = some (.int .i64 gen) := by rw [← hw4]; exact ⟨alc hS.1 _, alc hS.2 _⟩
    have HB : Hid (Below wb.heap.size wb w4) := hid (by rw [← hw4]; first | exact HB.out.alloc HB.out.size _ | exact ((Below.refl _ _).alloc (Nat.le_refl _) _))
    have HZ := hid hz
    clear hz hw4 hbE
    refine hK.out _ _ ?k4x10z (fun hS => ?s4x10z)
    case k4x10z => exact hS4
    clear hK K
    try simp only [Act.put, List.setIfInBounds_toArray, List.set_cons_zero, List.set_cons_succ]
    refine wpAnyH_ready (rs := [2]) (by kernel_rfl) (by simp) ?_
    refine AllReadyH.cons (by simp only [List.getElem?_toArray, List.getElem?_cons_zero, List.getElem?_cons_succ]; exact rfl) (fun K hK => ?_) AllReadyH.nil
    go_simp
    first | refine ((H2.out.below HB.out).dev_size i (get_pre HI.out)).mono ?_ | (have HB := hid HB.out.drew; have HZ := hid HZ.out.drew; refine ((H2.out.below HB.out).dev_size i (get_pre HI.out)).mono ?_)
    rintro e w' ⟨rfl, hw'⟩
    subst w'
    rw [HN.out]
    refine hK.out _ _ ?k2x11z (fun hS => ?s2x11z)
    case k2x11z => exact hS
    clear hK K
    try simp only [Act.put, List.setIfInBounds_toArray, List.set_cons_zero, List.set_cons_succ]
    refine wpAnyH_ready (rs := [3]) (by kernel_rfl) (by simp) ?_
    refine AllReadyH.cons (by simp only [List.getElem?_toArray, List.getElem?_cons_zero, List.getElem?_cons_succ]; exact rfl) (fun K hK => ?_) AllReadyH.nil
    go_simp
    refine (vsuper_any gen n (by omega) (by omega) _).mono ?_
    rintro e w5 ⟨rfl, hb5⟩
    have hS5 := And.intro ((hb5.cell (World.block_lt_of_cell? _ _ hS.1)).trans hS.1) ((hb5.cell (World.block_lt_of_cell? _ _ hS.2)).trans hS.2)
    have HB : Hid (Below wb.heap.size wb w5) := by first | exact hid (th HB.out hb5) | exact hid (th HB.out.drew hb5)
    try have HZ : Hid (Blk w5 bh 172 (bv (zr 32))) := by first | exact hid (HZ.out.below hb5 HZ.out.lt) | exact hid (HZ.out.drew.below hb5 HZ.out.drew.lt)
    clear hb5
    refine hK.out _ _ ?k3x12z (fun hS => ?s3x12z)
    case k3x12z => exact hS5
    clear hK K
    try simp only [Act.put, List.setIfInBounds_toArray, List.set_cons_zero, List.set_cons_succ]
    refine wpAnyH_ready (rs := [5]) (by kernel_rfl) (by simp) ?_
    refine AllReadyH.cons (by simp only [List.getElem?_toArray, List.getElem?_cons_zero, List.getElem?_cons_succ]; exact rfl) (fun K hK => ?_) AllReadyH.nil
    refine wp_store_row 172 (.tmp 5) (.tmp 9) rfl bh (bv (supHalf gen n)).toArray rfl rfl _ _ HZ.out (by rw [List.size_toArray, bv_length, supHalf_len]; exact half_info) (by rw [List.size_toArray, List.size_toArray, bv_length, bv_length, supHalf_len]; rfl) (by exact bv_cells _) ?_
    have HB5 := hid (below_setRow' HB.out hbh (bv (supHalf gen n)).toArray)
    have HZ5 := hid (setRow_heap _ _ _ (bv (supHalf gen n)).toArray _ _ HZ.out)
    have hS5 := And.intro ((HB5.out.cell (World.block_lt_of_cell? wb _ cd)).trans cd) ((HB5.out.cell (World.block_lt_of_cell? wb _ cg)).trans cg)
    refine hK.out _ _ ?k5x13z (fun hS => ?s5x13z)
    case k5x13z => exact hS5
    clear hK K
    try simp only [Act.put]
    refine wpAnyH_done (by kernel_rfl) ?_ _
    have H5 : Hid (St B w0 _ (As ++ [blkA bd 41 [ptr a], blkA bg 3 [.int .i64 gen], blkA bh 172 (bv (supHalf gen n))])) := hid (H2.out.addBlk' HB5.out HZ5.out hbh)
    generalize hws : World.setRow _ _ _ = ws at H5 hS5 ⊢
    clear hS HB5 HZ5 hws
    have cd5 := hS5.1
    go_wp2_with (refine wpl_layV rowF rfl 2 _ rfl [.func (.func 157) #[] #[ptr bd, ptr bg, ptr bh], .func (.func 41) #[ptr a] #[]] rfl (by omega) (by omega) (by simp [Value.cells]) (by simp [Act.eval, ptr]) ?_; intro w6 hb6 h6; have H6 := hid (H5.out.addBlk' hb6 h6 (Nat.le_refl _)); clear hb6 h6)
    obtain ⟨g6, hg6⟩ : ∃ g6, ws.heap.size = g6 := ⟨_, rfl⟩
    rw [hg6]
    rw [hg6] at H6
    clear hg6
    refine (vcounts_all bd bg bh g6 gen n H6.out i HI.out HN.out hg hlo).mono ?_
    rintro e w7 ⟨rfl, h7⟩
    have H7 := hid h7
    clear h7
    go_wp2
    go_ret
    exact ⟨rfl, H7.out⟩
end Go.Proofs.Ytlondopgibcikaa
namespace Go.Proofs.Ytlondopgibcikaa
open Go.RowKit Ent
/-- a generation's area is made blank -/
def blankD (d : Dev) (gen : Nat) : Int × Dev := blankOf d (fromOf d.img.length gen : Nat) (fromOf d.img.length gen + halfOf d.img.length : Nat) gen
theorem St.v_area {B : Nat} {w0 w w1 : World} {As : List Asset} {a : Nat} {d : Dev} (h : St B w0 w As) (hb : Below w.heap.size w w1) (i : Nat) (hi : As[i]? = some (dev a d)) (gen : Nat) (hg : gen ≤ 2147483648) (hn : 2 ≤ d.img.length) :
    Calls Try.prog 123 #[ptr a, .int .i64 gen] w1 fun e w' => e = .returned (.agg #[.int .i64 (fromOf d.img.length gen : Nat), .int .i64 (fromOf d.img.length gen + halfOf d.img.length : Nat), .int .i64 gen]) ∧ Below w1.heap.size w1 w' := by
  obtain ⟨F, hA, _⟩ := h.open2 hb i hi
  exact varea_any gen hg w1 hA hn
/-- Format's things -/
def formatFs (k : Nat) (d : Dev) : Int × Dev := if k = 0 then d.write 0 (zr 64) else if k = 1 then d.write 1 (zr 64) else if k = 2 then d.flush else if k = 3 then blankD d 1 else countsD d 1
def formatD (d : Dev) : Int × Dev := if d.img.length < 8 then (3, d) else seqOf formatFs 0 5 d
theorem counts_loose (d : Dev) (gen : Nat) : (countsD d gen).2.loose.length ≤ d.loose.length + 1 ∧ (countsD d gen).2.img.length = d.img.length := by
  have h1 := write_loose d ((gen % 2 : Nat) : Int) (supSec gen d.img.length)
  unfold countsD andD
  split
  · have h2 := flush_loose (d.write ((gen % 2 : Nat) : Int) (supSec gen d.img.length)).2
    exact ⟨by omega, by rw [h2.2, h1.2]⟩
  · exact h1
theorem formatFs_loose (k : Nat) (d : Dev) : (formatFs k d).2.loose.length ≤ d.loose.length + d.img.length + 1 ∧ (formatFs k d).2.img.length = d.img.length := by
  unfold formatFs
  split
  · have := write_loose d 0 (zr 64); exact ⟨by omega, this.2⟩
  · split
    · have := write_loose d 1 (zr 64); exact ⟨by omega, this.2⟩
    · split
      · have := flush_loose d; exact ⟨by omega, this.2⟩
      · split
        · have := blank_loose d (fromOf d.img.length 1 : Nat) (fromOf d.img.length 1 + halfOf d.img.length : Nat) ((1 : Nat) : Int); exact ⟨Nat.le_succ_of_le this.1, this.2⟩
        · have := counts_loose d 1; exact ⟨by omega, this.2⟩
set_option maxRecDepth 100000 in
set_option maxHeartbeats 1000000 in
theorem vformat1 {B : Nat} {w0 w : World} {As : List Asset} {a : Nat} {d : Dev} (h : St B w0 w As) (i : Nat) (hi : As[i]? = some (dev a d)) (jd bd : Nat) (hjd : As[jd]? = some (blkA bd 41 [ptr a])) (hid1 : i ≠ jd) (hlo : d.loose.length ≤ 1073741824) :
    Calls Try.prog 139 #[ptr bd] w fun e w' => e = .returned (.int .i64 (d.write 0 (zr 64)).1) ∧ St B w0 w' (As.set i (dev a (d.write 0 (zr 64)).2)) := by
  have cd := (h.blk jd hjd).cell (j := 0) rfl
  have H := hid h; have HI := hid hi; have HJD := hid hjd
  clear h hi hjd
  unfold ptr at cd ⊢
  go_enter Try.func139, Try.ntmps139
  go_upto_region 1 with fail
  refine wp_region_held_drew (S := fun w' => w'.cell? ⟨bd, 0, none⟩ = some (.pointer (some ⟨a, 0, none⟩))) (by kernel_rfl) cd (fun hS => ?_)
  refine wpAnyH_take (i := 0) (v := ?v0x1z) (by simp only [List.getElem?_toArray, List.getElem?_cons_zero]; exact rfl) (by kernel_rfl) (by kernel_rfl) (by kernel_rfl) (by exact fun _ _ _ h => h) (Or.inl ⟨by rfl, ?y0x1z⟩) hS ?r0x1z
  case y0x1z => (intro w' hSw; (try dsimp only at hSw); go_simp; (try with_reducible rfl))
  simp only [Act.put, List.setIfInBounds_toArray, List.set_cons_zero, List.set_cons_succ]
  refine wpAnyH_ready (rs := [1]) (by kernel_rfl) (by simp) ?_
  refine AllReadyH.cons (by simp only [List.getElem?_toArray, List.getElem?_cons_zero, List.getElem?_cons_succ]; exact rfl) (fun K hK => ?_) AllReadyH.nil
  go_simp
  refine (noughts_any _).mono ?_
  rintro e w5 ⟨g5, rfl, h5, hg5, hb5⟩
  have hS5 := (hb5.cell (World.block_lt_of_cell? _ _ hS)).trans hS
  have HB5 : Hid (Below w.heap.size w w5) := hid (th (Below.refl w.heap.size w).drew hb5)
  have H5 := hid h5
  have HG5 : Hid (w.heap.size ≤ g5) := hid hg5
  clear hb5 h5 hg5
  refine hK.out _ _ ?k1x2z (fun hS => ?s1x2z)
  case k1x2z => exact hS5
  clear hK K
  try simp only [Act.put, List.setIfInBounds_toArray, List.set_cons_zero, List.set_cons_succ]
  refine wpAnyH_ready (rs := [2]) (by kernel_rfl) (by simp) ?_
  refine AllReadyH.cons (by simp only [List.getElem?_toArray, List.getElem?_cons_zero, List.getElem?_cons_succ]; exact rfl) (fun K hK => ?_) AllReadyH.nil
  go_simp
  refine (H.out.dev_write2 HB5.out i HI.out 0 _ 64 _ (zr 64) rfl (.inr (.inr ⟨_, _, rfl, H5.out.range fun j v hv => by rw [Nat.zero_add]; exact hv⟩)) (fun x hx => by cases hx; exact .inr HG5.out) hlo).mono ?_
  rintro e w7 ⟨rfl, h7⟩
  have H7 := hid h7
  have hS7 := ((H7.out.blk jd (by rw [List.getElem?_set_ne hid1]; exact HJD.out)).cell (j := 0) rfl)
  clear h7
  refine hK.out _ _ ?k2x3z (fun hS => ?s2x3z)
  case k2x3z => exact hS7
  clear hK K
  try simp only [Act.put, List.setIfInBounds_toArray, List.set_cons_zero, List.set_cons_succ]
  refine wpAnyH_take (i := 3) (v := ?v3x4z) (by simp only [List.getElem?_toArray, List.getElem?_cons_zero, List.getElem?_cons_succ]; exact rfl) (by kernel_rfl) (by kernel_rfl) (by kernel_rfl) (by exact fun _ _ _ h => h) (Or.inl ⟨by rfl, ?y3x4z⟩) hS ?r3x4z
  case y3x4z => (intro w' hSw; (try dsimp only at hSw); go_simp; (try with_reducible rfl))
  simp only [Act.put, List.setIfInBounds_toArray, List.set_cons_zero, List.set_cons_succ]
  refine wpAnyH_done (by kernel_rfl) ?_ _
  go_wp2
  go_ret
  exact ⟨rfl, H7.out⟩
set_option maxRecDepth 100000 in
set_option maxHeartbeats 1000000 in
theorem vformat2 {B : Nat} {w0 w : World} {As : List Asset} {a : Nat} {d : Dev} (h : St B w0 w As) (i : Nat) (hi : As[i]? = some (dev a d)) (jd bd : Nat) (hjd : As[jd]? = some (blkA bd 41 [ptr a])) (hid1 : i ≠ jd) (hlo : d.loose.length ≤ 1073741824) :
    Calls Try.prog 141 #[ptr bd] w fun e w' => e = .returned (.int .i64 (d.write 1 (zr 64)).1) ∧ St B w0 w' (As.set i (dev a (d.write 1 (zr 64)).2)) := by
  have cd := (h.blk jd hjd).cell (j := 0) rfl
  have H := hid h; have HI := hid hi; have HJD := hid hjd
  clear h hi hjd
  unfold ptr at cd ⊢
  go_enter Try.func141, Try.ntmps141
  go_upto_region 1 with fail
  refine wp_region_held_drew (S := fun w' => w'.cell? ⟨bd, 0, none⟩ = some (.pointer (some ⟨a, 0, none⟩))) (by kernel_rfl) cd (fun hS => ?_)
  refine wpAnyH_take (i := 0) (v := ?v0x1z) (by simp only [List.getElem?_toArray, List.getElem?_cons_zero]; exact rfl) (by kernel_rfl) (by kernel_rfl) (by kernel_rfl) (by exact fun _ _ _ h => h) (Or.inl ⟨by rfl, ?y0x1z⟩) hS ?r0x1z
  case y0x1z => (intro w' hSw; (try dsimp only at hSw); go_simp; (try with_reducible rfl))
  simp only [Act.put, List.setIfInBounds_toArray, List.set_cons_zero, List.set_cons_succ]
  refine wpAnyH_ready (rs := [1]) (by kernel_rfl) (by simp) ?_
  refine AllReadyH.cons (by simp only [List.getElem?_toArray, List.getElem?_cons_zero, List.getElem?_cons_succ]; exact rfl) (fun K hK => ?_) AllReadyH.nil
  go_simp
  refine (noughts_any _).mono ?_
  rintro e w5 ⟨g5, rfl, h5, hg5, hb5⟩
  have hS5 := (hb5.cell (World.block_lt_of_cell? _ _ hS)).trans hS
  have HB5 : Hid (Below w.heap.size w w5) := hid (th (Below.refl w.heap.size w).drew hb5)
  have H5 := hid h5
  have HG5 : Hid (w.heap.size ≤ g5) := hid hg5
  clear hb5 h5 hg5
  refine hK.out _ _ ?k1x2z (fun hS => ?s1x2z)
  case k1x2z => exact hS5
  clear hK K
  try simp only [Act.put, List.setIfInBounds_toArray, List.set_cons_zero, List.set_cons_succ]
  refine wpAnyH_ready (rs := [2]) (by kernel_rfl) (by simp) ?_
  refine AllReadyH.cons (by simp only [List.getElem?_toArray, List.getElem?_cons_zero, List.getElem?_cons_succ]; exact rfl) (fun K hK => ?_) AllReadyH.nil
  go_simp
  refine (H.out.dev_write2 HB5.out i HI.out 1 _ 64 _ (zr 64) rfl (.inr (.inr ⟨_, _, rfl, H5.out.range fun j v hv => by rw [Nat.zero_add]; exact hv⟩)) (fun x hx => by cases hx; exact .inr HG5.out) hlo).mono ?_
  rintro e w7 ⟨rfl, h7⟩
  have H7 := hid h7
  have hS7 := ((H7.out.blk jd (by rw [List.getElem?_set_ne hid1]; exact HJD.out)).cell (j := 0) rfl)
  clear h7
  refine hK.out _ _ ?k2x3z (fun hS => ?s2x3z)
  case k2x3z => exact hS7
  clear hK K
  try simp only [Act.put, List.setIfInBounds_toArray, List.set_cons_zero, List.set_cons_succ]
  refine wpAnyH_take (i := 3) (v := ?v3x4z) (by simp only [List.getElem?_toArray, List.getElem?_cons_zero, List.getElem?_cons_succ]; exact rfl) (by kernel_rfl) (by kernel_rfl) (by kernel_rfl) (by exact fun _ _ _ h => h) (Or.inl ⟨by rfl, ?y3x4z⟩) hS ?r3x4z
  case y3x4z => (intro w' hSw; (try dsimp only at hSw); go_simp; (try with_reducible rfl))
  simp only [Act.put, List.setIfInBounds_toArray, List.set_cons_zero, List.set_cons_succ]
  refine wpAnyH_done (by kernel_rfl) ?_ _
  go_wp2
  go_ret
  exact ⟨rfl, H7.out⟩
set_option maxRecDepth 100000 in
set_option maxHeartbeats 1000000 in
theorem vformat3 {B : Nat} {w0 w : World} {As : List Asset} {a : Nat} {d : Dev} (h : St B w0 w As) (i : Nat) (hi : As[i]? = some (dev a d)) (jd bd : Nat) (hjd : As[jd]? = some (blkA bd 41 [ptr a])) (hid1 : i ≠ jd) (hlo : d.loose.length ≤ 1073000000) (hn : 2 ≤ d.img.length) :
    Calls Try.prog 142 #[ptr bd] w fun e w' => e = .returned (.int .i64 (blankD d 1).1) ∧ St B w0 w' (As.set i (dev a (blankD d 1).2)) := by
  have cd := (h.blk jd hjd).cell (j := 0) rfl
  have H := hid h; have HI := hid hi; have HJD := hid hjd
  obtain ⟨n, hnn⟩ : ∃ n, d.img.length = n := ⟨_, rfl⟩
  have HN := hid hnn
  unfold blankD
  rw [hnn]
  clear h hi hjd hnn
  unfold ptr at cd ⊢
  go_enter Try.func142, Try.ntmps142
  go_upto_region 1 with fail
  refine wp_region_held_drew (S := fun w' => w'.cell? ⟨bd, 0, none⟩ = some (.pointer (some ⟨a, 0, none⟩))) (by kernel_rfl) cd (fun hS => ?_)
  refine wpAnyH_take (i := 0) (v := ?v0x1z) (by simp only [List.getElem?_toArray, List.getElem?_cons_zero]; exact rfl) (by kernel_rfl) (by kernel_rfl) (by kernel_rfl) (by exact fun _ _ _ h => h) (Or.inl ⟨by rfl, ?y0x1z⟩) hS ?r0x1z
  case y0x1z => (intro w' hSw; (try dsimp only at hSw); go_simp; (try with_reducible rfl))
  simp only [Act.put, List.setIfInBounds_toArray, List.set_cons_zero, List.set_cons_succ]
  refine wpAnyH_take (i := 1) (v := ?v1x2z) (by simp only [List.getElem?_toArray, List.getElem?_cons_zero, List.getElem?_cons_succ]; exact rfl) (by kernel_rfl) (by kernel_rfl) (by kernel_rfl) (by exact fun _ _ _ h => h) (Or.inl ⟨by rfl, ?y1x2z⟩) hS ?r1x2z
  case y1x2z => (intro w' hSw; (try dsimp only at hSw); go_simp; (try with_reducible rfl))
  simp only [Act.put, List.setIfInBounds_toArray, List.set_cons_zero, List.set_cons_succ]
  refine wpAnyH_ready (rs := [2]) (by kernel_rfl) (by simp) ?_
  refine AllReadyH.cons (by simp only [List.getElem?_toArray, List.getElem?_cons_zero, List.getElem?_cons_succ]; exact rfl) (fun K hK => ?_) AllReadyH.nil
  go_simp
  refine (H.out.v_area (Below.refl _ _).drew i HI.out 1 (by omega) hn).mono ?_
  rintro e w5 ⟨rfl, hb5⟩
  rw [HN.out]
  have hS5 := (hb5.cell (World.block_lt_of_cell? _ _ hS)).trans hS
  have H5 := hid (H.out.below (th (Below.refl w.heap.size w).drew hb5))
  clear hb5
  refine hK.out _ _ ?k2x3z (fun hS => ?s2x3z)
  case k2x3z => exact hS5
  clear hK K
  try simp only [Act.put, List.setIfInBounds_toArray, List.set_cons_zero, List.set_cons_succ]
  refine wpAnyH_ready (rs := [3]) (by kernel_rfl) (by simp) ?_
  refine AllReadyH.cons (by simp only [List.getElem?_toArray, List.getElem?_cons_zero, List.getElem?_cons_succ]; exact rfl) (fun K hK => ?_) AllReadyH.nil
  go_simp
  refine (H5.out.log_blank i HI.out (fromOf n 1 : Nat) (fromOf n 1 + halfOf n : Nat) ((1 : Nat) : Int) hlo).mono ?_
  rintro e w7 ⟨rfl, h7⟩
  have H7 := hid h7
  have hS7 := ((H7.out.blk jd (by rw [List.getElem?_set_ne hid1]; exact HJD.out)).cell (j := 0) rfl)
  clear h7
  refine hK.out _ _ ?k3x4z (fun hS => ?s3x4z)
  case k3x4z => exact hS7
  clear hK K
  try simp only [Act.put, List.setIfInBounds_toArray, List.set_cons_zero, List.set_cons_succ]
  refine wpAnyH_take (i := 4) (v := ?v4x5z) (by simp only [List.getElem?_toArray, List.getElem?_cons_zero, List.getElem?_cons_succ]; exact rfl) (by kernel_rfl) (by kernel_rfl) (by kernel_rfl) (by exact fun _ _ _ h => h) (Or.inl ⟨by rfl, ?y4x5z⟩) hS ?r4x5z
  case y4x5z => (intro w' hSw; (try dsimp only at hSw); go_simp; (try with_reducible rfl))
  simp only [Act.put, List.setIfInBounds_toArray, List.set_cons_zero, List.set_cons_succ]
  refine wpAnyH_done (by kernel_rfl) ?_ _
  go_wp2
  go_ret
  exact ⟨rfl, H7.out⟩
set_option maxRecDepth 100000 in
set_option maxHeartbeats 1000000 in
theorem vformat4 {B : Nat} {w0 w : World} {As : List Asset} {a : Nat} {d : Dev} (h : St B w0 w As) (i : Nat) (hi : As[i]? = some (dev a d)) (jd bd : Nat) (hjd : As[jd]? = some (blkA bd 41 [ptr a])) (hlo : d.loose.length ≤ 1073000000) :
    Calls Try.prog 143 #[ptr bd] w fun e w' => e = .returned (.int .i64 (countsD d 1).1) ∧ St B w0 w' (As.set i (dev a (countsD d 1).2)) := by
  have cd := (h.blk jd hjd).cell (j := 0) rfl
  have H := hid h; have HI := hid hi
  clear h hi hjd
  unfold ptr at cd ⊢
  go_enter Try.func143, Try.ntmps143
  go_wp2_with fail
  refine (vcounts_any H.out i HI.out 1 (by omega) (by omega)).mono ?_
  rintro e w7 ⟨rfl, h7⟩
  have H7 := hid h7
  clear h7
  go_wp2
  go_ret
  exact ⟨rfl, H7.out⟩
theorem enter_f1 (xs : Array Value) (w : World) : (callFunc 139 xs).run Try.prog w = .ok (.enter 139 xs) w := by kernel_rfl
theorem enter_f2 (xs : Array Value) (w : World) : (callFunc 141 xs).run Try.prog w = .ok (.enter 141 xs) w := by kernel_rfl
theorem enter_f3 (xs : Array Value) (w : World) : (callFunc 142 xs).run Try.prog w = .ok (.enter 142 xs) w := by kernel_rfl
theorem enter_f4 (xs : Array Value) (w : World) : (callFunc 143 xs).run Try.prog w = .ok (.enter 143 xs) w := by kernel_rfl
def fmtIds (k : Nat) : FuncId := if k = 0 then 139 else if k = 1 then 141 else if k = 2 then 41 else if k = 3 then 142 else 143
theorem vformat_all {B : Nat} {w0 w : World} {As : List Asset} {a : Nat} {d : Dev} (bd g : Nat) (h : St B w0 w (As ++ [blkA bd 41 [ptr a], blkA g 46 [.func (.func 139) #[] #[ptr bd], .func (.func 141) #[] #[ptr bd], .func (.func 41) #[ptr a] #[], .func (.func 142) #[] #[ptr bd], .func (.func 143) #[] #[ptr bd]]])) (i : Nat) (hi : As[i]? = some (dev a d)) (hn : 8 ≤ d.img.length) (hlo : d.loose.length ≤ 1000000000) :
    Calls Try.prog 125 #[.slice (some ⟨g, 0, none⟩) 5 5] w fun e w' => e = .returned (.int .i64 (formatD d).1) ∧ St B w0 w' (As.set i (dev a (formatD d).2)) := by
  have hok := (h.ok i (get_pre hi)).len
  refine (vall_seq (S := Dev) (fun s w => St B w0 w ((As ++ [blkA bd 41 [ptr a], blkA g 46 [.func (.func 139) #[] #[ptr bd], .func (.func 141) #[] #[ptr bd], .func (.func 41) #[ptr a] #[], .func (.func 142) #[] #[ptr bd], .func (.func 143) #[] #[ptr bd]]]).set i (dev a s))) (fun k s => s.loose.length ≤ d.loose.length + k * 65537 ∧ s.img.length = d.img.length) formatFs g 5 (by omega) fmtIds (fun k => if k = 2 then #[ptr a] else #[]) (fun k => if k = 2 then #[] else #[ptr bd]) ?_ ?_ ?_ w d ?_ ⟨by omega, rfl⟩).mono ?_
  · intro k s w' hk hs
    have := hs.blk (As.length + 1) (get_post' i hi 1 rfl)
    rcases (by omega : k = 0 ∨ k = 1 ∨ k = 2 ∨ k = 3 ∨ k = 4) with rfl | rfl | rfl | rfl | rfl
    · exact this.cell (j := 0) rfl
    · exact this.cell (j := 1) rfl
    · exact this.cell (j := 2) rfl
    · exact this.cell (j := 3) rfl
    · exact this.cell (j := 4) rfl
  · intro k s w' hk hq hs
    have hi' := set_get (C := dev a s) (get_pre (X := [blkA bd 41 [ptr a], blkA g 46 [.func (.func 139) #[] #[ptr bd], .func (.func 141) #[] #[ptr bd], .func (.func 41) #[ptr a] #[], .func (.func 142) #[] #[ptr bd], .func (.func 143) #[] #[ptr bd]]]) hi)
    have hl := formatFs_loose k s
    have hq2 : (formatFs k s).2.loose.length ≤ d.loose.length + (k + 1) * 65537 ∧ (formatFs k s).2.img.length = d.img.length := ⟨by omega, by rw [hl.2, hq.2]⟩
    rcases (by omega : k = 0 ∨ k = 1 ∨ k = 2 ∨ k = 3 ∨ k = 4) with rfl | rfl | rfl | rfl | rfl
    · refine (vformat1 hs i hi' (As.length + 0) bd (get_post' i hi 0 rfl) (ne_post hi 0) (by omega)).mono ?_
      rintro e w2 ⟨rfl, h2⟩
      rw [set_twice] at h2
      exact ⟨rfl, h2, fun _ => hq2⟩
    · refine (vformat2 hs i hi' (As.length + 0) bd (get_post' i hi 0 rfl) (ne_post hi 0) (by omega)).mono ?_
      rintro e w2 ⟨rfl, h2⟩
      rw [set_twice] at h2
      exact ⟨rfl, h2, fun _ => hq2⟩
    · refine (hs.dev_flush i hi').mono ?_
      rintro e w2 ⟨rfl, h2⟩
      rw [set_twice] at h2
      exact ⟨rfl, h2, fun _ => hq2⟩
    · refine (vformat3 hs i hi' (As.length + 0) bd (get_post' i hi 0 rfl) (ne_post hi 0) (by omega) (by omega)).mono ?_
      rintro e w2 ⟨rfl, h2⟩
      rw [set_twice] at h2
      exact ⟨rfl, h2, fun _ => hq2⟩
    · refine (vformat4 hs i hi' (As.length + 0) bd (get_post' i hi 0 rfl) (by omega)).mono ?_
      rintro e w2 ⟨rfl, h2⟩
      rw [set_twice] at h2
      exact ⟨rfl, h2, fun _ => hq2⟩
  · intro k hk xs w'
    rcases (by omega : k = 0 ∨ k = 1 ∨ k = 2 ∨ k = 3 ∨ k = 4) with rfl | rfl | rfl | rfl | rfl
    · exact enter_f1 xs w'
    · exact enter_f2 xs w'
    · exact enter_flush xs w'
    · exact enter_f3 xs w'
    · exact enter_f4 xs w'
  · have : ((As ++ [blkA bd 41 [ptr a], blkA g 46 [.func (.func 139) #[] #[ptr bd], .func (.func 141) #[] #[ptr bd], .func (.func 41) #[ptr a] #[], .func (.func 142) #[] #[ptr bd], .func (.func 143) #[] #[ptr bd]]]).set i (dev a d)) = _ := set_same (get_pre hi)
    rw [this]; exact h
  · rintro e w' ⟨rfl, h'⟩
    have e1 : seqOf formatFs 0 5 d = formatD d := by unfold formatD; rw [if_neg (by omega)]
    rw [e1] at h' ⊢
    rw [set_pre hi] at h'
    exact ⟨rfl, h'.drop_post⟩
set_option maxRecDepth 100000 in
set_option maxHeartbeats 1000000 in
theorem vformat_any {B : Nat} {w0 w : World} {As : List Asset} {a : Nat} {d : Dev} (h : St B w0 w As) (i : Nat) (hi : As[i]? = some (dev a d)) (hlo : d.loose.length ≤ 1000000000) :
    Calls Try.prog 93 #[ptr a] w fun e w' => e = .returned (.int .i64 (formatD d).1) ∧ St B w0 w' (As.set i (dev a (formatD d).2)) := by
  have HI := hid hi
  obtain ⟨bd, hbd⟩ : ∃ bd, w.heap.size = bd := ⟨_, rfl⟩
  obtain ⟨w1, hw1⟩ : ∃ w1, w.alloc (.cells #[ptr a] 41) = w1 := ⟨_, rfl⟩
  have h1 : St B w0 w1 (As ++ [blkA bd 41 [ptr a]]) := by rw [← hw1, ← hbd]; exact h.box _ _
  have H1 := hid h1
  have cd := (h1.blk (As.length + 0) (get_post 0 rfl)).cell (j := 0) rfl
  obtain ⟨F, hA, _⟩ := h1.open i (get_pre hi)
  have HM := hid (vmay_any w1 hA)
  have HW1 := hid hw1; have HBD := hid hbd
  clear h h1 hi hbd hw1 hA
  unfold ptr at cd HW1 HM ⊢
  by_cases h8 : d.img.length < 8
  · have HE : Hid (formatD d = (3, d)) := hid (by unfold formatD; rw [if_pos h8])
    have HE2 : Hid (mayOf d = 3) := hid (by unfold mayOf; rw [if_pos h8])
    rw [HE.out]
    go_enter Try.func93, Try.ntmps93
    go_upto_region 1 with fail
    rw [HW1.out, HBD.out]
    go_wp2_with fail
    refine HM.out.mono ?_
    rintro e w' ⟨rfl, hw'⟩
    subst w'
    rw [HE2.out]
    go_wp2
    go_ret
    exact ⟨rfl, by rw [set_same HI.out]; exact H1.out.drop_post⟩
  · have HE2 : Hid (mayOf d = 0) := hid (by unfold mayOf; rw [if_neg h8])
    go_enter Try.func93, Try.ntmps93
    go_upto_region 1 with fail
    rw [HW1.out, HBD.out]
    go_wp2_with fail
    refine HM.out.mono ?_
    rintro e w' ⟨rfl, hw'⟩
    subst w'
    rw [HE2.out]
    go_wp2_with (refine wpl_layV rowF rfl 5 _ rfl [.func (.func 139) #[] #[ptr bd], .func (.func 141) #[] #[ptr bd], .func (.func 41) #[ptr a] #[], .func (.func 142) #[] #[ptr bd], .func (.func 143) #[] #[ptr bd]] rfl (by omega) (by omega) (by simp [Value.cells]) (by simp [Act.eval, ptr]) ?_; intro w6 hb6 h6; have H6 := hid (H1.out.addBlk' hb6 h6 (Nat.le_refl _)); clear hb6 h6)
    obtain ⟨g6, hg6⟩ : ∃ g6, w1.heap.size = g6 := ⟨_, rfl⟩
    rw [hg6]
    rw [hg6] at H6
    clear hg6
    refine (vformat_all bd g6 H6.out i HI.out (by omega) hlo).mono ?_
    rintro e w7 ⟨rfl, h7⟩
    have H7 := hid h7
    clear h7
    go_wp2
    go_ret
    exact ⟨rfl, H7.out⟩
end Go.Proofs.Ytlondopgibcikaa
