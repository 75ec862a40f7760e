/- The walks of slices.Equal and of the log's right, Check, Need, kinds. The walks of the log's Check, Need, kinds. The document's device: how it lies in memory; the walks of what it tells. -/
import Derived.Test.YtlondopgibcikaaGreatRows
import Derived.Test.YtlondopgibcikaaGreatG01
import Derived.Test.YtlondopgibcikaaGreatG02
import Derived.Test.YtlondopgibcikaaGreatG03
import Derived.Test.YtlondopgibcikaaGreatG04
import Derived.Test.YtlondopgibcikaaGreatG05
import Derived.Test.YtlondopgibcikaaGreatG06
import Derived.Test.YtlondopgibcikaaGreatG07
import Derived.WalkKit
import Derived.WalkSpells
import Derived.WalkLawsBesides
import Derived.Deep.RegionHeld3
import Derived.Deep.QuietTactic
import Derived.BigQuiet
namespace Go.Proofs.YtlondopgibcikaaGreat
open Go.RowKit Ent
theorem sb_at {w : World} {ao : Option Addr} {cap : Nat} {l : List UInt8} (h : SB w ao cap l) {k : Nat} {x : UInt8} (hx : l[k]? = some x) : ∃ b o, ao = some ⟨b, o, none⟩ ∧ w.cell? ⟨b, o + k, none⟩ = some (.int .u8 (x.toNat : Int)) := by
  rcases h with ⟨_, _, rfl⟩ | ⟨_, _, rfl⟩ | ⟨b, o, rfl, hr⟩
  · simp at hx
  · simp at hx
  · exact ⟨b, o, rfl, rangeAt_byte hr hx⟩
set_option maxRecDepth 100000 in
set_option maxHeartbeats 1000000 in
theorem equal_any (ao bo : Option Addr) (n m c d : Nat) (l r : List UInt8) (hn : n = l.length) (hm : m = r.length) (hb : n ≤ 1073741824) (hb2 : m ≤ 1073741824) (w : World) (hl : SB w ao c l) (hr : SB w bo d r) :
    Calls Tryz.prog 118 #[.slice ao n c, .slice bo m d] w fun e w' => e = .returned (.bool (sameB l r)) ∧ Below w.heap.size w w' := by
  have HN := hid hn; have HM := hid hm
  have HL := hid hl; have HR := hid hr
  clear hn hm hl hr
  by_cases hne : n = m
  rotate_left
  · have HS : Hid (sameB l r = false) := hid (by
      unfold sameB
      rw [decide_eq_false_iff_not]; intro h; rw [h] at HN; exact hne (HN.out.trans HM.out.symm))
    go_enter Tryz.func118, Tryz.ntmps118
    go_wp2
    go_ret
    exact ⟨by rw [HS.out]; rfl, Below.refl _ _⟩
  subst hne
  go_enter Tryz.func118, Tryz.ntmps118
  go_wp2_with fail
  go_loopw [13] (fun i wr => ∃ k : Nat, k ≤ n ∧ i = .int .i64 k ∧ l.take k = r.take k ∧ Below w.heap.size w wr) (fun i _ => n - (intOf i).toNat)
  case atStart => exact ⟨0, Nat.zero_le _, rfl, by simp, Below.refl _ _⟩
  case round =>
    obtain ⟨k, hk, rfl, ht, hbe⟩ := hrel
    have HT := hid ht; have HB := hid hbe
    clear ht hbe
    by_cases hlt : k < n
    · obtain ⟨x, hx⟩ : ∃ x, l[k]? = some x := ⟨_, List.getElem?_eq_getElem (by rw [← HN.out]; exact hlt)⟩
      obtain ⟨y, hy⟩ : ∃ y, r[k]? = some y := ⟨_, List.getElem?_eq_getElem (by rw [← HM.out]; exact hlt)⟩
      obtain ⟨b1, o1, rfl, cx⟩ := sb_at (HL.out.below HB.out) hx
      obtain ⟨b2, o2, rfl, cy⟩ := sb_at (HR.out.below HB.out) hy
      have HX := hid hx; have HY := hid hy
      clear hx hy
      by_cases hxy : x = y
      · subst hxy
        go_wp2_with fail
        refine wp_region_held_drew (S := fun w' => w'.cell? ⟨b1, o1 + k, none⟩ = some (.int .u8 (x.toNat : Int)) ∧ w'.cell? ⟨b2, o2 + k, none⟩ = some (.int .u8 (x.toNat : Int))) (by kernel_rfl) ⟨cx, cy⟩ (fun hS => ?_)
        refine tkH (i := 0) (v := ?v0x1a) (y := Or.inl ⟨by rfl, ?y0x1a⟩) (s := hS) (h := ?r0x1a)
        case y0x1a => (intro w' hSw; (try dsimp only at hSw); go_simp; (try with_reducible rfl))
        simp only [Act.put, sA, sB, sC]
        refine tkH (i := 1) (v := ?v1x2a) (y := Or.inl ⟨by rfl, ?y1x2a⟩) (s := hS) (h := ?r1x2a)
        case y1x2a => (intro w' hSw; (try dsimp only at hSw); go_simp; (try with_reducible rfl))
        simp only [Act.put, sA, sB, sC]
        refine tkH (i := 2) (v := ?v2x3a) (y := Or.inl ⟨by rfl, ?y2x3a⟩) (s := hS) (h := ?r2x3a)
        case y2x3a => (intro w' hSw; (try dsimp only at hSw); go_simp; (try with_reducible rfl))
        simp only [Act.put, sA, sB, sC]
        refine tkH (i := 3) (v := ?v3x4a) (y := Or.inl ⟨by rfl, ?y3x4a⟩) (s := hS) (h := ?r3x4a)
        case y3x4a => (intro w' hSw; (try dsimp only at hSw); go_simp; (try with_reducible rfl))
        simp only [Act.put, sA, sB, sC]
        refine tkH (i := 4) (v := ?v4x5a) (y := Or.inl ⟨by rfl, ?y4x5a⟩) (s := hS) (h := ?r4x5a)
        case y4x5a => (intro w' hSw; (try dsimp only at hSw); go_simp; (try with_reducible rfl))
        simp only [Act.put, sA, sB, sC]
        refine tkH (i := 5) (v := ?v5x6a) (y := Or.inl ⟨by rfl, ?y5x6a⟩) (s := hS) (h := ?r5x6a)
        case y5x6a => (intro w' hSw; (try dsimp only at hSw); go_simp; (try with_reducible rfl))
        simp only [Act.put, sA, sB, sC]
        refine tkH (i := 6) (v := ?v6x7a) (y := Or.inl ⟨by rfl, ?y6x7a⟩) (s := hS) (h := ?r6x7a)
        case y6x7a => (intro w' hSw; (try dsimp only at hSw); go_simp; (try with_reducible rfl))
        simp only [Act.put, sA, sB, sC]
        refine tkH (i := 7) (v := ?v7x8a) (y := Or.inl ⟨by rfl, ?y7x8a⟩) (s := hS) (h := ?r7x8a)
        case y7x8a => (intro w' hSw; (try dsimp only at hSw); go_simp; (try with_reducible rfl))
        simp only [Act.put, sA, sB, sC]
        refine tkH (i := 8) (v := ?v8x9a) (y := Or.inl ⟨by rfl, ?y8x9a⟩) (s := hS) (h := ?r8x9a)
        case y8x9a => (intro w' hSw; (try dsimp only at hSw); go_simp; (try with_reducible rfl))
        simp only [Act.put, sA, sB, sC]
        refine wpAnyH_done (by kernel_rfl) ?_ _
        clear hS
        go_wp2
        go_roundw
        case rel => exact ⟨k + 1, by omega, by go_num, by rw [List.take_add_one, List.take_add_one, HT.out, HX.out, HY.out], HB.out.drew⟩
        case measure => simp [intOf]; omega
      · have hf1 : ((x.toNat : Int) == (y.toNat : Int)) = false := by
          rw [beq_eq_false_iff_ne]; intro h
          exact hxy (UInt8.toNat_inj.1 (by omega))
        have hf2 : ((x.toNat : Int) != (y.toNat : Int)) = true := by rw [bne, hf1]; rfl
        have HXY := hid hxy
        clear hxy
        go_wp2_with fail
        refine wp_region_held_drew (S := fun w' => w'.cell? ⟨b1, o1 + k, none⟩ = some (.int .u8 (x.toNat : Int)) ∧ w'.cell? ⟨b2, o2 + k, none⟩ = some (.int .u8 (y.toNat : Int))) (by kernel_rfl) ⟨cx, cy⟩ (fun hS => ?_)
        refine tkH (i := 0) (v := ?v0x1b) (y := Or.inl ⟨by rfl, ?y0x1b⟩) (s := hS) (h := ?r0x1b)
        case y0x1b => (intro w' hSw; (try dsimp only at hSw); go_simp; (try with_reducible rfl))
        simp only [Act.put, sA, sB, sC]
        refine tkH (i := 1) (v := ?v1x2b) (y := Or.inl ⟨by rfl, ?y1x2b⟩) (s := hS) (h := ?r1x2b)
        case y1x2b => (intro w' hSw; (try dsimp only at hSw); go_simp; (try with_reducible rfl))
        simp only [Act.put, sA, sB, sC]
        refine tkH (i := 2) (v := ?v2x3b) (y := Or.inl ⟨by rfl, ?y2x3b⟩) (s := hS) (h := ?r2x3b)
        case y2x3b => (intro w' hSw; (try dsimp only at hSw); go_simp; (try with_reducible rfl))
        simp only [Act.put, sA, sB, sC]
        refine tkH (i := 3) (v := ?v3x4b) (y := Or.inl ⟨by rfl, ?y3x4b⟩) (s := hS) (h := ?r3x4b)
        case y3x4b => (intro w' hSw; (try dsimp only at hSw); go_simp; (try with_reducible rfl))
        simp only [Act.put, sA, sB, sC]
        refine tkH (i := 4) (v := ?v4x5b) (y := Or.inl ⟨by rfl, ?y4x5b⟩) (s := hS) (h := ?r4x5b)
        case y4x5b => (intro w' hSw; (try dsimp only at hSw); go_simp; (try with_reducible rfl))
        simp only [Act.put, sA, sB, sC]
        refine tkH (i := 5) (v := ?v5x6b) (y := Or.inl ⟨by rfl, ?y5x6b⟩) (s := hS) (h := ?r5x6b)
        case y5x6b => (intro w' hSw; (try dsimp only at hSw); go_simp; (try with_reducible rfl))
        simp only [Act.put, sA, sB, sC]
        refine tkH (i := 6) (v := ?v6x7b) (y := Or.inl ⟨by rfl, ?y6x7b⟩) (s := hS) (h := ?r6x7b)
        case y6x7b => (intro w' hSw; (try dsimp only at hSw); go_simp; (try with_reducible rfl))
        simp only [Act.put, sA, sB, sC]
        refine tkH (i := 7) (v := ?v7x8b) (y := Or.inl ⟨by rfl, ?y7x8b⟩) (s := hS) (h := ?r7x8b)
        case y7x8b => (intro w' hSw; (try dsimp only at hSw); go_simp; (try with_reducible rfl))
        simp only [Act.put, sA, sB, sC]
        refine tkH (i := 8) (v := ?v8x9b) (y := Or.inl ⟨by rfl, ?y8x9b⟩) (s := hS) (h := ?r8x9b)
        case y8x9b => (intro w' hSw; (try dsimp only at hSw); go_simp; (try with_reducible rfl))
        simp only [Act.put, sA, sB, sC]
        refine wpAnyH_done (by kernel_rfl) ?_ _
        clear hS
        go_wp2
        go_ret
        exact ⟨by
          have h : sameB l r = false := by
            unfold sameB
            rw [decide_eq_false_iff_not]; intro h
            have h1 := HX.out; have h2 := HY.out
            rw [h, h2] at h1; injection h1 with h1; exact HXY.out h1.symm
          rw [h]; rfl, HB.out.drew⟩
    · have hk9 : k = n := by omega
      have HS : Hid (sameB l r = true) := hid (by
        have h := HT.out
        rw [hk9, List.take_of_length_le (by rw [HN.out]; exact Nat.le_refl _), List.take_of_length_le (by rw [HM.out]; exact Nat.le_refl _)] at h
        rw [h]; exact same_self r)
      go_wp2
      go_ret
      exact ⟨by rw [HS.out]; rfl, HB.out⟩
end Go.Proofs.YtlondopgibcikaaGreat
namespace Go.Proofs.YtlondopgibcikaaGreat
open Go.RowKit Ent
theorem below_drewN {B : Nat} {w0 w : World} (h : Below B w0 w) (n : Nat) : Below B w0 (w.drewN n) := ⟨h.os, h.tape, h.output, h.size, h.block⟩
theorem size_drewN {W : World} {a : Nat} {F : Nat → Prop} {d : Dev} (h : PDev W a F d) (n : Nat) : Calls Tryz.prog 58 #[ptr a] (W.drewN n) fun e w' => e = .returned (.int .i64 d.img.length) ∧ w' = W.drewN n :=
  lift_size _ (h.below (below_drewN (Below.refl _ _) n))
/-- why an area may not be -/
def checkOf (d : Dev) (f t g : Int) : Int := if f < 0 ∨ t < f ∨ (d.img.length : Int) < t ∨ g < 1 ∨ 2147483647 < g then 3 else 0
set_option maxRecDepth 100000 in
set_option maxHeartbeats 2000000 in
theorem check_any {a : Nat} {F : Nat → Prop} {d : Dev} (f t g : Int) (w : World) (h : PDev w a F d) :
    Calls Tryz.prog 98 #[ptr a, .agg #[.int .i64 f, .int .i64 t, .int .i64 g]] w fun e w' => e = .returned (.int .i64 (checkOf d f t g)) ∧ Below w.heap.size w w' := by
  have hok : d.ok := by obtain ⟨_, _, _, _, _, h⟩ := h; exact h.ok
  have hpos := hok.pos
  have hlen := hok.len
  have hz : (((d.img.length : Nat) : Int) == 0) = false := by rw [beq_eq_false_iff_ne]; omega
  have H1 := hid (h.below (fresh_alloc w (.cells #[.int .i64 f, .int .i64 t, .int .i64 g] 99)))
  have HB := hid (fresh_alloc w (.cells #[.int .i64 f, .int .i64 t, .int .i64 g] 99))
  clear h hok
  unfold ptr at *
  by_cases h1 : f < 0
  · have HC : Hid (checkOf d f t g = 3) := hid (by unfold checkOf; rw [if_pos (.inl h1)])
    have hd1 : decide (f < 0) = true := decide_eq_true h1
    go_enter Tryz.func98, Tryz.ntmps98
    go_wp2_with fail
    refine (lift_size _ H1.out).mono ?_
    rintro e w' ⟨rfl, rfl⟩
    go_wp2_with fail
    go_quiet ((go_at_call 58; exact Calls.quiet_of_same (size_drewN H1.out _)))
    go_wp2
    go_ret
    exact ⟨by rw [HC.out]; rfl, below_drewN HB.out _⟩
  have hd1 : decide (f < 0) = false := decide_eq_false h1
  by_cases h2 : t < f
  · have HC : Hid (checkOf d f t g = 3) := hid (by unfold checkOf; rw [if_pos (.inr (.inl h2))])
    have hd2 : decide (t < f) = true := decide_eq_true h2
    go_enter Tryz.func98, Tryz.ntmps98
    go_wp2_with fail
    refine (lift_size _ H1.out).mono ?_
    rintro e w' ⟨rfl, rfl⟩
    go_wp2_with fail
    go_quiet ((go_at_call 58; exact Calls.quiet_of_same (size_drewN H1.out _)))
    go_wp2
    go_ret
    exact ⟨by rw [HC.out]; rfl, below_drewN HB.out _⟩
  have hd2 : decide (t < f) = false := decide_eq_false h2
  by_cases h3 : (d.img.length : Int) < t
  · have HC : Hid (checkOf d f t g = 3) := hid (by unfold checkOf; rw [if_pos (.inr (.inr (.inl h3)))])
    have hd3 : decide ((d.img.length : Int) < t) = true := decide_eq_true h3
    go_enter Tryz.func98, Tryz.ntmps98
    go_wp2_with fail
    refine (lift_size _ H1.out).mono ?_
    rintro e w' ⟨rfl, rfl⟩
    go_wp2_with fail
    go_quiet ((go_at_call 58; exact Calls.quiet_of_same (size_drewN H1.out _)))
    go_wp2
    go_ret
    exact ⟨by rw [HC.out]; rfl, below_drewN HB.out _⟩
  have hd3 : decide ((d.img.length : Int) < t) = false := decide_eq_false h3
  by_cases h4 : g < 1
  · have HC : Hid (checkOf d f t g = 3) := hid (by unfold checkOf; rw [if_pos (.inr (.inr (.inr (.inl h4))))])
    have hd4 : decide (g < 1) = true := decide_eq_true h4
    go_enter Tryz.func98, Tryz.ntmps98
    go_wp2_with fail
    refine (lift_size _ H1.out).mono ?_
    rintro e w' ⟨rfl, rfl⟩
    go_wp2_with fail
    go_quiet ((go_at_call 58; exact Calls.quiet_of_same (size_drewN H1.out _)))
    go_wp2
    go_ret
    exact ⟨by rw [HC.out]; rfl, below_drewN HB.out _⟩
  have hd4 : decide (g < 1) = false := decide_eq_false h4
  by_cases h5 : 2147483647 < g
  · have HC : Hid (checkOf d f t g = 3) := hid (by unfold checkOf; rw [if_pos (.inr (.inr (.inr (.inr h5))))])
    have hd5 : decide (2147483647 < g) = true := decide_eq_true h5
    go_enter Tryz.func98, Tryz.ntmps98
    go_wp2_with fail
    refine (lift_size _ H1.out).mono ?_
    rintro e w' ⟨rfl, rfl⟩
    go_wp2_with fail
    go_quiet ((go_at_call 58; exact Calls.quiet_of_same (size_drewN H1.out _)))
    go_wp2
    go_ret
    exact ⟨by rw [HC.out]; rfl, below_drewN HB.out _⟩
  have hd5 : decide (2147483647 < g) = false := decide_eq_false h5
  have HC : Hid (checkOf d f t g = 0) := hid (by unfold checkOf; rw [if_neg (by rintro (h | h | h | h | h) <;> contradiction)])
  go_enter Tryz.func98, Tryz.ntmps98
  go_wp2_with fail
  refine (lift_size _ H1.out).mono ?_
  rintro e w' ⟨rfl, rfl⟩
  go_wp2_with fail
  go_quiet ((go_at_call 58; exact Calls.quiet_of_same (size_drewN H1.out _)))
  go_wp2
  go_ret
  exact ⟨by rw [HC.out]; rfl, below_drewN HB.out _⟩
set_option maxRecDepth 100000 in
set_option maxHeartbeats 400000 in
theorem need_any (n : Nat) (h : n ≤ 1048576) (w : World) : Calls Tryz.prog 71 #[.int .i64 n] w fun e w' => e = .returned (.int .i64 (needOf n)) ∧ w' = w := by
  by_cases h0 : n = 0
  · subst h0
    go_enter Tryz.func71, Tryz.ntmps71
    go_wp2
    go_ret
    exact ⟨rfl, rfl⟩
  · have HE : Hid (needOf n = (n + 48) / 49) := hid (by unfold needOf; rw [if_neg h0])
    go_enter Tryz.func71, Tryz.ntmps71
    go_wp2
    go_ret
    refine ⟨?_, rfl⟩
    rw [HE.out]
    show Ending.returned (.int .i64 (max 1 (((n : Int) + 49 - 1) / 49))) = _
    congr 2
    rw [Int.max_eq_right (by omega)]; omega
set_option maxRecDepth 100000 in
set_option maxHeartbeats 400000 in
theorem kinds_any (i many : Nat) (h : many ≤ 65536) (h1 : 1 ≤ many) (w : World) : Calls Tryz.prog 105 #[.int .i64 i, .int .i64 many] w fun e w' => e = .returned (.int .i64 (kindOf i many)) ∧ w' = w := by
  by_cases h1 : many = 1
  · have b1 : ((many : Int) == 1) = true := by simp [h1]
    have HK : Hid (kindOf i many = 1) := hid (by unfold kindOf; rw [if_pos h1])
    clear h1
    go_enter Tryz.func105, Tryz.ntmps105
    go_wp2
    go_ret
    exact ⟨by rw [HK.out]; rfl, rfl⟩
  have b1 : ((many : Int) == 1) = false := by rw [beq_eq_false_iff_ne]; omega
  by_cases h2 : i = 0
  · have b2 : ((i : Int) == 0) = true := by simp [h2]
    have HK : Hid (kindOf i many = 2) := hid (by unfold kindOf; rw [if_neg h1, if_pos h2])
    clear h1 h2
    go_enter Tryz.func105, Tryz.ntmps105
    go_wp2
    go_ret
    exact ⟨by rw [HK.out]; rfl, rfl⟩
  have b2 : ((i : Int) == 0) = false := by rw [beq_eq_false_iff_ne]; omega
  by_cases h3 : i = many - 1
  · have b3 : ((i : Int) == (many : Int) - 1) = true := by rw [beq_iff_eq]; omega
    have HK : Hid (kindOf i many = 4) := hid (by unfold kindOf; rw [if_neg h1, if_neg h2, if_pos h3])
    clear h1 h2 h3
    go_enter Tryz.func105, Tryz.ntmps105
    go_wp2
    go_ret
    exact ⟨by rw [HK.out]; rfl, rfl⟩
  · have b3 : ((i : Int) == (many : Int) - 1) = false := by rw [beq_eq_false_iff_ne]; omega
    have HK : Hid (kindOf i many = 3) := hid (by unfold kindOf; rw [if_neg h1, if_neg h2, if_neg h3])
    clear h1 h2 h3
    go_enter Tryz.func105, Tryz.ntmps105
    go_wp2
    go_ret
    exact ⟨by rw [HK.out]; rfl, rfl⟩
end Go.Proofs.YtlondopgibcikaaGreat
namespace Go.Proofs.YtlondopgibcikaaGreat
open Go.RowKit Ent
def head5 (vL vW : Value) (fused : Bool) (fuse : Int) (out : Bool) : List Value := [vL, vW, .bool fused, .int .i64 fuse, .bool out]
/-- the document's device lies at a: all its own in F, the bytes in Fb -/
structure RR (w : World) (a : Nat) (vL vW : Value) (vsL vsW : List Value) (fused : Bool) (fuse : Int) (F Fb : Nat → Prop) (L : List (List UInt8)) (l : List (Nat × List UInt8)) (out : Bool) : Prop where
  hd : Blk w a 63 (head5 vL vW fused fuse out)
  oL : w.ownsRow 0 44 1 vL L.length vsL
  rL : RowS w Fb vsL L
  oW : w.ownsRow 0 86 2 vW l.length vsW
  rW : RowW w Fb vsW l
  fr : -9223372036854775808 ≤ fuse ∧ fuse ≤ 9223372036854775807
  fa : F a
  na : ¬ Fb a
  fL : ∀ k, vL.ownBlock = some k → F k ∧ ¬ Fb k ∧ k ≠ a
  fW : ∀ k, vW.ownBlock = some k → F k ∧ ¬ Fb k ∧ k ≠ a
  LW : ∀ k, vL.ownBlock = some k → vW.ownBlock = some k → False
  fb : ∀ k, Fb k → F k
  lt : ∀ k, Fb k → k < w.heap.size
theorem RR.keep {w w' : World} {a : Nat} {vL vW : Value} {vsL vsW : List Value} {fused : Bool} {fuse : Int} {F Fb G : Nat → Prop} {L : List (List UInt8)} {l : List (Nat × List UInt8)} {out : Bool}
    (h : RR w a vL vW vsL vsW fused fuse F Fb L l out) (hk : Keep G w w') (hG : ∀ k, F k → ¬ G k) : RR w' a vL vW vsL vsW fused fuse F Fb L l out :=
  { h with hd := h.hd.keep hk (hG _ h.fa), oL := owns_keep h.oL hk fun k hk' => hG k (h.fL k hk').1, rL := h.rL.keep hk fun k hk' => hG k (h.fb k hk'), oW := owns_keep h.oW hk fun k hk' => hG k (h.fW k hk').1, rW := h.rW.keep hk fun k hk' => hG k (h.fb k hk'), lt := fun k hk' => Nat.lt_of_lt_of_le (h.lt k hk') hk.size }
theorem RR.below {w w' : World} {a : Nat} {vL vW : Value} {vsL vsW : List Value} {fused : Bool} {fuse : Int} {F Fb : Nat → Prop} {L : List (List UInt8)} {l : List (Nat × List UInt8)} {out : Bool}
    (h : RR w a vL vW vsL vsW fused fuse F Fb L l out) (hb : Below w.heap.size w w') : RR w' a vL vW vsL vsW fused fuse F Fb L l out :=
  h.keep (Keep.ofBelow (F := fun _ => False) hb) (fun _ _ => id)
theorem RR.drew {w : World} {a : Nat} {vL vW : Value} {vsL vsW : List Value} {fused : Bool} {fuse : Int} {F Fb : Nat → Prop} {L : List (List UInt8)} {l : List (Nat × List UInt8)} {out : Bool}
    (h : RR w a vL vW vsL vsW fused fuse F Fb L l out) : RR w.drew a vL vW vsL vsW fused fuse F Fb L l out := h.keep (Keep.refl (fun _ => False) w).drew (fun _ _ => id)
theorem RR.mono {w : World} {a : Nat} {vL vW : Value} {vsL vsW : List Value} {fused : Bool} {fuse : Int} {F Fb G : Nat → Prop} {L : List (List UInt8)} {l : List (Nat × List UInt8)} {out : Bool}
    (h : RR w a vL vW vsL vsW fused fuse F Fb L l out) (hFG : ∀ k, F k → G k) : RR w a vL vW vsL vsW fused fuse G Fb L l out :=
  { h with fa := hFG _ h.fa, fL := fun k hk => ⟨hFG k (h.fL k hk).1, (h.fL k hk).2⟩, fW := fun k hk => ⟨hFG k (h.fW k hk).1, (h.fW k hk).2⟩, fb := fun k hk => hFG k (h.fb k hk) }
/-- blocks that are new may be bytes of its own -/
theorem RR.more {w w' : World} {a : Nat} {vL vW : Value} {vsL vsW : List Value} {fused : Bool} {fuse : Int} {F Fb : Nat → Prop} {L : List (List UInt8)} {l : List (Nat × List UInt8)} {out : Bool}
    (h : RR w a vL vW vsL vsW fused fuse F Fb L l out) (hb : Below w.heap.size w w') : RR w' a vL vW vsL vsW fused fuse (grow F w w') (grow Fb w w') L l out := by
  have h' := h.below hb
  have hL : ∀ k, vL.ownBlock = some k → k < w.heap.size := own_lt h.oL
  have hW : ∀ k, vW.ownBlock = some k → k < w.heap.size := own_lt h.oW
  exact { hd := h'.hd, oL := h'.oL, rL := h'.rL.mono fun _ => .inl, oW := h'.oW, rW := h'.rW.mono fun _ => .inl, fr := h.fr, fa := .inl h.fa, na := fun hh => by
            rcases hh with hh | hh
            · exact h.na hh
            · have := h.hd.lt; omega
          fL := fun k hk => ⟨.inl (h.fL k hk).1, fun hh => by
            rcases hh with hh | hh
            · exact (h.fL k hk).2.1 hh
            · have := hL k hk; omega, (h.fL k hk).2.2⟩
          fW := fun k hk => ⟨.inl (h.fW k hk).1, fun hh => by
            rcases hh with hh | hh
            · exact (h.fW k hk).2.1 hh
            · have := hW k hk; omega, (h.fW k hk).2.2⟩
          LW := h.LW, fb := fun k hk => hk.imp (h.fb k) id, lt := fun k hk => by
            rcases hk with hk | hk
            · exact Nat.lt_of_lt_of_le (h.lt k hk) hb.size
            · exact hk.2 }
/-- its head is written -/
theorem RR.headed {w w' : World} {a : Nat} {vL vW : Value} {vsL vsW : List Value} {fused fused' : Bool} {fuse fuse' : Int} {F Fb : Nat → Prop} {L : List (List UInt8)} {l : List (Nat × List UInt8)} {out out' : Bool}
    (h : RR w a vL vW vsL vsW fused fuse F Fb L l out) (hk : Keep (fun k => k = a) w w') (hd : Blk w' a 63 (head5 vL vW fused' fuse' out')) (hr : -9223372036854775808 ≤ fuse' ∧ fuse' ≤ 9223372036854775807) : RR w' a vL vW vsL vsW fused' fuse' F Fb L l out' :=
  { hd := hd, oL := owns_keep h.oL hk fun k hk' => (h.fL k hk').2.2, rL := h.rL.keep hk fun k hk' e => h.na (by rw [← e]; exact hk'), oW := owns_keep h.oW hk fun k hk' => (h.fW k hk').2.2, rW := h.rW.keep hk fun k hk' e => h.na (by rw [← e]; exact hk'), fr := hr, fa := h.fa, na := h.na, fL := h.fL, fW := h.fW, LW := h.LW, fb := h.fb, lt := fun k hk' => Nat.lt_of_lt_of_le (h.lt k hk') hk.size }
def FuseR (f : Option Nat) (fused : Bool) (fuse : Int) : Prop := (f = none ∧ fused = false) ∨ ∃ k, f = some k ∧ fused = true ∧ fuse = (k : Int)
def RD (w : World) (a : Nat) (F : Nat → Prop) (d : Dev) : Prop := d.ok ∧ ∃ vL vW vsL vsW fused fuse Fb, RR w a vL vW vsL vsW fused fuse F Fb d.img d.loose d.out ∧ FuseR d.fuse fused fuse
theorem RD.keep {w w' : World} {a : Nat} {F G : Nat → Prop} {d : Dev} (h : RD w a F d) (hk : Keep G w w') (hG : ∀ k, F k → ¬ G k) : RD w' a F d := by
  obtain ⟨ho, vL, vW, vsL, vsW, fused, fuse, Fb, h, hf⟩ := h; exact ⟨ho, vL, vW, vsL, vsW, fused, fuse, Fb, h.keep hk hG, hf⟩
theorem RD.below {w w' : World} {a : Nat} {F : Nat → Prop} {d : Dev} (h : RD w a F d) (hb : Below w.heap.size w w') : RD w' a F d := h.keep (Keep.ofBelow (F := fun _ => False) hb) (fun _ _ => id)
theorem RD.mono {w : World} {a : Nat} {F G : Nat → Prop} {d : Dev} (h : RD w a F d) (hFG : ∀ k, F k → G k) : RD w a G d := by
  obtain ⟨ho, vL, vW, vsL, vsW, fused, fuse, Fb, h, hf⟩ := h; exact ⟨ho, vL, vW, vsL, vsW, fused, fuse, Fb, h.mono hFG, hf⟩
theorem RR.row {w : World} {a : Nat} {vL vW : Value} {vsL vsW : List Value} {fused : Bool} {fuse : Int} {F Fb : Nat → Prop} {L : List (List UInt8)} {l : List (Nat × List UInt8)} {out : Bool}
    (h : RR w a vL vW vsL vsW fused fuse F Fb L l out) : (∃ ao c, vL = .slice ao L.length c) ∧ ∃ ao c, vW = .slice ao l.length c := ⟨own_slice h.oL, own_slice h.oW⟩
/-- a sector, as a slice -/
theorem RR.sec {w : World} {a : Nat} {ao : Option Addr} {c n : Nat} {vW : Value} {vsL vsW : List Value} {fused : Bool} {fuse : Int} {F Fb : Nat → Prop} {L : List (List UInt8)} {l : List (Nat × List UInt8)} {out : Bool}
    (h : RR w a (.slice ao n c) vW vsL vsW fused fuse F Fb L l out) (hn : n = L.length) {i : Nat} {s : List UInt8} (hs : L[i]? = some s) :
    ∃ g, ao = some ⟨g, 0, none⟩ ∧ i < n ∧ ∃ so cap, w.cell? ⟨g, i, none⟩ = some (.slice so s.length cap) ∧ SB w so cap s ∧ s.length ≤ cap := by
  subst hn
  have hi := (List.getElem?_eq_some_iff.1 hs).1
  obtain ⟨g, rfl, _, _, _, hc, _⟩ := own_cell h.oL (by omega)
  obtain ⟨v, hv, so, cap, rfl, hcap, hsb, _⟩ := h.rL.at hs
  exact ⟨g, rfl, hi, so, cap, hc i _ hv, hsb, hcap⟩
theorem RR.wr {w : World} {a : Nat} {ao : Option Addr} {c n : Nat} {vL : Value} {vsL vsW : List Value} {fused : Bool} {fuse : Int} {F Fb : Nat → Prop} {L : List (List UInt8)} {l : List (Nat × List UInt8)} {out : Bool}
    (h : RR w a vL (.slice ao n c) vsL vsW fused fuse F Fb L l out) (hn : n = l.length) {i : Nat} {x : Nat × List UInt8} (hs : l[i]? = some x) :
    ∃ g, ao = some ⟨g, 0, none⟩ ∧ i < n ∧ w.cell? ⟨g, i * 2, none⟩ = some (.int .i64 (x.1 : Int)) ∧ ∃ v, w.cell? ⟨g, i * 2 + 1, none⟩ = some v ∧ SS w Fb v x.2 := by
  subst hn
  have hi := (List.getElem?_eq_some_iff.1 hs).1
  obtain ⟨g, rfl, _, _, _, hc, _⟩ := own_cell h.oW (by omega)
  obtain ⟨h1, v, h2, h3⟩ := h.rW.2 i x hs
  exact ⟨g, rfl, hi, hc _ _ (by rw [Nat.mul_comm]; exact h1), v, hc _ _ (by rw [Nat.mul_comm i 2]; exact h2), h3⟩
theorem wrap_range (x : Int) : -9223372036854775808 ≤ wrap64 x ∧ wrap64 x ≤ 9223372036854775807 := by
  unfold wrap64; omega
theorem owns_emptyB {B : Nat} {w : World} (h : B ≤ w.heap.size) : (w.alloc (.cells #[] 5)).ownsRow B 5 1 (.slice (some ⟨w.heap.size, 0, none⟩) 0 0) 0 (bv []) := by
  obtain ⟨h1, h2⟩ := owns_empty w
  refine ⟨h1, ?_⟩
  rcases h2 with ⟨h2, _⟩ | ⟨g, cap, cur, hv, hg, r⟩
  · cases h2
  · exact .inr ⟨g, cap, cur, hv, Nat.le_trans h hg, r⟩
set_option maxRecDepth 100000 in
set_option maxHeartbeats 400000 in
theorem sizeR_any {a : Nat} {F : Nat → Prop} {d : Dev} (w : World) (h : RD w a F d) :
    Calls Tryz.prog 42 #[ptr a] w fun e w' => e = .returned (.int .i64 d.img.length) ∧ w' = w := by
  obtain ⟨ho, vL, vW, vsL, vsW, fused, fuse, Fb, h, hf⟩ := h
  obtain ⟨⟨aL, cL, rfl⟩, aW, cW, rfl⟩ := h.row
  have c0 := h.hd.cell (j := 0) rfl
  clear h hf ho
  unfold ptr
  go_enter Tryz.func42, Tryz.ntmps42
  go_wp2
  go_ret
  exact ⟨rfl, rfl⟩
set_option maxRecDepth 100000 in
set_option maxHeartbeats 400000 in
theorem outR_any {a : Nat} {F : Nat → Prop} {d : Dev} (w : World) (h : RD w a F d) :
    Calls Tryz.prog 48 #[ptr a] w fun e w' => e = .returned (.bool d.out) ∧ w' = w := by
  obtain ⟨ho, vL, vW, vsL, vsW, fused, fuse, Fb, h, hf⟩ := h
  have c4 := h.hd.cell (j := 4) rfl
  clear h hf ho
  unfold ptr
  go_enter Tryz.func48, Tryz.ntmps48
  go_wp2
  go_ret
  exact ⟨rfl, rfl⟩
set_option maxRecDepth 100000 in
set_option maxHeartbeats 400000 in
theorem looseR_any {a : Nat} {F : Nat → Prop} {d : Dev} (w : World) (h : RD w a F d) :
    Calls Tryz.prog 46 #[ptr a] w fun e w' => e = .returned (.int .i64 d.loose.length) ∧ w' = w := by
  obtain ⟨ho, vL, vW, vsL, vsW, fused, fuse, Fb, h, hf⟩ := h
  obtain ⟨⟨aL, cL, rfl⟩, aW, cW, rfl⟩ := h.row
  have c1 := h.hd.cell (j := 1) rfl
  clear h hf ho
  unfold ptr
  go_enter Tryz.func46, Tryz.ntmps46
  go_wp2
  go_ret
  exact ⟨rfl, rfl⟩
theorem has_cases (n : Nat) (i : Int) : (i < 0 ∧ has n i = false) ∨ ((n : Int) ≤ i ∧ 0 ≤ i ∧ has n i = false) ∨ ∃ k : Nat, i = (k : Int) ∧ k < n ∧ has n i = true := by
  by_cases h : i < 0
  · exact .inl ⟨h, by simp [has]; omega⟩
  · by_cases h2 : (n : Int) ≤ i
    · exact .inr (.inl ⟨h2, by omega, by simp [has]; omega⟩)
    · exact .inr (.inr ⟨i.toNat, by omega, by omega, by simp [has]; omega⟩)
set_option maxRecDepth 100000 in
set_option maxHeartbeats 400000 in
theorem imageR_any {a : Nat} {F : Nat → Prop} {d : Dev} (i : Int) (w : World) (h : RD w a F d) :
    Calls Tryz.prog 43 #[ptr a, .int .i64 i] w fun e w' => ∃ v, e = .returned (.tuple #[v, .int .i64 (d.image i).2]) ∧ Fresh w.heap.size w' v (d.image i).1 ∧ Below w.heap.size w w' := by
  obtain ⟨ho, vL, vW, vsL, vsW, fused, fuse, Fb, h, hf⟩ := h
  obtain ⟨⟨aL, cL, rfl⟩, aW, cW, rfl⟩ := h.row
  have c0 := h.hd.cell (j := 0) rfl
  have hlen := ho.len
  rcases has_cases d.img.length i with ⟨hi, hh⟩ | ⟨hi, hi0, hh⟩ | ⟨k, rfl, hk, hh⟩
  rotate_right
  · obtain ⟨s, hs⟩ : ∃ s, d.img[k]? = some s := ⟨_, List.getElem?_eq_getElem hk⟩
    have he : d.image k = (s, 0) := by unfold Dev.image secOf; rw [hh]; simp [hs]
    rw [he]
    have H64 := hid (ho.s64.get hs)
    obtain ⟨g, rfl, _, so, cap, hc, hsb, hcap⟩ := h.sec rfl hs
    have HSB := hid hsb
    rw [H64.out] at hc
    have c0' := alc c0
    have hc' := alc hc
    clear h hf hh hs he hsb hcap ho
    unfold ptr
    go_enter Tryz.func43, Tryz.ntmps43
    go_wp2_with (refine wpl_append rfl (.tmp 17) (.tmp 24) rfl w.heap.size _ 0 [] s rfl (owns_empty w) so _ cap rfl (by rw [H64.out]) (HSB.out.below ((Below.refl _ _).alloc (Nat.le_refl _) _)) (by omega) (by simp) ?_; intro v2 w2 ho2 hg2 hne; have HB2 := hid (below_grown ((Below.refl _ _).alloc (Nat.le_refl _) _) (owns_empty w) hg2 (Nat.le_refl _)); have HO2 := hid ho2; clear hg2 hne ho2)
    go_ret2
    exact ⟨v2, rfl, Fresh.ofOwns HO2.out, HB2.out⟩
  all_goals
    have he : d.image i = ([], 3) := by unfold Dev.image secOf; rw [hh]; rfl
    rw [he]
    clear h hf hh he ho
    unfold ptr
    go_enter Tryz.func43, Tryz.ntmps43
    go_wp2
    go_ret2
    exact ⟨_, rfl, Fresh.nil _ _, Below.refl _ _⟩
theorem laid_take (img : List (List UInt8)) (l : List (Nat × List UInt8)) (k : Nat) {x : Nat × List UInt8} (hx : l[k]? = some x) : laidOver img (l.take (k + 1)) = (laidOver img (l.take k)).set x.1 x.2 := by
  rw [List.take_add_one, hx]; exact laid_snoc _ _ _
set_option maxRecDepth 100000 in
set_option maxHeartbeats 1000000 in
theorem readR_any {a : Nat} {F : Nat → Prop} {d : Dev} (i : Int) (w : World) (h : RD w a F d) (hlo : d.loose.length ≤ 1073741824) :
    Calls Tryz.prog 113 #[ptr a, .int .i64 i] w fun e w' => ∃ v, e = .returned (.tuple #[v, .int .i64 (d.read i).2]) ∧ Fresh w.heap.size w' v (d.read i).1 ∧ Below w.heap.size w w' := by
  have HD := hid h
  obtain ⟨ho, vL, vW, vsL, vsW, fused, fuse, Fb, h, hf⟩ := h
  obtain ⟨⟨aL, cL, rfl⟩, aW, cW, rfl⟩ := h.row
  have c4 := h.hd.cell (j := 4) rfl
  have H := hid h
  have HO := hid ho
  cases hout : d.out
  rotate_left
  · have hs : d.read i = ([], 22) := by unfold Dev.read; rw [hout]; rfl
    rw [hs]
    rw [hout] at c4
    clear h hf hs hout ho
    unfold ptr
    go_enter Tryz.func113, Tryz.ntmps113
    go_wp2
    go_ret2
    exact ⟨_, rfl, Fresh.nil _ _, Below.refl _ _⟩
  rw [hout] at c4
  cases hh : has d.img.length i
  · have hs : d.read i = ([], 3) := by unfold Dev.read secOf; rw [hout, d.now_len, hh]; rfl
    have hi : d.image i = ([], 3) := by unfold Dev.image secOf; rw [hh]; rfl
    rw [hs]
    have HI := hid hi
    clear h hf hs hout hh hi ho
    have hz : ((3 : Int) == 0) = false := by decide
    unfold ptr
    go_enter Tryz.func113, Tryz.ntmps113
    go_wp2_with fail
    refine (imageR_any i w HD.out).mono ?_
    rintro e w1 ⟨v, rfl, hfr, hb1⟩
    rw [HI.out] at hfr ⊢
    have HFR := hid hfr
    obtain ⟨ao, cap, rfl, -⟩ := hfr
    have c1 := (H.out.below hb1).hd.cell (j := 1) rfl
    have HB := hid hb1
    clear hb1
    go_wp2_with fail
    by_cases hl0 : 0 < d.loose.length
    all_goals
      go_loopw [6, 8] (fun v i wr => v = .slice ao 0 cap ∧ i = .int .i64 0 ∧ w1 = wr) (fun _ _ _ => 0)
      case atStart => exact ⟨rfl, rfl, rfl⟩
      case round =>
        obtain ⟨rfl, rfl, rfl⟩ := hrel
        go_wp2
        go_ret2
        exact ⟨_, rfl, HFR.out, HB.out⟩
  · obtain ⟨j, rfl, hj⟩ := has_nat hh
    obtain ⟨s, hs⟩ : ∃ s, d.now[j]? = some s := ⟨_, List.getElem?_eq_getElem (by rw [d.now_len]; exact hj)⟩
    obtain ⟨s0, hs0⟩ : ∃ s, d.img[j]? = some s := ⟨_, List.getElem?_eq_getElem hj⟩
    have hi : d.read j = (s, 0) := by unfold Dev.read secOf; rw [hout, d.now_len, hh]; simp [hs]
    have hi0 : d.image j = (s0, 0) := by unfold Dev.image secOf; rw [hh]; simp [hs0]
    rw [hi]
    have HI0 := hid hi0
    have HS := hid hs; have HS0 := hid hs0
    have hlen := ho.len
    clear h hf hout hh hi hi0 hs hs0 ho
    unfold ptr
    go_enter Tryz.func113, Tryz.ntmps113
    go_wp2_with fail
    refine (imageR_any j w HD.out).mono ?_
    rintro e w1 ⟨v, rfl, hfr, hb1⟩
    rw [HI0.out] at hfr ⊢
    have HFR := hid hfr
    have HB := hid hb1
    clear hb1 hfr
    go_wp2_with fail
    go_loopw [6, 8] (fun v i wr => ∃ (k : Nat) (t : List UInt8), k ≤ d.loose.length ∧ i = .int .i64 k ∧ Fresh w.heap.size wr v t ∧ (laidOver d.img (d.loose.take k))[j]? = some t ∧ Below w.heap.size w wr) (fun _ i _ => d.loose.length - (intOf i).toNat)
    case atStart => exact ⟨0, s0, Nat.zero_le _, rfl, HFR.out, HS0.out, HB.out⟩
    case round =>
      obtain ⟨k, t, hk, rfl, hft, ht, hb⟩ := hrel
      have HT := hid ht; have HFT := hid hft; have HB := hid hb
      have HR := hid (H.out.below hb)
      have c1 := HR.out.hd.cell (j := 1) rfl
      clear ht hft hb
      by_cases hlt : k < d.loose.length
      · obtain ⟨x, hx⟩ : ∃ x, d.loose[k]? = some x := ⟨_, List.getElem?_eq_getElem hlt⟩
        obtain ⟨g, rfl, _, ca, u, cb, ao, cap, rfl, hcap, hsb, -⟩ := HR.out.wr rfl hx
        have hx64 := HO.out.lo x (List.mem_of_getElem? hx)
        have HX := hid hx; have HSB := hid hsb; have H64 := hid hx64.2
        rw [hx64.2] at cb
        have hxl := hx64.1
        clear hx hsb hx64 hcap
        by_cases he : x.1 = j
        · have hb : ((x.1 : Int) == (j : Int)) = true := by simp [he]
          have c1' := alc c1; have ca' := alc ca; have cb' := alc cb
          have HE := hid he
          clear he
          go_wp2_with (refine wpl_append rfl (.tmp 42) (.tmp 50) rfl w.heap.size _ 0 [] x.2 rfl (owns_emptyB HB.out.size) ao _ cap rfl (by rw [H64.out]) (HSB.out.below ((Below.refl _ _).alloc (Nat.le_refl _) _)) (by omega) (by have := HB.out.size; simp; omega) ?_; intro v2 w2 ho2 hg2 hne; have HB2 := hid (below_grown ((Below.refl _ wr).alloc (Nat.le_refl _) _) (owns_emptyB (Nat.le_refl _)) hg2 (Nat.le_refl _)); have HO2 := hid (Fresh.ofOwns ho2); clear hg2 hne ho2)
          go_roundw
          case rel => exact ⟨k + 1, x.2, by omega, by go_num, HO2.out, by rw [laid_take _ _ _ HX.out, ← HE.out, List.getElem?_set_self (by rw [laid_len]; exact hxl)], th HB.out HB2.out⟩
          case measure => simp [intOf]; omega
        · have hb : ((x.1 : Int) == (j : Int)) = false := by simp; omega
          have HE := hid he
          clear he
          go_wp2
          go_roundw
          case rel => exact ⟨k + 1, t, by omega, by go_num, HFT.out, by rw [laid_take _ _ _ HX.out, List.getElem?_set_ne HE.out]; exact HT.out, HB.out⟩
          case measure => simp [intOf]; omega
      · have hk9 : k = d.loose.length := by omega
        have ht2 : t = s := by
          have h1 := HT.out; have h2 := HS.out
          rw [hk9, List.take_of_length_le (Nat.le_refl _)] at h1
          unfold Dev.now at h2
          rw [h1] at h2; injection h2
        have H2 := hid ht2
        clear ht2
        go_wp2
        go_ret2
        exact ⟨_, rfl, by rw [← H2.out]; exact HFT.out, HB.out⟩
set_option maxRecDepth 100000 in
set_option maxHeartbeats 400000 in
theorem throughR_any {a : Nat} {vL vW : Value} {vsL vsW : List Value} {fused : Bool} {fuse : Int} {F Fb : Nat → Prop} {d : Dev} (w : World) (h : RR w a vL vW vsL vsW fused fuse F Fb d.img d.loose d.out) (hf : FuseR d.fuse fused fuse) (ho : d.out = false) :
    Calls Tryz.prog 53 #[ptr a] w fun e w' => e = .returned (.bool d.through.1) ∧ (∃ fuse', RR w' a vL vW vsL vsW fused fuse' F Fb d.img d.loose d.through.2.out ∧ FuseR d.through.2.fuse fused fuse') ∧ Keep (fun k => k = a) w w' := by
  have c2 := h.hd.cell (j := 2) rfl
  have c3 := h.hd.cell (j := 3) rfl
  have c4 := h.hd.cell (j := 4) rfl
  have f3 := h.hd.free 3
  have f4 := h.hd.free 4
  have H := hid h
  have hr := h.fr
  rcases hf with ⟨hf, rfl⟩ | ⟨k, hf, rfl, rfl⟩
  · have hth : d.through = (true, d) := by unfold Dev.through; rw [hf]
    rw [hth]
    have HF := hid hf
    have hcs := fun v : Value => World.cell?_setCell_same _ _ v c3
    clear h hf ho hth
    unfold ptr
    go_enter Tryz.func53, Tryz.ntmps53
    go_wp2
    go_ret
    refine ⟨rfl, ⟨_, H.out.headed ((Keep.refl (fun k => k = a) w).setCell (p := ⟨a, 3, none⟩) rfl _) (H.out.hd.set 3 _) (wrap_range _), .inl ⟨HF.out, rfl⟩⟩, (Keep.refl (fun k => k = a) w).setCell (p := ⟨a, 3, none⟩) rfl _⟩
  · match k, hf with
    | 0, hf =>
      have hth : d.through = (false, { d with out := true }) := by unfold Dev.through; rw [hf]
      rw [hth]
      have HF := hid hf
      have hz : ((((0 : Nat) : Int)) == 0) = true := by decide
      clear h hf ho hth
      unfold ptr
      go_enter Tryz.func53, Tryz.ntmps53
      go_wp2
      go_ret
      exact ⟨rfl, ⟨_, H.out.headed ((Keep.refl (fun k => k = a) w).setCell (p := ⟨a, 4, none⟩) rfl _) (H.out.hd.set 4 _) hr, .inr ⟨0, HF.out, rfl, rfl⟩⟩, (Keep.refl (fun k => k = a) w).setCell (p := ⟨a, 4, none⟩) rfl _⟩
    | k + 1, hf =>
      have hth : d.through = (true, { d with fuse := some k }) := by unfold Dev.through; rw [hf]
      rw [hth]
      have hz : ((((k + 1 : Nat) : Int)) == 0) = false := by simp; omega
      have HE : Hid ((((k + 1 : Nat) : Int)) - 1 = (k : Int)) := hid (by omega)
      clear h hf hth
      have HOO := hid ho
      clear ho
      unfold ptr
      go_enter Tryz.func53, Tryz.ntmps53
      go_wp2
      go_ret
      refine ⟨rfl, ⟨_, H.out.headed ((Keep.refl (fun k => k = a) w).setCell (p := ⟨a, 3, none⟩) rfl _) (H.out.hd.set 3 _) (by omega), .inr ⟨k, rfl, rfl, ?_⟩⟩, (Keep.refl (fun k => k = a) w).setCell (p := ⟨a, 3, none⟩) rfl _⟩
      omega
set_option maxRecDepth 100000 in
set_option maxHeartbeats 400000 in
theorem fuseR_any {a : Nat} {F : Nat → Prop} {d : Dev} (n : Int) (h1 : -9223372036854775808 ≤ n) (h2 : n ≤ 9223372036854775807) (w : World) (h : RD w a F d) :
    Calls Tryz.prog 33 #[ptr a, .int .i64 n] w fun e w' => e = .returned (.int .i64 (d.setFuse n).1) ∧ RD w' a F (d.setFuse n).2 ∧ Keep F w w' := by
  have HD := hid h
  obtain ⟨ho, vL, vW, vsL, vsW, fused, fuse, Fb, h, hf⟩ := h
  have c4 := h.hd.cell (j := 4) rfl
  have c2 := h.hd.cell (j := 2) rfl
  have c3 := h.hd.cell (j := 3) rfl
  have f2 := h.hd.free 2
  have f3 := h.hd.free 3
  have H := hid h
  have HO := hid ho
  have fa := hid h.fa
  cases hout : d.out
  rotate_left
  · have hs : d.setFuse n = (22, d) := by unfold Dev.setFuse; rw [hout]; rfl
    rw [hs]
    rw [hout] at c4
    clear h hf hs hout ho
    unfold ptr
    go_enter Tryz.func33, Tryz.ntmps33
    go_wp2
    go_ret
    exact ⟨rfl, HD.out, Keep.refl _ _⟩
  rw [hout] at c4
  by_cases hn : n < 0
  · have hs : d.setFuse n = (2, d) := by unfold Dev.setFuse; rw [hout]; simp [hn]
    rw [hs]
    clear h hf hs hout ho
    unfold ptr
    go_enter Tryz.func33, Tryz.ntmps33
    go_wp2
    go_ret
    exact ⟨rfl, HD.out, Keep.refl _ _⟩
  · have hs : d.setFuse n = (0, { d with fuse := some n.toNat }) := by unfold Dev.setFuse; rw [hout]; simp [hn]
    rw [hs]
    have hc3 : ∀ v : Value, (w.setCell ⟨a, 2, none⟩ v).cell? ⟨a, 3, none⟩ = some (.int .i64 fuse) := fun v => by rw [World.cell?_setCell_other _ _ _ _ (by intro e; injection e; omega)]; exact c3
    have hf3 : ∀ v : Value, (w.setCell ⟨a, 2, none⟩ v).frozen? ⟨a, 3, none⟩ = false := fun v => by simpa using f3
    clear h hf hs hout ho
    unfold ptr
    go_enter Tryz.func33, Tryz.ntmps33
    go_wp2
    go_ret
    have hk2 : Keep (fun k => k = a) w ((w.setCell ⟨a, 2, none⟩ (.bool true)).setCell ⟨a, 3, none⟩ (.int .i64 n)) := ((Keep.refl (fun k => k = a) w).setCell (p := ⟨a, 2, none⟩) rfl _).setCell (p := ⟨a, 3, none⟩) rfl _
    refine ⟨rfl, ⟨⟨HO.out.1, HO.out.2, HO.out.3, HO.out.4⟩, _, _, _, _, _, _, _, H.out.headed hk2 ((H.out.hd.set 2 _).set 3 _) ⟨h1, h2⟩, .inr ⟨n.toNat, rfl, rfl, by omega⟩⟩, hk2.mono fun k _ hk => by rw [hk]; exact fa.out⟩
end Go.Proofs.YtlondopgibcikaaGreat
