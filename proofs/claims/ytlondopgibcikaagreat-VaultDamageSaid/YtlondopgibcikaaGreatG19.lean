/- The document's Write. -/
import Derived.Test.YtlondopgibcikaaGreatRows
import Derived.Test.YtlondopgibcikaaGreatG01
import Derived.Test.YtlondopgibcikaaGreatG02
import Derived.Test.YtlondopgibcikaaGreatG03
import Derived.Test.YtlondopgibcikaaGreatG04
import Derived.Test.YtlondopgibcikaaGreatG06
import Derived.Test.YtlondopgibcikaaGreatG07
import Derived.Test.YtlondopgibcikaaGreatG08
import Derived.Test.YtlondopgibcikaaGreatG09
import Derived.Test.YtlondopgibcikaaGreatG10
import Derived.Test.YtlondopgibcikaaGreatG11
import Derived.Test.YtlondopgibcikaaGreatG14
import Derived.Test.YtlondopgibcikaaGreatG16
import Derived.Test.YtlondopgibcikaaGreatG17
import Derived.Test.YtlondopgibcikaaGreatG18
import Derived.WalkKit
import Derived.WalkSpells
import Derived.WalkLawsBesides
import Derived.Deep.RegionHeld3
import Derived.Deep.QuietTactic
import Derived.BigQuiet
namespace Go.Proofs.YtlondopgibcikaaGreat
open Go.RowKit Ent
theorem rneed_any (n : Nat) (h : n ≤ 1048576) (w : World) : Calls Tryz.prog 76 #[.int .i64 n] w fun e w' => e = .returned (.int .i64 (needOf n)) ∧ w' = w := by
  have := needR_any n w
  rw [needI_nat h] at this
  exact this
theorem secsOf_len (gen at_ : Nat) (rec : List UInt8) : (secsOf gen at_ rec).length = needOf rec.length := by simp [secsOf]
theorem secsOf_at (gen at_ : Nat) (rec : List UInt8) {k : Nat} (h : k < needOf rec.length) : (secsOf gen at_ rec)[k]? = some (recSec gen at_ rec k) := by simp [secsOf, h]
set_option maxRecDepth 100000 in
set_option maxHeartbeats 4000000 in
theorem rwrite_any {a : Nat} {F : Nat → Prop} {d : Dev} (f t g at_ : Int) (ao : Option Addr) (rn rc : Nat) (rec : List UInt8) (hrn : rn = rec.length) (hrc : rn ≤ rc) (hrm : rn ≤ 9223372036854775807) (w : World) (hs : SB w ao rc rec) (h : RD w a F d) (hF : ∀ k, F k → k < w.heap.size) (hlo : d.loose.length ≤ 1073000000) (ha1 : -9223372036854775808 ≤ at_ ∧ at_ ≤ 9223372036854775807) :
    Calls Tryz.prog 77 #[ptr a, .agg #[.int .i64 f, .int .i64 t, .int .i64 g], .int .i64 at_, .slice ao rn rc] w fun e w' => e = .returned (.tuple #[.int .i64 (logWrite d f t g at_ rec).1.1, .int .i64 (logWrite d f t g at_ rec).1.2]) ∧ RD w' a (grow F w w') (logWrite d f t g at_ rec).2 ∧ Keep F w w' := by
  have HLEN := hid h.1.len
  have HRN := hid hrn
  have HSB := hid hs; have HF := hid hF
  obtain ⟨w1, hw1⟩ : ∃ w1, w.alloc (.cells #[.int .i64 f, .int .i64 t, .int .i64 g] 99) = w1 := ⟨_, rfl⟩
  have HW1 := hid hw1
  have HBX : Hid (Blk w1 w.heap.size 99 [.int .i64 f, .int .i64 t, .int .i64 g]) := hid (by rw [← hw1]; exact alloc_new w _)
  have HB1 : Hid (Below w.heap.size w w1) := hid (by rw [← hw1]; exact fresh_alloc w _)
  have H1 := hid (h.below HB1.out)
  clear hw1 h hF hrn hs
  unfold ptr
  by_cases hc : checkOf d f t g ≠ 0
  · have HE : Hid (logWrite d f t g at_ rec = ((0, checkOf d f t g), d)) := hid (by unfold logWrite; rw [if_pos hc])
    have H3 := hid ((check_code d f t g).resolve_left hc)
    clear hc
    go_enter Tryz.func77, Tryz.ntmps77
    go_wp2_with fail
    rw [HW1.out]
    have x0 := HBX.out.cell (j := 0) rfl
    have x1 := HBX.out.cell (j := 1) rfl
    have x2 := HBX.out.cell (j := 2) rfl
    go_wp2_with fail
    refine (rcheck_any f t g w1 H1.out).mono ?_
    rintro e w2 ⟨rfl, hb2⟩
    rw [H3.out]
    clear x0 x1 x2
    have cb0 := (HBX.out.below hb2 HBX.out.lt).cell (j := 0) rfl
    have cb1 := (HBX.out.below hb2 HBX.out.lt).cell (j := 1) rfl
    have HB2 := hid hb2
    clear hb2
    clear cb0 cb1
    go_wp2
    go_ret2
    exact ⟨by rw [HE.out]; show _ = Ending.returned (.tuple #[.int .i64 0, .int .i64 (checkOf d f t g)]); rw [H3.out]; rfl, by rw [HE.out]; exact (H1.out.below HB2.out).mono fun _ => .inl, (Keep.ofBelow HB1.out).trans (Keep.ofBelow HB2.out)⟩
  obtain ⟨h1, h2, h3, h4, h5⟩ := check_ok hc
  have H0 : Hid (checkOf d f t g = 0) := hid (by simpa using hc)
  have HCN := hid hc
  clear hc
  obtain ⟨n, rfl⟩ : ∃ n : Nat, f = (n : Int) := ⟨f.toNat, by omega⟩
  obtain ⟨m, rfl⟩ : ∃ m : Nat, t = (n : Int) + (m : Int) := ⟨(t - n).toNat, by omega⟩
  obtain ⟨gm, rfl⟩ : ∃ gm : Nat, g = (gm : Int) := ⟨g.toNat, by omega⟩
  have hnm : n + m ≤ 65536 := by have := HLEN.out; omega
  have hsub : ((n : Int) + (m : Int) - (n : Int)) = (m : Int) := by omega
  have HSUB := hid hsub
  clear h1 h2 h3
  by_cases ha : at_ < 0 ∨ (m : Int) < at_
  · have HE : Hid (logWrite d n (n + m) gm at_ rec = ((0, 3), d)) := hid (by unfold logWrite; rw [if_neg HCN.out, if_pos (by rw [HSUB.out]; exact ha)])
    by_cases ha0 : at_ < 0
    all_goals
      (try have ha2 : (m : Int) < at_ := by omega)
      clear ha
      go_enter Tryz.func77, Tryz.ntmps77
      go_wp2_with fail
      rw [HW1.out]
      have x0 := HBX.out.cell (j := 0) rfl
      have x1 := HBX.out.cell (j := 1) rfl
      have x2 := HBX.out.cell (j := 2) rfl
      go_wp2_with fail
      refine (rcheck_any n (n + m) gm w1 H1.out).mono ?_
      rintro e w2 ⟨rfl, hb2⟩
      rw [H0.out]
      clear x0 x1 x2
      have cb0 := (HBX.out.below hb2 HBX.out.lt).cell (j := 0) rfl
      have cb1 := (HBX.out.below hb2 HBX.out.lt).cell (j := 1) rfl
      have HB2 := hid hb2
      clear hb2
      go_wp2
      go_ret2
      exact ⟨by rw [HE.out]; rfl, by rw [HE.out]; exact (H1.out.below HB2.out).mono fun _ => .inl, (Keep.ofBelow HB1.out).trans (Keep.ofBelow HB2.out)⟩
  obtain ⟨A, rfl⟩ : ∃ A : Nat, at_ = (A : Int) := ⟨at_.toNat, by omega⟩
  have hA : A ≤ m := by omega
  have HAN := hid ha
  clear ha ha1
  by_cases hl : 1048576 < rn
  · have HE : Hid (logWrite d n (n + m) gm A rec = ((0, 4), d)) := hid (by unfold logWrite; rw [if_neg HCN.out, if_neg (by rw [HSUB.out]; exact HAN.out), if_pos (by rw [← HRN.out]; exact hl)])
    go_enter Tryz.func77, Tryz.ntmps77
    go_wp2_with fail
    rw [HW1.out]
    have x0 := HBX.out.cell (j := 0) rfl
    have x1 := HBX.out.cell (j := 1) rfl
    have x2 := HBX.out.cell (j := 2) rfl
    go_wp2_with fail
    refine (rcheck_any n (n + m) gm w1 H1.out).mono ?_
    rintro e w2 ⟨rfl, hb2⟩
    rw [H0.out]
    clear x0 x1 x2
    have cb0 := (HBX.out.below hb2 HBX.out.lt).cell (j := 0) rfl
    have cb1 := (HBX.out.below hb2 HBX.out.lt).cell (j := 1) rfl
    have HB2 := hid hb2
    clear hb2
    go_wp2
    go_ret2
    exact ⟨by rw [HE.out]; rfl, by rw [HE.out]; exact (H1.out.below HB2.out).mono fun _ => .inl, (Keep.ofBelow HB1.out).trans (Keep.ofBelow HB2.out)⟩
  have hrn2 : rn ≤ 1048576 := by omega
  clear hl
  obtain ⟨Q, hQ⟩ : ∃ Q, Q = needOf rn := ⟨_, rfl⟩
  have hQ1 : 1 ≤ Q := by rw [hQ]; exact needOf_pos rn
  have HQ := hid hQ
  clear hQ
  by_cases hfull : m < A + Q
  · have HE : Hid (logWrite d n (n + m) gm A rec = ((0, 10), d)) := hid (by unfold logWrite; rw [if_neg HCN.out, if_neg (by rw [HSUB.out]; exact HAN.out), if_neg (by rw [← HRN.out]; omega), if_pos (by rw [HSUB.out, ← HRN.out, ← HQ.out]; omega)])
    have hdec : decide ((m : Int) - (A : Int) < ((needOf rn : Nat) : Int)) = true := decide_eq_true (by rw [← HQ.out]; omega)
    go_enter Tryz.func77, Tryz.ntmps77
    go_wp2_with fail
    rw [HW1.out]
    have x0 := HBX.out.cell (j := 0) rfl
    have x1 := HBX.out.cell (j := 1) rfl
    have x2 := HBX.out.cell (j := 2) rfl
    go_wp2_with fail
    refine (rcheck_any n (n + m) gm w1 H1.out).mono ?_
    rintro e w2 ⟨rfl, hb2⟩
    rw [H0.out]
    clear x0 x1 x2
    have cb0 := (HBX.out.below hb2 HBX.out.lt).cell (j := 0) rfl
    have cb1 := (HBX.out.below hb2 HBX.out.lt).cell (j := 1) rfl
    have HB2 := hid hb2
    clear hb2
    have hwr1 : IntKind.i64.wrap ((n : Int) + (m : Int) - (n : Int)) = (m : Int) := by rw [IntWalk.i64_in _ (by omega)]; omega
    have hwr2 : IntKind.i64.wrap ((m : Int) - (A : Int)) = (m : Int) - (A : Int) := IntWalk.i64_in _ (by omega)
    go_wp2_with fail
    go_quiet ((go_at_call 76; exact Calls.quiet_of_same (rneed_any rn hrn2 _)))
    go_wp2
    go_ret2
    exact ⟨by rw [HE.out]; rfl, by rw [HE.out]; exact (H1.out.below (below_drewN HB2.out _)).mono fun _ => .inl, (Keep.ofBelow HB1.out).trans (Keep.ofBelow (below_drewN HB2.out _))⟩
  have HE : Hid (logWrite d n (n + m) gm A rec = if (writeLoop gm A n Q 0 (partsOf rec) d).1 ≠ 0 then ((0, (writeLoop gm A n Q 0 (partsOf rec) d).1), (writeLoop gm A n Q 0 (partsOf rec) d).2) else (((A : Int) + (Q : Nat), 0), (writeLoop gm A n Q 0 (partsOf rec) d).2)) := hid (by
    unfold logWrite
    rw [if_neg HCN.out, if_neg (by rw [HSUB.out]; exact HAN.out), if_neg (by rw [← HRN.out]; omega), if_neg (by rw [HSUB.out, ← HRN.out, ← HQ.out]; omega), ← HRN.out, ← HQ.out]
    simp only [Int.toNat_natCast])
  have hdec : decide ((m : Int) - (A : Int) < ((needOf rn : Nat) : Int)) = false := decide_eq_false (by rw [← HQ.out]; omega)
  go_enter Tryz.func77, Tryz.ntmps77
  go_wp2_with fail
  rw [HW1.out]
  have x0 := HBX.out.cell (j := 0) rfl
  have x1 := HBX.out.cell (j := 1) rfl
  have x2 := HBX.out.cell (j := 2) rfl
  go_wp2_with fail
  refine (rcheck_any n (n + m) gm w1 H1.out).mono ?_
  rintro e w2 ⟨rfl, hb2⟩
  rw [H0.out]
  clear x0 x1 x2
  have cb0 := (HBX.out.below hb2 HBX.out.lt).cell (j := 0) rfl
  have cb1 := (HBX.out.below hb2 HBX.out.lt).cell (j := 1) rfl
  have HB2 := hid hb2
  clear hb2
  have hwr1 : IntKind.i64.wrap ((n : Int) + (m : Int) - (n : Int)) = (m : Int) := by rw [IntWalk.i64_in _ (by omega)]; omega
  have hwr2 : IntKind.i64.wrap ((m : Int) - (A : Int)) = (m : Int) - (A : Int) := IntWalk.i64_in _ (by omega)
  go_wp2_with fail
  go_quiet ((go_at_call 76; exact Calls.quiet_of_same (rneed_any rn hrn2 _)))
  clear cb0 cb1 hwr1 hwr2 hdec
  have HBXd := hid ((HBX.out.below HB2.out HBX.out.lt).below (below_drewN (Below.refl _ _) nq) (by exact (HBX.out.below HB2.out HBX.out.lt).lt))
  have cb2 := HBXd.out.cell (j := 2) rfl
  go_wp2_with fail
  clear cb2
  have HB2' : Hid (Below w.heap.size w (w2.drewN nq)) := hid (below_drewN (th HB1.out HB2.out) _)
  refine (rsectors_any gm A ao rn rc rec HRN.out hrc hrn2 (by omega) (by omega) (w2.drewN nq) (HSB.out.below HB2'.out)).mono ?_
  rintro e w3 ⟨v, rfl, ⟨vs, Fb, ho, hrw, hFb, hno⟩, hb3⟩
  rw [secsOf_len, ← HRN.out, ← HQ.out] at ho
  obtain ⟨vo, vc, rfl⟩ := own_slice ho
  obtain ⟨gl, rfl, -, hgl0, -, hcl, -⟩ := own_cell ho (by omega)
  have HCL := hid hcl
  have HRW := hid hrw
  have HFB := hid hFb
  have HB13 : Hid (Below w.heap.size w w3) := hid (th HB2'.out hb3)
  have HBX3 := hid (HBXd.out.below hb3 HBXd.out.lt)
  have H3 := hid ((((H1.out.below HB2.out).below (below_drewN (Below.refl _ _) nq))).below hb3)
  have HGLB : Hid (w.heap.size ≤ gl) := hid (Nat.le_trans HB2'.out.size hgl0)
  have HSZ2 : Hid (w.heap.size ≤ (w2.drewN nq).heap.size) := hid HB2'.out.size
  have HBF : Hid (¬ F w.heap.size) := hid (fun hh => by have := HF.out _ hh; omega)
  clear ho hcl hrw hFb hno hb3 hgl0
  go_wp2_with fail
  go_loopw [12] (fun i wr => ∃ (k : Nat) (d' : Dev) (G : Nat → Prop), k ≤ Q ∧ i = .int .i64 k ∧ writeLoop gm A n Q 0 (partsOf rec) d = writeLoop gm A n Q k ((partsOf rec).drop k) d' ∧ TurnR F w3 wr a d' G ∧ d'.loose.length ≤ d.loose.length + k) (fun i _ => Q - (intOf i).toNat)
  case atStart => exact ⟨0, d, F, Nat.zero_le _, rfl, rfl, TurnR.start H3.out, Nat.le_refl _⟩
  case round =>
    obtain ⟨k, d', G, hk, rfl, hl, ht, hlo'⟩ := hrel
    have HL := hid hl; have HT := hid ht
    have HWR := hid ht.k.size
    clear hl ht
    by_cases hlt : k < Q
    · obtain ⟨part, hpart⟩ : ∃ p, (partsOf rec)[k]? = some p := ⟨_, List.getElem?_eq_getElem (by rw [partsOf_len, ← HRN.out, ← HQ.out]; exact hlt)⟩
      have HDROP : Hid ((partsOf rec).drop k = part :: (partsOf rec).drop (k + 1)) := hid (by
        rw [List.drop_eq_getElem_cons (by rw [partsOf_len, ← HRN.out, ← HQ.out]; exact hlt)]
        congr 1
        exact (List.getElem?_eq_some_iff.1 hpart).2)
      have hpe : part = (rec.drop (49 * k)).take 49 := by
        rw [partsOf_at rec (by rw [← HRN.out, ← HQ.out]; exact hlt)] at hpart
        injection hpart with h; exact h.symm
      obtain ⟨sec, hsec⟩ : ∃ sec, recSec gm A rec k = sec := ⟨_, rfl⟩
      have HSEC : Hid (logSec gm (A + k) (kindOf k Q) part = sec) := hid (by rw [← hsec, recSec, hpe, HQ.out, HRN.out])
      have HSL : Hid (sec.length = 64) := hid (by rw [← hsec]; exact recSec_len' _ _ _ _)
      have hat := secsOf_at gm A rec (k := k) (by rw [← HRN.out, ← HQ.out]; exact hlt)
      rw [hsec] at hat
      obtain ⟨pv, hpv⟩ : ∃ v, vs[k]? = some v := ⟨_, List.getElem?_eq_getElem (by rw [HRW.out.1, secsOf_len, ← HRN.out, ← HQ.out]; exact hlt)⟩
      obtain ⟨lo, cap, rfl, hcap, hsb, -, hlf⟩ := HRW.out.2 k pv sec hpv hat
      rw [HSL.out] at hpv
      have HSB3 : Hid (SB wr lo cap sec) := hid (hsb.keep HT.out.k (fun x hx hh => by
        have h1 := (HFB.out _ (hlf x hx)).1
        have h2 := HF.out _ hh
        have h3 := HSZ2.out
        omega))
      have HNG : Hid (∀ x, lo = some x → ¬ G x.block) := hid (fun x hx hh => by
        have h1 := HFB.out _ (hlf x hx)
        have h3 := HSZ2.out
        rcases HT.out.g _ hh with h4 | h4
        · have h2 := HF.out _ h4
          omega
        · omega)
      have HCW : Hid (∀ w', Keep F w3 w' → w'.cell? ⟨gl, k, none⟩ = some (.slice lo 64 cap)) := hid (fun w' hk' => by
        have h3 := HCL.out k _ hpv
        rw [hk'.cell (World.block_lt_of_cell? w3 _ h3) (fun hh => by
          have h1 := HGLB.out
          have := HF.out _ hh; simp at this; omega)]
        exact h3)
      obtain ⟨na, hna⟩ : ∃ na, na = n + A := ⟨_, rfl⟩
      obtain ⟨nak, hnak⟩ : ∃ nak, nak = n + A + k := ⟨_, rfl⟩
      have hw2 : IntKind.i64.wrap ((n : Int) + (A : Int)) = (na : Int) := by rw [IntWalk.i64_in _ (by omega)]; omega
      have hw3 : IntKind.i64.wrap ((na : Int) + (k : Int)) = (nak : Int) := by rw [IntWalk.i64_in _ (by omega)]; omega
      have HNAK := hid hnak
      clear hpart hpe hsec hat hpv hcap hsb hlf hna hnak
      go_wp2_with fail
      refine wp_region_held_drew (S := fun w' => w'.cell? ⟨w.heap.size, 0, none⟩ = some (.int .i64 (n : Int)) ∧ w'.cell? ⟨gl, k, none⟩ = some (.slice lo 64 cap)) (by kernel_rfl) ⟨(HBX3.out.keep HT.out.k HBF.out).drew.cell (j := 0) rfl, HCW.out _ (HT.out.below (Below.refl _ _).drew).k⟩ (fun hS => ?_)
      refine tkH (i := 0) (v := ?v0x1q) (y := Or.inl ⟨by rfl, ?y0x1q⟩) (s := hS) (h := ?r0x1q)
      case y0x1q => (intro w' hSw; (try dsimp only at hSw); go_simp; (try with_reducible rfl))
      simp only [Act.put, sA, sB, sC]
      refine tkH (i := 1) (v := ?v1x2q) (y := Or.inl ⟨by rfl, ?y1x2q⟩) (s := hS) (h := ?r1x2q)
      case y1x2q => (intro w' hSw; (try dsimp only at hSw); go_simp; (try with_reducible rfl))
      simp only [Act.put, sA, sB, sC]
      refine tkH (i := 2) (v := ?v2x3q) (y := Or.inl ⟨by rfl, ?y2x3q⟩) (s := hS) (h := ?r2x3q)
      case y2x3q => (intro w' hSw; (try dsimp only at hSw); go_simp; (try with_reducible rfl))
      simp only [Act.put, sA, sB, sC]
      refine tkH (i := 3) (v := ?v3x4q) (y := Or.inl ⟨by rfl, ?y3x4q⟩) (s := hS) (h := ?r3x4q)
      case y3x4q => (intro w' hSw; (try dsimp only at hSw); go_simp; (try with_reducible rfl))
      simp only [Act.put, sA, sB, sC]
      refine tkH (i := 4) (v := ?v4x5q) (y := Or.inl ⟨by rfl, ?y4x5q⟩) (s := hS) (h := ?r4x5q)
      case y4x5q => (intro w' hSw; (try dsimp only at hSw); go_simp; (try with_reducible rfl))
      simp only [Act.put, sA, sB, sC]
      refine tkH (i := 5) (v := ?v5x6q) (y := Or.inl ⟨by rfl, ?y5x6q⟩) (s := hS) (h := ?r5x6q)
      case y5x6q => (intro w' hSw; (try dsimp only at hSw); go_simp; (try with_reducible rfl))
      simp only [Act.put, sA, sB, sC]
      refine tkH (i := 6) (v := ?v6x7q) (y := Or.inl ⟨by rfl, ?y6x7q⟩) (s := hS) (h := ?r6x7q)
      case y6x7q => (intro w' hSw; (try dsimp only at hSw); go_simp; (try with_reducible rfl))
      simp only [Act.put, sA, sB, sC]
      refine tkH (i := 7) (v := ?v7x8q) (y := Or.inl ⟨by rfl, ?y7x8q⟩) (s := hS) (h := ?r7x8q)
      case y7x8q => (intro w' hSw; (try dsimp only at hSw); go_simp; (try with_reducible rfl))
      simp only [Act.put, sA, sB, sC]
      refine tkH (i := 8) (v := ?v8x9q) (y := Or.inl ⟨by rfl, ?y8x9q⟩) (s := hS) (h := ?r8x9q)
      case y8x9q => (intro w' hSw; (try dsimp only at hSw); go_simp; (try with_reducible rfl))
      simp only [Act.put, sA, sB, sC]
      refine tkH (i := 9) (v := ?v9x10q) (y := Or.inl ⟨by rfl, ?y9x10q⟩) (s := hS) (h := ?r9x10q)
      case y9x10q => (intro w' hSw; (try dsimp only at hSw); go_simp; (try with_reducible rfl))
      simp only [Act.put, sA, sB, sC]
      refine tkH (i := 10) (v := ?v10x11q) (y := Or.inl ⟨by rfl, ?y10x11q⟩) (s := hS) (h := ?r10x11q)
      case y10x11q => (intro w' hSw; (try dsimp only at hSw); go_simp; (try with_reducible rfl))
      simp only [Act.put, sA, sB, sC]
      refine rdH (i := 11) (h := fun K hK => ?_)
      go_simp
      refine (writeR_any (F := G) (d := d') (nak : Int) lo 64 cap sec HSL.out.symm wr.drew (HSB3.out.below (Below.refl _ _).drew) (fun x hx hh => HNG.out x hx hh) (by omega) (HT.out.below (Below.refl _ _).drew).p).mono ?_
      rintro e w7 ⟨rfl, h7, hk7⟩
      obtain ⟨r, hr⟩ : ∃ r, d'.write (nak : Int) sec = r := ⟨_, rfl⟩
      rw [hr] at h7
      have HT7 := hid ((HT.out.below (Below.refl _ _).drew).step h7 hk7)
      have HR := hid hr
      clear h7 hk7 hr
      refine hK.out _ _ ?k11x12q (fun hS => ?s11x12q)
      case k11x12q => exact ⟨(HBX3.out.keep HT7.out.k HBF.out).cell (j := 0) rfl, HCW.out _ HT7.out.k⟩
      clear hK K
      try simp only [Act.put, sA, sB, sC]
      refine tkH (i := 12) (v := ?v12x13q) (y := Or.inl ⟨by rfl, ?y12x13q⟩) (s := hS) (h := ?r12x13q)
      case y12x13q => (intro w' hSw; (try dsimp only at hSw); go_simp; (try with_reducible rfl))
      simp only [Act.put, sA, sB, sC]
      refine wpAnyH_done (by kernel_rfl) ?_ _
      clear hS
      rw [HR.out]
      have HL1 : Hid (writeLoop gm A n Q 0 (partsOf rec) d = if r.1 ≠ 0 then r else writeLoop gm A n Q (k + 1) ((partsOf rec).drop (k + 1)) r.2) := hid (by
        rw [HL.out, HDROP.out, writeLoop, ← HNAK.out, HSEC.out, HR.out])
      have hlo2 := (write_loose d' (nak : Int) sec).1
      rw [HR.out] at hlo2
      by_cases hc : r.1 = 0
      · have HL2 : Hid (writeLoop gm A n Q 0 (partsOf rec) d = writeLoop gm A n Q (k + 1) ((partsOf rec).drop (k + 1)) r.2) := hid (by rw [HL1.out, if_neg (by simpa using hc)])
        rw [hc]
        clear hc hw2 hw3
        go_wp2
        go_roundw
        case rel => exact ⟨k + 1, r.2, _, by omega, by go_num, HL2.out, HT7.out, by omega⟩
        case measure => simp [intOf]; omega
      · have HRR : Hid (logWrite d n (n + m) gm A rec = ((0, r.1), r.2)) := hid (by rw [HE.out, HL1.out, if_pos hc, if_pos hc])
        have hz : (r.1 == 0) = false := by simpa using hc
        have hz2 : (r.1 != 0) = true := by simpa using hc
        clear hc hw2 hw3
        go_wp2
        go_ret2
        have hst := (HT7.out.rebase (HB13.out)).stop
        exact ⟨by rw [HRR.out]; rfl, by rw [HRR.out]; exact hst.1, hst.2⟩
    · obtain rfl : k = Q := by omega
      have HL0 : Hid (writeLoop gm A n k 0 (partsOf rec) d = (0, d')) := hid (by
        rw [HL.out, List.drop_of_length_le (by rw [partsOf_len, ← HRN.out, ← HQ.out]; exact Nat.le_refl _), writeLoop])
      have HRR : Hid (logWrite d n (n + m) gm A rec = (((A : Int) + (k : Nat), 0), d')) := hid (by rw [HE.out, HL0.out]; simp)
      go_wp2
      go_ret2
      have hst := (HT.out.rebase (HB13.out)).stop
      exact ⟨by rw [HRR.out]; rfl, by rw [HRR.out]; exact hst.1, hst.2⟩
end Go.Proofs.YtlondopgibcikaaGreat
