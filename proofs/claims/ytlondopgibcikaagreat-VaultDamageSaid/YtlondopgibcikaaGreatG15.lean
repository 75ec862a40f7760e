/- The walk of the log's Write. -/
import Derived.Test.YtlondopgibcikaaGreatRows
import Derived.Test.YtlondopgibcikaaGreatG01
import Derived.Test.YtlondopgibcikaaGreatG02
import Derived.Test.YtlondopgibcikaaGreatG03
import Derived.Test.YtlondopgibcikaaGreatG04
import Derived.Test.YtlondopgibcikaaGreatG05
import Derived.Test.YtlondopgibcikaaGreatG06
import Derived.Test.YtlondopgibcikaaGreatG07
import Derived.Test.YtlondopgibcikaaGreatG08
import Derived.Test.YtlondopgibcikaaGreatG09
import Derived.Test.YtlondopgibcikaaGreatG10
import Derived.Test.YtlondopgibcikaaGreatG13
import Derived.Test.YtlondopgibcikaaGreatG14
import Derived.WalkKit
import Derived.WalkSpells
import Derived.WalkLawsBesides
import Derived.Deep.RegionHeld3
import Derived.Deep.QuietTactic
import Derived.BigQuiet
namespace Go.Proofs.YtlondopgibcikaaGreat
open Go.RowKit Ent
theorem kindOf_le (i many : Nat) : kindOf i many ≤ 255 := by unfold kindOf; split <;> (try split) <;> (try split) <;> omega
set_option maxRecDepth 100000 in
set_option maxHeartbeats 4000000 in
theorem logWrite_any {a : Nat} {F : Nat → Prop} {d : Dev} (f t g at_ : Int) (ao : Option Addr) (rn rc : Nat) (rec : List UInt8) (hrn : rn = rec.length) (hrc : rn ≤ rc) (hrm : rn ≤ 9223372036854775807) (w : World) (hs : SB w ao rc rec) (hsF : rec ≠ [] → ∀ x, ao = some x → ¬ F x.block) (h : PDev w a F d) (hF : ∀ k, F k → k < w.heap.size) (hlo : d.loose.length ≤ 1073000000) (ha1 : -9223372036854775808 ≤ at_ ∧ at_ ≤ 9223372036854775807) :
    Calls Tryz.prog 73 #[ptr a, .agg #[.int .i64 f, .int .i64 t, .int .i64 g], .int .i64 at_, .slice ao rn rc] w fun e w' => e = .returned (.tuple #[.int .i64 (logWrite d f t g at_ rec).1.1, .int .i64 (logWrite d f t g at_ rec).1.2]) ∧ PDev w' a (grow F w w') (logWrite d f t g at_ rec).2 ∧ Keep F w w' := by
  have hok : d.ok := by obtain ⟨_, _, _, _, _, h⟩ := h; exact h.ok
  have HLEN := hid hok.len
  have HRN := hid hrn
  have HSB := hid hs; have HSF := hid hsF; have HF := hid hF
  obtain ⟨w1, hw1⟩ : ∃ w1, w.alloc (.cells #[.int .i64 f, .int .i64 t, .int .i64 g] 99) = w1 := ⟨_, rfl⟩
  have HW1 := hid hw1
  have HBX : Hid (Blk w1 w.heap.size 99 [.int .i64 f, .int .i64 t, .int .i64 g]) := hid (by rw [← hw1]; exact alloc_new w _)
  have HB1 : Hid (Below w.heap.size w w1) := hid (by rw [← hw1]; exact fresh_alloc w _)
  have H1 := hid (h.below HB1.out)
  clear hw1 h hF hok hrn hs hsF
  unfold ptr
  by_cases hc : checkOf d f t g ≠ 0
  · have HE : Hid (logWrite d f t g at_ rec = ((0, checkOf d f t g), d)) := hid (by unfold logWrite; rw [if_pos hc])
    have H3 := hid ((check_code d f t g).resolve_left hc)
    clear hc
    go_enter Tryz.func73, Tryz.ntmps73
    go_wp2_with fail
    rw [HW1.out]
    refine (check_any f t g w1 H1.out).mono ?_
    rintro e w2 ⟨rfl, hb2⟩
    rw [H3.out]
    have HB2 := hid hb2
    clear hb2
    go_wp2
    go_ret2
    exact ⟨by rw [HE.out]; show _ = Ending.returned (.tuple #[.int .i64 0, .int .i64 (checkOf d f t g)]); rw [H3.out]; rfl, by rw [HE.out]; exact (H1.out.below HB2.out).mono fun _ => .inl, (Keep.ofBelow HB1.out).trans (Keep.ofBelow HB2.out)⟩
  obtain ⟨h1, h2, h3, h4, h5⟩ := check_ok hc
  have H0 : Hid (checkOf d f t g = 0) := hid (by simpa using hc)
  have HCN := hid hc
  clear hc
  obtain ⟨n, rfl⟩ : ∃ n : Nat, f = (n : Int) := ⟨f.toNat, by omega⟩
  obtain ⟨m, rfl⟩ : ∃ m : Nat, t = (n : Int) + (m : Int) := ⟨(t - n).toNat, by omega⟩
  obtain ⟨gm, rfl⟩ : ∃ gm : Nat, g = (gm : Int) := ⟨g.toNat, by omega⟩
  have hnm : n + m ≤ 65536 := by have := HLEN.out; omega
  have hsub : ((n : Int) + (m : Int) - (n : Int)) = (m : Int) := by omega
  have HSUB := hid hsub
  clear h1 h2 h3
  by_cases ha : at_ < 0 ∨ (m : Int) < at_
  · have HE : Hid (logWrite d n (n + m) gm at_ rec = ((0, 3), d)) := hid (by unfold logWrite; rw [if_neg HCN.out, if_pos (by rw [HSUB.out]; exact ha)])
    by_cases ha0 : at_ < 0
    all_goals
      (try have ha2 : (m : Int) < at_ := by omega)
      clear ha
      go_enter Tryz.func73, Tryz.ntmps73
      go_wp2_with fail
      rw [HW1.out]
      refine (check_any n (n + m) gm w1 H1.out).mono ?_
      rintro e w2 ⟨rfl, hb2⟩
      rw [H0.out]
      have cb0 := (HBX.out.below hb2 HBX.out.lt).cell (j := 0) rfl
      have cb1 := (HBX.out.below hb2 HBX.out.lt).cell (j := 1) rfl
      have HB2 := hid hb2
      clear hb2
      go_wp2
      go_ret2
      exact ⟨by rw [HE.out]; rfl, by rw [HE.out]; exact (H1.out.below HB2.out).mono fun _ => .inl, (Keep.ofBelow HB1.out).trans (Keep.ofBelow HB2.out)⟩
  obtain ⟨A, rfl⟩ : ∃ A : Nat, at_ = (A : Int) := ⟨at_.toNat, by omega⟩
  have hA : A ≤ m := by omega
  have HAN := hid ha
  clear ha ha1
  by_cases hl : 1048576 < rn
  · have HE : Hid (logWrite d n (n + m) gm A rec = ((0, 4), d)) := hid (by unfold logWrite; rw [if_neg HCN.out, if_neg (by rw [HSUB.out]; exact HAN.out), if_pos (by rw [← HRN.out]; exact hl)])
    go_enter Tryz.func73, Tryz.ntmps73
    go_wp2_with fail
    rw [HW1.out]
    refine (check_any n (n + m) gm w1 H1.out).mono ?_
    rintro e w2 ⟨rfl, hb2⟩
    rw [H0.out]
    have cb0 := (HBX.out.below hb2 HBX.out.lt).cell (j := 0) rfl
    have cb1 := (HBX.out.below hb2 HBX.out.lt).cell (j := 1) rfl
    have HB2 := hid hb2
    clear hb2
    go_wp2
    go_ret2
    exact ⟨by rw [HE.out]; rfl, by rw [HE.out]; exact (H1.out.below HB2.out).mono fun _ => .inl, (Keep.ofBelow HB1.out).trans (Keep.ofBelow HB2.out)⟩
  have hrn2 : rn ≤ 1048576 := by omega
  clear hl
  obtain ⟨Q, hQ⟩ : ∃ Q, Q = needOf rn := ⟨_, rfl⟩
  have hQ1 : 1 ≤ Q := by rw [hQ]; exact needOf_pos rn
  have HQ := hid hQ
  clear hQ
  by_cases hfull : m < A + Q
  · have HE : Hid (logWrite d n (n + m) gm A rec = ((0, 10), d)) := hid (by unfold logWrite; rw [if_neg HCN.out, if_neg (by rw [HSUB.out]; exact HAN.out), if_neg (by rw [← HRN.out]; omega), if_pos (by rw [HSUB.out, ← HRN.out, ← HQ.out]; omega)])
    have hdec : decide ((m : Int) - (A : Int) < ((needOf rn : Nat) : Int)) = true := decide_eq_true (by rw [← HQ.out]; omega)
    go_enter Tryz.func73, Tryz.ntmps73
    go_wp2_with fail
    rw [HW1.out]
    refine (check_any n (n + m) gm w1 H1.out).mono ?_
    rintro e w2 ⟨rfl, hb2⟩
    rw [H0.out]
    have cb0 := (HBX.out.below hb2 HBX.out.lt).cell (j := 0) rfl
    have cb1 := (HBX.out.below hb2 HBX.out.lt).cell (j := 1) rfl
    have HB2 := hid hb2
    clear hb2
    have hwr1 : IntKind.i64.wrap ((n : Int) + (m : Int) - (n : Int)) = (m : Int) := by rw [IntWalk.i64_in _ (by omega)]; omega
    have hwr2 : IntKind.i64.wrap ((m : Int) - (A : Int)) = (m : Int) - (A : Int) := IntWalk.i64_in _ (by omega)
    go_wp2_with fail
    go_quiet ((go_at_call 71; exact Calls.quiet_of_same (need_any rn hrn2 _)))
    go_wp2
    go_ret2
    exact ⟨by rw [HE.out]; rfl, by rw [HE.out]; exact (H1.out.below (below_drewN HB2.out _)).mono fun _ => .inl, (Keep.ofBelow HB1.out).trans (Keep.ofBelow (below_drewN HB2.out _))⟩
  have HE : Hid (logWrite d n (n + m) gm A rec = if (writeLoop gm A n Q 0 (partsOf rec) d).1 ≠ 0 then ((0, (writeLoop gm A n Q 0 (partsOf rec) d).1), (writeLoop gm A n Q 0 (partsOf rec) d).2) else (((A : Int) + (Q : Nat), 0), (writeLoop gm A n Q 0 (partsOf rec) d).2)) := hid (by
    unfold logWrite
    rw [if_neg HCN.out, if_neg (by rw [HSUB.out]; exact HAN.out), if_neg (by rw [← HRN.out]; omega), if_neg (by rw [HSUB.out, ← HRN.out, ← HQ.out]; omega), ← HRN.out, ← HQ.out]
    simp only [Int.toNat_natCast])
  have hdec : decide ((m : Int) - (A : Int) < ((needOf rn : Nat) : Int)) = false := decide_eq_false (by rw [← HQ.out]; omega)
  go_enter Tryz.func73, Tryz.ntmps73
  go_wp2_with fail
  rw [HW1.out]
  refine (check_any n (n + m) gm w1 H1.out).mono ?_
  rintro e w2 ⟨rfl, hb2⟩
  rw [H0.out]
  have cb0 := (HBX.out.below hb2 HBX.out.lt).cell (j := 0) rfl
  have cb1 := (HBX.out.below hb2 HBX.out.lt).cell (j := 1) rfl
  have HB2 := hid hb2
  clear hb2
  have hwr1 : IntKind.i64.wrap ((n : Int) + (m : Int) - (n : Int)) = (m : Int) := by rw [IntWalk.i64_in _ (by omega)]; omega
  have hwr2 : IntKind.i64.wrap ((m : Int) - (A : Int)) = (m : Int) - (A : Int) := IntWalk.i64_in _ (by omega)
  go_wp2_with fail
  go_quiet ((go_at_call 71; exact Calls.quiet_of_same (need_any rn hrn2 _)))
  clear cb0 cb1 hwr1 hwr2 hdec
  go_wp2_with fail
  have HB2' : Hid (Below w.heap.size w (w2.drewN nq)) := hid (below_drewN (th HB1.out HB2.out) _)
  refine (parts_any ao rn rc rec HRN.out hrn2 hrc (w2.drewN nq) (HSB.out.below HB2'.out)).mono ?_
  rintro e w3 ⟨v, vs, rfl, ho, hrs, hb3⟩
  rw [← HQ.out] at ho
  obtain ⟨vo, vc, rfl⟩ := own_slice ho
  obtain ⟨gl, rfl, -, hgl0, -, hcl, -⟩ := own_cell ho (by omega)
  have HCL := hid hcl
  have HRS := hid hrs
  have HB13 : Hid (Below w.heap.size w w3) := hid (th HB2'.out hb3)
  have HBX3 := hid (((HBX.out.below HB2.out HBX.out.lt).below (below_drewN (Below.refl _ _) nq) (by exact (HBX.out.below HB2.out HBX.out.lt).lt)).below hb3 (by exact (HBX.out.below HB2.out HBX.out.lt).lt))
  have H3 := hid ((((H1.out.below HB2.out).below (below_drewN (Below.refl _ _) nq))).below hb3)
  have HGLB : Hid (w.heap.size ≤ gl) := hid (Nat.le_trans HB2'.out.size hgl0)
  have HBF : Hid (¬ F w.heap.size) := hid (fun hh => by have := HF.out _ hh; omega)
  clear ho hcl hrs hb3 hgl0
  go_wp2_with fail
  go_loopw [54] (fun i wr => ∃ (k : Nat) (d' : Dev) (G : Nat → Prop), k ≤ Q ∧ i = .int .i64 k ∧ writeLoop gm A n Q 0 (partsOf rec) d = writeLoop gm A n Q k ((partsOf rec).drop k) d' ∧ Turn F w3 wr a d' G ∧ d'.loose.length ≤ d.loose.length + k) (fun i _ => Q - (intOf i).toNat)
  case atStart => exact ⟨0, d, F, Nat.zero_le _, rfl, rfl, Turn.start H3.out, Nat.le_refl _⟩
  case round =>
    obtain ⟨k, d', G, hk, rfl, hl, ht, hlo'⟩ := hrel
    have HL := hid hl; have HT := hid ht
    have HGL := hid (ht.lt (fun j hj => Nat.lt_of_lt_of_le (HF.out j hj) HB13.out.size))
    have HWR := hid ht.k.size
    clear hl ht
    by_cases hlt : k < Q
    · obtain ⟨part, hpart⟩ : ∃ p, (partsOf rec)[k]? = some p := ⟨_, List.getElem?_eq_getElem (by rw [partsOf_len, ← HRN.out, ← HQ.out]; exact hlt)⟩
      have HDROP : Hid ((partsOf rec).drop k = part :: (partsOf rec).drop (k + 1)) := hid (by
        rw [List.drop_eq_getElem_cons (by rw [partsOf_len, ← HRN.out, ← HQ.out]; exact hlt)]
        congr 1
        have := List.getElem?_eq_some_iff.1 hpart
        exact this.2)
      obtain ⟨pl, hpl⟩ : ∃ pl, pl = part.length := ⟨_, rfl⟩
      have hpl49 : pl ≤ 49 := by rw [hpl]; exact partsOf_49 rec hpart
      obtain ⟨pv, hpv, po, pc, hpe, hpcap, hps, hpf⟩ := HRS.out.at hpart
      rw [← hpl] at hpe
      subst hpe
      have HPL := hid hpl
      have HPS := hid hps
      have HPF : Hid (part ≠ [] → ∀ x, po = some x → ¬ F x.block) := hid (fun hne x hx => by obtain ⟨y, hy, hxy⟩ := hpf x hx; rw [hxy]; exact HSF.out (parts_ne hpart hne) y hy)
      have hcell : wr.cell? ⟨gl, k, none⟩ = some (.slice po pl pc) := by
        have h3 := HCL.out k _ hpv
        rw [HT.out.k.cell (World.block_lt_of_cell? w3 _ h3) (fun hh => by
          have h1 := HGLB.out
          have := HF.out _ hh; simp at this; omega)]
        exact h3
      obtain ⟨ix, hix⟩ : ∃ ix, ix = A + k := ⟨_, rfl⟩
      obtain ⟨na, hna⟩ : ∃ na, na = n + A := ⟨_, rfl⟩
      obtain ⟨nak, hnak⟩ : ∃ nak, nak = n + A + k := ⟨_, rfl⟩
      have hw1 : IntKind.i64.wrap ((A : Int) + (k : Int)) = (ix : Int) := by rw [IntWalk.i64_in _ (by omega)]; omega
      have hw2 : IntKind.i64.wrap ((n : Int) + (A : Int)) = (na : Int) := by rw [IntWalk.i64_in _ (by omega)]; omega
      have hw3 : IntKind.i64.wrap ((na : Int) + (k : Int)) = (nak : Int) := by rw [IntWalk.i64_in _ (by omega)]; omega
      have hixb : ix < 4294967296 := by omega
      have hgmb : gm < 4294967296 := by omega
      have HIX := hid hix; have HNAK := hid hnak
      have HSLL : Hid ((logSec gm ix (kindOf k Q) part).length = 64) := hid (logSec_len (by rw [← hpl]; exact hpl49))
      obtain ⟨sec, hsec⟩ : ∃ sec, logSec gm ix (kindOf k Q) part = sec := ⟨_, rfl⟩
      have HSL : Hid (sec.length = 64) := hid (by rw [← hsec]; exact HSLL.out)
      have HSEC := hid hsec
      clear hpart hpl hpv hpcap hps hpf hix hna hnak hsec
      go_wp2_with fail
      have HTc := hid (HT.out.below (Below.refl _ _).drew)
      have HZ := hid (Nat.le_refl wr.heap.size)
      refine wp_region_held_drew (S := fun w' => w'.cell? ⟨w.heap.size, 2, none⟩ = some (.int .i64 (gm : Int))) (by kernel_rfl) ((HBX3.out.keep HTc.out.k HBF.out).cell (j := 2) rfl) (fun hS => ?_)
      refine tkH (i := 0) (v := ?v0x1) (y := Or.inl ⟨by rfl, ?y0x1⟩) (s := hS) (h := ?r0x1)
      case y0x1 => (intro w' hSw; (try dsimp only at hSw); go_simp; (try with_reducible rfl))
      simp only [Act.put, sA, sB, sC]
      refine tkH (i := 1) (v := ?v1x2) (y := Or.inl ⟨by rfl, ?y1x2⟩) (s := hS) (h := ?r1x2)
      case y1x2 => (intro w' hSw; (try dsimp only at hSw); go_simp; (try with_reducible rfl))
      simp only [Act.put, sA, sB, sC]
      refine tkH (i := 2) (v := ?v2x3) (y := Or.inl ⟨by rfl, ?y2x3⟩) (s := hS) (h := ?r2x3)
      case y2x3 => (intro w' hSw; (try dsimp only at hSw); go_simp; (try with_reducible rfl))
      simp only [Act.put, sA, sB, sC]
      refine tkH (i := 3) (v := ?v3x4) (y := Or.inl ⟨by rfl, ?y3x4⟩) (s := hS) (h := ?r3x4)
      case y3x4 => (intro w' hSw; (try dsimp only at hSw); go_simp; (try with_reducible rfl))
      simp only [Act.put, sA, sB, sC]
      refine tkH (i := 4) (v := ?v4x5) (y := Or.inl ⟨by rfl, ?y4x5⟩) (s := hS) (h := ?r4x5)
      case y4x5 => (intro w' hSw; (try dsimp only at hSw); go_simp; (try with_reducible rfl))
      simp only [Act.put, sA, sB, sC]
      refine tkH (i := 5) (v := ?v5x6) (y := Or.inl ⟨by rfl, ?y5x6⟩) (s := hS) (h := ?r5x6)
      case y5x6 => (intro w' hSw; (try dsimp only at hSw); go_simp; (try with_reducible rfl))
      simp only [Act.put, sA, sB, sC]
      refine tkH (i := 6) (v := ?v6x7) (y := Or.inl ⟨by rfl, ?y6x7⟩) (s := hS) (h := ?r6x7)
      case y6x7 => (intro w' hSw; (try dsimp only at hSw); go_simp; (try with_reducible rfl))
      simp only [Act.put, sA, sB, sC]
      refine tkH (i := 7) (v := ?v7x8) (y := Or.inl ⟨by rfl, ?y7x8⟩) (s := hS) (h := ?r7x8)
      case y7x8 => (intro w' hSw; (try dsimp only at hSw); go_simp; (try with_reducible rfl))
      simp only [Act.put, sA, sB, sC]
      refine tkH (i := 9) (v := ?v9x9) (y := Or.inl ⟨by rfl, ?y9x9⟩) (s := hS) (h := ?r9x9)
      case y9x9 => (intro w' hSw; (try dsimp only at hSw); go_simp; (try with_reducible rfl))
      simp only [Act.put, sA, sB, sC]
      refine wpAnyH_ready (rs := [8, 11]) (by kernel_rfl) (by simp) ?_
      refine AllReadyH.cons (by simp only [List.getElem?_toArray, List.getElem?_cons_zero, List.getElem?_cons_succ]; exact rfl) (fun K hK => ?_) (AllReadyH.cons (by simp only [List.getElem?_toArray, List.getElem?_cons_zero, List.getElem?_cons_succ]; exact rfl) (fun K hK => ?_) AllReadyH.nil)
      · go_simp
        refine (kinds_any k Q (by omega) (by omega) _).mono ?_
        rintro e w' ⟨rfl, rfl⟩
        refine hK.out _ _ ?k8x10 (fun hS => ?s8x10)
        case k8x10 => exact hS
        clear hK K
        try simp only [Act.put, sA, sB, sC]
        refine wpAnyH_ready (rs := [10, 11]) (by kernel_rfl) (by simp) ?_
        refine AllReadyH.cons (by simp only [List.getElem?_toArray, List.getElem?_cons_zero, List.getElem?_cons_succ]; exact rfl) (fun K hK => ?_) (AllReadyH.cons (by simp only [List.getElem?_toArray, List.getElem?_cons_zero, List.getElem?_cons_succ]; exact rfl) (fun K hK => ?_) AllReadyH.nil)
        · go_simp
          refine (lmade_any gm ix (kindOf k Q) po pl pc part HPL.out hpl49 (by omega) (by omega) (kindOf_le k Q) _ (sb_keepE HPS.out HTc.out.k HPF.out)).mono ?_
          rintro e w5 ⟨rfl, hb5⟩
          have HTc := hid (HTc.out.below hb5)
          try have HM := hid (HM.out.below hb5 HM.out.lt)
          have HZ := hid (Nat.le_trans HZ.out hb5.size)
          clear hb5
          refine hK.out _ _ ?k10x11 (fun hS => ?s10x11)
          case k10x11 => exact (HBX3.out.keep (HTc.out).k (HBF.out)).cell (j := 2) rfl
          clear hK K
          try simp only [Act.put, sA, sB, sC]
          refine rdH (i := 11) (h := fun K hK => ?_)
          refine wpo_allocS rfl ?_
          intro g w5 hgg hb5 hm5
          have HGG := hid (show wr.heap.size ≤ g by rw [hgg]; exact HZ.out)
          have HTc := hid (HTc.out.below hb5)
          have HM := hid hm5
          have HZ := hid (Nat.le_trans HZ.out hb5.size)
          clear hgg hb5 hm5
          refine hK.out _ _ ?k11x12 (fun hS => ?s11x12)
          case k11x12 => exact (HBX3.out.keep (HTc.out).k (HBF.out)).cell (j := 2) rfl
          clear hK K
          try simp only [Act.put, sA, sB, sC]
          refine rdH (i := 12) (h := fun K hK => ?_)
          refine wp_store_mid 127 (.tmp 14) (.tmp 69) rfl g 0 (bv (logSec gm ix (kindOf k Q) part)).toArray rfl rfl (by rw [List.size_toArray, bv_length, HSLL.out]; exact HM.out.there (by simp)) (by rw [List.size_toArray, bv_length, HSLL.out]; exact logsec_info) (bv_cells _) ?_
          have HM2 := hid (HM.out.over (bv (logSec gm ix (kindOf k Q) part)) (by rw [bv_length, bv_length, HSLL.out]; rfl))
          have HK2 := hid (Keep.setCells (F := fun j => j = g) rfl (bv (logSec gm ix (kindOf k Q) part)) 0 (Keep.refl (fun j => j = g) w5))
          have HT6 := hid (HTc.out.aside HK2.out (fun hh => by have := HGL.out _ hh; have := HGG.out; omega) (by have := HGG.out; have := HWR.out; omega))
          refine hK.out _ _ ?k12x13 (fun hS => ?s12x13)
          case k12x13 => exact (HBX3.out.keep HT6.out.k HBF.out).cell (j := 2) rfl
          clear hK K
          try simp only [Act.put]
          refine wpAnyH_done (by kernel_rfl) ?_ _
          clear hS
          generalize w5.setCells g 0 (bv (logSec gm ix (kindOf k Q) part)) = w6 at *
          rw [HSEC.out] at HM2
          go_wp2_with fail
          refine wp_region_held_drew (S := fun w' => w'.cell? ⟨w.heap.size, 0, none⟩ = some (.int .i64 (n : Int))) (by kernel_rfl) ((HBX3.out.keep HT6.out.k HBF.out).drew.cell (j := 0) rfl) (fun hS => ?_)
          refine tkH (i := 0) (v := ?v0x1qe1) (y := Or.inl ⟨by rfl, ?y0x1qe1⟩) (s := hS) (h := ?r0x1qe1)
          case y0x1qe1 => (intro w' hSw; (try dsimp only at hSw); go_simp; (try with_reducible rfl))
          simp only [Act.put, sA, sB, sC]
          refine tkH (i := 1) (v := ?v1x2qe1) (y := Or.inl ⟨by rfl, ?y1x2qe1⟩) (s := hS) (h := ?r1x2qe1)
          case y1x2qe1 => (intro w' hSw; (try dsimp only at hSw); go_simp; (try with_reducible rfl))
          simp only [Act.put, sA, sB, sC]
          refine tkH (i := 2) (v := ?v2x3qe1) (y := Or.inl ⟨by rfl, ?y2x3qe1⟩) (s := hS) (h := ?r2x3qe1)
          case y2x3qe1 => (intro w' hSw; (try dsimp only at hSw); go_simp; (try with_reducible rfl))
          simp only [Act.put, sA, sB, sC]
          refine tkH (i := 3) (v := ?v3x4qe1) (y := Or.inl ⟨by rfl, ?y3x4qe1⟩) (s := hS) (h := ?r3x4qe1)
          case y3x4qe1 => (intro w' hSw; (try dsimp only at hSw); go_simp; (try with_reducible rfl))
          simp only [Act.put, sA, sB, sC]
          refine tkH (i := 4) (v := ?v4x5qe1) (y := Or.inl ⟨by rfl, ?y4x5qe1⟩) (s := hS) (h := ?r4x5qe1)
          case y4x5qe1 => (intro w' hSw; (try dsimp only at hSw); go_simp; (try with_reducible rfl))
          simp only [Act.put, sA, sB, sC]
          refine tkH (i := 5) (v := ?v5x6qe1) (y := Or.inl ⟨by rfl, ?y5x6qe1⟩) (s := hS) (h := ?r5x6qe1)
          case y5x6qe1 => (intro w' hSw; (try dsimp only at hSw); go_simp; (try with_reducible rfl))
          simp only [Act.put, sA, sB, sC]
          refine tkH (i := 6) (v := ?v6x7qe1) (y := Or.inl ⟨by rfl, ?y6x7qe1⟩) (s := hS) (h := ?r6x7qe1)
          case y6x7qe1 => (intro w' hSw; (try dsimp only at hSw); go_simp; (try with_reducible rfl))
          simp only [Act.put, sA, sB, sC]
          refine tkH (i := 7) (v := ?v7x8qe1) (y := Or.inl ⟨by rfl, ?y7x8qe1⟩) (s := hS) (h := ?r7x8qe1)
          case y7x8qe1 => (intro w' hSw; (try dsimp only at hSw); go_simp; (try with_reducible rfl))
          simp only [Act.put, sA, sB, sC]
          refine rdH (i := 8) (h := fun K hK => ?_)
          go_simp
          refine (lift_write (F := G) (d := d') (nak : Int) (some ⟨g, 0, none⟩) 64 64 sec HSL.out.symm w6.drew (.inr (.inr ⟨g, 0, rfl, HM2.out.range fun j v hv => by rw [Nat.zero_add]; exact hv⟩)) (fun x hx hh => by cases hx; exact absurd (HGL.out g hh) (by have := HGG.out; omega)) (by omega) (HT6.out.below (Below.refl _ _).drew).p).mono ?_
          rintro e w7 ⟨rfl, h7, hk7⟩
          obtain ⟨r, hr⟩ : ∃ r, d'.write (nak : Int) sec = r := ⟨_, rfl⟩
          rw [hr] at h7
          have HT7 := hid ((HT6.out.below (Below.refl _ _).drew).step h7 hk7)
          have HR := hid hr
          clear h7 hk7 hr
          refine hK.out _ _ ?k8x9qe1 (fun hS => ?s8x9qe1)
          case k8x9qe1 => exact (HBX3.out.keep HT7.out.k HBF.out).cell (j := 0) rfl
          clear hK K
          try simp only [Act.put, sA, sB, sC]
          refine tkH (i := 9) (v := ?v9x10qe1) (y := Or.inl ⟨by rfl, ?y9x10qe1⟩) (s := hS) (h := ?r9x10qe1)
          case y9x10qe1 => (intro w' hSw; (try dsimp only at hSw); go_simp; (try with_reducible rfl))
          simp only [Act.put, sA, sB, sC]
          refine wpAnyH_done (by kernel_rfl) ?_ _
          clear hS
          rw [HR.out]
          have HL1 : Hid (writeLoop gm A n Q 0 (partsOf rec) d = if r.1 ≠ 0 then r else writeLoop gm A n Q (k + 1) ((partsOf rec).drop (k + 1)) r.2) := hid (by
            rw [HL.out, HDROP.out, writeLoop, ← HIX.out, ← HNAK.out, HSEC.out, HR.out])
          have hlo2 := (write_loose d' (nak : Int) sec).1
          rw [HR.out] at hlo2
          by_cases hc : r.1 = 0
          · have HL2 : Hid (writeLoop gm A n Q 0 (partsOf rec) d = writeLoop gm A n Q (k + 1) ((partsOf rec).drop (k + 1)) r.2) := hid (by rw [HL1.out, if_neg (by simpa using hc)])
            rw [hc]
            clear hc hw1 hw2 hw3
            go_wp2
            go_roundw
            case rel => exact ⟨k + 1, r.2, _, by omega, by go_num, HL2.out, HT7.out, by omega⟩
            case measure => simp [intOf]; omega
          · have HRR : Hid (logWrite d n (n + m) gm A rec = ((0, r.1), r.2)) := hid (by rw [HE.out, HL1.out, if_pos hc, if_pos hc])
            have hz : (r.1 == 0) = false := by simpa using hc
            have hz2 : (r.1 != 0) = true := by simpa using hc
            clear hc hw1 hw2 hw3
            go_wp2
            go_ret2
            have hst := (HT7.out.rebase (HB13.out)).stop
            exact ⟨by rw [HRR.out]; rfl, by rw [HRR.out]; exact hst.1, hst.2⟩
        · refine wpo_allocS rfl ?_
          intro g w5 hgg hb5 hm5
          have HGG := hid (show wr.heap.size ≤ g by rw [hgg]; exact HZ.out)
          have HTc := hid (HTc.out.below hb5)
          have HM := hid hm5
          have HZ := hid (Nat.le_trans HZ.out hb5.size)
          clear hgg hb5 hm5
          refine hK.out _ _ ?k11x14 (fun hS => ?s11x14)
          case k11x14 => exact (HBX3.out.keep (HTc.out).k (HBF.out)).cell (j := 2) rfl
          clear hK K
          try simp only [Act.put, sA, sB, sC]
          refine rdH (i := 10) (h := fun K hK => ?_)
          go_simp
          refine (lmade_any gm ix (kindOf k Q) po pl pc part HPL.out hpl49 (by omega) (by omega) (kindOf_le k Q) _ (sb_keepE HPS.out HTc.out.k HPF.out)).mono ?_
          rintro e w5 ⟨rfl, hb5⟩
          have HTc := hid (HTc.out.below hb5)
          try have HM := hid (HM.out.below hb5 HM.out.lt)
          have HZ := hid (Nat.le_trans HZ.out hb5.size)
          clear hb5
          refine hK.out _ _ ?k10x15 (fun hS => ?s10x15)
          case k10x15 => exact (HBX3.out.keep (HTc.out).k (HBF.out)).cell (j := 2) rfl
          clear hK K
          try simp only [Act.put, sA, sB, sC]
          refine rdH (i := 12) (h := fun K hK => ?_)
          refine wp_store_mid 127 (.tmp 14) (.tmp 69) rfl g 0 (bv (logSec gm ix (kindOf k Q) part)).toArray rfl rfl (by rw [List.size_toArray, bv_length, HSLL.out]; exact HM.out.there (by simp)) (by rw [List.size_toArray, bv_length, HSLL.out]; exact logsec_info) (bv_cells _) ?_
          have HM2 := hid (HM.out.over (bv (logSec gm ix (kindOf k Q) part)) (by rw [bv_length, bv_length, HSLL.out]; rfl))
          have HK2 := hid (Keep.setCells (F := fun j => j = g) rfl (bv (logSec gm ix (kindOf k Q) part)) 0 (Keep.refl (fun j => j = g) w5))
          have HT6 := hid (HTc.out.aside HK2.out (fun hh => by have := HGL.out _ hh; have := HGG.out; omega) (by have := HGG.out; have := HWR.out; omega))
          refine hK.out _ _ ?k12x16 (fun hS => ?s12x16)
          case k12x16 => exact (HBX3.out.keep HT6.out.k HBF.out).cell (j := 2) rfl
          clear hK K
          try simp only [Act.put]
          refine wpAnyH_done (by kernel_rfl) ?_ _
          clear hS
          generalize w5.setCells g 0 (bv (logSec gm ix (kindOf k Q) part)) = w6 at *
          rw [HSEC.out] at HM2
          go_wp2_with fail
          refine wp_region_held_drew (S := fun w' => w'.cell? ⟨w.heap.size, 0, none⟩ = some (.int .i64 (n : Int))) (by kernel_rfl) ((HBX3.out.keep HT6.out.k HBF.out).drew.cell (j := 0) rfl) (fun hS => ?_)
          refine tkH (i := 0) (v := ?v0x1qe2) (y := Or.inl ⟨by rfl, ?y0x1qe2⟩) (s := hS) (h := ?r0x1qe2)
          case y0x1qe2 => (intro w' hSw; (try dsimp only at hSw); go_simp; (try with_reducible rfl))
          simp only [Act.put, sA, sB, sC]
          refine tkH (i := 1) (v := ?v1x2qe2) (y := Or.inl ⟨by rfl, ?y1x2qe2⟩) (s := hS) (h := ?r1x2qe2)
          case y1x2qe2 => (intro w' hSw; (try dsimp only at hSw); go_simp; (try with_reducible rfl))
          simp only [Act.put, sA, sB, sC]
          refine tkH (i := 2) (v := ?v2x3qe2) (y := Or.inl ⟨by rfl, ?y2x3qe2⟩) (s := hS) (h := ?r2x3qe2)
          case y2x3qe2 => (intro w' hSw; (try dsimp only at hSw); go_simp; (try with_reducible rfl))
          simp only [Act.put, sA, sB, sC]
          refine tkH (i := 3) (v := ?v3x4qe2) (y := Or.inl ⟨by rfl, ?y3x4qe2⟩) (s := hS) (h := ?r3x4qe2)
          case y3x4qe2 => (intro w' hSw; (try dsimp only at hSw); go_simp; (try with_reducible rfl))
          simp only [Act.put, sA, sB, sC]
          refine tkH (i := 4) (v := ?v4x5qe2) (y := Or.inl ⟨by rfl, ?y4x5qe2⟩) (s := hS) (h := ?r4x5qe2)
          case y4x5qe2 => (intro w' hSw; (try dsimp only at hSw); go_simp; (try with_reducible rfl))
          simp only [Act.put, sA, sB, sC]
          refine tkH (i := 5) (v := ?v5x6qe2) (y := Or.inl ⟨by rfl, ?y5x6qe2⟩) (s := hS) (h := ?r5x6qe2)
          case y5x6qe2 => (intro w' hSw; (try dsimp only at hSw); go_simp; (try with_reducible rfl))
          simp only [Act.put, sA, sB, sC]
          refine tkH (i := 6) (v := ?v6x7qe2) (y := Or.inl ⟨by rfl, ?y6x7qe2⟩) (s := hS) (h := ?r6x7qe2)
          case y6x7qe2 => (intro w' hSw; (try dsimp only at hSw); go_simp; (try with_reducible rfl))
          simp only [Act.put, sA, sB, sC]
          refine tkH (i := 7) (v := ?v7x8qe2) (y := Or.inl ⟨by rfl, ?y7x8qe2⟩) (s := hS) (h := ?r7x8qe2)
          case y7x8qe2 => (intro w' hSw; (try dsimp only at hSw); go_simp; (try with_reducible rfl))
          simp only [Act.put, sA, sB, sC]
          refine rdH (i := 8) (h := fun K hK => ?_)
          go_simp
          refine (lift_write (F := G) (d := d') (nak : Int) (some ⟨g, 0, none⟩) 64 64 sec HSL.out.symm w6.drew (.inr (.inr ⟨g, 0, rfl, HM2.out.range fun j v hv => by rw [Nat.zero_add]; exact hv⟩)) (fun x hx hh => by cases hx; exact absurd (HGL.out g hh) (by have := HGG.out; omega)) (by omega) (HT6.out.below (Below.refl _ _).drew).p).mono ?_
          rintro e w7 ⟨rfl, h7, hk7⟩
          obtain ⟨r, hr⟩ : ∃ r, d'.write (nak : Int) sec = r := ⟨_, rfl⟩
          rw [hr] at h7
          have HT7 := hid ((HT6.out.below (Below.refl _ _).drew).step h7 hk7)
          have HR := hid hr
          clear h7 hk7 hr
          refine hK.out _ _ ?k8x9qe2 (fun hS => ?s8x9qe2)
          case k8x9qe2 => exact (HBX3.out.keep HT7.out.k HBF.out).cell (j := 0) rfl
          clear hK K
          try simp only [Act.put, sA, sB, sC]
          refine tkH (i := 9) (v := ?v9x10qe2) (y := Or.inl ⟨by rfl, ?y9x10qe2⟩) (s := hS) (h := ?r9x10qe2)
          case y9x10qe2 => (intro w' hSw; (try dsimp only at hSw); go_simp; (try with_reducible rfl))
          simp only [Act.put, sA, sB, sC]
          refine wpAnyH_done (by kernel_rfl) ?_ _
          clear hS
          rw [HR.out]
          have HL1 : Hid (writeLoop gm A n Q 0 (partsOf rec) d = if r.1 ≠ 0 then r else writeLoop gm A n Q (k + 1) ((partsOf rec).drop (k + 1)) r.2) := hid (by
            rw [HL.out, HDROP.out, writeLoop, ← HIX.out, ← HNAK.out, HSEC.out, HR.out])
          have hlo2 := (write_loose d' (nak : Int) sec).1
          rw [HR.out] at hlo2
          by_cases hc : r.1 = 0
          · have HL2 : Hid (writeLoop gm A n Q 0 (partsOf rec) d = writeLoop gm A n Q (k + 1) ((partsOf rec).drop (k + 1)) r.2) := hid (by rw [HL1.out, if_neg (by simpa using hc)])
            rw [hc]
            clear hc hw1 hw2 hw3
            go_wp2
            go_roundw
            case rel => exact ⟨k + 1, r.2, _, by omega, by go_num, HL2.out, HT7.out, by omega⟩
            case measure => simp [intOf]; omega
          · have HRR : Hid (logWrite d n (n + m) gm A rec = ((0, r.1), r.2)) := hid (by rw [HE.out, HL1.out, if_pos hc, if_pos hc])
            have hz : (r.1 == 0) = false := by simpa using hc
            have hz2 : (r.1 != 0) = true := by simpa using hc
            clear hc hw1 hw2 hw3
            go_wp2
            go_ret2
            have hst := (HT7.out.rebase (HB13.out)).stop
            exact ⟨by rw [HRR.out]; rfl, by rw [HRR.out]; exact hst.1, hst.2⟩
      · refine wpo_allocS rfl ?_
        intro g w5 hgg hb5 hm5
        have HGG := hid (show wr.heap.size ≤ g by rw [hgg]; exact HZ.out)
        have HTc := hid (HTc.out.below hb5)
        have HM := hid hm5
        have HZ := hid (Nat.le_trans HZ.out hb5.size)
        clear hgg hb5 hm5
        refine hK.out _ _ ?k11x17 (fun hS => ?s11x17)
        case k11x17 => exact (HBX3.out.keep (HTc.out).k (HBF.out)).cell (j := 2) rfl
        clear hK K
        try simp only [Act.put, sA, sB, sC]
        refine rdH (i := 8) (h := fun K hK => ?_)
        go_simp
        refine (kinds_any k Q (by omega) (by omega) _).mono ?_
        rintro e w' ⟨rfl, rfl⟩
        refine hK.out _ _ ?k8x18 (fun hS => ?s8x18)
        case k8x18 => exact hS
        clear hK K
        try simp only [Act.put, sA, sB, sC]
        refine rdH (i := 10) (h := fun K hK => ?_)
        go_simp
        refine (lmade_any gm ix (kindOf k Q) po pl pc part HPL.out hpl49 (by omega) (by omega) (kindOf_le k Q) _ (sb_keepE HPS.out HTc.out.k HPF.out)).mono ?_
        rintro e w5 ⟨rfl, hb5⟩
        have HTc := hid (HTc.out.below hb5)
        try have HM := hid (HM.out.below hb5 HM.out.lt)
        have HZ := hid (Nat.le_trans HZ.out hb5.size)
        clear hb5
        refine hK.out _ _ ?k10x19 (fun hS => ?s10x19)
        case k10x19 => exact (HBX3.out.keep (HTc.out).k (HBF.out)).cell (j := 2) rfl
        clear hK K
        try simp only [Act.put, sA, sB, sC]
        refine rdH (i := 12) (h := fun K hK => ?_)
        refine wp_store_mid 127 (.tmp 14) (.tmp 69) rfl g 0 (bv (logSec gm ix (kindOf k Q) part)).toArray rfl rfl (by rw [List.size_toArray, bv_length, HSLL.out]; exact HM.out.there (by simp)) (by rw [List.size_toArray, bv_length, HSLL.out]; exact logsec_info) (bv_cells _) ?_
        have HM2 := hid (HM.out.over (bv (logSec gm ix (kindOf k Q) part)) (by rw [bv_length, bv_length, HSLL.out]; rfl))
        have HK2 := hid (Keep.setCells (F := fun j => j = g) rfl (bv (logSec gm ix (kindOf k Q) part)) 0 (Keep.refl (fun j => j = g) w5))
        have HT6 := hid (HTc.out.aside HK2.out (fun hh => by have := HGL.out _ hh; have := HGG.out; omega) (by have := HGG.out; have := HWR.out; omega))
        refine hK.out _ _ ?k12x20 (fun hS => ?s12x20)
        case k12x20 => exact (HBX3.out.keep HT6.out.k HBF.out).cell (j := 2) rfl
        clear hK K
        try simp only [Act.put]
        refine wpAnyH_done (by kernel_rfl) ?_ _
        clear hS
        generalize w5.setCells g 0 (bv (logSec gm ix (kindOf k Q) part)) = w6 at *
        rw [HSEC.out] at HM2
        go_wp2_with fail
        refine wp_region_held_drew (S := fun w' => w'.cell? ⟨w.heap.size, 0, none⟩ = some (.int .i64 (n : Int))) (by kernel_rfl) ((HBX3.out.keep HT6.out.k HBF.out).drew.cell (j := 0) rfl) (fun hS => ?_)
        refine tkH (i := 0) (v := ?v0x1qe3) (y := Or.inl ⟨by rfl, ?y0x1qe3⟩) (s := hS) (h := ?r0x1qe3)
        case y0x1qe3 => (intro w' hSw; (try dsimp only at hSw); go_simp; (try with_reducible rfl))
        simp only [Act.put, sA, sB, sC]
        refine tkH (i := 1) (v := ?v1x2qe3) (y := Or.inl ⟨by rfl, ?y1x2qe3⟩) (s := hS) (h := ?r1x2qe3)
        case y1x2qe3 => (intro w' hSw; (try dsimp only at hSw); go_simp; (try with_reducible rfl))
        simp only [Act.put, sA, sB, sC]
        refine tkH (i := 2) (v := ?v2x3qe3) (y := Or.inl ⟨by rfl, ?y2x3qe3⟩) (s := hS) (h := ?r2x3qe3)
        case y2x3qe3 => (intro w' hSw; (try dsimp only at hSw); go_simp; (try with_reducible rfl))
        simp only [Act.put, sA, sB, sC]
        refine tkH (i := 3) (v := ?v3x4qe3) (y := Or.inl ⟨by rfl, ?y3x4qe3⟩) (s := hS) (h := ?r3x4qe3)
        case y3x4qe3 => (intro w' hSw; (try dsimp only at hSw); go_simp; (try with_reducible rfl))
        simp only [Act.put, sA, sB, sC]
        refine tkH (i := 4) (v := ?v4x5qe3) (y := Or.inl ⟨by rfl, ?y4x5qe3⟩) (s := hS) (h := ?r4x5qe3)
        case y4x5qe3 => (intro w' hSw; (try dsimp only at hSw); go_simp; (try with_reducible rfl))
        simp only [Act.put, sA, sB, sC]
        refine tkH (i := 5) (v := ?v5x6qe3) (y := Or.inl ⟨by rfl, ?y5x6qe3⟩) (s := hS) (h := ?r5x6qe3)
        case y5x6qe3 => (intro w' hSw; (try dsimp only at hSw); go_simp; (try with_reducible rfl))
        simp only [Act.put, sA, sB, sC]
        refine tkH (i := 6) (v := ?v6x7qe3) (y := Or.inl ⟨by rfl, ?y6x7qe3⟩) (s := hS) (h := ?r6x7qe3)
        case y6x7qe3 => (intro w' hSw; (try dsimp only at hSw); go_simp; (try with_reducible rfl))
        simp only [Act.put, sA, sB, sC]
        refine tkH (i := 7) (v := ?v7x8qe3) (y := Or.inl ⟨by rfl, ?y7x8qe3⟩) (s := hS) (h := ?r7x8qe3)
        case y7x8qe3 => (intro w' hSw; (try dsimp only at hSw); go_simp; (try with_reducible rfl))
        simp only [Act.put, sA, sB, sC]
        refine rdH (i := 8) (h := fun K hK => ?_)
        go_simp
        refine (lift_write (F := G) (d := d') (nak : Int) (some ⟨g, 0, none⟩) 64 64 sec HSL.out.symm w6.drew (.inr (.inr ⟨g, 0, rfl, HM2.out.range fun j v hv => by rw [Nat.zero_add]; exact hv⟩)) (fun x hx hh => by cases hx; exact absurd (HGL.out g hh) (by have := HGG.out; omega)) (by omega) (HT6.out.below (Below.refl _ _).drew).p).mono ?_
        rintro e w7 ⟨rfl, h7, hk7⟩
        obtain ⟨r, hr⟩ : ∃ r, d'.write (nak : Int) sec = r := ⟨_, rfl⟩
        rw [hr] at h7
        have HT7 := hid ((HT6.out.below (Below.refl _ _).drew).step h7 hk7)
        have HR := hid hr
        clear h7 hk7 hr
        refine hK.out _ _ ?k8x9qe3 (fun hS => ?s8x9qe3)
        case k8x9qe3 => exact (HBX3.out.keep HT7.out.k HBF.out).cell (j := 0) rfl
        clear hK K
        try simp only [Act.put, sA, sB, sC]
        refine tkH (i := 9) (v := ?v9x10qe3) (y := Or.inl ⟨by rfl, ?y9x10qe3⟩) (s := hS) (h := ?r9x10qe3)
        case y9x10qe3 => (intro w' hSw; (try dsimp only at hSw); go_simp; (try with_reducible rfl))
        simp only [Act.put, sA, sB, sC]
        refine wpAnyH_done (by kernel_rfl) ?_ _
        clear hS
        rw [HR.out]
        have HL1 : Hid (writeLoop gm A n Q 0 (partsOf rec) d = if r.1 ≠ 0 then r else writeLoop gm A n Q (k + 1) ((partsOf rec).drop (k + 1)) r.2) := hid (by
          rw [HL.out, HDROP.out, writeLoop, ← HIX.out, ← HNAK.out, HSEC.out, HR.out])
        have hlo2 := (write_loose d' (nak : Int) sec).1
        rw [HR.out] at hlo2
        by_cases hc : r.1 = 0
        · have HL2 : Hid (writeLoop gm A n Q 0 (partsOf rec) d = writeLoop gm A n Q (k + 1) ((partsOf rec).drop (k + 1)) r.2) := hid (by rw [HL1.out, if_neg (by simpa using hc)])
          rw [hc]
          clear hc hw1 hw2 hw3
          go_wp2
          go_roundw
          case rel => exact ⟨k + 1, r.2, _, by omega, by go_num, HL2.out, HT7.out, by omega⟩
          case measure => simp [intOf]; omega
        · have HRR : Hid (logWrite d n (n + m) gm A rec = ((0, r.1), r.2)) := hid (by rw [HE.out, HL1.out, if_pos hc, if_pos hc])
          have hz : (r.1 == 0) = false := by simpa using hc
          have hz2 : (r.1 != 0) = true := by simpa using hc
          clear hc hw1 hw2 hw3
          go_wp2
          go_ret2
          have hst := (HT7.out.rebase (HB13.out)).stop
          exact ⟨by rw [HRR.out]; rfl, by rw [HRR.out]; exact hst.1, hst.2⟩
    · have hk9 : k = Q := by omega
      have HL1 : Hid (writeLoop gm A n Q 0 (partsOf rec) d = (0, d')) := hid (by
        rw [HL.out, List.drop_of_length_le (by rw [partsOf_len, ← HRN.out, ← HQ.out, hk9]; exact Nat.le_refl _), writeLoop])
      have HRR : Hid (logWrite d n (n + m) gm A rec = (((A : Int) + (Q : Nat), 0), d')) := hid (by rw [HE.out, HL1.out]; simp)
      go_wp2
      go_ret2
      have hst := (HT.out.rebase (HB13.out)).stop
      exact ⟨by rw [HRR.out]; rfl, by rw [HRR.out]; exact hst.1, hst.2⟩
end Go.Proofs.YtlondopgibcikaaGreat
