/- The walks of the document's device: Crash. -/
import Derived.Test.YtlondopgibcikaaGreatRows
import Derived.Test.YtlondopgibcikaaGreatG01
import Derived.Test.YtlondopgibcikaaGreatG02
import Derived.Test.YtlondopgibcikaaGreatG03
import Derived.Test.YtlondopgibcikaaGreatG04
import Derived.Test.YtlondopgibcikaaGreatG05
import Derived.Test.YtlondopgibcikaaGreatG06
import Derived.Test.YtlondopgibcikaaGreatG07
import Derived.Test.YtlondopgibcikaaGreatG08
import Derived.Test.YtlondopgibcikaaGreatG09
import Derived.Test.YtlondopgibcikaaGreatG11
import Derived.WalkKit
import Derived.WalkSpells
import Derived.WalkLawsBesides
import Derived.Deep.RegionHeld3
namespace Go.Proofs.YtlondopgibcikaaGreat
open Go.RowKit Ent
set_option maxRecDepth 100000 in
set_option maxHeartbeats 2000000 in
theorem crashR_any {a : Nat} {F : Nat → Prop} {d : Dev} (ko : Option Addr) (kn kc : Nat) (keep : List Bool) (hkn : kn = keep.length) (torn : Int) (w : World) (hbl : BL w ko keep) (hkF : keep ≠ [] → ∀ x, ko = some x → ¬ F x.block) (hkb : kn ≤ 1073741824) (hlo : d.loose.length ≤ 1073741824) (h : RD w a F d) (hok : (d.crash keep torn).2.ok) :
    Calls Tryz.prog 35 #[ptr a, .slice ko kn kc, .int .i64 torn] w fun e w' => e = .returned (.int .i64 (d.crash keep torn).1) ∧ RD w' a (grow F w w') (d.crash keep torn).2 ∧ Keep F w w' := by
  have HD := hid h
  have HKN := hid hkn
  clear hkn
  by_cases hbad : torn < 0 ∨ 64 ≤ torn
  · have hs := crash_bad d keep torn hbad
    rw [hs]
    clear h hs hok
    by_cases h0 : torn < 0
    all_goals
      (try have h1 : 64 ≤ torn := by omega)
      clear hbad
      unfold ptr
      go_enter Tryz.func35, Tryz.ntmps35
      go_wp2
      go_ret
      exact ⟨rfl, HD.out.mono fun _ => .inl, Keep.refl _ _⟩
  obtain ⟨t, rfl⟩ : ∃ t : Nat, torn = (t : Int) := ⟨torn.toNat, by omega⟩
  have ht : t < 64 := by omega
  clear hbad
  obtain ⟨ho, vL, vW, vsL, vsW, fused, fuse, Fb, h, hf⟩ := h
  obtain ⟨⟨aL, cL, rfl⟩, aW, cW, rfl⟩ := h.row
  have H := hid h
  have HO := hid ho
  have hpos := ho.pos
  have hlen := ho.len
  obtain ⟨g, rfl, -⟩ := own_cell h.oL (by omega)
  have HFG := hid (h.fL g rfl).1
  have HFA := hid h.fa
  have HOK := hid hok
  clear h hf ho hok
  unfold ptr
  go_enter Tryz.func35, Tryz.ntmps35
  go_wp2_with fail
  go_loopw [7, 8] (fun last i wr => ∃ (k : Nat) (L : List (List UInt8)) (lst : Int) (vs : List Value) (Fb' : Nat → Prop), i = .int .i64 k ∧ last = .int .i64 lst ∧ CrashAt d keep k lst L ∧ RR wr a (.slice (some ⟨g, 0, none⟩) d.img.length cL) (.slice aW d.loose.length cW) vs vsW fused fuse (grow F w wr) Fb' L d.loose d.out ∧ d.img.length = L.length ∧ Keep F w wr) (fun _ i _ => d.loose.length - (intOf i).toNat)
  case atStart => exact ⟨0, d.img, -1, vsL, Fb, rfl, rfl, CrashAt.start d keep, H.out.mono fun _ => .inl, rfl, Keep.refl _ _⟩
  case round =>
    obtain ⟨k, L, lst, vs, Fb', rfl, rfl, hc, hr, hLL, hkk⟩ := hrel
    have HC := hid hc; have HR := hid hr; have HLL := hid hLL; have HK := hid hkk
    have hkm := hc.le
    have HBL := hid (hbl.keep hkk hkF)
    have c1 := hr.hd.cell (j := 1) rfl
    have c0 := hr.hd.cell (j := 0) rfl
    clear hc hr hLL hkk
    by_cases hlt : k < d.loose.length
    · obtain ⟨x, hx⟩ : ∃ x, d.loose[k]? = some x := ⟨_, List.getElem?_eq_getElem hlt⟩
      obtain ⟨gw, rfl, _, ca, u, cb, hss⟩ := HR.out.wr rfl hx
      obtain ⟨ao, cap, rfl, hcap, hsb, -⟩ := hss
      have HSB := hid hsb
      have hx64 := HO.out.lo x (List.mem_of_getElem? hx)
      have HX := hid hx; have H64 := hid hx64.2
      rw [hx64.2] at cb
      have hxl := hx64.1
      have hoL := HR.out.oL
      rw [← HLL.out] at hoL
      obtain ⟨_, hg, _, _, _, hcl, hfl⟩ := own_cell hoL (by omega)
      injection hg with hg; injection hg with hg; subst hg
      clear hoL
      obtain ⟨v0, hv0⟩ : ∃ v, vs[x.1]? = some v := ⟨_, List.getElem?_eq_getElem (by rw [HR.out.rL.1, ← HLL.out]; exact hxl)⟩
      have cg := hcl _ _ hv0
      have fg := hfl x.1
      have HN1 : Hid (∀ j, (⟨g, x.1, none⟩ : Addr) ≠ ⟨a, j, none⟩) := hid (by intro j e; injection e with e; exact (HR.out.fL g rfl).2.2 e)
      have HN2 : Hid (∀ j, (⟨g, x.1, none⟩ : Addr) ≠ ⟨gw, j, none⟩) := hid (by intro j e; injection e with e; exact HR.out.LW g rfl (by rw [e]; rfl))
      clear hx hsb hx64 hcap hcl hfl hv0
      rcases hkq : keep[k]? with _ | q
      · have HB : Hid (¬ keep[k]? = some true) := by intro h; rw [hkq] at h; cases h
        have hge : kn ≤ k := by rw [HKN.out]; exact List.getElem?_eq_none_iff.1 hkq
        clear hkq
        go_wp2
        go_roundw
        case rel => exact ⟨k + 1, L, k, vs, Fb', by go_num, rfl, HC.out.lost HX.out HB.out, HR.out, HLL.out, HK.out⟩
        case measure => simp [intOf]; omega
      · obtain ⟨kb, kof, rfl, hck⟩ := bl_at HBL.out hkq
        have hlk : k < kn := by rw [HKN.out]; exact (List.getElem?_eq_some_iff.1 hkq).1
        cases q
        · have HB : Hid (¬ keep[k]? = some true) := by intro h; rw [hkq] at h; cases h
          clear hkq
          go_wp2
          go_roundw
          case rel => exact ⟨k + 1, L, k, vs, Fb', by go_num, rfl, HC.out.lost HX.out HB.out, HR.out, HLL.out, HK.out⟩
          case measure => simp [intOf]; omega
        · have HB := hid hkq
          clear hkq
          go_wp2_with fail
          refine wp_region_held_drew (S := fun w' => w'.cell? ⟨a, 0, none⟩ = some (.slice (some ⟨g, 0, none⟩) d.img.length cL) ∧ w'.cell? ⟨a, 1, none⟩ = some (.slice (some ⟨gw, 0, none⟩) d.loose.length cW) ∧ w'.cell? ⟨gw, k * 2, none⟩ = some (.int .i64 (x.1 : Int)) ∧ w'.cell? ⟨gw, k * 2 + 1, none⟩ = some (.slice ao 64 cap)) (by kernel_rfl) ⟨c0, c1, ca, cb⟩ (fun hS => ?_)
          refine tkH (i := 0) (v := ?v0x1) (y := Or.inl ⟨by rfl, ?y0x1⟩) (s := hS) (h := ?r0x1)
          case y0x1 => (intro w' hSw; (try dsimp only at hSw); go_simp; (try with_reducible rfl))
          simp only [Act.put, sA, sB, sC]
          refine tkH (i := 1) (v := ?v1x2) (y := Or.inl ⟨by rfl, ?y1x2⟩) (s := hS) (h := ?r1x2)
          case y1x2 => (intro w' hSw; (try dsimp only at hSw); go_simp; (try with_reducible rfl))
          simp only [Act.put, sA, sB, sC]
          refine tkH (i := 2) (v := ?v2x3) (y := Or.inl ⟨by rfl, ?y2x3⟩) (s := hS) (h := ?r2x3)
          case y2x3 => (intro w' hSw; (try dsimp only at hSw); go_simp; (try with_reducible rfl))
          simp only [Act.put, sA, sB, sC]
          refine tkH (i := 3) (v := ?v3x4) (y := Or.inl ⟨by rfl, ?y3x4⟩) (s := hS) (h := ?r3x4)
          case y3x4 => (intro w' hSw; (try dsimp only at hSw); go_simp; (try with_reducible rfl))
          simp only [Act.put, sA, sB, sC]
          refine tkH (i := 4) (v := ?v4x5) (y := Or.inl ⟨by rfl, ?y4x5⟩) (s := hS) (h := ?r4x5)
          case y4x5 => (intro w' hSw; (try dsimp only at hSw); go_simp; (try with_reducible rfl))
          simp only [Act.put, sA, sB, sC]
          refine tkH (i := 5) (v := ?v5x6) (y := Or.inl ⟨by rfl, ?y5x6⟩) (s := hS) (h := ?r5x6)
          case y5x6 => (intro w' hSw; (try dsimp only at hSw); go_simp; (try with_reducible rfl))
          simp only [Act.put, sA, sB, sC]
          refine tkH (i := 6) (v := ?v6x7) (y := Or.inl ⟨by rfl, ?y6x7⟩) (s := hS) (h := ?r6x7)
          case y6x7 => (intro w' hSw; (try dsimp only at hSw); go_simp; (try with_reducible rfl))
          simp only [Act.put, sA, sB, sC]
          refine tkH (i := 7) (v := ?v7x8) (y := Or.inl ⟨by rfl, ?y7x8⟩) (s := hS) (h := ?r7x8)
          case y7x8 => (intro w' hSw; (try dsimp only at hSw); go_simp; (try with_reducible rfl))
          simp only [Act.put, sA, sB, sC]
          refine tkH (i := 8) (v := ?v8x9) (y := Or.inl ⟨by rfl, ?y8x9⟩) (s := hS) (h := ?r8x9)
          case y8x9 => (intro w' hSw; (try dsimp only at hSw); go_simp; (try with_reducible rfl))
          simp only [Act.put, sA, sB, sC]
          refine tkH (i := 9) (v := ?v9x10) (y := Or.inl ⟨by rfl, ?y9x10⟩) (s := hS) (h := ?r9x10)
          case y9x10 => (intro w' hSw; (try dsimp only at hSw); go_simp; (try with_reducible rfl))
          simp only [Act.put, sA, sB, sC]
          refine tkH (i := 10) (v := ?v10x11) (y := Or.inl ⟨by rfl, ?y10x11⟩) (s := hS) (h := ?r10x11)
          case y10x11 => (intro w' hSw; (try dsimp only at hSw); go_simp; (try with_reducible rfl))
          simp only [Act.put, sA, sB, sC]
          refine tkH (i := 11) (v := ?v11x12) (y := Or.inl ⟨by rfl, ?y11x12⟩) (s := hS) (h := ?r11x12)
          case y11x12 => (intro w' hSw; (try dsimp only at hSw); go_simp; (try with_reducible rfl))
          simp only [Act.put, sA, sB, sC]
          refine tkH (i := 13) (v := ?v13x13) (y := Or.inl ⟨by rfl, ?y13x13⟩) (s := hS) (h := ?r13x13)
          case y13x13 => (intro w' hSw; (try dsimp only at hSw); go_simp; (try with_reducible rfl))
          simp only [Act.put, sA, sB, sC]
          refine tkH (i := 14) (v := ?v14x14) (y := Or.inl ⟨by rfl, ?y14x14⟩) (s := hS) (h := ?r14x14)
          case y14x14 => (intro w' hSw; (try dsimp only at hSw); go_simp; (try with_reducible rfl))
          simp only [Act.put, sA, sB, sC]
          refine tkH (i := 15) (v := ?v15x15) (y := Or.inl ⟨by rfl, ?y15x15⟩) (s := hS) (h := ?r15x15)
          case y15x15 => (intro w' hSw; (try dsimp only at hSw); go_simp; (try with_reducible rfl))
          simp only [Act.put, sA, sB, sC]
          refine tkH (i := 16) (v := ?v16x16) (y := Or.inl ⟨by rfl, ?y16x16⟩) (s := hS) (h := ?r16x16)
          case y16x16 => (intro w' hSw; (try dsimp only at hSw); go_simp; (try with_reducible rfl))
          simp only [Act.put, sA, sB, sC]
          refine tkH (i := 17) (v := ?v17x17) (y := Or.inl ⟨by rfl, ?y17x17⟩) (s := hS) (h := ?r17x17)
          case y17x17 => (intro w' hSw; (try dsimp only at hSw); go_simp; (try with_reducible rfl))
          simp only [Act.put, sA, sB, sC]
          refine tkH (i := 18) (v := ?v18x18) (y := Or.inl ⟨by rfl, ?y18x18⟩) (s := hS) (h := ?r18x18)
          case y18x18 => (intro w' hSw; (try dsimp only at hSw); go_simp; (try with_reducible rfl))
          simp only [Act.put, sA, sB, sC]
          refine tkH (i := 19) (v := ?v19x19) (y := Or.inl ⟨by rfl, ?y19x19⟩) (s := hS) (h := ?r19x19)
          case y19x19 => (intro w' hSw; (try dsimp only at hSw); go_simp; (try with_reducible rfl))
          simp only [Act.put, sA, sB, sC]
          refine tkH (i := 20) (v := ?v20x20) (y := Or.inl ⟨by rfl, ?y20x20⟩) (s := hS) (h := ?r20x20)
          case y20x20 => (intro w' hSw; (try dsimp only at hSw); go_simp; (try with_reducible rfl))
          simp only [Act.put, sA, sB, sC]
          refine rdH (i := 12) (h := fun K hK => ?_)
          go_simp
          refine hK.out _ _ ?k12x21 (fun hS => ?s12x21)
          case k12x21 => exact ⟨alc hS.1 _, alc hS.2.1 _, alc hS.2.2.1 _, alc hS.2.2.2 _⟩
          clear hK K
          try simp only [Act.put, sA, sB, sC]
          refine rdH (i := 21) (h := fun K hK => ?_)
          refine wpo_append (.tmp 47) (.tmp 55) rfl wr.heap.size _ 0 [] x.2 rfl (owns_empty wr.drew) ao 64 cap rfl H64.out.symm ((HSB.out.below (Below.refl _ _).drew).below ((Below.refl _ _).alloc (Nat.le_refl _) _)) (by omega) (by simp) ?_
          intro v2 w2 ho2 hg2 hne
          have HB2 : Hid (Below wr.heap.size wr w2) := hid (below_grown (((Below.refl _ _).drew).alloc (Nat.le_refl _) _) (owns_empty wr.drew) hg2 (Nat.le_refl _))
          have HO2 := hid (Fresh.ofOwns ho2)
          clear hg2 hne ho2
          have HM := hid (HR.out.more HB2.out)
          have hcg2 : w2.cell? ⟨g, x.1, none⟩ = some v0 := by rw [HB2.out.cell (World.block_lt_of_cell? wr _ cg)]; exact cg
          have hfg2 : w2.frozen? ⟨g, x.1, none⟩ = false := by rw [HB2.out.frozen (World.block_lt_of_cell? wr _ cg)]; exact fg
          obtain ⟨ao2, cap2, rfl, -⟩ := HO2.out
          refine hK.out _ _ ?k21x22 (fun hS => ?s21x22)
          case k21x22 => exact ⟨by rw [HB2.out.cell (World.block_lt_of_cell? wr _ c0)]; exact c0, by rw [HB2.out.cell (World.block_lt_of_cell? wr _ c1)]; exact c1, by rw [HB2.out.cell (World.block_lt_of_cell? wr _ ca)]; exact ca, by rw [HB2.out.cell (World.block_lt_of_cell? wr _ cb)]; exact cb⟩
          clear hK K
          try simp only [Act.put, sA, sB, sC]
          refine tkH (i := 22) (v := ?v22x23) (y := Or.inl ⟨by rfl, ?y22x23⟩) (s := hS) (h := ?r22x23)
          case y22x23 => (intro w' hSw; (try dsimp only at hSw); go_simp; (try with_reducible rfl))
          simp only [Act.put, sA, sB, sC]
          refine rdH (i := 23) (h := fun K hK => ?_)
          go_simp
          refine hK.out _ _ ?k23x24 (fun hS => ?s23x24)
          case k23x24 => exact ⟨(World.cell?_setCell_other w2 _ _ _ (HN1.out 0)).trans hS.1, (World.cell?_setCell_other w2 _ _ _ (HN1.out 1)).trans hS.2.1, (World.cell?_setCell_other w2 _ _ _ (HN2.out _)).trans hS.2.2.1, (World.cell?_setCell_other w2 _ _ _ (HN2.out _)).trans hS.2.2.2⟩
          clear hK K
          try simp only [Act.put]
          refine wpAnyH_done (by kernel_rfl) ?_ _
          clear hS
          go_wp2
          go_roundw
          case rel =>
            have hss := (SS.fresh HO2.out).mono (G := grow Fb' wr w2) (fun k hk => .inr hk)
            have hr2 := HM.out.setL HLL.out x.1 hss
            have hk2 : Keep F w (w2.setCell ⟨g, x.1, none⟩ (.slice ao2 ([] ++ x.2).length cap2)) := Keep.setCell (p := ⟨g, x.1, none⟩) (HK.out.trans (Keep.ofBelow HB2.out)) HFG.out _
            exact ⟨k + 1, L.set x.1 x.2, lst, _, _, by go_num, rfl, HC.out.kept HX.out HB.out, hr2.mono (fun j hj => by
              rcases hj with (hj | hj) | hj
              · exact .inl hj
              · exact .inr ⟨hj.1, by have := HB2.out.size; simp; omega⟩
              · exact .inr ⟨by have := HK.out.size; omega, by simpa using hj.2⟩), by rw [List.length_set]; exact HLL.out, hk2⟩
          case measure => simp [intOf]; omega
    · have hk9 : k = d.loose.length := by omega
      have hcg := crash_good d keep t ht (by rw [← hk9]; exact HC.out)
      have HCG := hid hcg
      rw [hcg] at HOK
      rcases HC.out.la with ⟨rfl, hla⟩ | ⟨j, rfl, hjk, hla⟩
      · rw [hk9, List.take_length] at hla
        have HLAST := hid hla
        have HE := HR
        clear hcg hla hk9
        have c1e := HE.out.hd.cell (j := 1) rfl
        have f1e := HE.out.hd.free 1
        have e1 := HE.out.hd.set 1 (.slice none 0 0)
        have c2e := e1.cell (j := 2) rfl
        have f2e := e1.free 2
        have e2 := e1.set 2 (.bool false)
        have c4e := e2.cell (j := 4) rfl
        have f4e := e2.free 4
        have e3 := hid (e2.set 4 (.bool false))
        clear e1 e2
        go_wp2
        go_ret
        rw [HCG.out]
        have hka := (((Keep.refl (fun k => k = a) wr).setCell (p := ⟨a, 1, none⟩) rfl (.slice none 0 0)).setCell (p := ⟨a, 2, none⟩) rfl (.bool false)).setCell (p := ⟨a, 4, none⟩) rfl (.bool false)
        have hcl := HE.out.cleared hka e3.out
        exact ⟨rfl, ⟨HOK.out, _, _, _, _, _, _, _, by rw [HLAST.out]; exact hcl.mono (fun j hj => hj.imp id fun hj => ⟨hj.1, by simpa using hj.2⟩), .inl ⟨rfl, rfl⟩⟩, HK.out.trans (hka.mono fun k _ e => by rw [e]; exact HFA.out)⟩
      · rw [hk9, List.take_length] at hla
        obtain ⟨x, hx⟩ : ∃ x, d.loose[j]? = some x := ⟨_, List.getElem?_eq_getElem (by omega)⟩
        have HLAST := hid (hla.trans hx)
        obtain ⟨gw, rfl, hjl, ca, u, cb, hss⟩ := HR.out.wr rfl hx
        obtain ⟨ao, cap, rfl, hcap, hsb, -⟩ := hss
        have HSB := hid hsb
        have hx64 := HO.out.lo x (List.mem_of_getElem? hx)
        have H64 := hid hx64.2
        rw [hx64.2] at cb
        have hxl := hx64.1
        obtain ⟨s0, hs0⟩ : ∃ s, L[x.1]? = some s := ⟨_, List.getElem?_eq_getElem (by rw [← HLL.out]; exact hxl)⟩
        obtain ⟨_, hg, _, so, scap, cs, hsb0, hsc⟩ := HR.out.sec HLL.out hs0
        injection hg with hg; injection hg with hg; subst hg
        have HGET : Hid (L.getD x.1 [] = s0) := hid (by simp [List.getD, hs0])
        have HSS := hid hsb0
        have hcg2 : d.crash keep t = (0, { img := L.set x.1 (x.2.take t ++ s0.drop t), loose := [], fuse := none, out := false }) := by
          rw [hcg, HLAST.out]
          show (0, ({ img := L.set x.1 (x.2.take t ++ (L.getD x.1 []).drop t), loose := [], fuse := none, out := false } : Dev)) = _
          rw [HGET.out]
        rw [← hcg, hcg2] at HOK
        clear HCG
        have HCG := hid hcg2
        clear hcg2
        have hS64 : s0.length = 64 := s64_crash HO.out HC.out hs0
        have HS64 := hid hS64
        rw [hS64] at cs hsc
        have HSC : Hid (s0.length ≤ scap) := hid (by rw [hS64]; exact hsc)
        have hoL := HR.out.oL
        rw [← HLL.out] at hoL
        obtain ⟨_, hg, _, _, _, _, hfl⟩ := own_cell hoL (by omega)
        injection hg with hg; injection hg with hg; subst hg
        clear hoL
        have HN1 : Hid (∀ j, (⟨g, x.1, none⟩ : Addr) ≠ ⟨a, j, none⟩) := hid (by intro j e; injection e with e; exact (HR.out.fL g rfl).2.2 e)
        have HN3 : Hid (∀ i, (⟨g, x.1, none⟩ : Addr) ≠ ⟨wr.heap.size, i, none⟩) := hid (by intro i e; injection e with e; have := World.block_lt_of_cell? wr _ cs; simp at this; omega)
        have htc : t ≤ cap := by have := H64.out; omega
        have rsl := run_sl so 64 scap t (by omega)
        clear hx hsb hx64 hcap hla hcg hk9 hs0 hsb0 hS64
        go_wp2_with fail
        obtain ⟨w3, hw3⟩ : ∃ w3, wr.alloc (.cells #[.int .i64 (x.1 : Int), .slice ao 64 cap] 86) = w3 := ⟨_, rfl⟩
        rw [hw3]
        have HW3 : Hid (Blk w3 wr.heap.size 86 [.int .i64 (x.1 : Int), .slice ao 64 cap]) := hid (by rw [← hw3]; exact alloc_new wr _)
        have HBB : Hid (Below wr.heap.size wr w3) := hid (by rw [← hw3]; exact fresh_alloc wr _)
        clear hw3
        have c0' : w3.cell? ⟨a, 0, none⟩ = some (.slice (some ⟨g, 0, none⟩) d.img.length cL) := by rw [HBB.out.cell (World.block_lt_of_cell? wr _ c0)]; exact c0
        have cs3 : w3.cell? ⟨g, x.1, none⟩ = some (.slice so 64 scap) := by rw [HBB.out.cell (World.block_lt_of_cell? wr _ cs)]; exact cs
        have fg3 : w3.frozen? ⟨g, x.1, none⟩ = false := by rw [HBB.out.frozen (World.block_lt_of_cell? wr _ cs)]; exact hfl x.1
        refine wp_region_held_drew (S := fun w' => w'.cell? ⟨a, 0, none⟩ = some (.slice (some ⟨g, 0, none⟩) d.img.length cL) ∧ w'.cell? ⟨wr.heap.size, 0, none⟩ = some (.int .i64 (x.1 : Int)) ∧ w'.cell? ⟨wr.heap.size, 1, none⟩ = some (.slice ao 64 cap)) (by kernel_rfl) ⟨c0', HW3.out.cell (j := 0) rfl, HW3.out.cell (j := 1) rfl⟩ (fun hS => ?_)
        refine tkH (i := 0) (v := ?v0x1b) (y := Or.inl ⟨by rfl, ?y0x1b⟩) (s := hS) (h := ?r0x1b)
        case y0x1b => (intro w' hSw; (try dsimp only at hSw); go_simp; (try with_reducible rfl))
        simp only [Act.put, sA, sB, sC]
        refine tkH (i := 1) (v := ?v1x2b) (y := Or.inl ⟨by rfl, ?y1x2b⟩) (s := hS) (h := ?r1x2b)
        case y1x2b => (intro w' hSw; (try dsimp only at hSw); go_simp; (try with_reducible rfl))
        simp only [Act.put, sA, sB, sC]
        refine tkH (i := 2) (v := ?v2x3b) (y := Or.inl ⟨by rfl, ?y2x3b⟩) (s := hS) (h := ?r2x3b)
        case y2x3b => (intro w' hSw; (try dsimp only at hSw); go_simp; (try with_reducible rfl))
        simp only [Act.put, sA, sB, sC]
        refine tkH (i := 3) (v := ?v3x4b) (y := Or.inl ⟨by rfl, ?y3x4b⟩) (s := hS) (h := ?r3x4b)
        case y3x4b => (intro w' hSw; (try dsimp only at hSw); go_simp; (try with_reducible rfl))
        simp only [Act.put, sA, sB, sC]
        refine tkH (i := 4) (v := ?v4x5b) (y := Or.inl ⟨by rfl, ?y4x5b⟩) (s := hS) (h := ?r4x5b)
        case y4x5b => (intro w' hSw; (try dsimp only at hSw); go_simp; (try with_reducible rfl))
        simp only [Act.put, sA, sB, sC]
        refine tkH (i := 5) (v := ?v5x6b) (y := Or.inl ⟨by rfl, ?y5x6b⟩) (s := hS) (h := ?r5x6b)
        case y5x6b => (intro w' hSw; (try dsimp only at hSw); go_simp; (try with_reducible rfl))
        simp only [Act.put, sA, sB, sC]
        refine tkH (i := 7) (v := ?v7x7b) (y := Or.inl ⟨by rfl, ?y7x7b⟩) (s := hS) (h := ?r7x7b)
        case y7x7b => (intro w' hSw; (try dsimp only at hSw); go_simp; (try with_reducible rfl))
        simp only [Act.put, sA, sB, sC]
        refine tkH (i := 8) (v := ?v8x8b) (y := Or.inl ⟨by rfl, ?y8x8b⟩) (s := hS) (h := ?r8x8b)
        case y8x8b => (intro w' hSw; (try dsimp only at hSw); go_simp; (try with_reducible rfl))
        simp only [Act.put, sA, sB, sC]
        refine tkH (i := 9) (v := ?v9x9b) (y := Or.inl ⟨by rfl, ?y9x9b⟩) (s := hS) (h := ?r9x9b)
        case y9x9b => (intro w' hSw; (try dsimp only at hSw); go_simp; (try with_reducible rfl))
        simp only [Act.put, sA, sB, sC]
        refine tkH (i := 10) (v := ?v10x10b) (y := Or.inl ⟨by rfl, ?y10x10b⟩) (s := hS) (h := ?r10x10b)
        case y10x10b => (intro w' hSw; (try dsimp only at hSw); go_simp; (try with_reducible rfl))
        simp only [Act.put, sA, sB, sC]
        refine tkH (i := 12) (v := ?v12x11b) (y := Or.inl ⟨by rfl, ?y12x11b⟩) (s := hS) (h := ?r12x11b)
        case y12x11b => (intro w' hSw; (try dsimp only at hSw); go_simp; (try with_reducible rfl))
        simp only [Act.put, sA, sB, sC]
        refine tkH (i := 13) (v := ?v13x12b) (y := Or.inl ⟨by rfl, ?y13x12b⟩) (s := hS) (h := ?r13x12b)
        case y13x12b => (intro w' hSw; (try dsimp only at hSw); go_simp; (try with_reducible rfl))
        simp only [Act.put, sA, sB, sC]
        refine tkH (i := 14) (v := ?v14x13b) (y := Or.inl ⟨by rfl, ?y14x13b⟩) (s := hS) (h := ?r14x13b)
        case y14x13b => (intro w' hSw; (try dsimp only at hSw); go_simp; (try with_reducible rfl))
        simp only [Act.put, sA, sB, sC]
        refine tkH (i := 15) (v := ?v15x14b) (y := Or.inl ⟨by rfl, ?y15x14b⟩) (s := hS) (h := ?r15x14b)
        case y15x14b => (intro w' hSw; (try dsimp only at hSw); go_simp; (try with_reducible rfl))
        simp only [Act.put, sA, sB, sC]
        refine tkH (i := 16) (v := ?v16x15b) (y := Or.inl ⟨by rfl, ?y16x15b⟩) (s := hS) (h := ?r16x15b)
        case y16x15b => (intro w' hSw; (try dsimp only at hSw); go_simp; (try with_reducible rfl))
        simp only [Act.put, sA, sB, sC]
        refine tkH (i := 17) (v := ?v17x16b) (y := Or.inl ⟨by rfl, ?y17x16b⟩) (s := hS) (h := ?r17x16b)
        case y17x16b => (intro w' hSw; (try dsimp only at hSw); go_simp; (try with_reducible rfl))
        simp only [Act.put, sA, sB, sC]
        refine tkH (i := 18) (v := ?v18x17b) (y := Or.inl ⟨by rfl, ?y18x17b⟩) (s := hS) (h := ?r18x17b)
        case y18x17b => (intro w' hSw; (try dsimp only at hSw); go_simp; (try with_reducible rfl))
        simp only [Act.put, sA, sB, sC]
        refine tkH (i := 20) (v := ?v20x18b) (y := Or.inl ⟨by rfl, ?y20x18b⟩) (s := hS) (h := ?r20x18b)
        case y20x18b => (intro w' hSw; (try dsimp only at hSw); go_simp; (try with_reducible rfl))
        simp only [Act.put, sA, sB, sC]
        refine wpAnyH_ready (rs := [6, 19]) (by kernel_rfl) (by simp) ?_
        refine AllReadyH.cons (by simp only [List.getElem?_toArray, List.getElem?_cons_zero, List.getElem?_cons_succ]; exact rfl) (fun K hK => ?_) (AllReadyH.cons (by simp only [List.getElem?_toArray, List.getElem?_cons_zero, List.getElem?_cons_succ]; exact rfl) (fun K hK => ?_) AllReadyH.nil)
        · go_simp
          refine hK.out _ _ ?k6x19b (fun hS => ?s6x19b)
          case k6x19b => exact ⟨alc hS.1 _, alc hS.2.1 _, alc hS.2.2 _⟩
          clear hK K
          try simp only [Act.put, sA, sB, sC]
          refine wpAnyH_ready (rs := [11, 19]) (by kernel_rfl) (by simp) ?_
          refine AllReadyH.cons (by simp only [List.getElem?_toArray, List.getElem?_cons_zero, List.getElem?_cons_succ]; exact rfl) (fun K hK => ?_) (AllReadyH.cons (by simp only [List.getElem?_toArray, List.getElem?_cons_zero, List.getElem?_cons_succ]; exact rfl) (fun K hK => ?_) AllReadyH.nil)
          · refine wpo_append (.tmp 74) (.tmp 78) rfl w3.heap.size _ 0 [] (x.2.take t) rfl (owns_empty w3.drew) ao t cap rfl (by simp [H64.out]; omega) (((HSB.out.below HBB.out).take t |>.below (Below.refl _ _).drew).below ((Below.refl _ _).alloc (Nat.le_refl _) _)) (by omega) (by simp) ?_
            intro v4 w4 ho4 hg4 hne4
            have HB4 : Hid (Below w3.heap.size w3 w4) := hid (below_grown (((Below.refl _ _).drew).alloc (Nat.le_refl _) _) (owns_empty w3.drew) hg4 (Nat.le_refl _))
            have HO4 : Hid (w4.ownsRow w3.heap.size 5 1 v4 t (bv (x.2.take t))) := hid (by simpa using ho4)
            clear hg4 hne4 ho4
            obtain ⟨ao4, cap4, rfl⟩ := own_slice HO4.out
            refine hK.out _ _ ?k11x20b (fun hS => ?s11x20b)
            case k11x20b => exact ⟨by rw [HB4.out.cell (World.block_lt_of_cell? w3 _ c0')]; exact c0', HW3.out.below HB4.out HW3.out.lt |>.cell (j := 0) rfl, HW3.out.below HB4.out HW3.out.lt |>.cell (j := 1) rfl⟩
            clear hK K
            try simp only [Act.put, sA, sB, sC]
            refine rdH (i := 19) (h := fun K hK => ?_)
            have hq3 := cs3
            have hqa := alc cs3
            try have hq4 : w4.cell? ⟨g, x.1, none⟩ = some (.slice so 64 scap) := (by rw [HB4.out.cell (World.block_lt_of_cell? w3 _ cs3)]; exact cs3)
            go_simp
            clear hqa
            refine hK.out _ _ ?k19x21b (fun hS => ?s19x21b)
            case k19x21b => exact hS
            clear hK K
            try simp only [Act.put, sA, sB, sC]
            refine tkH (i := 21) (v := ?v21x22b) (y := Or.inl ⟨by rfl, ?y21x22b⟩) (s := hS) (h := ?r21x22b)
            case y21x22b => (intro w' hSw; (try dsimp only at hSw); go_simp; (try with_reducible rfl))
            simp only [Act.put, sA, sB, sC]
            refine rdH (i := 22) (h := fun K hK => ?_)
            refine wpo_append (.tmp 79) (.tmp 89) rfl w3.heap.size _ t (x.2.take t) (s0.drop t) rfl HO4.out (sl so t scap) (64 - t) (scap - t) rfl (by simp [HS64.out]) (((HSS.out.below (HBB.out)).sl (by rw [HS64.out]; omega) HSC.out).below HB4.out) (by omega) (by have := HB4.out.size; omega) ?_
            intro v5 w5 ho5 hg5 hne5
            have HB5 : Hid (Below w3.heap.size w3 w5) := hid (below_grown HB4.out HO4.out hg5 (Nat.le_refl _))
            have HO5 := hid (Fresh.ofOwns ho5)
            clear hg5 hne5 ho5
            have HM := hid ((HR.out.below HBB.out).more HB5.out)
            have hcg5 : w5.cell? ⟨g, x.1, none⟩ = some (.slice so 64 scap) := by rw [HB5.out.cell (World.block_lt_of_cell? w3 _ cs3)]; exact cs3
            have hfg5 : w5.frozen? ⟨g, x.1, none⟩ = false := by rw [HB5.out.frozen (World.block_lt_of_cell? w3 _ cs3)]; exact fg3
            obtain ⟨ao5, cap5, rfl⟩ : ∃ ao c, v5 = .slice ao 64 c := (by
              obtain ⟨ao, c, h, -⟩ := HO5.out
              rw [show (x.2.take t ++ s0.drop t).length = 64 by simp [H64.out, HS64.out]; omega] at h
              exact ⟨ao, c, h⟩)
            refine hK.out _ _ ?k22x23b (fun hS => ?s22x23b)
            case k22x23b => exact ⟨by rw [HB5.out.cell (World.block_lt_of_cell? w3 _ c0')]; exact c0', HW3.out.below HB5.out HW3.out.lt |>.cell (j := 0) rfl, HW3.out.below HB5.out HW3.out.lt |>.cell (j := 1) rfl⟩
            clear hK K
            try simp only [Act.put, sA, sB, sC]
            refine tkH (i := 23) (v := ?v23x24b) (y := Or.inl ⟨by rfl, ?y23x24b⟩) (s := hS) (h := ?r23x24b)
            case y23x24b => (intro w' hSw; (try dsimp only at hSw); go_simp; (try with_reducible rfl))
            simp only [Act.put, sA, sB, sC]
            refine rdH (i := 24) (h := fun K hK => ?_)
            go_simp
            refine hK.out _ _ ?k24x25b (fun hS => ?s24x25b)
            case k24x25b => exact ⟨(World.cell?_setCell_other w5 _ _ _ (HN1.out 0)).trans hS.1, (World.cell?_setCell_other w5 _ _ _ (HN3.out 0)).trans hS.2.1, (World.cell?_setCell_other w5 _ _ _ (HN3.out 1)).trans hS.2.2⟩
            clear hK K
            try simp only [Act.put]
            refine wpAnyH_done (by kernel_rfl) ?_ _
            clear hS
            have HE : Hid (RR (w5.setCell ⟨g, x.1, none⟩ (.slice ao5 64 cap5)) a (.slice (some ⟨g, 0, none⟩) d.img.length cL) (.slice (some ⟨gw, 0, none⟩) d.loose.length cW) _ vsW fused fuse _ _ (L.set x.1 (x.2.take t ++ s0.drop t)) d.loose d.out) := hid (HM.out.setL HLL.out x.1 ((SS.fresh HO5.out).mono (G := grow Fb' w3 w5) (fun k hk => .inr hk)))
            have HKE : Hid (Keep F w (w5.setCell ⟨g, x.1, none⟩ (.slice ao5 64 cap5))) := hid (Keep.setCell (p := ⟨g, x.1, none⟩) ((HK.out.trans (Keep.ofBelow HBB.out)).trans (Keep.ofBelow HB5.out)) HFG.out _)
            have c1e := HE.out.hd.cell (j := 1) rfl
            have f1e := HE.out.hd.free 1
            have e1 := HE.out.hd.set 1 (.slice none 0 0)
            have c2e := e1.cell (j := 2) rfl
            have f2e := e1.free 2
            have e2 := e1.set 2 (.bool false)
            have c4e := e2.cell (j := 4) rfl
            have f4e := e2.free 4
            have e3 := hid (e2.set 4 (.bool false))
            clear e1 e2
            go_wp2
            go_ret
            rw [HCG.out]
            have hka := (((Keep.refl (fun k => k = a) (w5.setCell ⟨g, x.1, none⟩ (.slice ao5 64 cap5))).setCell (p := ⟨a, 1, none⟩) rfl (.slice none 0 0)).setCell (p := ⟨a, 2, none⟩) rfl (.bool false)).setCell (p := ⟨a, 4, none⟩) rfl (.bool false)
            have hcl := HE.out.cleared hka e3.out
            refine ⟨rfl, rd_of HOK.out (hcl.mono (fun j hj => ?_)) rfl, HKE.out.trans (hka.mono fun k _ e => by rw [e]; exact HFA.out)⟩
            rcases hj with (hj | hj) | hj
            · exact .inl hj
            · exact .inr ⟨hj.1, Nat.lt_of_lt_of_le hj.2 (Nat.le_trans HBB.out.size (by have := HB5.out.size; simpa using this))⟩
            · exact .inr ⟨by have := HK.out.size; have := HBB.out.size; omega, by simpa using hj.2⟩
          · have hq3 := cs3
            have hqa := alc cs3
            try have hq4 : w4.cell? ⟨g, x.1, none⟩ = some (.slice so 64 scap) := (by rw [HB4.out.cell (World.block_lt_of_cell? w3 _ cs3)]; exact cs3)
            go_simp
            clear hqa
            refine hK.out _ _ ?k19x26b (fun hS => ?s19x26b)
            case k19x26b => exact hS
            clear hK K
            try simp only [Act.put, sA, sB, sC]
            refine tkH (i := 21) (v := ?v21x27b) (y := Or.inl ⟨by rfl, ?y21x27b⟩) (s := hS) (h := ?r21x27b)
            case y21x27b => (intro w' hSw; (try dsimp only at hSw); go_simp; (try with_reducible rfl))
            simp only [Act.put, sA, sB, sC]
            refine rdH (i := 11) (h := fun K hK => ?_)
            refine wpo_append (.tmp 74) (.tmp 78) rfl w3.heap.size _ 0 [] (x.2.take t) rfl (owns_empty w3.drew) ao t cap rfl (by simp [H64.out]; omega) (((HSB.out.below HBB.out).take t |>.below (Below.refl _ _).drew).below ((Below.refl _ _).alloc (Nat.le_refl _) _)) (by omega) (by simp) ?_
            intro v4 w4 ho4 hg4 hne4
            have HB4 : Hid (Below w3.heap.size w3 w4) := hid (below_grown (((Below.refl _ _).drew).alloc (Nat.le_refl _) _) (owns_empty w3.drew) hg4 (Nat.le_refl _))
            have HO4 : Hid (w4.ownsRow w3.heap.size 5 1 v4 t (bv (x.2.take t))) := hid (by simpa using ho4)
            clear hg4 hne4 ho4
            obtain ⟨ao4, cap4, rfl⟩ := own_slice HO4.out
            refine hK.out _ _ ?k11x28b (fun hS => ?s11x28b)
            case k11x28b => exact ⟨by rw [HB4.out.cell (World.block_lt_of_cell? w3 _ c0')]; exact c0', HW3.out.below HB4.out HW3.out.lt |>.cell (j := 0) rfl, HW3.out.below HB4.out HW3.out.lt |>.cell (j := 1) rfl⟩
            clear hK K
            try simp only [Act.put, sA, sB, sC]
            refine rdH (i := 22) (h := fun K hK => ?_)
            refine wpo_append (.tmp 79) (.tmp 89) rfl w3.heap.size _ t (x.2.take t) (s0.drop t) rfl HO4.out (sl so t scap) (64 - t) (scap - t) rfl (by simp [HS64.out]) (((HSS.out.below (HBB.out)).sl (by rw [HS64.out]; omega) HSC.out).below HB4.out) (by omega) (by have := HB4.out.size; omega) ?_
            intro v5 w5 ho5 hg5 hne5
            have HB5 : Hid (Below w3.heap.size w3 w5) := hid (below_grown HB4.out HO4.out hg5 (Nat.le_refl _))
            have HO5 := hid (Fresh.ofOwns ho5)
            clear hg5 hne5 ho5
            have HM := hid ((HR.out.below HBB.out).more HB5.out)
            have hcg5 : w5.cell? ⟨g, x.1, none⟩ = some (.slice so 64 scap) := by rw [HB5.out.cell (World.block_lt_of_cell? w3 _ cs3)]; exact cs3
            have hfg5 : w5.frozen? ⟨g, x.1, none⟩ = false := by rw [HB5.out.frozen (World.block_lt_of_cell? w3 _ cs3)]; exact fg3
            obtain ⟨ao5, cap5, rfl⟩ : ∃ ao c, v5 = .slice ao 64 c := (by
              obtain ⟨ao, c, h, -⟩ := HO5.out
              rw [show (x.2.take t ++ s0.drop t).length = 64 by simp [H64.out, HS64.out]; omega] at h
              exact ⟨ao, c, h⟩)
            refine hK.out _ _ ?k22x29b (fun hS => ?s22x29b)
            case k22x29b => exact ⟨by rw [HB5.out.cell (World.block_lt_of_cell? w3 _ c0')]; exact c0', HW3.out.below HB5.out HW3.out.lt |>.cell (j := 0) rfl, HW3.out.below HB5.out HW3.out.lt |>.cell (j := 1) rfl⟩
            clear hK K
            try simp only [Act.put, sA, sB, sC]
            refine tkH (i := 23) (v := ?v23x30b) (y := Or.inl ⟨by rfl, ?y23x30b⟩) (s := hS) (h := ?r23x30b)
            case y23x30b => (intro w' hSw; (try dsimp only at hSw); go_simp; (try with_reducible rfl))
            simp only [Act.put, sA, sB, sC]
            refine rdH (i := 24) (h := fun K hK => ?_)
            go_simp
            refine hK.out _ _ ?k24x31b (fun hS => ?s24x31b)
            case k24x31b => exact ⟨(World.cell?_setCell_other w5 _ _ _ (HN1.out 0)).trans hS.1, (World.cell?_setCell_other w5 _ _ _ (HN3.out 0)).trans hS.2.1, (World.cell?_setCell_other w5 _ _ _ (HN3.out 1)).trans hS.2.2⟩
            clear hK K
            try simp only [Act.put]
            refine wpAnyH_done (by kernel_rfl) ?_ _
            clear hS
            have HE : Hid (RR (w5.setCell ⟨g, x.1, none⟩ (.slice ao5 64 cap5)) a (.slice (some ⟨g, 0, none⟩) d.img.length cL) (.slice (some ⟨gw, 0, none⟩) d.loose.length cW) _ vsW fused fuse _ _ (L.set x.1 (x.2.take t ++ s0.drop t)) d.loose d.out) := hid (HM.out.setL HLL.out x.1 ((SS.fresh HO5.out).mono (G := grow Fb' w3 w5) (fun k hk => .inr hk)))
            have HKE : Hid (Keep F w (w5.setCell ⟨g, x.1, none⟩ (.slice ao5 64 cap5))) := hid (Keep.setCell (p := ⟨g, x.1, none⟩) ((HK.out.trans (Keep.ofBelow HBB.out)).trans (Keep.ofBelow HB5.out)) HFG.out _)
            have c1e := HE.out.hd.cell (j := 1) rfl
            have f1e := HE.out.hd.free 1
            have e1 := HE.out.hd.set 1 (.slice none 0 0)
            have c2e := e1.cell (j := 2) rfl
            have f2e := e1.free 2
            have e2 := e1.set 2 (.bool false)
            have c4e := e2.cell (j := 4) rfl
            have f4e := e2.free 4
            have e3 := hid (e2.set 4 (.bool false))
            clear e1 e2
            go_wp2
            go_ret
            rw [HCG.out]
            have hka := (((Keep.refl (fun k => k = a) (w5.setCell ⟨g, x.1, none⟩ (.slice ao5 64 cap5))).setCell (p := ⟨a, 1, none⟩) rfl (.slice none 0 0)).setCell (p := ⟨a, 2, none⟩) rfl (.bool false)).setCell (p := ⟨a, 4, none⟩) rfl (.bool false)
            have hcl := HE.out.cleared hka e3.out
            refine ⟨rfl, rd_of HOK.out (hcl.mono (fun j hj => ?_)) rfl, HKE.out.trans (hka.mono fun k _ e => by rw [e]; exact HFA.out)⟩
            rcases hj with (hj | hj) | hj
            · exact .inl hj
            · exact .inr ⟨hj.1, Nat.lt_of_lt_of_le hj.2 (Nat.le_trans HBB.out.size (by have := HB5.out.size; simpa using this))⟩
            · exact .inr ⟨by have := HK.out.size; have := HBB.out.size; omega, by simpa using hj.2⟩
        · have hq3 := cs3
          have hqa := alc cs3
          try have hq4 : w4.cell? ⟨g, x.1, none⟩ = some (.slice so 64 scap) := (by rw [HB4.out.cell (World.block_lt_of_cell? w3 _ cs3)]; exact cs3)
          go_simp
          clear hqa
          refine hK.out _ _ ?k19x32b (fun hS => ?s19x32b)
          case k19x32b => exact hS
          clear hK K
          try simp only [Act.put, sA, sB, sC]
          refine tkH (i := 21) (v := ?v21x33b) (y := Or.inl ⟨by rfl, ?y21x33b⟩) (s := hS) (h := ?r21x33b)
          case y21x33b => (intro w' hSw; (try dsimp only at hSw); go_simp; (try with_reducible rfl))
          simp only [Act.put, sA, sB, sC]
          refine rdH (i := 6) (h := fun K hK => ?_)
          go_simp
          refine hK.out _ _ ?k6x34b (fun hS => ?s6x34b)
          case k6x34b => exact ⟨alc hS.1 _, alc hS.2.1 _, alc hS.2.2 _⟩
          clear hK K
          try simp only [Act.put, sA, sB, sC]
          refine rdH (i := 11) (h := fun K hK => ?_)
          refine wpo_append (.tmp 74) (.tmp 78) rfl w3.heap.size _ 0 [] (x.2.take t) rfl (owns_empty w3.drew) ao t cap rfl (by simp [H64.out]; omega) (((HSB.out.below HBB.out).take t |>.below (Below.refl _ _).drew).below ((Below.refl _ _).alloc (Nat.le_refl _) _)) (by omega) (by simp) ?_
          intro v4 w4 ho4 hg4 hne4
          have HB4 : Hid (Below w3.heap.size w3 w4) := hid (below_grown (((Below.refl _ _).drew).alloc (Nat.le_refl _) _) (owns_empty w3.drew) hg4 (Nat.le_refl _))
          have HO4 : Hid (w4.ownsRow w3.heap.size 5 1 v4 t (bv (x.2.take t))) := hid (by simpa using ho4)
          clear hg4 hne4 ho4
          obtain ⟨ao4, cap4, rfl⟩ := own_slice HO4.out
          refine hK.out _ _ ?k11x35b (fun hS => ?s11x35b)
          case k11x35b => exact ⟨by rw [HB4.out.cell (World.block_lt_of_cell? w3 _ c0')]; exact c0', HW3.out.below HB4.out HW3.out.lt |>.cell (j := 0) rfl, HW3.out.below HB4.out HW3.out.lt |>.cell (j := 1) rfl⟩
          clear hK K
          try simp only [Act.put, sA, sB, sC]
          refine rdH (i := 22) (h := fun K hK => ?_)
          refine wpo_append (.tmp 79) (.tmp 89) rfl w3.heap.size _ t (x.2.take t) (s0.drop t) rfl HO4.out (sl so t scap) (64 - t) (scap - t) rfl (by simp [HS64.out]) (((HSS.out.below (HBB.out)).sl (by rw [HS64.out]; omega) HSC.out).below HB4.out) (by omega) (by have := HB4.out.size; omega) ?_
          intro v5 w5 ho5 hg5 hne5
          have HB5 : Hid (Below w3.heap.size w3 w5) := hid (below_grown HB4.out HO4.out hg5 (Nat.le_refl _))
          have HO5 := hid (Fresh.ofOwns ho5)
          clear hg5 hne5 ho5
          have HM := hid ((HR.out.below HBB.out).more HB5.out)
          have hcg5 : w5.cell? ⟨g, x.1, none⟩ = some (.slice so 64 scap) := by rw [HB5.out.cell (World.block_lt_of_cell? w3 _ cs3)]; exact cs3
          have hfg5 : w5.frozen? ⟨g, x.1, none⟩ = false := by rw [HB5.out.frozen (World.block_lt_of_cell? w3 _ cs3)]; exact fg3
          obtain ⟨ao5, cap5, rfl⟩ : ∃ ao c, v5 = .slice ao 64 c := (by
            obtain ⟨ao, c, h, -⟩ := HO5.out
            rw [show (x.2.take t ++ s0.drop t).length = 64 by simp [H64.out, HS64.out]; omega] at h
            exact ⟨ao, c, h⟩)
          refine hK.out _ _ ?k22x36b (fun hS => ?s22x36b)
          case k22x36b => exact ⟨by rw [HB5.out.cell (World.block_lt_of_cell? w3 _ c0')]; exact c0', HW3.out.below HB5.out HW3.out.lt |>.cell (j := 0) rfl, HW3.out.below HB5.out HW3.out.lt |>.cell (j := 1) rfl⟩
          clear hK K
          try simp only [Act.put, sA, sB, sC]
          refine tkH (i := 23) (v := ?v23x37b) (y := Or.inl ⟨by rfl, ?y23x37b⟩) (s := hS) (h := ?r23x37b)
          case y23x37b => (intro w' hSw; (try dsimp only at hSw); go_simp; (try with_reducible rfl))
          simp only [Act.put, sA, sB, sC]
          refine rdH (i := 24) (h := fun K hK => ?_)
          go_simp
          refine hK.out _ _ ?k24x38b (fun hS => ?s24x38b)
          case k24x38b => exact ⟨(World.cell?_setCell_other w5 _ _ _ (HN1.out 0)).trans hS.1, (World.cell?_setCell_other w5 _ _ _ (HN3.out 0)).trans hS.2.1, (World.cell?_setCell_other w5 _ _ _ (HN3.out 1)).trans hS.2.2⟩
          clear hK K
          try simp only [Act.put]
          refine wpAnyH_done (by kernel_rfl) ?_ _
          clear hS
          have HE : Hid (RR (w5.setCell ⟨g, x.1, none⟩ (.slice ao5 64 cap5)) a (.slice (some ⟨g, 0, none⟩) d.img.length cL) (.slice (some ⟨gw, 0, none⟩) d.loose.length cW) _ vsW fused fuse _ _ (L.set x.1 (x.2.take t ++ s0.drop t)) d.loose d.out) := hid (HM.out.setL HLL.out x.1 ((SS.fresh HO5.out).mono (G := grow Fb' w3 w5) (fun k hk => .inr hk)))
          have HKE : Hid (Keep F w (w5.setCell ⟨g, x.1, none⟩ (.slice ao5 64 cap5))) := hid (Keep.setCell (p := ⟨g, x.1, none⟩) ((HK.out.trans (Keep.ofBelow HBB.out)).trans (Keep.ofBelow HB5.out)) HFG.out _)
          have c1e := HE.out.hd.cell (j := 1) rfl
          have f1e := HE.out.hd.free 1
          have e1 := HE.out.hd.set 1 (.slice none 0 0)
          have c2e := e1.cell (j := 2) rfl
          have f2e := e1.free 2
          have e2 := e1.set 2 (.bool false)
          have c4e := e2.cell (j := 4) rfl
          have f4e := e2.free 4
          have e3 := hid (e2.set 4 (.bool false))
          clear e1 e2
          go_wp2
          go_ret
          rw [HCG.out]
          have hka := (((Keep.refl (fun k => k = a) (w5.setCell ⟨g, x.1, none⟩ (.slice ao5 64 cap5))).setCell (p := ⟨a, 1, none⟩) rfl (.slice none 0 0)).setCell (p := ⟨a, 2, none⟩) rfl (.bool false)).setCell (p := ⟨a, 4, none⟩) rfl (.bool false)
          have hcl := HE.out.cleared hka e3.out
          refine ⟨rfl, rd_of HOK.out (hcl.mono (fun j hj => ?_)) rfl, HKE.out.trans (hka.mono fun k _ e => by rw [e]; exact HFA.out)⟩
          rcases hj with (hj | hj) | hj
          · exact .inl hj
          · exact .inr ⟨hj.1, Nat.lt_of_lt_of_le hj.2 (Nat.le_trans HBB.out.size (by have := HB5.out.size; simpa using this))⟩
          · exact .inr ⟨by have := HK.out.size; have := HBB.out.size; omega, by simpa using hj.2⟩
end Go.Proofs.YtlondopgibcikaaGreat
