/- VaultCrash: the walk. (Printed by wip/vcrash.py.) -/
import Derived.Test.YtlondopgibcikaaRows
import Derived.Test.YtlondopgibcikaaGBase
import Derived.Test.YtlondopgibcikaaGCrc
import Derived.Test.YtlondopgibcikaaGDevice
import Derived.Test.YtlondopgibcikaaGRefDev
import Derived.Test.YtlondopgibcikaaGLogA
import Derived.Test.YtlondopgibcikaaGLogC
import Derived.Test.YtlondopgibcikaaGRefLog
import Derived.Test.YtlondopgibcikaaGVaultA
import Derived.Test.YtlondopgibcikaaGVaultC
import Derived.Test.YtlondopgibcikaaGVaultE
import Derived.Test.YtlondopgibcikaaGVaultG
import Derived.Test.YtlondopgibcikaaGVaultH
import Derived.Test.YtlondopgibcikaaGVaultP
import Derived.WalkMore
import Derived.Deep.CutRange
import Derived.Deep.CutBlock
import Derived.Deep.RegionHeld3
import Derived.Deep.QuietTactic
import Derived.BigQuiet
import Derived.WalkKit
import Derived.WalkSpells
import Derived.WalkLawsBesides
import Derived.Laws.IdiomStrings
namespace Go.Proofs.Ytlondopgibcikaa
open Go.RowKit Ent
/-- what may stand behind a crash: what was told, or what the call under way would have made -/
def either (firm other : List (List UInt8)) (under : Bool) (X : List (List UInt8)) : Prop := X = firm ∨ under = true ∧ X = other
def shortL (L : List (List UInt8)) : Prop := L.length ≤ 1000 ∧ ∀ r ∈ L, r.length ≤ 1048576
theorem short_room {n : Nat} {L : List (List UInt8)} (hn : n ≤ 1000) (h : needsOf L ≤ halfOf n) : shortL L := by
  have hh : halfOf n ≤ 500 := by unfold halfOf; omega
  refine ⟨by have := needs_many L; omega, fun r hr => ?_⟩
  have := needs_long hr; omega
theorem fit_room {n g : Nat} {L : List (List UInt8)} {br : Bool} (hn : n ≤ 1000) (hg : g ≤ 2147483647) (h : needsOf L ≤ halfOf n) : fitV ⟨g, ((needsOf L : Nat) : Int), br, L⟩ := by
  have hh : halfOf n ≤ 500 := by unfold halfOf; omega
  obtain ⟨h1, h2⟩ := short_room hn h
  exact ⟨by simp only; omega, hg, by simp only; omega, fun l hl => by have := h2 l hl; omega⟩
theorem bl_lt7 {w : World} {ao : Option Addr} {l : List Bool} (h : BL w ao l) (hne : l ≠ []) : ∀ a, ao = some a → a.block < w.heap.size := by
  intro a ha
  rcases h with h | ⟨b, o, hb, hr⟩
  · exact absurd h hne
  · rw [hb] at ha; injection ha with ha; subst ha
    obtain ⟨x, l', rfl⟩ := List.exists_cons_of_ne_nil hne
    exact World.block_lt_of_cell? w _ (hr 0 _ rfl)
set_option maxRecDepth 100000 in
set_option maxHeartbeats 4000000 in
theorem vaultCrash_walk (x : Int) (hx : -9223372036854775808 ≤ x ∧ x ≤ 9223372036854775807) (ao : Option Addr) (len cap : Nat) (l : List Act7) (hlen : len = l.length) (hm : len ≤ 9223372036854775807) (torn : Int) (htn : -9223372036854775808 ≤ torn ∧ torn ≤ 9223372036854775807) (w : World) (hl : AL7 w ao l) :
    Calls Try.prog 21 #[.int .i64 x, .slice ao len cap, .int .i64 torn] w fun e w' => e = .returned (.bool true) ∧ Below w.heap.size w w' := by
  have HL := hid hl; have HLEN := hid hlen
  obtain ⟨p, hp, ep⟩ : ∃ p : Nat, p < 53 ∧ x % 53 = (p : Int) := pick_nat x 53 (by omega)
  obtain ⟨T, hT, eT⟩ : ∃ T : Nat, T < 64 ∧ torn % 64 = (T : Int) := pick_nat torn 64 (by omega)
  have EP := hid ep; have ET := hid eT
  clear hl hlen ep eT
  go_enter Try.func21, Try.ntmps21
  go_wp2_with fail
  refine (known7_any w).mono ?_
  rintro e w1 ⟨rfl, hb1⟩
  have HB1 := hid hb1
  clear hb1
  go_wp2_with fail
  refine (long7_any ao len cap l HLEN.out hm w1 (HL.out.below HB1.out)).mono ?_
  rintro e w' ⟨rfl, hw'⟩
  subst w'
  rcases hlong : long7 l with _ | _
  · have hno := hid (long7_no hlong)
    clear hlong
    go_wp2_with fail
    refine (pick_any x 53 (by omega) (by omega) hx.1 hx.2 w1).mono ?_
    rintro e w' ⟨rfl, hw'⟩
    subst w'
    rw [EP.out]
    obtain ⟨N, hN⟩ : ∃ N, 8 + p = N := ⟨_, rfl⟩
    have qN : IntKind.i64.wrap (8 + (p : Int)) = (N : Int) := by rw [IntWalk.i64_in _ (by omega)]; omega
    have hN8 : 8 ≤ N := by omega
    have hN60 : N ≤ 60 := by omega
    clear hN
    go_wp2_with fail
    refine (pick_any torn 64 (by omega) (by omega) htn.1 htn.2 w1).mono ?_
    rintro e w' ⟨rfl, hw'⟩
    subst w'
    rw [ET.out]
    go_wp2_with fail
    refine (((St.start w).below HB1.out).dev_new N (by omega) (by omega)).mono ?_
    rintro e w2 ⟨a, rfl, h2⟩
    have H2 : Hid (St w.heap.size w w2 [dev a (Dev.new N)]) := hid h2
    clear h2
    unfold ptr
    go_wp2_with fail
    refine (vformat_any H2.out 0 rfl (by simp [Dev.new])).mono ?_
    rintro e w3 ⟨rfl, h3⟩
    obtain ⟨f1, f2, f3, f4⟩ := format_new hN8 (by omega : N ≤ 65536)
    rw [f1]
    have h3 : St w.heap.size w w3 [dev a (formatD (Dev.new N)).2] := h3
    generalize (formatD (Dev.new N)).2 = d1 at f2 f3 f4 h3
    have H3 := hid (show St w.heap.size w w3 [dev a d1, roA w.heap.size w (.slice none 0 0) []] from h3.addNil)
    have F2 := hid f2; have F3 := hid f3; have F4 := hid f4
    clear f1 f2 f3 f4 h3
    go_wp2_with fail
    go_loopw [10, 11, 12] (fun vf gn i wr => ∃ (k : Nat) (d : Dev) (firm : List (List UInt8)) (g gen fn fc : Nat) (flo : Option Addr), vf = .slice flo fn fc ∧ firm.length = fn ∧ k ≤ len ∧ i = .int .i64 k ∧ gn = .int .i64 gen ∧ St w.heap.size w wr [dev a d, roA w.heap.size w (.slice flo fn fc) firm] ∧ Rdy d N ∧ d.fuse = none ∧ Weak d.img N g firm ∧ gen ≤ g ∧ g ≤ 1 + 20 * k) (fun _ _ i _ => len - (intOf i).toNat)
    case atStart => exact ⟨0, d1, [], 1, 1, 0, 0, none, rfl, rfl, by omega, rfl, rfl, H3.out, F2.out, F3.out, F4.out.weak, by omega, by omega⟩
    case round =>
      obtain ⟨k, d, firm, g, gen, fn, fc, flo, rfl, hfn, hk, rfl, rfl, hst, hrd, hfu, hwk, hgg, hgk⟩ := hrel
      have hk20 : k ≤ 20 := by have := hno.out.1; rw [← HLEN.out] at this; omega
      obtain ⟨d1, he1, hr1, hc1⟩ : ∃ d1, openD d = (0, d1, some ⟨g + 1, ((needsOf firm : Nat) : Int), false, firm⟩) ∧ Rdy d1 N ∧ Clean d1.img N (g + 1) firm := by
        rcases openD_any hrd hwk hN8 (by omega) (by omega) with ⟨d1, h1, h2, h3, _⟩ | ⟨h, _⟩
        · exact ⟨d1, h1, h2, h3⟩
        · exact absurd hfu h
      have HOPEN := hid (vopen_any hst 0 rfl (by rw [hrd.up.len]; omega) (by rw [hrd.lo]; simp))
      have hfnb : fn ≤ 1000 := by rw [← hfn]; exact (short_room (by omega) hwk.room).1
      have HFIT := hid (fit_room (br := false) (by omega : N ≤ 1000) (by omega : g + 1 ≤ 2147483647) hwk.room)
      have HFN := hid hfn; have HE1 := hid he1; have HR1 := hid hr1; have HC1 := hid hc1; have HRL := hid hwk.room
      clear hst hrd hfu hwk hfn he1 hr1 hc1
      obtain ⟨g1, hg1⟩ : ∃ g1, g + 1 = g1 := ⟨_, rfl⟩
      rw [hg1] at HE1 HFIT HC1
      obtain ⟨s1, hs1⟩ : ∃ s1, VS.mk g1 ((needsOf firm : Nat) : Int) false firm = s1 := ⟨_, rfl⟩
      rw [hs1] at HE1 HFIT
      have HS1 := hid hs1
      clear hs1
      unfold ptr at HOPEN
      by_cases hlt : k < len
      · obtain ⟨A, hA⟩ : ∃ A, l[k]? = some A := ⟨_, List.getElem?_eq_getElem (by rw [← HLEN.out]; exact hlt)⟩
        obtain ⟨lb, lo_, rfl, hft, hcells⟩ := HL.out.at hA
        have HA2 := hid (hno.out.2 A (List.mem_of_getElem? hA))
        have HFT := hid hft
        have HCW : Hid (∀ (w' : World), Below w.heap.size w w' → w'.cell? ⟨lb, lo_ + k * 4, none⟩ = some (.int .i64 A.kind) ∧ w'.cell? ⟨lb, lo_ + k * 4 + 1, none⟩ = some (.int .i64 A.n) ∧ w'.cell? ⟨lb, lo_ + k * 4 + 2, none⟩ = some (.slice A.lo A.L.length A.lc) ∧ w'.cell? ⟨lb, lo_ + k * 4 + 3, none⟩ = some (.slice A.ko A.keep.length A.kc)) := hid (fun w' hb => by
          have key : ∀ (j : Nat) (u : Value), A.cells[j]? = some u → w'.cell? ⟨lb, lo_ + k * 4 + j, none⟩ = some u := fun j u hu => (hb.cell (World.block_lt_of_cell? _ _ (hcells j u hu))).trans (hcells j u hu)
          exact ⟨key 0 _ rfl, key 1 _ rfl, key 2 _ rfl, key 3 _ rfl⟩)
        clear hA hft hcells
        go_wp2_with fail
        refine HOPEN.out.mono ?_
        rintro e w4 ⟨r4, rfl, h4⟩
        rw [HE1.out] at h4 ⊢
        obtain ⟨v, rfl, h4'⟩ := openedA_some h4 rfl
        have H4 : Hid (St w.heap.size w w4 [dev a d1, roA w.heap.size w (.slice flo fn fc) firm, vsA v a s1]) := hid h4'
        clear h4 h4' HOPEN
        unfold ptr
        go_wp2_with fail
        refine (H4.out.v_records 2 rfl HFIT.out).mono ?_
        rintro e w5 ⟨r5, rfl, hf5, hb5⟩
        rw [← HS1.out] at hf5
        obtain ⟨r5o, r5c, rfl, hlr5⟩ := hf5.lr
        have H5 := hid (H4.out.below hb5); have HLR5 := hid hlr5
        clear hf5 hb5 hlr5
        obtain ⟨lof, cf, hvf, hlrf⟩ := H5.out.ro_lr 1 rfl
        injection hvf with hvf1 hvf2 hvf3
        subst hvf1; subst hvf3
        have HLRF := hid hlrf
        clear hlrf hvf2
        simp only [HFN.out]
        go_wp2_with fail
        refine (sameLists_any r5o flo fn fn r5c fc firm firm HFN.out.symm HFN.out.symm (by omega) (by omega) w5 HLR5.out HLRF.out).mono ?_
        rintro e w6 ⟨rfl, hb6⟩
        rw [sameL_refl]
        have H6 := hid (H5.out.below hb6)
        clear hb6 HLR5 HLRF
        go_wp2_with fail
        refine (H6.out.v_gen 2 rfl).mono ?_
        rintro e w' ⟨rfl, hw'⟩
        subst w'
        rw [show (s1.gen : Int) = (g1 : Int) by rw [← HS1.out]]
        have qle : decide ((g1 : Int) ≤ (gen : Int)) = false := decide_eq_false (by omega)
        go_wp2_with fail
        refine (H6.out.v_gen 2 rfl).mono ?_
        rintro e w' ⟨rfl, hw'⟩
        subst w'
        rw [show (s1.gen : Int) = (g1 : Int) by rw [← HS1.out]]
        obtain ⟨c60, c61, c62, c63⟩ := HCW.out w6 H6.out.be
        have hn1 := HFT.out.n1
        obtain ⟨fu, hfu90, efu⟩ : ∃ fu : Nat, fu < 90 ∧ A.n % 90 = (fu : Int) := pick_nat A.n 90 (by omega)
        have EFU := hid efu
        clear efu c60 c62 c63
        go_wp2_with fail
        refine (pick_any A.n 90 (by omega) (by omega) hn1.1 hn1.2 w6).mono ?_
        rintro e w' ⟨rfl, hw'⟩
        subst w'
        rw [EFU.out]
        go_wp2_with fail
        refine (H6.out.dev_fuse 0 rfl (fu : Int) (by omega) (by omega)).mono ?_
        rintro e w7 ⟨rfl, h7⟩
        obtain ⟨hf7, hr7⟩ := HR1.out.fuse (k := (fu : Int)) (by omega)
        rw [hf7] at h7 ⊢
        obtain ⟨d7, hd7⟩ : ∃ d7, ({ d1 with fuse := some (fu : Int).toNat } : Dev) = d7 := ⟨_, rfl⟩
        have hc7 : Clean d7.img N g1 firm := by rw [← hd7]; exact HC1.out
        rw [hd7] at h7 hr7
        have H7 : Hid (St w.heap.size w w7 [dev a d7, roA w.heap.size w (.slice flo fn fc) firm, vsA v a s1, roA w.heap.size w (.slice none 0 0) []]) := hid (show St w.heap.size w w7 ([dev a d7, roA w.heap.size w (.slice flo fn fc) firm, vsA v a s1] ++ [_]) from St.addNil h7)
        have HR7 := hid hr7; have HC7 := hid hc7
        have HRL1 := HRL
        clear hf7 h7 hr7 hc7 hd7 c61
        have HST0 := H7
        have HSF0 : Hid (shortL firm) := hid (short_room (by omega) HRL1.out)
        go_upto_block 2 with fail
        go_cut [10, 16, 17] from 52 to 216 (fun vf vo un wx => ∃ (d : Dev) (firm other : List (List UInt8)) (fn fc on oc : Nat) (flo olo : Option Addr) (under : Bool), vf = .slice flo fn fc ∧ firm.length = fn ∧ vo = .slice olo on oc ∧ other.length = on ∧ un = .bool under ∧ St w.heap.size w wx [dev a d, roA w.heap.size w (.slice flo fn fc) firm, roA w.heap.size w (.slice olo on oc) other] ∧ shortL firm ∧ shortL other ∧ After d N g1 (g1 + 14) (either firm other under))
        case first =>
          as_aux_lemma =>
          go_wp2_with fail
          go_loopw [10, 16, 17, 18] (fun vf vo un tn wr => ∃ (t : Nat) (d : Dev) (s : VS) (firm other : List (List UInt8)) (g fn fc on oc : Nat) (flo olo : Option Addr) (under : Bool), vf = .slice flo fn fc ∧ firm.length = fn ∧ vo = .slice olo on oc ∧ other.length = on ∧ un = .bool under ∧ tn = .int .i64 t ∧ t ≤ 13 ∧ St w.heap.size w wr [dev a d, roA w.heap.size w (.slice flo fn fc) firm, vsA v a s, roA w.heap.size w (.slice olo on oc) other] ∧ shortL firm ∧ shortL other ∧ (under = false → Rdy d N ∧ Clean d.img N g firm ∧ s = ⟨g, ((needsOf firm : Nat) : Int), false, firm⟩ ∧ g1 ≤ g ∧ g ≤ g1 + t) ∧ (under = true → After d N g1 (g1 + 14) (fun X => X = firm ∨ X = other))) (fun _ _ _ tn _ => 13 - (intOf tn).toNat)
          case atStart => exact ⟨0, d7, s1, firm, [], g1, fn, fc, 0, 0, flo, none, false, rfl, HFN.out, rfl, rfl, rfl, rfl, by omega, H7.out, HSF0.out, ⟨by simp, fun _ h => by cases h⟩, fun _ => ⟨HR7.out, HC7.out, HS1.out.symm, by omega, by omega⟩, fun h => by cases h⟩
          case round =>
            clear HST0 H7
            obtain ⟨t, d, s, firm, other, g, fn, fc, on, oc, flo, olo, under, rfl, hfn, rfl, hon, rfl, rfl, ht, hst, hsf, hso, hlive, hdead⟩ := hrel
            have HST := hid hst; have HFN := hid hfn; have HON := hid hon; have HSF := hid hsf; have HSO := hid hso
            have hfnb : fn ≤ 1000 := by rw [← hfn]; exact hsf.1
            clear hst hfn hon hsf hso
            have HAFT : Hid (After d N g1 (g1 + 14) (either firm other under)) := hid (by
              rcases under with _ | _
              · obtain ⟨h1, h2, h3, h4, h5⟩ := hlive rfl
                exact After.live h1 h2.weak h4 (by omega) (.inl rfl)
              · have := hdead rfl
                exact ⟨this.ok, this.len, this.lo, fun keep t ht => by
                  obtain ⟨g, X, h1, h2, h3, h4⟩ := this.cr keep t ht
                  exact ⟨g, X, h1, h2, h3.imp id (fun h => ⟨rfl, h⟩), h4⟩⟩)
            have HM3 : Hid (St w.heap.size w wr [dev a d, roA w.heap.size w (.slice flo fn fc) firm, roA w.heap.size w (.slice olo on oc) other]) := hid (St.sel HST.out [0, 1, 3] (by decide) rfl (fun q j hj => by
              rcases q with _ | _ | _ | q
              · cases hj; exact ⟨_, rfl, rfl⟩
              · cases hj; exact ⟨_, rfl, rfl⟩
              · cases hj; exact ⟨_, rfl, rfl⟩
              · cases hj))
            rcases under with _ | _
            · by_cases ht12 : t < 12
              · obtain ⟨hrd, hcl, rfl, hgl, hgt⟩ := hlive rfl
                have HRD := hid hrd; have HCL := hid hcl
                have hroom := hcl.weak.room
                have hhalf : halfOf N ≤ 26 + 3 := by unfold halfOf; omega
                have hfn29 : fn ≤ needsOf firm := by rw [← HFN.out]; exact needs_many firm
                clear hlive hdead HAFT HM3 hrd hcl
                obtain ⟨ro, rc, hfa, hfc, hfs, hfo⟩ := HFT.out.first
                obtain ⟨rn, hrn⟩ : ∃ rn, (firstR A).length = rn := ⟨_, rfl⟩
                have hrn200 : rn ≤ 200 := by
                  rw [← hrn]
                  unfold firstR
                  rcases hLL : A.L with _ | ⟨r0, L0⟩
                  · simp
                  · exact HA2.out.1.2 r0 (by rw [hLL]; simp)
                rw [hrn] at hfc
                have HFA := hid hfa; have HFC := hid hfc; have HFS := hid hfs; have HFO := hid hfo; have HRN := hid hrn
                clear hfa hfc hfs hfo hrn
                obtain ⟨lof, cf, hvf, hlrf⟩ := HST.out.ro_lr 1 rfl
                injection hvf with hvf1 hvf2 hvf3
                subst hvf1; subst hvf3
                have HLRF := hid hlrf
                clear hlrf hvf2
                go_upto_region 25 with fail
                refine wp_region_held_drew (S := fun w' => w'.cell? ⟨lb, lo_ + k * 4, none⟩ = some (.int .i64 A.kind) ∧ w'.cell? ⟨lb, lo_ + k * 4 + 1, none⟩ = some (.int .i64 A.n) ∧ w'.cell? ⟨lb, lo_ + k * 4 + 2, none⟩ = some (.slice A.lo A.L.length A.lc) ∧ w'.cell? ⟨lb, lo_ + k * 4 + 3, none⟩ = some (.slice A.ko A.keep.length A.kc)) (by kernel_rfl) (HCW.out wr HST.out.be) (fun hS => ?_)
                refine wpAnyH_take (i := 0) (v := ?v0x1z) (by simp only [List.getElem?_toArray, List.getElem?_cons_zero]; exact rfl) (by kernel_rfl) (by kernel_rfl) (by kernel_rfl) (by exact fun _ _ _ h => h) (Or.inl ⟨by rfl, ?y0x1z⟩) hS ?r0x1z
                case y0x1z => (intro w' hSw; (try dsimp only at hSw); go_simp; (try with_reducible rfl))
                simp only [Act.put, List.setIfInBounds_toArray, List.set_cons_zero, List.set_cons_succ]
                refine wpAnyH_take (i := 2) (v := ?v2x2z) (by simp only [List.getElem?_toArray, List.getElem?_cons_zero, List.getElem?_cons_succ]; exact rfl) (by kernel_rfl) (by kernel_rfl) (by kernel_rfl) (by exact fun _ _ _ h => h) (Or.inl ⟨by rfl, ?y2x2z⟩) hS ?r2x2z
                case y2x2z => (intro w' hSw; (try dsimp only at hSw); go_simp; (try with_reducible rfl))
                simp only [Act.put, List.setIfInBounds_toArray, List.set_cons_zero, List.set_cons_succ]
                refine wpAnyH_take (i := 3) (v := ?v3x3z) (by simp only [List.getElem?_toArray, List.getElem?_cons_zero, List.getElem?_cons_succ]; exact rfl) (by kernel_rfl) (by kernel_rfl) (by kernel_rfl) (by exact fun _ _ _ h => h) (Or.inl ⟨by rfl, ?y3x3z⟩) hS ?r3x3z
                case y3x3z => (intro w' hSw; (try dsimp only at hSw); go_simp; (try with_reducible rfl))
                simp only [Act.put, List.setIfInBounds_toArray, List.set_cons_zero, List.set_cons_succ]
                refine wpAnyH_take (i := 4) (v := ?v4x4z) (by simp only [List.getElem?_toArray, List.getElem?_cons_zero, List.getElem?_cons_succ]; exact rfl) (by kernel_rfl) (by kernel_rfl) (by kernel_rfl) (by exact fun _ _ _ h => h) (Or.inl ⟨by rfl, ?y4x4z⟩) hS ?r4x4z
                case y4x4z => (intro w' hSw; (try dsimp only at hSw); go_simp; (try with_reducible rfl))
                simp only [Act.put, List.setIfInBounds_toArray, List.set_cons_zero, List.set_cons_succ]
                refine wpAnyH_take (i := 5) (v := ?v5x5z) (by simp only [List.getElem?_toArray, List.getElem?_cons_zero, List.getElem?_cons_succ]; exact rfl) (by kernel_rfl) (by kernel_rfl) (by kernel_rfl) (by exact fun _ _ _ h => h) (Or.inl ⟨by rfl, ?y5x5z⟩) hS ?r5x5z
                case y5x5z => (intro w' hSw; (try dsimp only at hSw); go_simp; (try with_reducible rfl))
                simp only [Act.put, List.setIfInBounds_toArray, List.set_cons_zero, List.set_cons_succ]
                refine wpAnyH_ready (rs := [1]) (by kernel_rfl) (by simp) ?_
                refine AllReadyH.cons (by simp only [List.getElem?_toArray, List.getElem?_cons_zero, List.getElem?_cons_succ]; exact rfl) (fun K hK => ?_) AllReadyH.nil
                go_simp
                refine (copyLists_any flo fn fc firm HFN.out.symm (by omega) (fun r hr => by have := HSF.out.2 r hr; omega) _ (HLRF.out.below (Below.refl _ _).drew)).mono ?_
                rintro e w5 ⟨v5, rfl, ⟨vs5, Fb5, ho5, hr5, hfb5, hno5⟩, hb5⟩
                have hb5 := (Below.refl wr.heap.size wr).drew.trans hb5
                rw [HFN.out] at ho5
                obtain ⟨va5, vc5, rfl⟩ := own_slice ho5
                have HB5 := hid hb5; have HO5 := hid ho5; have HR5 := hid hr5; have HFB5 := hid hfb5; have HNO5 := hid hno5
                have hS5 := HCW.out w5 (HST.out.be.trans (hb5.mono HST.out.bl))
                clear hb5 ho5 hr5 hfb5 hno5
                refine hK.out _ _ ?k1x6z (fun hS => ?s1x6z)
                case k1x6z => exact hS5
                clear hK K
                try simp only [Act.put, List.setIfInBounds_toArray, List.set_cons_zero, List.set_cons_succ]
                refine wpAnyH_ready (rs := [6]) (by kernel_rfl) (by simp) ?_
                refine AllReadyH.cons (by simp only [List.getElem?_toArray, List.getElem?_cons_zero, List.getElem?_cons_succ]; exact rfl) (fun K hK => ?_) AllReadyH.nil
                go_simp
                refine (first7_at A ro rc w5 (HFA.out.below (HST.out.be.trans (HB5.out.mono HST.out.bl)))).mono ?_
                rintro e w6 ⟨rfl, hb6⟩
                rw [HRN.out]
                have HB6 := hid hb6
                have hS6 := HCW.out w6 ((HST.out.be.trans (HB5.out.mono HST.out.bl)).trans (hb6.mono (Nat.le_trans HST.out.bl HB5.out.size)))
                clear hb6
                refine hK.out _ _ ?k6x7z (fun hS => ?s6x7z)
                case k6x7z => exact hS6
                clear hK K
                try simp only [Act.put, List.setIfInBounds_toArray, List.set_cons_zero, List.set_cons_succ]
                refine wpAnyH_ready (rs := [7]) (by kernel_rfl) (by simp) ?_
                refine AllReadyH.cons (by simp only [List.getElem?_toArray, List.getElem?_cons_zero, List.getElem?_cons_succ]; exact rfl) (fun K hK => ?_) AllReadyH.nil
                refine wpo_layV rowL 1 _ rfl [.slice ro rn rc] rfl (by omega) (by omega) (by simp [Value.cells]) (by simp [Act.eval]) ?_
                intro w7 hb7 h7
                have HB7 := hid hb7; have H7 := hid h7
                have HO7 := hid (owns_below (owns_below HO5.out HB6.out) hb7)
                have HB57 : Hid (Below w5.heap.size w5 w7) := hid (HB6.out.trans (hb7.mono HB6.out.size))
                have hS7 := HCW.out w7 ((HST.out.be.trans (HB5.out.mono HST.out.bl)).trans (HB57.out.mono (Nat.le_trans HST.out.bl HB5.out.size)))
                clear hb7 h7
                refine hK.out _ _ ?k7x8z (fun hS => ?s7x8z)
                case k7x8z => exact hS7
                clear hK K
                try simp only [Act.put, List.setIfInBounds_toArray, List.set_cons_zero, List.set_cons_succ]
                refine wpAnyH_ready (rs := [8]) (by kernel_rfl) (by simp) ?_
                refine AllReadyH.cons (by simp only [List.getElem?_toArray, List.getElem?_cons_zero, List.getElem?_cons_succ]; exact rfl) (fun K hK => ?_) AllReadyH.nil
                refine wpo_appendR rowL (.tmp 103) (.tmp 109) rfl wr.heap.size (.slice va5 fn vc5) fn vs5 rfl HO7.out w6.heap.size rfl [.slice ro rn rc] H7.out rfl (by intro u hu; simp at hu; subst hu; rfl) (by omega) (Nat.le_trans HB5.out.size HB57.out.size) ?_
                intro v8 w8 ho8 hg8 hw8
                have h8 := HST.out.addRo1 (ro := ro) (rc := rc) (r := firstR A) HB5.out (by rw [HFN.out]; exact HO5.out) HR5.out HFB5.out HNO5.out HB57.out HFS.out (by rw [HRN.out]; exact HFC.out) HFO.out (by rw [HFN.out, HRN.out]; exact ho8) hg8
                have h8 : St w.heap.size w w8 [dev a d, roA w.heap.size w (.slice flo fn fc) firm, vsA v a ⟨g, ((needsOf firm : Nat) : Int), false, firm⟩, roA w.heap.size w (.slice olo on oc) other, roA w.heap.size w v8 (firm ++ [firstR A])] := h8
                obtain ⟨m1, hm1⟩ : ∃ m1, fn + 1 = m1 := ⟨_, rfl⟩
                rw [hm1] at ho8
                obtain ⟨va8, vc8, rfl⟩ := own_slice ho8
                have H8 := hid h8; have HM1 := hid hm1
                have hS8 := HCW.out w8 h8.be
                clear ho8 hg8 hw8 h8 hm1
                refine hK.out _ _ ?k8x9z (fun hS => ?s8x9z)
                case k8x9z => exact hS8
                clear hK K
                try simp only [Act.put, List.setIfInBounds_toArray, List.set_cons_zero, List.set_cons_succ]
                refine wpAnyH_take (i := 9) (v := ?v9x10z) (by simp only [List.getElem?_toArray, List.getElem?_cons_zero, List.getElem?_cons_succ]; exact rfl) (by kernel_rfl) (by kernel_rfl) (by kernel_rfl) (by exact fun _ _ _ h => h) (Or.inl ⟨by rfl, ?y9x10z⟩) hS ?r9x10z
                case y9x10z => (intro w' hSw; (try dsimp only at hSw); go_simp; (try with_reducible rfl))
                simp only [Act.put, List.setIfInBounds_toArray, List.set_cons_zero, List.set_cons_succ]
                refine wpAnyH_done (by kernel_rfl) ?_ _
                clear hS hS5 hS6 hS7 hS8
                obtain ⟨c80, c81, c82, c83⟩ := HCW.out w8 H8.out.be
                by_cases hev : A.kind.tmod 2 = 0
                · have qev : (A.kind.tmod 2 == 0) = true := by simpa using hev
                  clear hev c81 c82 c83
                  go_upto_region 28 with fail
                  clear c80
                  have H8' := H8
                  obtain ⟨c80, c81, c82, c83⟩ := HCW.out w8 H8.out.be
                  go_wp2_with fail
                  refine (first7_at A ro rc w8 (HFA.out.below H8.out.be)).mono ?_
                  rintro e w85 ⟨rfl, hb85⟩
                  rw [HRN.out]
                  have H85 := hid (H8.out.below hb85)
                  clear hb85 c80 c81 c82 c83
                  have HAP := hid (vappend_any H85.out 0 rfl 2 v ⟨g, ((needsOf firm : Nat) : Int), false, firm⟩ rfl (by omega) ro rn rc (firstR A) HRN.out.symm HFC.out (by omega) (.inl ⟨HFS.out, HFO.out⟩) (by simp only; omega) (by simp only; omega) (by simp only; have := HSF.out.1; omega) (by rw [HRD.out.up.len]; omega) (by rw [HRD.out.lo]; simp))
                  have HQ := hid (appendV_run (r := firstR A) HRD.out HCL.out hN8 (by omega) (by omega) (by rw [HRN.out]; omega))
                  unfold ptr at HAP
                  go_wp2_with fail
                  refine HAP.out.mono ?_
                  rintro e w9 ⟨rfl, h9⟩
                  clear HAP
                  have HSN : Hid (shortL (firm ++ [firstR A])) := hid ⟨by rw [List.length_append, HFN.out]; simp; omega, fun r hr => by
                    rcases List.mem_append.1 hr with hr | hr
                    · exact HSF.out.2 r hr
                    · simp at hr; subst hr; rw [HRN.out]; omega⟩
                  rcases HQ.out with hq | ⟨d', hq, hrd', hcl'⟩ | ⟨d', s', hq, hlen', hok', hlo', hcr'⟩
                  · rw [hq] at h9 ⊢
                    have H9 : Hid (St w.heap.size w w9 [dev a d, roA w.heap.size w (.slice flo fn fc) firm, vsA v a ⟨g, ((needsOf firm : Nat) : Int), false, firm⟩, roA w.heap.size w (.slice olo on oc) other]) := hid (St.take (n := 4) h9)
                    have HQ1 := HFN; have HQ2 := HON
                    clear h9 hq
                    go_wp2_with fail
                    go_roundw
                    case rel => first | exact ⟨13, d, ⟨g, ((needsOf firm : Nat) : Int), false, firm⟩, firm, other, g, fn, fc, on, oc, flo, olo, false, rfl, HQ1.out, rfl, HQ2.out, rfl, by go_num, by omega, H9.out, HSF.out, HSO.out, (fun _ => ⟨HRD.out, HCL.out, rfl, hgl, by omega⟩), (fun h => by cases h)⟩ | ((repeat apply Exists.intro); exact ⟨⟨13, d, ⟨g, ((needsOf firm : Nat) : Int), false, firm⟩, firm, other, g, fn, fc, on, oc, flo, olo, false, rfl, HQ1.out, rfl, HQ2.out, rfl, by go_num, by omega, H9.out, HSF.out, HSO.out, (fun _ => ⟨HRD.out, HCL.out, rfl, hgl, by omega⟩), (fun h => by cases h)⟩, rfl⟩)
                    case measure => simp [intOf]; omega
                  · rw [hq] at h9 ⊢
                    have H9 : Hid (St w.heap.size w w9 [dev a d', roA w.heap.size w (.slice va8 m1 vc8) (firm ++ [firstR A]), vsA v a ⟨g, ((needsOf (firm ++ [firstR A]) : Nat) : Int), false, firm ++ [firstR A]⟩, roA w.heap.size w (.slice olo on oc) other]) := hid (St.sel h9 [0, 4, 2, 3] (by decide) rfl (fun q j hj => by
                      rcases q with _ | _ | _ | _ | q
                      · cases hj; exact ⟨_, rfl, rfl⟩
                      · cases hj; exact ⟨_, rfl, rfl⟩
                      · cases hj; exact ⟨_, rfl, rfl⟩
                      · cases hj; exact ⟨_, rfl, rfl⟩
                      · cases hj))
                    have HQ1 : Hid ((firm ++ [firstR A]).length = m1) := hid (by rw [List.length_append, HFN.out]; exact HM1.out)
                    have HQ2 := HON
                    have HRD' := hid hrd'; have HCL' := hid hcl'
                    clear h9 hq hrd' hcl'
                    go_wp2_with fail
                    go_roundw
                    case rel => first | exact ⟨t + 1, d', ⟨g, ((needsOf (firm ++ [firstR A]) : Nat) : Int), false, firm ++ [firstR A]⟩, firm ++ [firstR A], other, g, m1, vc8, on, oc, va8, olo, false, rfl, HQ1.out, rfl, HQ2.out, rfl, by go_num, by omega, H9.out, HSN.out, HSO.out, (fun _ => ⟨HRD'.out, HCL'.out, rfl, by omega, by omega⟩), (fun h => by cases h)⟩ | ((repeat apply Exists.intro); exact ⟨⟨t + 1, d', ⟨g, ((needsOf (firm ++ [firstR A]) : Nat) : Int), false, firm ++ [firstR A]⟩, firm ++ [firstR A], other, g, m1, vc8, on, oc, va8, olo, false, rfl, HQ1.out, rfl, HQ2.out, rfl, by go_num, by omega, H9.out, HSN.out, HSO.out, (fun _ => ⟨HRD'.out, HCL'.out, rfl, by omega, by omega⟩), (fun h => by cases h)⟩, rfl⟩)
                    case measure => simp [intOf]; omega
                  · rw [hq] at h9 ⊢
                    have H9 : Hid (St w.heap.size w w9 [dev a d', roA w.heap.size w (.slice flo fn fc) firm, vsA v a s', roA w.heap.size w (.slice va8 m1 vc8) (firm ++ [firstR A])]) := hid (St.sel h9 [0, 1, 2, 4] (by decide) rfl (fun q j hj => by
                      rcases q with _ | _ | _ | _ | q
                      · cases hj; exact ⟨_, rfl, rfl⟩
                      · cases hj; exact ⟨_, rfl, rfl⟩
                      · cases hj; exact ⟨_, rfl, rfl⟩
                      · cases hj; exact ⟨_, rfl, rfl⟩
                      · cases hj))
                    have HQ1 := HFN
                    have HQ2 : Hid ((firm ++ [firstR A]).length = m1) := hid (by rw [List.length_append, HFN.out]; exact HM1.out)
                    have HAF : Hid (After d' N g1 (g1 + 14) (fun X => X = firm ∨ X = firm ++ [firstR A])) := hid ⟨hok', hlen', hlo', fun keep t ht => by
                      rcases hcr' keep t ht with hh | hh
                      · exact ⟨g, firm, by omega, by omega, .inl rfl, hh⟩
                      · exact ⟨g, firm ++ [firstR A], by omega, by omega, .inr rfl, hh⟩⟩
                    clear h9 hq hlen' hok' hlo' hcr'
                    go_wp2_with fail
                    go_roundw
                    case rel => first | exact ⟨t + 1, d', s', firm, firm ++ [firstR A], g, fn, fc, m1, vc8, flo, va8, true, rfl, HQ1.out, rfl, HQ2.out, rfl, by go_num, by omega, H9.out, HSF.out, HSN.out, (fun h => by cases h), (fun _ => HAF.out)⟩ | ((repeat apply Exists.intro); exact ⟨⟨t + 1, d', s', firm, firm ++ [firstR A], g, fn, fc, m1, vc8, flo, va8, true, rfl, HQ1.out, rfl, HQ2.out, rfl, by go_num, by omega, H9.out, HSF.out, HSN.out, (fun h => by cases h), (fun _ => HAF.out)⟩, rfl⟩)
                    case measure => simp [intOf]; omega
                · have qev : (A.kind.tmod 2 == 0) = false := by rw [beq_eq_false_iff_ne]; exact hev
                  clear hev c81 c82 c83
                  go_upto_region 29 with fail
                  clear c80
                  obtain ⟨c80, c81, c82, c83⟩ := HCW.out w8 H8.out.be
                  have HCPL := hid (copyLists_any A.lo A.L.length A.lc A.L rfl (by have := HA2.out.1.1; omega) (fun r hr => by have := HA2.out.1.2 r hr; omega) w8 (HFT.out.lr.below H8.out.be))
                  clear c80 c81 c83
                  go_wp2_with fail
                  refine HCPL.out.mono ?_
                  rintro e w83 ⟨v83, rfl, hf83, hb83⟩
                  have h83 := (H8.out.take 4).addRo hb83 hf83
                  obtain ⟨na, hna⟩ : ∃ na, A.L.length = na := ⟨_, rfl⟩
                  obtain ⟨va83, vc83, hv83, _⟩ := listA_lst hf83.listA
                  rw [hna] at hv83
                  subst hv83
                  have H83 : Hid (St w.heap.size w w83 [dev a d, roA w.heap.size w (.slice flo fn fc) firm, vsA v a ⟨g, ((needsOf firm : Nat) : Int), false, firm⟩, roA w.heap.size w (.slice olo on oc) other, roA w.heap.size w (.slice va83 na vc83) A.L]) := hid h83
                  have HNA := hid hna
                  obtain ⟨c80, c81, c82, c83⟩ := HCW.out w83 H83.out.be
                  rw [hna] at c82
                  have HRP := hid (vreplace_any H83.out 0 rfl 2 v ⟨g, ((needsOf firm : Nat) : Int), false, firm⟩ rfl (by omega) A.lo na A.lc A.L (.inl HFT.out.lr.lrf) hna.symm (by have := HA2.out.1.1; omega) (by simp only; omega) (fun r hr => by have := HA2.out.1.2 r hr; omega) (by rw [HRD.out.up.len]; omega) (by rw [HRD.out.lo]; simp))
                  have HQ := hid (replaceV_run (L' := A.L) HRD.out HCL.out hN8 (by omega) (by omega) (fun r hr => by have := HA2.out.1.2 r hr; omega))
                  have HSN : Hid (shortL A.L) := hid ⟨by have := HA2.out.1.1; omega, fun r hr => by have := HA2.out.1.2 r hr; omega⟩
                  unfold ptr at HRP
                  clear c80 c81 c83 hf83 hb83 h83 hna HCPL
                  go_wp2_with fail
                  refine HRP.out.mono ?_
                  rintro e w9 ⟨rfl, h9⟩
                  clear HRP
                  rcases HQ.out with hq | ⟨d', hq, hrd', hcl'⟩ | ⟨d', s', hq, hlen', hok', hlo', hcr'⟩
                  · rw [hq] at h9 ⊢
                    have H9 : Hid (St w.heap.size w w9 [dev a d, roA w.heap.size w (.slice flo fn fc) firm, vsA v a ⟨g, ((needsOf firm : Nat) : Int), false, firm⟩, roA w.heap.size w (.slice olo on oc) other]) := hid (St.take (n := 4) h9)
                    have HQ1 := HFN; have HQ2 := HON
                    clear h9 hq
                    go_wp2_with fail
                    go_roundw
                    case rel => first | exact ⟨13, d, ⟨g, ((needsOf firm : Nat) : Int), false, firm⟩, firm, other, g, fn, fc, on, oc, flo, olo, false, rfl, HQ1.out, rfl, HQ2.out, rfl, by go_num, by omega, H9.out, HSF.out, HSO.out, (fun _ => ⟨HRD.out, HCL.out, rfl, hgl, by omega⟩), (fun h => by cases h)⟩ | ((repeat apply Exists.intro); exact ⟨⟨13, d, ⟨g, ((needsOf firm : Nat) : Int), false, firm⟩, firm, other, g, fn, fc, on, oc, flo, olo, false, rfl, HQ1.out, rfl, HQ2.out, rfl, by go_num, by omega, H9.out, HSF.out, HSO.out, (fun _ => ⟨HRD.out, HCL.out, rfl, hgl, by omega⟩), (fun h => by cases h)⟩, rfl⟩)
                    case measure => simp [intOf]; omega
                  · rw [hq] at h9 ⊢
                    have H9 : Hid (St w.heap.size w w9 [dev a d', roA w.heap.size w (.slice va83 na vc83) (A.L), vsA v a ⟨g + 1, ((needsOf (A.L) : Nat) : Int), false, A.L⟩, roA w.heap.size w (.slice olo on oc) other]) := hid (St.sel h9 [0, 4, 2, 3] (by decide) rfl (fun q j hj => by
                      rcases q with _ | _ | _ | _ | q
                      · cases hj; exact ⟨_, rfl, rfl⟩
                      · cases hj; exact ⟨_, rfl, rfl⟩
                      · cases hj; exact ⟨_, rfl, rfl⟩
                      · cases hj; exact ⟨_, rfl, rfl⟩
                      · cases hj))
                    have HQ1 : Hid ((A.L).length = na) := hid HNA.out
                    have HQ2 := HON
                    have HRD' := hid hrd'; have HCL' := hid hcl'
                    clear h9 hq hrd' hcl'
                    go_wp2_with fail
                    go_roundw
                    case rel => first | exact ⟨t + 1, d', ⟨g + 1, ((needsOf (A.L) : Nat) : Int), false, A.L⟩, A.L, other, g + 1, na, vc83, on, oc, va83, olo, false, rfl, HQ1.out, rfl, HQ2.out, rfl, by go_num, by omega, H9.out, HSN.out, HSO.out, (fun _ => ⟨HRD'.out, HCL'.out, rfl, by omega, by omega⟩), (fun h => by cases h)⟩ | ((repeat apply Exists.intro); exact ⟨⟨t + 1, d', ⟨g + 1, ((needsOf (A.L) : Nat) : Int), false, A.L⟩, A.L, other, g + 1, na, vc83, on, oc, va83, olo, false, rfl, HQ1.out, rfl, HQ2.out, rfl, by go_num, by omega, H9.out, HSN.out, HSO.out, (fun _ => ⟨HRD'.out, HCL'.out, rfl, by omega, by omega⟩), (fun h => by cases h)⟩, rfl⟩)
                    case measure => simp [intOf]; omega
                  · rw [hq] at h9 ⊢
                    have H9 : Hid (St w.heap.size w w9 [dev a d', roA w.heap.size w (.slice flo fn fc) firm, vsA v a s', roA w.heap.size w (.slice va83 na vc83) (A.L)]) := hid (St.sel h9 [0, 1, 2, 4] (by decide) rfl (fun q j hj => by
                      rcases q with _ | _ | _ | _ | q
                      · cases hj; exact ⟨_, rfl, rfl⟩
                      · cases hj; exact ⟨_, rfl, rfl⟩
                      · cases hj; exact ⟨_, rfl, rfl⟩
                      · cases hj; exact ⟨_, rfl, rfl⟩
                      · cases hj))
                    have HQ1 := HFN
                    have HQ2 : Hid ((A.L).length = na) := hid HNA.out
                    have HAF : Hid (After d' N g1 (g1 + 14) (fun X => X = firm ∨ X = A.L)) := hid ⟨hok', hlen', hlo', fun keep t ht => by
                      rcases hcr' keep t ht with hh | hh
                      · exact ⟨g, firm, by omega, by omega, .inl rfl, hh⟩
                      · exact ⟨g + 1, A.L, by omega, by omega, .inr rfl, hh.weak⟩⟩
                    clear h9 hq hlen' hok' hlo' hcr'
                    go_wp2_with fail
                    go_roundw
                    case rel => first | exact ⟨t + 1, d', s', firm, A.L, g, fn, fc, na, vc83, flo, va83, true, rfl, HQ1.out, rfl, HQ2.out, rfl, by go_num, by omega, H9.out, HSF.out, HSN.out, (fun h => by cases h), (fun _ => HAF.out)⟩ | ((repeat apply Exists.intro); exact ⟨⟨t + 1, d', s', firm, A.L, g, fn, fc, na, vc83, flo, va83, true, rfl, HQ1.out, rfl, HQ2.out, rfl, by go_num, by omega, H9.out, HSF.out, HSN.out, (fun h => by cases h), (fun _ => HAF.out)⟩, rfl⟩)
                    case measure => simp [intOf]; omega
              · go_wp2
                go_meet
                exact ⟨d, firm, other, fn, fc, on, oc, flo, olo, false, rfl, HFN.out, rfl, HON.out, rfl, HM3.out, HSF.out, HSO.out, HAFT.out⟩
            · by_cases ht12 : t < 12
              · go_wp2
                go_meet
                exact ⟨d, firm, other, fn, fc, on, oc, flo, olo, true, rfl, HFN.out, rfl, HON.out, rfl, HM3.out, HSF.out, HSO.out, HAFT.out⟩
              · go_wp2
                go_meet
                exact ⟨d, firm, other, fn, fc, on, oc, flo, olo, true, rfl, HFN.out, rfl, HON.out, rfl, HM3.out, HSF.out, HSO.out, HAFT.out⟩
        case rest =>
          as_aux_lemma =>
          obtain ⟨d, firm, other, fn, fc, on, oc, flo, olo, under, rfl, hfn, rfl, hon, rfl, hst, hsf, hso, haf⟩ := hcut
          have HST := hid hst; have HFN := hid hfn; have HON := hid hon; have HSF := hid hsf; have HSO := hid hso
          have hlo5 := haf.lo
          obtain ⟨hcr1, hrd2, hfu2, g2, X, hgl, hgh, hX, hw2⟩ := haf.crash A.keep hT (by omega)
          have HX : Hid (X = firm ∨ under = true ∧ X = other) := hid hX
          have HSX : Hid (shortL X) := hid (by rcases hX with h | ⟨_, h⟩ <;> rw [h] <;> assumption)
          have HCRASH := hid (hst.dev_crash 0 rfl A.ko A.keep.length A.kc A.keep rfl (T : Int) (HFT.out.bl.below hst.be) (fun hne => .inl fun y hy => bl_lt7 HFT.out.bl hne y hy) (by have := HA2.out.2; omega) (by omega))
          rw [hcr1] at HCRASH
          obtain ⟨d2, hd2⟩ : ∃ d2, (d.crash A.keep (T : Int)).2 = d2 := ⟨_, rfl⟩
          rw [hd2] at HCRASH hrd2 hfu2 hw2
          have HRD2 := hid hrd2; have HW2 := hid hw2
          obtain ⟨c0, c1, c2, c3⟩ := HCW.out wc hst.be
          clear HST0 H7 hst hfn hon hsf hso haf hcr1 hrd2 hfu2 hX hw2 hd2 hlo5 c0 c1 c2
          obtain ⟨f2, hf2⟩ : ∃ f2, fu / 2 = f2 := ⟨_, rfl⟩
          have hf2b : f2 ≤ 90 := by omega
          have qd : (fu : Int).tdiv 2 = (f2 : Int) := by rw [Int.tdiv_eq_ediv_of_nonneg (by omega)]; omega
          have qw : IntKind.i64.wrap (f2 : Int) = (f2 : Int) := IntWalk.i64_in _ (by omega)
          clear hf2
          unfold ptr at HCRASH
          go_wp2_with fail
          refine HCRASH.out.mono ?_
          rintro e w2' ⟨rfl, h2'⟩
          have HH2 : Hid (St w.heap.size w w2' [dev a d2, roA w.heap.size w (.slice flo fn fc) firm, roA w.heap.size w (.slice olo on oc) other]) := hid h2'
          clear h2' HCRASH
          go_wp2_with fail
          refine (HH2.out.dev_fuse 0 rfl (f2 : Int) (by omega) (by omega)).mono ?_
          rintro e w3' ⟨rfl, h3'⟩
          obtain ⟨hf3, hr3⟩ := HRD2.out.fuse (k := (f2 : Int)) (by omega)
          rw [hf3] at h3' ⊢
          obtain ⟨d3, hd3⟩ : ∃ d3, ({ d2 with fuse := some (f2 : Int).toNat } : Dev) = d3 := ⟨_, rfl⟩
          have hw3 : Weak d3.img N g2 X := by rw [← hd3]; exact HW2.out
          rw [hd3] at h3' hr3
          have HH3 : Hid (St w.heap.size w w3' [dev a d3, roA w.heap.size w (.slice flo fn fc) firm, roA w.heap.size w (.slice olo on oc) other]) := hid h3'
          have HQ := hid (openD_any hr3 hw3 hN8 (by omega) (by omega))
          have HFITX := hid (fun g' (hg' : g' ≤ 1000) => fit_room (g := g') (br := false) (by omega : N ≤ 1000) (by omega : g' ≤ 2147483647) hw3.room)
          have HOP := hid (vopen_any h3' 0 rfl (by rw [hr3.up.len]; omega) (by rw [hr3.lo]; simp))
          clear hf3 hr3 h3' hd3 hw3
          unfold ptr at HOP
          go_wp2_with fail
          refine HOP.out.mono ?_
          rintro e w4 ⟨r4, rfl, h4⟩
          clear HOP
          rcases HQ.out with ⟨d4, hq, hr4, hc4, _⟩ | ⟨_, d4, hq, hl4, hok4, hlo4, hcr4⟩
          · rw [hq] at h4 ⊢
            obtain ⟨u, rfl, h4'⟩ := openedA_some h4 rfl
            obtain ⟨s4, hs4⟩ : ∃ s4, VS.mk (g2 + 1) ((needsOf X : Nat) : Int) false X = s4 := ⟨_, rfl⟩
            rw [hs4] at h4'
            have HS4 := hid hs4
            have HFIT4 : Hid (fitV s4) := hid (by rw [← hs4]; exact HFITX.out (g2 + 1) (by omega))
            have HO4 : Hid (St w.heap.size w w4 [dev a d4, roA w.heap.size w (.slice flo fn fc) firm, roA w.heap.size w (.slice olo on oc) other, vsA u a s4]) := hid h4'
            obtain ⟨hcr5, hrd5, hfu5, g5, X5, hg51, hg52, hX5, hw5⟩ := (After.live (P := fun Y => Y = X) hr4 hc4.weak (Nat.le_refl _) (Nat.le_refl _) rfl).crash [] (t := 0) (by omega) (by omega)
            rw [hX5] at hw5
            have HR4 := hid hr4; have HCR5 := hid hcr5; have HRD5 := hid hrd5; have HFU5 := hid hfu5; have HW5 := hid hw5
            clear h4 h4' hq hs4 hr4 hc4 hcr5 hrd5 hfu5 hX5 hw5
            unfold ptr
            go_wp2_with fail
            refine (HO4.out.v_records 3 rfl HFIT4.out).mono ?_
            rintro e w5 ⟨r5, rfl, hf5, hb5⟩
            rw [← HS4.out] at hf5
            obtain ⟨r5o, r5c, rfl, hlr5⟩ := hf5.lr
            have H5 := hid (HO4.out.below hb5)
            obtain ⟨xn, hxn⟩ : ∃ xn, X.length = xn := ⟨_, rfl⟩
            simp only at hlr5 ⊢
            rw [hxn]
            have HXN := hid hxn; have HLR5 := hid hlr5
            have hxb : xn ≤ 1000 := by rw [← hxn]; exact HSX.out.1
            clear hf5 hb5 hxn hlr5
            obtain ⟨lof, cf, hvf, hlrf⟩ := H5.out.ro_lr 1 rfl
            injection hvf with hvf1 hvf2 hvf3
            subst hvf1; subst hvf3
            obtain ⟨loo, co, hvo, hlro⟩ := H5.out.ro_lr 2 rfl
            injection hvo with hvo1 hvo2 hvo3
            subst hvo1; subst hvo3
            have HLRF := hid hlrf; have HLRO := hid hlro
            clear hlrf hlro hvf2 hvo2
            go_wp2_with fail
            refine (kept7_any r5o flo olo xn r5c fn fc on oc X firm other under HXN.out.symm HFN.out.symm HON.out.symm (by omega) (by have := HSF.out.1; rw [HFN.out] at this; omega) (by have := HSO.out.1; rw [HON.out] at this; omega) (fun r hr => by have := HSX.out.2 r hr; omega) w5 HLR5.out HLRF.out HLRO.out HX.out).mono ?_
            rintro e w6 ⟨g6, c6, rfl, hf6, hb6⟩
            have h6 := H5.out.addRo hb6 hf6
            have H6 : Hid (St w.heap.size w w6 [dev a d4, roA w.heap.size w (.slice (some ⟨g6, 0, none⟩) xn c6) X]) := hid (St.sel h6 [0, 4] (by decide) rfl (fun q j hj => by
              rcases q with _ | _ | q
              · cases hj; exact ⟨_, rfl, rfl⟩
              · cases hj; exact ⟨_, rfl, rfl⟩
              · cases hj))
            clear hf6 hb6 h6 HLR5 HLRF HLRO
            have e79 := fun w a n c => Lib.run_eql_slice_nil (P := Try.prog) w 79 22 a n c 0 0 Try.underlying79
            go_wp2_with fail
            refine (H6.out.dev_crash 0 rfl none 0 0 [] rfl ((0 : Nat) : Int) (.inl rfl) (fun hne => absurd rfl hne) (by omega) (by rw [HR4.out.lo]; simp)).mono ?_
            rintro e w7' ⟨rfl, h7'⟩
            rw [HCR5.out]
            have H7' : Hid (St w.heap.size w w7' [dev a (d4.crash [] ((0 : Nat) : Int)).2, roA w.heap.size w (.slice (some ⟨g6, 0, none⟩) xn c6) X]) := hid h7'
            clear h7' e79
            go_wp2_with fail
            go_roundw
            case rel => first | exact ⟨k + 1, (d4.crash [] ((0 : Nat) : Int)).2, X, g5, g1, xn, c6, some ⟨g6, 0, none⟩, rfl, HXN.out, by omega, by go_num, rfl, H7'.out, HRD5.out, HFU5.out, HW5.out, by omega, by omega⟩ | ((repeat apply Exists.intro); exact ⟨⟨k + 1, (d4.crash [] ((0 : Nat) : Int)).2, X, g5, g1, xn, c6, some ⟨g6, 0, none⟩, rfl, HXN.out, by omega, by go_num, rfl, H7'.out, HRD5.out, HFU5.out, HW5.out, by omega, by omega⟩, rfl⟩)
            case measure => simp [intOf]; omega
          · rw [hq] at h4 ⊢
            obtain ⟨rfl, h4'⟩ := openedA_none h4 rfl
            have HO4 : Hid (St w.heap.size w w4 [dev a d4, roA w.heap.size w (.slice flo fn fc) firm, roA w.heap.size w (.slice olo on oc) other]) := hid h4'
            have haf4 : After d4 N g2 (g2 + 1) (fun Y => Y = X) := ⟨hok4, hl4, hlo4, fun keep t ht => by
              rcases hcr4 keep t ht with h | h
              · exact ⟨g2, X, Nat.le_refl _, by omega, rfl, h⟩
              · exact ⟨g2 + 1, X, by omega, Nat.le_refl _, rfl, h.weak⟩⟩
            obtain ⟨hcr5, hrd5, hfu5, g5, X5, hg51, hg52, hX5, hw5⟩ := haf4.crash A.keep hT (by omega)
            rw [hX5] at hw5
            have HCRASH := hid (HO4.out.dev_crash 0 rfl A.ko A.keep.length A.kc A.keep rfl (T : Int) (HFT.out.bl.below HO4.out.be) (fun hne => .inl fun y hy => bl_lt7 HFT.out.bl hne y hy) (by have := HA2.out.2; omega) (by omega))
            rw [hcr5] at HCRASH
            obtain ⟨d5, hd5⟩ : ∃ d5, (d4.crash A.keep (T : Int)).2 = d5 := ⟨_, rfl⟩
            rw [hd5] at HCRASH hrd5 hfu5 hw5
            obtain ⟨d6, hq6, hr6, hc6, hfu6⟩ : ∃ d6, openD d5 = (0, d6, some ⟨g5 + 1, ((needsOf X : Nat) : Int), false, X⟩) ∧ Rdy d6 N ∧ Clean d6.img N (g5 + 1) X ∧ d6.fuse = none := by
              rcases openD_any hrd5 hw5 hN8 (by omega) (by omega) with ⟨d6, h1, h2, h3, h4⟩ | ⟨h, _⟩
              · exact ⟨d6, h1, h2, h3, h4 hfu5⟩
              · exact absurd hfu5 h
            have HRD5 := hid hrd5; have HQ6 := hid hq6; have HR6 := hid hr6; have HC6 := hid hc6; have HFU6 := hid hfu6
            obtain ⟨c40, c41, c42, c43⟩ := HCW.out w4 HO4.out.be
            clear h4 h4' hq haf4 hcr5 hrd5 hfu5 hX5 hw5 hd5 hq6 hr6 hc6 hfu6 hok4 hl4 hlo4 hcr4 c40 c41 c42 c3
            unfold ptr at HCRASH
            go_wp2_with fail
            refine HCRASH.out.mono ?_
            rintro e w45 ⟨rfl, h45⟩
            have H45 : Hid (St w.heap.size w w45 [dev a d5, roA w.heap.size w (.slice flo fn fc) firm, roA w.heap.size w (.slice olo on oc) other]) := hid h45
            have HOP := hid (vopen_any h45 0 rfl (by rw [HRD5.out.up.len]; omega) (by rw [HRD5.out.lo]; simp))
            clear h45 HCRASH c43
            unfold ptr at HOP
            go_wp2_with fail
            refine HOP.out.mono ?_
            rintro e w46 ⟨r46, rfl, h46⟩
            clear HOP
            rw [HQ6.out] at h46 ⊢
            obtain ⟨u, rfl, h46'⟩ := openedA_some h46 rfl
            obtain ⟨s4, hs4⟩ : ∃ s4, VS.mk (g5 + 1) ((needsOf X : Nat) : Int) false X = s4 := ⟨_, rfl⟩
            rw [hs4] at h46'
            have HS4 := hid hs4
            have HFIT4 : Hid (fitV s4) := hid (by rw [← hs4]; exact HFITX.out (g5 + 1) (by omega))
            have HO4 : Hid (St w.heap.size w w46 [dev a d6, roA w.heap.size w (.slice flo fn fc) firm, roA w.heap.size w (.slice olo on oc) other, vsA u a s4]) := hid h46'
            clear h46 h46' hs4
            unfold ptr
            go_wp2_with fail
            refine (HO4.out.v_records 3 rfl HFIT4.out).mono ?_
            rintro e w5 ⟨r5, rfl, hf5, hb5⟩
            rw [← HS4.out] at hf5
            obtain ⟨r5o, r5c, rfl, hlr5⟩ := hf5.lr
            have H5 := hid (HO4.out.below hb5)
            obtain ⟨xn, hxn⟩ : ∃ xn, X.length = xn := ⟨_, rfl⟩
            simp only at hlr5 ⊢
            rw [hxn]
            have HXN := hid hxn; have HLR5 := hid hlr5
            have hxb : xn ≤ 1000 := by rw [← hxn]; exact HSX.out.1
            clear hf5 hb5 hxn hlr5
            obtain ⟨lof, cf, hvf, hlrf⟩ := H5.out.ro_lr 1 rfl
            injection hvf with hvf1 hvf2 hvf3
            subst hvf1; subst hvf3
            obtain ⟨loo, co, hvo, hlro⟩ := H5.out.ro_lr 2 rfl
            injection hvo with hvo1 hvo2 hvo3
            subst hvo1; subst hvo3
            have HLRF := hid hlrf; have HLRO := hid hlro
            clear hlrf hlro hvf2 hvo2
            go_wp2_with fail
            refine (kept7_any r5o flo olo xn r5c fn fc on oc X firm other under HXN.out.symm HFN.out.symm HON.out.symm (by omega) (by have := HSF.out.1; rw [HFN.out] at this; omega) (by have := HSO.out.1; rw [HON.out] at this; omega) (fun r hr => by have := HSX.out.2 r hr; omega) w5 HLR5.out HLRF.out HLRO.out HX.out).mono ?_
            rintro e w6 ⟨g6, c6, rfl, hf6, hb6⟩
            have h6 := H5.out.addRo hb6 hf6
            have H6 : Hid (St w.heap.size w w6 [dev a d6, roA w.heap.size w (.slice (some ⟨g6, 0, none⟩) xn c6) X]) := hid (St.sel h6 [0, 4] (by decide) rfl (fun q j hj => by
              rcases q with _ | _ | q
              · cases hj; exact ⟨_, rfl, rfl⟩
              · cases hj; exact ⟨_, rfl, rfl⟩
              · cases hj))
            clear hf6 hb6 h6 HLR5 HLRF HLRO
            have e79 := fun w a n c => Lib.run_eql_slice_nil (P := Try.prog) w 79 22 a n c 0 0 Try.underlying79
            go_wp2_with fail
            clear e79
            go_roundw
            case rel => first | exact ⟨k + 1, d6, X, (g5 + 1), g1, xn, c6, some ⟨g6, 0, none⟩, rfl, HXN.out, by omega, by go_num, rfl, H6.out, HR6.out, HFU6.out, HC6.out.weak, by omega, by omega⟩ | ((repeat apply Exists.intro); exact ⟨⟨k + 1, d6, X, (g5 + 1), g1, xn, c6, some ⟨g6, 0, none⟩, rfl, HXN.out, by omega, by go_num, rfl, H6.out, HR6.out, HFU6.out, HC6.out.weak, by omega, by omega⟩, rfl⟩)
            case measure => simp [intOf]; omega
      · obtain rfl : k = len := by omega
        go_wp2_with fail
        refine HOPEN.out.mono ?_
        rintro e w4 ⟨r4, rfl, h4⟩
        rw [HE1.out] at h4 ⊢
        obtain ⟨v, rfl, h4'⟩ := openedA_some h4 rfl
        have H4 : Hid (St w.heap.size w w4 [dev a d1, roA w.heap.size w (.slice flo fn fc) firm, vsA v a s1]) := hid h4'
        clear h4 h4' HOPEN
        unfold ptr
        go_wp2_with fail
        refine (H4.out.v_records 2 rfl HFIT.out).mono ?_
        rintro e w5 ⟨r5, rfl, hf5, hb5⟩
        rw [← HS1.out] at hf5
        obtain ⟨r5o, r5c, rfl, hlr5⟩ := hf5.lr
        have H5 := hid (H4.out.below hb5); have HLR5 := hid hlr5
        clear hf5 hb5 hlr5
        obtain ⟨lof, cf, hvf, hlrf⟩ := H5.out.ro_lr 1 rfl
        injection hvf with hvf1 hvf2 hvf3
        subst hvf1; subst hvf3
        have HLRF := hid hlrf
        clear hlrf hvf2
        simp only [HFN.out]
        go_wp2_with fail
        refine (sameLists_any r5o flo fn fn r5c fc firm firm HFN.out.symm HFN.out.symm (by omega) (by omega) w5 HLR5.out HLRF.out).mono ?_
        rintro e w6 ⟨rfl, hb6⟩
        rw [sameL_refl]
        have H6 := hid (H5.out.below hb6)
        clear hb6 HLR5 HLRF
        go_wp2
        go_ret
        exact ⟨rfl, H6.out.be⟩
  · clear hlong
    go_wp2
    go_ret
    exact ⟨rfl, HB1.out⟩
end Go.Proofs.Ytlondopgibcikaa
