/- LogBack: the walk. -/
import Derived.Test.YtlondopgibcikaaRows
import Derived.Test.YtlondopgibcikaaHeap
import Derived.Test.YtlondopgibcikaaKit
import Derived.Test.YtlondopgibcikaaCrcV
import Derived.Test.YtlondopgibcikaaCrcPartsW
import Derived.Test.YtlondopgibcikaaDev
import Derived.Test.YtlondopgibcikaaDevW
import Derived.Test.YtlondopgibcikaaDevV
import Derived.Test.YtlondopgibcikaaDevU
import Derived.Test.YtlondopgibcikaaDevT
import Derived.Test.YtlondopgibcikaaDevC
import Derived.Test.YtlondopgibcikaaLaw05
import Derived.Test.YtlondopgibcikaaLL
import Derived.Test.YtlondopgibcikaaSt
import Derived.Test.YtlondopgibcikaaSt2
import Derived.Test.YtlondopgibcikaaLogP
import Derived.Test.YtlondopgibcikaaLogW
import Derived.Test.YtlondopgibcikaaLogX
import Derived.Test.YtlondopgibcikaaLogY
import Derived.Test.YtlondopgibcikaaLogZ
import Derived.Test.YtlondopgibcikaaLogB
import Derived.Test.YtlondopgibcikaaLogS
import Derived.Test.YtlondopgibcikaaLogS2
import Derived.Test.YtlondopgibcikaaLogT
import Derived.Test.YtlondopgibcikaaLogT2
import Derived.Test.YtlondopgibcikaaLaw06
import Derived.Test.YtlondopgibcikaaLaw06b
import Derived.Test.YtlondopgibcikaaLaw06c
import Derived.Test.YtlondopgibcikaaLogQ
import Derived.Test.YtlondopgibcikaaLogR
import Derived.Test.YtlondopgibcikaaLogD
import Derived.Test.YtlondopgibcikaaLogE
import Derived.Test.YtlondopgibcikaaRoom
import Derived.Test.YtlondopgibcikaaSt3
import Derived.Test.YtlondopgibcikaaLongL
import Derived.WalkKit
import Derived.WalkSpells
import Derived.WalkLawsBesides
import Derived.Deep.RegionHeld3
import Derived.Deep.QuietTactic
import Derived.BigQuiet
namespace Go.Proofs.Ytlondopgibcikaa
open Go.RowKit Ent

theorem room_at {B : Nat} {w0 : World} {As : List Asset} (at_ sectors gen T : Nat) (hT : at_ + sectors = T) (h1 : T + 1 ≤ 65536) (h2 : 1 ≤ gen) (h3 : gen ≤ 2147483647) (w : World) (h : St B w0 w As) :
    Calls Try.prog 73 #[.int .i64 at_, .int .i64 sectors, .int .i64 gen] w fun e w' => ∃ a, e = .returned (.tuple #[ptr a, .agg #[.int .i64 at_, .int .i64 T, .int .i64 gen]]) ∧ St B w0 w' (As ++ [noA, noA, dev a (Dev.new (T + 1))]) := by
  subst hT
  exact room_any at_ sectors gen h1 h2 h3 w h
theorem wpo_allocA {o : Oper} {a : Act} {w : World} {K : Act → World → Prop} {Q : Exit → Act → World → Prop} (ho : o.op = .alloc 76)
    (h : ∀ g w', g = w.heap.size → Below w.heap.size w w' → Blk w' g 76 [.int .i64 0, .int .i64 0, .int .i64 0] → K (a.put o.dst (.pointer (some ⟨g, 0, none⟩))) w') : o.wp Try.prog a w K Q := by
  have hz : (zeroValue 76).run Try.prog w = .ok (.agg #[.int .i64 0, .int .i64 0, .int .i64 0]) w := by kernel_rfl
  unfold Oper.wp execOp
  simp only [ho]
  simp [newVar, newRow, newObj, hz, Sem.run_bind, Value.cells, go_sem]
  exact h _ _ rfl (fresh_alloc w _) (alloc_new w _)
set_option maxRecDepth 100000 in
set_option maxHeartbeats 1000000 in
theorem logBack_walk (lo : Option Addr) (ln lc : Nat) (L : List (List UInt8)) (sec gen oth : Int) (w : World) (hln : ln = L.length) (hlm : ln ≤ 9223372036854775807) (hL : LR w lo L)
    (hs : -9223372036854775808 ≤ sec ∧ sec ≤ 9223372036854775807) (hg : -9223372036854775808 ≤ gen ∧ gen ≤ 9223372036854775807) (ho : -9223372036854775808 ≤ oth ∧ oth ≤ 9223372036854775807) :
    Calls Try.prog 15 #[.slice lo ln lc, .int .i64 sec, .int .i64 gen, .int .i64 oth] w fun e w' => e = .returned (.bool true) ∧ Below w.heap.size w w' := by
  have HLN := hid hln; have HL := hid hL; have HSC := hid hs; have HGC := hid hg; have HOC := hid ho
  obtain ⟨S', hS', eS⟩ := pick_nat sec 40 (by omega)
  obtain ⟨G', hG', eG⟩ := pick_nat gen 2147483647 (by omega)
  obtain ⟨O', hO', eO⟩ := pick_nat oth 2147483647 (by omega)
  have ES : Hid (sec % 40 = (S' : Int)) := hid eS
  have EG : Hid (gen % 2147483647 = (G' : Int)) := hid eG
  have EO : Hid (oth % 2147483647 = (O' : Int)) := hid eO
  obtain ⟨S, hSS⟩ : ∃ S, 1 + S' = S := ⟨_, rfl⟩
  obtain ⟨G, hGG⟩ : ∃ G, 1 + G' = G := ⟨_, rfl⟩
  obtain ⟨O, hOO⟩ : ∃ O, 1 + O' = O := ⟨_, rfl⟩
  obtain ⟨TT, hTT⟩ : ∃ T, 2 + S = T := ⟨_, rfl⟩
  have FS : Hid (1 + (S' : Int) = (S : Int)) := hid (by omega)
  have FG : Hid (1 + (G' : Int) = (G : Int)) := hid (by omega)
  have FO : Hid (1 + (O' : Int) = (O : Int)) := hid (by omega)
  have HTT := hid hTT
  have hS1 : 1 ≤ S ∧ S ≤ 40 := by omega
  have hT1 : 3 ≤ TT ∧ TT ≤ 42 := by omega
  have hG1 : 1 ≤ G ∧ G ≤ 2147483647 := by omega
  have hO1 : 1 ≤ O ∧ O ≤ 2147483647 := by omega
  clear hs hg ho eS eG eO hSS hGG hOO hTT hL hln
  go_enter Try.func15, Try.ntmps15
  go_wp2_with fail
  refine (known6_any w (St.start w)).mono ?_
  rintro e w1 ⟨rfl, As, h1⟩
  have HB1 : Hid (Below w.heap.size w w1) := hid h1.be
  clear h1
  go_wp2_with fail
  refine (longLists_any lo ln lc L 12 200 HLN.out (by omega) hlm w1 (HL.out.below HB1.out)).mono ?_
  rintro e w' ⟨rfl, hw'⟩
  subst w'
  by_cases hlong : longL L 12 200 = true
  · rw [hlong]
    go_wp2
    go_ret
    exact ⟨rfl, HB1.out⟩
  have HNL := hid (longL_no (by simpa using hlong))
  have hln12 : ln ≤ 12 := by rw [HLN.out]; exact HNL.out.1
  rw [show longL L 12 200 = false by simpa using hlong]
  clear hlong
  go_wp2_with fail
  refine (pick_any sec 40 (by omega) (by omega) HSC.out.1 HSC.out.2 w1).mono ?_
  rintro e w' ⟨rfl, hw'⟩
  subst w'
  rw [ES.out]
  go_wp2_with fail
  refine (pick_any gen 2147483647 (by omega) (by omega) HGC.out.1 HGC.out.2 w1).mono ?_
  rintro e w' ⟨rfl, hw'⟩
  subst w'
  rw [EG.out]
  go_wp2_with fail
  refine (pick_any oth 2147483647 (by omega) (by omega) HOC.out.1 HOC.out.2 w1).mono ?_
  rintro e w' ⟨rfl, hw'⟩
  subst w'
  rw [EO.out]
  go_wp2_with fail
  rw [FS.out, FG.out, FO.out]
  refine (room_at 2 S G TT HTT.out (by omega) hG1.1 hG1.2 w1 (St.start w1)).mono ?_
  rintro e w2 ⟨a, rfl, h2⟩
  have H2 : Hid (St w1.heap.size w1 w2 [noA, noA, dev a (Dev.new (TT + 1))]) := hid h2
  clear h2
  unfold ptr
  obtain ⟨gb, hgb⟩ : ∃ gb, w2.heap.size = gb := ⟨_, rfl⟩
  obtain ⟨w3, hw3⟩ : ∃ w3, w2.alloc (.cells #[.int .i64 2, .int .i64 TT, .int .i64 G] 76) = w3 := ⟨_, rfl⟩
  have HW3 := hid hw3
  have HGB := hid hgb
  have H3 : Hid (St w1.heap.size w1 w3 [noA, noA, dev a (Dev.new (TT + 1)), blkA gb 76 [.int .i64 2, .int .i64 TT, .int .i64 G], ownA 22 1 (.slice none 0 0) 0 []]) := hid (by
    have := H2.out.box 76 [.int .i64 2, .int .i64 TT, .int .i64 G]
    rw [show w2.alloc (.cells [Value.int .i64 2, .int .i64 TT, .int .i64 G].toArray 76) = w3 from HW3.out, HGB.out] at this
    exact this.addOwn 22 1)
  clear hw3 hgb
  go_wp2_with fail
  rw [HW3.out, HGB.out]
  have HD0 := hid (LogD.new (n := TT + 1) (f := 2) (t := TT) (g := G) (by omega) (by omega) hG1.1 hG1.2 (by omega))
  go_loopw [12, 13, 14] (fun at_ v13 i wr => ∃ (VO : Value) (k N Q : Nat) (W : List (List UInt8)) (vs : List Value) (D : Dev), VO = v13 ∧ k ≤ ln ∧ i = .int .i64 k ∧ at_ = .int .i64 N ∧ N = needsOf W ∧ N ≤ S ∧ Q = W.length ∧ Q ≤ k ∧ LogD D (TT + 1) 2 TT G W ∧ ReadRow w vs W ∧ D.loose.length ≤ 5 * k ∧ St w1.heap.size w1 wr [noA, noA, dev a D, blkA gb 76 [.int .i64 2, .int .i64 TT, .int .i64 G], ownA 22 1 VO Q vs]) (fun _ _ i _ => ln - (intOf i).toNat)
  case atStart => exact ⟨.slice none 0 0, 0, 0, 0, [], [], _, rfl, Nat.zero_le _, rfl, rfl, rfl, Nat.zero_le _, rfl, Nat.le_refl _, HD0.out, ReadRow.nil w, by simp [Dev.new], H3.out⟩
  case round =>
    obtain ⟨VO, k, N, Q, W, vs, D, rfl, hk, rfl, rfl, hN, hNS, hQ, hQk, hD, hRR, hlo, hst⟩ := hrel
    have HN := hid hN; have HQ := hid hQ; have HD := hid hD; have HRR := hid hRR; have HLO := hid hlo; have HST := hid hst
    have HBW := hid (HB1.out.trans (hst.be.mono HB1.out.size))
    clear hN hQ hD hRR hlo hst
    by_cases hlt : k < ln
    · obtain ⟨l, hl⟩ : ∃ l, L[k]? = some l := ⟨_, List.getElem?_eq_getElem (by rw [← HLN.out]; exact hlt)⟩
      obtain ⟨b1, o1, lo1, cap1, rfl, hcx, hlc, hsl⟩ := HL.out.at hl
      have HU9 := hid (HNL.out.2 l (List.mem_of_getElem? hl))
      obtain ⟨u, hu⟩ : ∃ u, l.length = u := ⟨_, rfl⟩
      rw [hu] at hcx hlc
      have HUL := hid hu; have HSL := hid hsl; have HLC := hid hlc
      have HU9 : Hid (u ≤ 200) := hid (by rw [← hu]; exact HU9.out)
      have hu9 := HU9.out
      have HCX : Hid (∀ {As : List Asset} (w' : World), St w1.heap.size w1 w' As → w'.cell? ⟨b1, o1 + k, none⟩ = some (.slice lo1 u cap1)) := hid (fun w' h => by
        rw [(HB1.out.trans (h.be.mono HB1.out.size)).cell (World.block_lt_of_cell? w _ hcx)]; exact hcx)
      clear hu hsl hlc hl hcx
      have cx := HCX.out _ HST.out
      have x0 := (HST.out.blk 3 rfl).cell (j := 0) rfl
      have x1 := (HST.out.blk 3 rfl).cell (j := 1) rfl
      have x2 := (HST.out.blk 3 rfl).cell (j := 2) rfl
      go_wp2_with fail
      refine wp_region_held_drew (S := fun w' => w'.cell? ⟨gb, 0, none⟩ = some (.int .i64 2) ∧ w'.cell? ⟨gb, 1, none⟩ = some (.int .i64 TT) ∧ w'.cell? ⟨gb, 2, none⟩ = some (.int .i64 G) ∧ w'.cell? ⟨b1, o1 + k, none⟩ = some (.slice lo1 u cap1)) (by kernel_rfl) ⟨x0, x1, x2, cx⟩ (fun hS => ?_)
      refine wpAnyH_take (i := 0) (v := ?v0x1q) (by simp only [List.getElem?_toArray, List.getElem?_cons_zero]; exact rfl) (by kernel_rfl) (by kernel_rfl) (by kernel_rfl) (by exact fun _ _ _ h => h) (Or.inl ⟨by rfl, ?y0x1q⟩) hS ?r0x1q
      case y0x1q => (intro w' hSw; (try dsimp only at hSw); go_simp; (try with_reducible rfl))
      simp only [Act.put, List.setIfInBounds_toArray, List.set_cons_zero, List.set_cons_succ]
      refine wpAnyH_take (i := 1) (v := ?v1x2q) (by simp only [List.getElem?_toArray, List.getElem?_cons_zero, List.getElem?_cons_succ]; exact rfl) (by kernel_rfl) (by kernel_rfl) (by kernel_rfl) (by exact fun _ _ _ h => h) (Or.inl ⟨by rfl, ?y1x2q⟩) hS ?r1x2q
      case y1x2q => (intro w' hSw; (try dsimp only at hSw); go_simp; (try with_reducible rfl))
      simp only [Act.put, List.setIfInBounds_toArray, List.set_cons_zero, List.set_cons_succ]
      refine wpAnyH_take (i := 2) (v := ?v2x3q) (by simp only [List.getElem?_toArray, List.getElem?_cons_zero, List.getElem?_cons_succ]; exact rfl) (by kernel_rfl) (by kernel_rfl) (by kernel_rfl) (by exact fun _ _ _ h => h) (Or.inl ⟨by rfl, ?y2x3q⟩) hS ?r2x3q
      case y2x3q => (intro w' hSw; (try dsimp only at hSw); go_simp; (try with_reducible rfl))
      simp only [Act.put, List.setIfInBounds_toArray, List.set_cons_zero, List.set_cons_succ]
      refine wpAnyH_take (i := 3) (v := ?v3x4q) (by simp only [List.getElem?_toArray, List.getElem?_cons_zero, List.getElem?_cons_succ]; exact rfl) (by kernel_rfl) (by kernel_rfl) (by kernel_rfl) (by exact fun _ _ _ h => h) (Or.inl ⟨by rfl, ?y3x4q⟩) hS ?r3x4q
      case y3x4q => (intro w' hSw; (try dsimp only at hSw); go_simp; (try with_reducible rfl))
      simp only [Act.put, List.setIfInBounds_toArray, List.set_cons_zero, List.set_cons_succ]
      refine wpAnyH_take (i := 4) (v := ?v4x5q) (by simp only [List.getElem?_toArray, List.getElem?_cons_zero, List.getElem?_cons_succ]; exact rfl) (by kernel_rfl) (by kernel_rfl) (by kernel_rfl) (by exact fun _ _ _ h => h) (Or.inl ⟨by rfl, ?y4x5q⟩) hS ?r4x5q
      case y4x5q => (intro w' hSw; (try dsimp only at hSw); go_simp; (try with_reducible rfl))
      simp only [Act.put, List.setIfInBounds_toArray, List.set_cons_zero, List.set_cons_succ]
      refine wpAnyH_take (i := 5) (v := ?v5x6q) (by simp only [List.getElem?_toArray, List.getElem?_cons_zero, List.getElem?_cons_succ]; exact rfl) (by kernel_rfl) (by kernel_rfl) (by kernel_rfl) (by exact fun _ _ _ h => h) (Or.inl ⟨by rfl, ?y5x6q⟩) hS ?r5x6q
      case y5x6q => (intro w' hSw; (try dsimp only at hSw); go_simp; (try with_reducible rfl))
      simp only [Act.put, List.setIfInBounds_toArray, List.set_cons_zero, List.set_cons_succ]
      refine wpAnyH_take (i := 6) (v := ?v6x7q) (by simp only [List.getElem?_toArray, List.getElem?_cons_zero, List.getElem?_cons_succ]; exact rfl) (by kernel_rfl) (by kernel_rfl) (by kernel_rfl) (by exact fun _ _ _ h => h) (Or.inl ⟨by rfl, ?y6x7q⟩) hS ?r6x7q
      case y6x7q => (intro w' hSw; (try dsimp only at hSw); go_simp; (try with_reducible rfl))
      simp only [Act.put, List.setIfInBounds_toArray, List.set_cons_zero, List.set_cons_succ]
      refine wpAnyH_ready (rs := [7]) (by kernel_rfl) (by simp) ?_
      refine AllReadyH.cons (by simp only [List.getElem?_toArray, List.getElem?_cons_zero, List.getElem?_cons_succ]; exact rfl) (fun K hK => ?_) AllReadyH.nil
      go_simp
      refine ((HST.out.below (Below.refl _ _).drew).log_write2 (Below.refl _ _) 2 rfl 2 TT G N lo1 u cap1 l HUL.out.symm HLC.out (by omega) ((HSL.out.below HBW.out).below (Below.refl _ _).drew) (fun hne x hx => .inl (Nat.lt_of_lt_of_le (sb_lt HSL.out hne x hx) HB1.out.size)) (by have := HLO.out; omega) (by omega)).mono ?_
      rintro e w5 ⟨rfl, h5⟩
      obtain ⟨r, hr⟩ : ∃ r, logWrite D 2 TT G N l = r := ⟨_, rfl⟩
      rw [hr] at h5 ⊢
      have HR := hid hr
      have HST5 : Hid (St w1.heap.size w1 w5 [noA, noA, dev a r.2, blkA gb 76 [.int .i64 2, .int .i64 TT, .int .i64 G], ownA 22 1 VO Q vs]) := hid h5
      clear h5 hr
      refine hK.out _ _ ?k7x8q (fun hS => ?s7x8q)
      case k7x8q => exact ⟨(HST5.out.blk 3 rfl).cell (j := 0) rfl, (HST5.out.blk 3 rfl).cell (j := 1) rfl, (HST5.out.blk 3 rfl).cell (j := 2) rfl, HCX.out _ HST5.out⟩
      clear hK K
      try simp only [Act.put, List.setIfInBounds_toArray, List.set_cons_zero, List.set_cons_succ]
      refine wpAnyH_take (i := 8) (v := ?v8x9q) (by simp only [List.getElem?_toArray, List.getElem?_cons_zero, List.getElem?_cons_succ]; exact rfl) (by kernel_rfl) (by kernel_rfl) (by kernel_rfl) (by exact fun _ _ _ h => h) (Or.inl ⟨by rfl, ?y8x9q⟩) hS ?r8x9q
      case y8x9q => (intro w' hSw; (try dsimp only at hSw); go_simp; (try with_reducible rfl))
      simp only [Act.put, List.setIfInBounds_toArray, List.set_cons_zero, List.set_cons_succ]
      refine wpAnyH_take (i := 9) (v := ?v9x10q) (by simp only [List.getElem?_toArray, List.getElem?_cons_zero, List.getElem?_cons_succ]; exact rfl) (by kernel_rfl) (by kernel_rfl) (by kernel_rfl) (by exact fun _ _ _ h => h) (Or.inl ⟨by rfl, ?y9x10q⟩) hS ?r9x10q
      case y9x10q => (intro w' hSw; (try dsimp only at hSw); go_simp; (try with_reducible rfl))
      simp only [Act.put, List.setIfInBounds_toArray, List.set_cons_zero, List.set_cons_succ]
      refine wpAnyH_take (i := 10) (v := ?v10x11q) (by simp only [List.getElem?_toArray, List.getElem?_cons_zero, List.getElem?_cons_succ]; exact rfl) (by kernel_rfl) (by kernel_rfl) (by kernel_rfl) (by exact fun _ _ _ h => h) (Or.inl ⟨by rfl, ?y10x11q⟩) hS ?r10x11q
      case y10x11q => (intro w' hSw; (try dsimp only at hSw); go_simp; (try with_reducible rfl))
      simp only [Act.put, List.setIfInBounds_toArray, List.set_cons_zero, List.set_cons_succ]
      refine wpAnyH_take (i := 11) (v := ?v11x12q) (by simp only [List.getElem?_toArray, List.getElem?_cons_zero, List.getElem?_cons_succ]; exact rfl) (by kernel_rfl) (by kernel_rfl) (by kernel_rfl) (by exact fun _ _ _ h => h) (Or.inl ⟨by rfl, ?y11x12q⟩) hS ?r11x12q
      case y11x12q => (intro w' hSw; (try dsimp only at hSw); go_simp; (try with_reducible rfl))
      simp only [Act.put, List.setIfInBounds_toArray, List.set_cons_zero, List.set_cons_succ]
      refine wpAnyH_take (i := 12) (v := ?v12x13q) (by simp only [List.getElem?_toArray, List.getElem?_cons_zero, List.getElem?_cons_succ]; exact rfl) (by kernel_rfl) (by kernel_rfl) (by kernel_rfl) (by exact fun _ _ _ h => h) (Or.inl ⟨by rfl, ?y12x13q⟩) hS ?r12x13q
      case y12x13q => (intro w' hSw; (try dsimp only at hSw); go_simp; (try with_reducible rfl))
      simp only [Act.put, List.setIfInBounds_toArray, List.set_cons_zero, List.set_cons_succ]
      refine wpAnyH_done (by kernel_rfl) ?_ _
      clear hS x0 x1 x2 cx
      have cx := HCX.out _ HST5.out
      have hu9 := HU9.out
      go_wp2_with fail
      refine (need_any u (by omega) _).mono ?_
      rintro e w' ⟨rfl, hw'⟩
      subst w'
      obtain ⟨nu, hnu⟩ : ∃ nu, needOf u = nu := ⟨_, rfl⟩
      have HNU := hid hnu
      rw [hnu]
      have hnb : nu ≤ 5 := by rw [← hnu]; unfold needOf; split <;> omega
      clear hnu
      by_cases hfit : N + nu ≤ S
      · obtain ⟨N2, hN2⟩ : ∃ N2, N + nu = N2 := ⟨_, rfl⟩
        have HN2 : Hid ((N : Int) + (nu : Int) = (N2 : Int)) := hid (by omega)
        have hN2S : N2 ≤ S := by omega
        have HNW2 : Hid (N2 = needsOf (W ++ [l])) := hid (by rw [needsOf_snoc, HUL.out, HNU.out, ← HN.out, hN2])
        have hroom : needsOf W + needOf l.length ≤ TT - 2 := by have := HTT.out; rw [HUL.out, HNU.out, ← HN.out]; omega
        have HE : Hid (r = (((N2 : Int), 0), { D with loose := D.loose ++ recWs G (needsOf W) 2 l })) := hid (by
          have hw := HD.out.write (r := l) (by rw [HUL.out]; omega) hroom
          rw [← HR.out, HNW2.out, HN.out]; exact hw)
        have HD2 := hid (HD.out.written (r := l) hroom)
        clear hroom
        have HST6 : Hid (St w1.heap.size w1 w5 [noA, noA, dev a { D with loose := D.loose ++ recWs G (needsOf W) 2 l }, blkA gb 76 [.int .i64 2, .int .i64 TT, .int .i64 G], ownA 22 1 VO Q vs]) := hid (by have := HST5.out; rw [HE.out] at this; exact this)
        have HLO2 : Hid ((D.loose ++ recWs G (needsOf W) 2 l).length ≤ 5 * (k + 1)) := hid (by
          have := HLO.out
          rw [List.length_append, recWs, runW_len, HUL.out, HNU.out]; omega)
        have E1 : r.1.1 = (N2 : Int) := by rw [HE.out]
        have E2 : r.1.2 = 0 := by rw [HE.out]
        rw [E1, E2]
        have hgt : decide ((S : Int) < (N : Int) + (nu : Int)) = false := by simp; omega
        have hne : ((N2 : Int) == (N : Int) + (nu : Int)) = true := by simp; omega
        have hne2 : ((N2 : Int) != (N : Int) + (nu : Int)) = false := by simp; omega
        clear E1 E2 hN2 HE HST5
        go_wp2_with fail
        refine (need_any u (by omega) _).mono ?_
        rintro e w' ⟨rfl, hw'⟩
        subst w'
        rw [HNU.out]
        go_wp2_with (refine wpl_appendR rowL rfl (.tmp 88) (.tmp 93) rfl 0 VO Q vs rfl ((HST6.out.own_ 4 rfl).alloc _) w5.heap.size rfl [.slice lo1 u cap1] (alloc_new _ _) rfl (by simp [Value.oneCell']) (by omega) (Nat.zero_le _) ?_; intro v2 w6 ho2 hg2 hv2; have HST7 := hid ((HST6.out.below (fresh_alloc w5 (.cells #[.slice lo1 u cap1] 22))).ownGrow 4 rfl ho2 hg2 hv2); clear ho2 hg2 hv2)
        go_roundw
        case rel => exact ⟨v2, k + 1, N2, Q + 1, W ++ [l], vs ++ [Value.slice lo1 u cap1], _, rfl, by omega, by go_num, rfl, HNW2.out, by omega, by simp [HQ.out], by omega, HD2.out, HRR.out.snoc HUL.out.symm HLC.out HSL.out, HLO2.out, HST7.out⟩
        case measure => simp [intOf]; omega
      · have HE : Hid (r = ((0, 10), D)) := hid (by
          have hw := HD.out.full (r := l) (by rw [HUL.out]; omega) (by have := HTT.out; rw [HUL.out, HNU.out, ← HN.out]; omega)
          rw [← HR.out, HN.out]; exact hw)
        have HST6 : Hid (St w1.heap.size w1 w5 [noA, noA, dev a D, blkA gb 76 [.int .i64 2, .int .i64 TT, .int .i64 G], ownA 22 1 VO Q vs]) := hid (by have := HST5.out; rw [HE.out] at this; exact this)
        have E1 : r.1.1 = 0 := by rw [HE.out]
        have E2 : r.1.2 = 10 := by rw [HE.out]
        rw [E1, E2]
        have hgt : decide ((S : Int) < (N : Int) + (nu : Int)) = true := by simp; omega
        clear E1 E2 HE HST5
        go_wp2
        go_roundw
        case rel => exact ⟨VO, k + 1, N, Q, W, vs, D, rfl, by omega, by go_num, rfl, HN.out, by omega, HQ.out, by omega, HD.out, HRR.out, by have := HLO.out; omega, HST6.out⟩
        case measure => simp [intOf]; omega
    · obtain rfl : k = ln := by omega
      have hQ12 : Q ≤ 12 := by omega
      obtain ⟨ao, cap, rfl, -, -⟩ := (HRR.out.below HBW.out).lr (HST.out.own_ 4 rfl)
      have HLR : Hid (∀ (w' : World) (As : List Asset), St w1.heap.size w1 w' As → As[4]? = some (ownA 22 1 (.slice ao Q cap) Q vs) → LR w' ao W) := hid (fun w' As h hi => by
        obtain ⟨ao', cap', e, _, h5⟩ := (HRR.out.below (HB1.out.trans (h.be.mono HB1.out.size))).lr (h.own_ 4 hi)
        injection e with e1 _ _
        subst e1; exact h5)
      have HSTc : Hid (St w1.heap.size w1 wr.drew [noA, noA, dev a D, blkA gb 76 [.int .i64 2, .int .i64 TT, .int .i64 G], ownA 22 1 (.slice ao Q cap) Q vs, noA, noA]) := hid ((HST.out.below (Below.refl _ _).drew).addNo.addNo)
      clear hlt
      have x0 := (HST.out.blk 3 rfl).cell (j := 0) rfl
      have x1 := (HST.out.blk 3 rfl).cell (j := 1) rfl
      have x2 := (HST.out.blk 3 rfl).cell (j := 2) rfl
      go_wp2_with fail
      refine wp_region_held_drew (S := fun w' => w'.cell? ⟨gb, 0, none⟩ = some (.int .i64 2) ∧ w'.cell? ⟨gb, 1, none⟩ = some (.int .i64 TT) ∧ w'.cell? ⟨gb, 2, none⟩ = some (.int .i64 G)) (by kernel_rfl) ⟨x0, x1, x2⟩ (fun hS => ?_)
      refine wpAnyH_take (i := 0) (v := ?v0x1z) (by simp only [List.getElem?_toArray, List.getElem?_cons_zero]; exact rfl) (by kernel_rfl) (by kernel_rfl) (by kernel_rfl) (by exact fun _ _ _ h => h) (Or.inl ⟨by rfl, ?y0x1z⟩) hS ?r0x1z
      case y0x1z => (intro w' hSw; (try dsimp only at hSw); go_simp; (try with_reducible rfl))
      simp only [Act.put, List.setIfInBounds_toArray, List.set_cons_zero, List.set_cons_succ]
      refine wpAnyH_take (i := 1) (v := ?v1x2z) (by simp only [List.getElem?_toArray, List.getElem?_cons_zero, List.getElem?_cons_succ]; exact rfl) (by kernel_rfl) (by kernel_rfl) (by kernel_rfl) (by exact fun _ _ _ h => h) (Or.inl ⟨by rfl, ?y1x2z⟩) hS ?r1x2z
      case y1x2z => (intro w' hSw; (try dsimp only at hSw); go_simp; (try with_reducible rfl))
      simp only [Act.put, List.setIfInBounds_toArray, List.set_cons_zero, List.set_cons_succ]
      refine wpAnyH_ready (rs := [2, 3]) (by kernel_rfl) (by simp) ?_
      refine AllReadyH.cons (by simp only [List.getElem?_toArray, List.getElem?_cons_zero, List.getElem?_cons_succ]; exact rfl) (fun K hK => ?_) (AllReadyH.cons (by simp only [List.getElem?_toArray, List.getElem?_cons_zero, List.getElem?_cons_succ]; exact rfl) (fun K hK => ?_) AllReadyH.nil)
      · refine wpo_allocA rfl ?_
        intro gp wn hgg hbn hmn
        have HSTc := hid (HSTc.out.newAt 5 rfl hbn hmn (Nat.le_of_eq hgg.symm))
        clear hgg hbn hmn
        refine hK.out _ _ ?k2x3z (fun hS => ?s2x3z)
        case k2x3z => exact ⟨(HSTc.out.blk 3 rfl).cell (j := 0) rfl, (HSTc.out.blk 3 rfl).cell (j := 1) rfl, (HSTc.out.blk 3 rfl).cell (j := 2) rfl⟩
        clear hK K
        try simp only [Act.put, List.setIfInBounds_toArray, List.set_cons_zero, List.set_cons_succ]
        refine wpAnyH_ready (rs := [3]) (by kernel_rfl) (by simp) ?_
        refine AllReadyH.cons (by simp only [List.getElem?_toArray, List.getElem?_cons_zero, List.getElem?_cons_succ]; exact rfl) (fun K hK => ?_) AllReadyH.nil
        refine wpo_allocA rfl ?_
        intro gq wn hgg hbn hmn
        have HSTc := hid (HSTc.out.newAt 6 rfl hbn hmn (Nat.le_of_eq hgg.symm))
        clear hgg hbn hmn
        refine hK.out _ _ ?k3x4z (fun hS => ?s3x4z)
        case k3x4z => exact ⟨(HSTc.out.blk 3 rfl).cell (j := 0) rfl, (HSTc.out.blk 3 rfl).cell (j := 1) rfl, (HSTc.out.blk 3 rfl).cell (j := 2) rfl⟩
        clear hK K
        try simp only [Act.put, List.setIfInBounds_toArray, List.set_cons_zero, List.set_cons_succ]
        refine wpAnyH_ready (rs := [4]) (by kernel_rfl) (by simp) ?_
        refine AllReadyH.cons (by simp only [List.getElem?_toArray, List.getElem?_cons_zero, List.getElem?_cons_succ]; exact rfl) (fun K hK => ?_) AllReadyH.nil
        refine wp_store_mid 76 (.tmp 17) (.tmp 95) rfl gp 0 #[.int .i64 2, .int .i64 TT, .int .i64 G] rfl rfl ((HSTc.out.blk 5 rfl).there (o := 0) (n := 3) (by decide)) (by kernel_rfl) (by simp [Value.oneCell']) ?_
        have HSTc := hid (HSTc.out.blkTurn (w' := wn.setCells gp 0 [.int .i64 2, .int .i64 TT, .int .i64 G]) 5 rfl (Keep.setCells (F := fun k => k = gp) rfl _ _ (Keep.refl (fun k => k = gp) wn)) ((((HSTc.out.blk 5 rfl).set 0 (.int .i64 2)).set 1 (.int .i64 TT)).set 2 (.int .i64 G)))
        generalize wn.setCells gp 0 [.int .i64 2, .int .i64 TT, .int .i64 G] = wn at HSTc ⊢
        refine hK.out _ _ ?k4x5z (fun hS => ?s4x5z)
        case k4x5z => exact ⟨(HSTc.out.blk 3 rfl).cell (j := 0) rfl, (HSTc.out.blk 3 rfl).cell (j := 1) rfl, (HSTc.out.blk 3 rfl).cell (j := 2) rfl⟩
        clear hK K
        try simp only [Act.put]
        refine wpAnyH_ready (rs := [5]) (by kernel_rfl) (by simp) ?_
        refine AllReadyH.cons (by simp only [List.getElem?_toArray, List.getElem?_cons_zero, List.getElem?_cons_succ]; exact rfl) (fun K hK => ?_) AllReadyH.nil
        refine wp_store_mid 76 (.tmp 18) (.tmp 96) rfl gq 0 #[.int .i64 2, .int .i64 TT, .int .i64 G] rfl rfl ((HSTc.out.blk 6 rfl).there (o := 0) (n := 3) (by decide)) (by kernel_rfl) (by simp [Value.oneCell']) ?_
        have HSTc := hid (HSTc.out.blkTurn (w' := wn.setCells gq 0 [.int .i64 2, .int .i64 TT, .int .i64 G]) 6 rfl (Keep.setCells (F := fun k => k = gq) rfl _ _ (Keep.refl (fun k => k = gq) wn)) ((((HSTc.out.blk 6 rfl).set 0 (.int .i64 2)).set 1 (.int .i64 TT)).set 2 (.int .i64 G)))
        generalize wn.setCells gq 0 [.int .i64 2, .int .i64 TT, .int .i64 G] = wn at HSTc ⊢
        refine hK.out _ _ ?k5x6z (fun hS => ?s5x6z)
        case k5x6z => exact ⟨(HSTc.out.blk 3 rfl).cell (j := 0) rfl, (HSTc.out.blk 3 rfl).cell (j := 1) rfl, (HSTc.out.blk 3 rfl).cell (j := 2) rfl⟩
        clear hK K
        try simp only [Act.put]
        refine wpAnyH_done (by kernel_rfl) ?_ _
        clear hS
        have HSTa := hid (HSTc.out.blkTurn (w' := wn.setCell ⟨gp, 2, none⟩ (.int .i64 O)) 5 rfl ((Keep.refl (fun k => k = gp) wn).setCell (p := ⟨gp, 2, none⟩) rfl _) ((HSTc.out.blk 5 rfl).set 2 (.int .i64 O)))
        have HSTb := hid (HSTa.out.blkTurn (w' := (wn.setCell ⟨gp, 2, none⟩ (.int .i64 O)).setCell ⟨gq, 0, none⟩ (.int .i64 3)) 6 rfl ((Keep.refl (fun k => k = gq) _).setCell (p := ⟨gq, 0, none⟩) rfl _) ((HSTa.out.blk 6 rfl).set 0 (.int .i64 3)))
        have p1 := (HSTc.out.blk 5 rfl).cell (j := 2) rfl
        have p2 := (HSTc.out.blk 5 rfl).free 2
        have p3 := (HSTa.out.blk 3 rfl).cell (j := 0) rfl
        have p4 := (HSTa.out.blk 6 rfl).cell (j := 0) rfl
        have p5 := (HSTa.out.blk 6 rfl).free 0
        have x0 := (HSTb.out.blk 3 rfl).cell (j := 0) rfl
        have x1 := (HSTb.out.blk 3 rfl).cell (j := 1) rfl
        have x2 := (HSTb.out.blk 3 rfl).cell (j := 2) rfl
        go_wp2_with fail
        refine (HSTb.out.log_has (Below.refl _ _) 2 rfl 2 TT G N ao Q cap W HQ.out (by omega) (HLR.out _ _ HSTb.out rfl)).mono ?_
        rintro e w6 ⟨he, h6⟩
        obtain rfl : e = .returned (.bool true) := by rw [he, HN.out]; exact congrArg (fun z => Ending.returned (Value.bool z)) HD.out.scan
        have HST6 : Hid (St w1.heap.size w1 w6 [noA, noA, dev a D, blkA gb 76 [.int .i64 2, .int .i64 TT, .int .i64 G], ownA 22 1 (.slice ao Q cap) Q vs, blkA gp 76 [.int .i64 2, .int .i64 TT, .int .i64 O], blkA gq 76 [.int .i64 3, .int .i64 TT, .int .i64 G]]) := hid h6
        clear h6 he x0 x1 x2 p1 p2 p3 p4 p5 HSTa HSTb HSTc
        by_cases hog : O = G
        · have hn1 : ((O : Int) == (G : Int)) = true := by simp; omega
          have hn2 : ((O : Int) != (G : Int)) = false := by simp; omega
          clear hog
          have HST7 := HST6
          have x0 := (HST7.out.blk 6 rfl).cell (j := 0) rfl
          have x1 := (HST7.out.blk 6 rfl).cell (j := 1) rfl
          have x2 := (HST7.out.blk 6 rfl).cell (j := 2) rfl
          go_wp2_with fail
          refine (HST7.out.log_has (Below.refl _ _) 2 rfl 3 TT G 0 none 0 0 [] rfl (by omega) (.inl rfl)).mono ?_
          rintro e w8 ⟨he, h8⟩
          obtain rfl : e = .returned (.bool true) := by rw [he]; exact congrArg (fun z => Ending.returned (Value.bool z)) (HD.out.next (by omega))
          have HST9 := hid h8
          clear h8 he x0 x1 x2
          go_wp2_with fail
          refine (HST9.out.dev_flush 2 rfl).mono ?_
          rintro e w9 ⟨he, h9⟩
          obtain rfl : e = .returned (.int .i64 0) := by rw [he, HD.out.fine.flush]
          have HSTX : Hid (St w1.heap.size w1 w9 [noA, noA, dev a { D with img := D.now, loose := [] }, blkA gb 76 [.int .i64 2, .int .i64 TT, .int .i64 G], ownA 22 1 (.slice ao Q cap) Q vs, blkA gp 76 [.int .i64 2, .int .i64 TT, .int .i64 O], blkA gq 76 [.int .i64 3, .int .i64 TT, .int .i64 G]]) := hid (by rw [HD.out.fine.flush] at h9; exact h9)
          clear h9 he
          have x0 := (HSTX.out.blk 3 rfl).cell (j := 0) rfl
          have x1 := (HSTX.out.blk 3 rfl).cell (j := 1) rfl
          have x2 := (HSTX.out.blk 3 rfl).cell (j := 2) rfl
          go_wp2_with fail
          refine (HSTX.out.log_has (Below.refl _ _) 2 rfl 2 TT G N ao Q cap W HQ.out (by omega) (HLR.out _ _ HSTX.out rfl)).mono ?_
          rintro e w10 ⟨he, h10⟩
          obtain rfl : e = .returned (.bool true) := by rw [he, HN.out]; exact congrArg (fun z => Ending.returned (Value.bool z)) HD.out.flushed.scan
          have HEND := hid (HB1.out.trans (h10.be.mono HB1.out.size))
          clear h10 he x0 x1 x2
          go_wp2
          go_ret
          exact ⟨rfl, HEND.out⟩
        · have hn1 : ((O : Int) == (G : Int)) = false := by simp; omega
          have hn2 : ((O : Int) != (G : Int)) = true := by simp; omega
          have x0 := (HST6.out.blk 5 rfl).cell (j := 0) rfl
          have x1 := (HST6.out.blk 5 rfl).cell (j := 1) rfl
          have x2 := (HST6.out.blk 5 rfl).cell (j := 2) rfl
          go_wp2_with fail
          refine (HST6.out.log_has (Below.refl _ _) 2 rfl 2 TT O 0 none 0 0 [] rfl (by omega) (.inl rfl)).mono ?_
          rintro e w7 ⟨he, h7⟩
          obtain rfl : e = .returned (.bool true) := by rw [he]; exact congrArg (fun z => Ending.returned (Value.bool z)) (HD.out.other hO1.1 hO1.2 (fun h => hog h.symm))
          have HST7 : Hid (St w1.heap.size w1 w7 [noA, noA, dev a D, blkA gb 76 [.int .i64 2, .int .i64 TT, .int .i64 G], ownA 22 1 (.slice ao Q cap) Q vs, blkA gp 76 [.int .i64 2, .int .i64 TT, .int .i64 O], blkA gq 76 [.int .i64 3, .int .i64 TT, .int .i64 G]]) := hid h7
          clear h7 he x0 x1 x2 hog
          have x0 := (HST7.out.blk 6 rfl).cell (j := 0) rfl
          have x1 := (HST7.out.blk 6 rfl).cell (j := 1) rfl
          have x2 := (HST7.out.blk 6 rfl).cell (j := 2) rfl
          go_wp2_with fail
          refine (HST7.out.log_has (Below.refl _ _) 2 rfl 3 TT G 0 none 0 0 [] rfl (by omega) (.inl rfl)).mono ?_
          rintro e w8 ⟨he, h8⟩
          obtain rfl : e = .returned (.bool true) := by rw [he]; exact congrArg (fun z => Ending.returned (Value.bool z)) (HD.out.next (by omega))
          have HST9 := hid h8
          clear h8 he x0 x1 x2
          go_wp2_with fail
          refine (HST9.out.dev_flush 2 rfl).mono ?_
          rintro e w9 ⟨he, h9⟩
          obtain rfl : e = .returned (.int .i64 0) := by rw [he, HD.out.fine.flush]
          have HSTX : Hid (St w1.heap.size w1 w9 [noA, noA, dev a { D with img := D.now, loose := [] }, blkA gb 76 [.int .i64 2, .int .i64 TT, .int .i64 G], ownA 22 1 (.slice ao Q cap) Q vs, blkA gp 76 [.int .i64 2, .int .i64 TT, .int .i64 O], blkA gq 76 [.int .i64 3, .int .i64 TT, .int .i64 G]]) := hid (by rw [HD.out.fine.flush] at h9; exact h9)
          clear h9 he
          have x0 := (HSTX.out.blk 3 rfl).cell (j := 0) rfl
          have x1 := (HSTX.out.blk 3 rfl).cell (j := 1) rfl
          have x2 := (HSTX.out.blk 3 rfl).cell (j := 2) rfl
          go_wp2_with fail
          refine (HSTX.out.log_has (Below.refl _ _) 2 rfl 2 TT G N ao Q cap W HQ.out (by omega) (HLR.out _ _ HSTX.out rfl)).mono ?_
          rintro e w10 ⟨he, h10⟩
          obtain rfl : e = .returned (.bool true) := by rw [he, HN.out]; exact congrArg (fun z => Ending.returned (Value.bool z)) HD.out.flushed.scan
          have HEND := hid (HB1.out.trans (h10.be.mono HB1.out.size))
          clear h10 he x0 x1 x2
          go_wp2
          go_ret
          exact ⟨rfl, HEND.out⟩
      · refine wpo_allocA rfl ?_
        intro gq wn hgg hbn hmn
        have HSTc := hid (HSTc.out.newAt 6 rfl hbn hmn (Nat.le_of_eq hgg.symm))
        clear hgg hbn hmn
        refine hK.out _ _ ?k3x7z (fun hS => ?s3x7z)
        case k3x7z => exact ⟨(HSTc.out.blk 3 rfl).cell (j := 0) rfl, (HSTc.out.blk 3 rfl).cell (j := 1) rfl, (HSTc.out.blk 3 rfl).cell (j := 2) rfl⟩
        clear hK K
        try simp only [Act.put, List.setIfInBounds_toArray, List.set_cons_zero, List.set_cons_succ]
        refine wpAnyH_ready (rs := [2]) (by kernel_rfl) (by simp) ?_
        refine AllReadyH.cons (by simp only [List.getElem?_toArray, List.getElem?_cons_zero, List.getElem?_cons_succ]; exact rfl) (fun K hK => ?_) AllReadyH.nil
        refine wpo_allocA rfl ?_
        intro gp wn hgg hbn hmn
        have HSTc := hid (HSTc.out.newAt 5 rfl hbn hmn (Nat.le_of_eq hgg.symm))
        clear hgg hbn hmn
        refine hK.out _ _ ?k2x8z (fun hS => ?s2x8z)
        case k2x8z => exact ⟨(HSTc.out.blk 3 rfl).cell (j := 0) rfl, (HSTc.out.blk 3 rfl).cell (j := 1) rfl, (HSTc.out.blk 3 rfl).cell (j := 2) rfl⟩
        clear hK K
        try simp only [Act.put, List.setIfInBounds_toArray, List.set_cons_zero, List.set_cons_succ]
        refine wpAnyH_ready (rs := [4]) (by kernel_rfl) (by simp) ?_
        refine AllReadyH.cons (by simp only [List.getElem?_toArray, List.getElem?_cons_zero, List.getElem?_cons_succ]; exact rfl) (fun K hK => ?_) AllReadyH.nil
        refine wp_store_mid 76 (.tmp 17) (.tmp 95) rfl gp 0 #[.int .i64 2, .int .i64 TT, .int .i64 G] rfl rfl ((HSTc.out.blk 5 rfl).there (o := 0) (n := 3) (by decide)) (by kernel_rfl) (by simp [Value.oneCell']) ?_
        have HSTc := hid (HSTc.out.blkTurn (w' := wn.setCells gp 0 [.int .i64 2, .int .i64 TT, .int .i64 G]) 5 rfl (Keep.setCells (F := fun k => k = gp) rfl _ _ (Keep.refl (fun k => k = gp) wn)) ((((HSTc.out.blk 5 rfl).set 0 (.int .i64 2)).set 1 (.int .i64 TT)).set 2 (.int .i64 G)))
        generalize wn.setCells gp 0 [.int .i64 2, .int .i64 TT, .int .i64 G] = wn at HSTc ⊢
        refine hK.out _ _ ?k4x9z (fun hS => ?s4x9z)
        case k4x9z => exact ⟨(HSTc.out.blk 3 rfl).cell (j := 0) rfl, (HSTc.out.blk 3 rfl).cell (j := 1) rfl, (HSTc.out.blk 3 rfl).cell (j := 2) rfl⟩
        clear hK K
        try simp only [Act.put]
        refine wpAnyH_ready (rs := [5]) (by kernel_rfl) (by simp) ?_
        refine AllReadyH.cons (by simp only [List.getElem?_toArray, List.getElem?_cons_zero, List.getElem?_cons_succ]; exact rfl) (fun K hK => ?_) AllReadyH.nil
        refine wp_store_mid 76 (.tmp 18) (.tmp 96) rfl gq 0 #[.int .i64 2, .int .i64 TT, .int .i64 G] rfl rfl ((HSTc.out.blk 6 rfl).there (o := 0) (n := 3) (by decide)) (by kernel_rfl) (by simp [Value.oneCell']) ?_
        have HSTc := hid (HSTc.out.blkTurn (w' := wn.setCells gq 0 [.int .i64 2, .int .i64 TT, .int .i64 G]) 6 rfl (Keep.setCells (F := fun k => k = gq) rfl _ _ (Keep.refl (fun k => k = gq) wn)) ((((HSTc.out.blk 6 rfl).set 0 (.int .i64 2)).set 1 (.int .i64 TT)).set 2 (.int .i64 G)))
        generalize wn.setCells gq 0 [.int .i64 2, .int .i64 TT, .int .i64 G] = wn at HSTc ⊢
        refine hK.out _ _ ?k5x10z (fun hS => ?s5x10z)
        case k5x10z => exact ⟨(HSTc.out.blk 3 rfl).cell (j := 0) rfl, (HSTc.out.blk 3 rfl).cell (j := 1) rfl, (HSTc.out.blk 3 rfl).cell (j := 2) rfl⟩
        clear hK K
        try simp only [Act.put]
        refine wpAnyH_done (by kernel_rfl) ?_ _
        clear hS
        have HSTa := hid (HSTc.out.blkTurn (w' := wn.setCell ⟨gp, 2, none⟩ (.int .i64 O)) 5 rfl ((Keep.refl (fun k => k = gp) wn).setCell (p := ⟨gp, 2, none⟩) rfl _) ((HSTc.out.blk 5 rfl).set 2 (.int .i64 O)))
        have HSTb := hid (HSTa.out.blkTurn (w' := (wn.setCell ⟨gp, 2, none⟩ (.int .i64 O)).setCell ⟨gq, 0, none⟩ (.int .i64 3)) 6 rfl ((Keep.refl (fun k => k = gq) _).setCell (p := ⟨gq, 0, none⟩) rfl _) ((HSTa.out.blk 6 rfl).set 0 (.int .i64 3)))
        have p1 := (HSTc.out.blk 5 rfl).cell (j := 2) rfl
        have p2 := (HSTc.out.blk 5 rfl).free 2
        have p3 := (HSTa.out.blk 3 rfl).cell (j := 0) rfl
        have p4 := (HSTa.out.blk 6 rfl).cell (j := 0) rfl
        have p5 := (HSTa.out.blk 6 rfl).free 0
        have x0 := (HSTb.out.blk 3 rfl).cell (j := 0) rfl
        have x1 := (HSTb.out.blk 3 rfl).cell (j := 1) rfl
        have x2 := (HSTb.out.blk 3 rfl).cell (j := 2) rfl
        go_wp2_with fail
        refine (HSTb.out.log_has (Below.refl _ _) 2 rfl 2 TT G N ao Q cap W HQ.out (by omega) (HLR.out _ _ HSTb.out rfl)).mono ?_
        rintro e w6 ⟨he, h6⟩
        obtain rfl : e = .returned (.bool true) := by rw [he, HN.out]; exact congrArg (fun z => Ending.returned (Value.bool z)) HD.out.scan
        have HST6 : Hid (St w1.heap.size w1 w6 [noA, noA, dev a D, blkA gb 76 [.int .i64 2, .int .i64 TT, .int .i64 G], ownA 22 1 (.slice ao Q cap) Q vs, blkA gp 76 [.int .i64 2, .int .i64 TT, .int .i64 O], blkA gq 76 [.int .i64 3, .int .i64 TT, .int .i64 G]]) := hid h6
        clear h6 he x0 x1 x2 p1 p2 p3 p4 p5 HSTa HSTb HSTc
        by_cases hog : O = G
        · have hn1 : ((O : Int) == (G : Int)) = true := by simp; omega
          have hn2 : ((O : Int) != (G : Int)) = false := by simp; omega
          clear hog
          have HST7 := HST6
          have x0 := (HST7.out.blk 6 rfl).cell (j := 0) rfl
          have x1 := (HST7.out.blk 6 rfl).cell (j := 1) rfl
          have x2 := (HST7.out.blk 6 rfl).cell (j := 2) rfl
          go_wp2_with fail
          refine (HST7.out.log_has (Below.refl _ _) 2 rfl 3 TT G 0 none 0 0 [] rfl (by omega) (.inl rfl)).mono ?_
          rintro e w8 ⟨he, h8⟩
          obtain rfl : e = .returned (.bool true) := by rw [he]; exact congrArg (fun z => Ending.returned (Value.bool z)) (HD.out.next (by omega))
          have HST9 := hid h8
          clear h8 he x0 x1 x2
          go_wp2_with fail
          refine (HST9.out.dev_flush 2 rfl).mono ?_
          rintro e w9 ⟨he, h9⟩
          obtain rfl : e = .returned (.int .i64 0) := by rw [he, HD.out.fine.flush]
          have HSTX : Hid (St w1.heap.size w1 w9 [noA, noA, dev a { D with img := D.now, loose := [] }, blkA gb 76 [.int .i64 2, .int .i64 TT, .int .i64 G], ownA 22 1 (.slice ao Q cap) Q vs, blkA gp 76 [.int .i64 2, .int .i64 TT, .int .i64 O], blkA gq 76 [.int .i64 3, .int .i64 TT, .int .i64 G]]) := hid (by rw [HD.out.fine.flush] at h9; exact h9)
          clear h9 he
          have x0 := (HSTX.out.blk 3 rfl).cell (j := 0) rfl
          have x1 := (HSTX.out.blk 3 rfl).cell (j := 1) rfl
          have x2 := (HSTX.out.blk 3 rfl).cell (j := 2) rfl
          go_wp2_with fail
          refine (HSTX.out.log_has (Below.refl _ _) 2 rfl 2 TT G N ao Q cap W HQ.out (by omega) (HLR.out _ _ HSTX.out rfl)).mono ?_
          rintro e w10 ⟨he, h10⟩
          obtain rfl : e = .returned (.bool true) := by rw [he, HN.out]; exact congrArg (fun z => Ending.returned (Value.bool z)) HD.out.flushed.scan
          have HEND := hid (HB1.out.trans (h10.be.mono HB1.out.size))
          clear h10 he x0 x1 x2
          go_wp2
          go_ret
          exact ⟨rfl, HEND.out⟩
        · have hn1 : ((O : Int) == (G : Int)) = false := by simp; omega
          have hn2 : ((O : Int) != (G : Int)) = true := by simp; omega
          have x0 := (HST6.out.blk 5 rfl).cell (j := 0) rfl
          have x1 := (HST6.out.blk 5 rfl).cell (j := 1) rfl
          have x2 := (HST6.out.blk 5 rfl).cell (j := 2) rfl
          go_wp2_with fail
          refine (HST6.out.log_has (Below.refl _ _) 2 rfl 2 TT O 0 none 0 0 [] rfl (by omega) (.inl rfl)).mono ?_
          rintro e w7 ⟨he, h7⟩
          obtain rfl : e = .returned (.bool true) := by rw [he]; exact congrArg (fun z => Ending.returned (Value.bool z)) (HD.out.other hO1.1 hO1.2 (fun h => hog h.symm))
          have HST7 : Hid (St w1.heap.size w1 w7 [noA, noA, dev a D, blkA gb 76 [.int .i64 2, .int .i64 TT, .int .i64 G], ownA 22 1 (.slice ao Q cap) Q vs, blkA gp 76 [.int .i64 2, .int .i64 TT, .int .i64 O], blkA gq 76 [.int .i64 3, .int .i64 TT, .int .i64 G]]) := hid h7
          clear h7 he x0 x1 x2 hog
          have x0 := (HST7.out.blk 6 rfl).cell (j := 0) rfl
          have x1 := (HST7.out.blk 6 rfl).cell (j := 1) rfl
          have x2 := (HST7.out.blk 6 rfl).cell (j := 2) rfl
          go_wp2_with fail
          refine (HST7.out.log_has (Below.refl _ _) 2 rfl 3 TT G 0 none 0 0 [] rfl (by omega) (.inl rfl)).mono ?_
          rintro e w8 ⟨he, h8⟩
          obtain rfl : e = .returned (.bool true) := by rw [he]; exact congrArg (fun z => Ending.returned (Value.bool z)) (HD.out.next (by omega))
          have HST9 := hid h8
          clear h8 he x0 x1 x2
          go_wp2_with fail
          refine (HST9.out.dev_flush 2 rfl).mono ?_
          rintro e w9 ⟨he, h9⟩
          obtain rfl : e = .returned (.int .i64 0) := by rw [he, HD.out.fine.flush]
          have HSTX : Hid (St w1.heap.size w1 w9 [noA, noA, dev a { D with img := D.now, loose := [] }, blkA gb 76 [.int .i64 2, .int .i64 TT, .int .i64 G], ownA 22 1 (.slice ao Q cap) Q vs, blkA gp 76 [.int .i64 2, .int .i64 TT, .int .i64 O], blkA gq 76 [.int .i64 3, .int .i64 TT, .int .i64 G]]) := hid (by rw [HD.out.fine.flush] at h9; exact h9)
          clear h9 he
          have x0 := (HSTX.out.blk 3 rfl).cell (j := 0) rfl
          have x1 := (HSTX.out.blk 3 rfl).cell (j := 1) rfl
          have x2 := (HSTX.out.blk 3 rfl).cell (j := 2) rfl
          go_wp2_with fail
          refine (HSTX.out.log_has (Below.refl _ _) 2 rfl 2 TT G N ao Q cap W HQ.out (by omega) (HLR.out _ _ HSTX.out rfl)).mono ?_
          rintro e w10 ⟨he, h10⟩
          obtain rfl : e = .returned (.bool true) := by rw [he, HN.out]; exact congrArg (fun z => Ending.returned (Value.bool z)) HD.out.flushed.scan
          have HEND := hid (HB1.out.trans (h10.be.mono HB1.out.size))
          clear h10 he x0 x1 x2
          go_wp2
          go_ret
          exact ⟨rfl, HEND.out⟩
end Go.Proofs.Ytlondopgibcikaa
