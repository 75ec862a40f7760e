/- The walks of entrepotref01. The walks of entrepotlaw01's laws. The walks of crc, continued: columns and joins. The walk of CrcKnown. The walk of CrcParts. -/
import Derived.Test.YtlondopgibcikaaRows
import Derived.Test.YtlondopgibcikaaGBase
import Derived.WalkKit
import Derived.WalkSpells
import Derived.WalkLawsBesides
import Derived.Deep.RegionHeld3
import Derived.Lib.SlBytesConst
namespace Go.Proofs.Ytlondopgibcikaa
open Go.RowKit Ent

theorem rstep_int (r : R32) (h : bits BinOp.and IntKind.u32 (r.toNat : Int) 1 = 1) : bits BinOp.xor IntKind.u32 ((r.toNat : Int) / 2) 3988292384 = ((stp r).toNat : Int) := by
  have e1 : bits BinOp.and IntKind.u32 (r.toNat : Int) 1 = ((r &&& 1#32).toNat : Int) := and32 r 1#32
  have e2 : ((r.toNat : Int) / (2 : Int)) = ((r >>> 1).toNat : Int) := shr32 r 1 2 rfl
  have e3 : (3988292384 : Int) = (cpoly.toNat : Int) := rfl
  rw [e2, e3, xor32]
  unfold stp
  rw [if_pos]
  rw [e1, lsb_and] at h
  cases hb : r.getLsbD 0
  · rw [hb] at h; simp at h
  · rfl
theorem rstep_int0 (r : R32) (h : ¬ bits BinOp.and IntKind.u32 (r.toNat : Int) 1 = 1) : ((r.toNat : Int) / 2) = ((stp r).toNat : Int) := by
  have e1 : bits BinOp.and IntKind.u32 (r.toNat : Int) 1 = ((r &&& 1#32).toNat : Int) := and32 r 1#32
  have e2 : ((r.toNat : Int) / (2 : Int)) = ((r >>> 1).toNat : Int) := shr32 r 1 2 rfl
  rw [e2]
  unfold stp
  rw [if_neg]
  rw [e1, lsb_and] at h
  cases hb : r.getLsbD 0
  · simp
  · rw [hb] at h; simp at h

set_option maxRecDepth 100000 in
set_option maxHeartbeats 400000 in
theorem rpass_any (r : R32) (c : UInt8) (w : World) :
    Calls Try.prog 159 #[.int .u32 r.toNat, .int .u8 c.toNat] w fun e w' => e = .returned (.int .u32 (cpass r c).toNat) ∧ w = w' := by
  have hx := zb_int r c
  have hl := byte_lt c
  go_enter Try.func159, Try.ntmps159
  go_wp2
  go_loop [0, 5, 6] (fun x i _ => ∃ k : Nat, k ≤ 8 ∧ i = .int .i64 k ∧ x = .int .u32 (stps k (r ^^^ zb c)).toNat) (fun _ i _ => 8 - (intOf i).toNat)
  case atStart => exact ⟨0, Nat.zero_le _, rfl, by simp [stps]⟩
  case round =>
    clear hx hl
    obtain ⟨k, hk, rfl, rfl⟩ := hrel
    by_cases hlt : k < 8
    · have E := hid (stps_succ' k (r ^^^ zb c))
      generalize stps k (r ^^^ zb c) = q at *
      by_cases hb : bits BinOp.and IntKind.u32 (q.toNat : Int) 1 = 1
      · have hb' : (bits BinOp.and IntKind.u32 (q.toNat : Int) 1 == 1) = true := by simp [hb]
        have H := hid hb
        clear hb
        go_wp2
        go_round
        case rel => exact ⟨k + 1, by omega, by go_num, by rw [E.out, rstep_int q H.out]⟩
        case measure => simp [intOf]; omega
      · have hb' : (bits BinOp.and IntKind.u32 (q.toNat : Int) 1 == 1) = false := by simp [hb]
        have H := hid hb
        clear hb
        go_wp2
        go_round
        case rel => exact ⟨k + 1, by omega, by go_num, by rw [E.out, rstep_int0 q H.out]⟩
        case measure => simp [intOf]; omega
    · have hk8 : k = 8 := by omega
      subst hk8
      go_wp2
      go_ret
      exact ⟨rfl, rfl⟩

set_option maxRecDepth 100000 in
set_option maxHeartbeats 400000 in
theorem rmore_any (s : R32) (ao : Option Addr) (n cap : Nat) (l : List UInt8) (hn : n = l.length) (hm : n ≤ 1073741824) (w : World) (hl : SB w ao cap l) :
    Calls Try.prog 145 #[.int .u32 s.toNat, .slice ao n cap] w fun e w' => e = .returned (.int .u32 (cmore s l).toNat) ∧ w = w' := by
  subst hn
  have hN := not32 s
  obtain ⟨q, hq⟩ : ∃ q, ~~~ s = q := ⟨_, rfl⟩
  rw [hq] at hN
  have HQ := hid hq
  clear hq
  go_enter Try.func145, Try.ntmps145
  go_wp2
  go_loop [5, 6] (fun x i => ∃ k : Nat, k ≤ l.length ∧ i = .int .i64 k ∧ x = .int .u32 (regs (l.take k) q).toNat) (fun _ i => l.length - (intOf i).toNat)
  case atStart => exact ⟨0, Nat.zero_le _, rfl, rfl⟩
  case round =>
    clear hN
    obtain ⟨k, hk, rfl, rfl⟩ := hrel
    by_cases hlt : k < l.length
    · rcases hl with ⟨_, _, rfl⟩ | ⟨_, _, rfl⟩ | ⟨b, o, rfl, hr⟩
      · simp at hlt
      · simp at hlt
      · obtain ⟨x, hx⟩ : ∃ x, l[k]? = some x := ⟨l[k], by simp [hlt]⟩
        have hc := rangeAt_byte hr hx
        have E : Hid (regs (l.take (k + 1)) q = cpass (regs (l.take k) q) x) := by
          have : l.take (k + 1) = l.take k ++ [x] := by rw [List.take_add_one, hx]; rfl
          show regs (l.take (k + 1)) q = cpass (regs (l.take k) q) x
          rw [this, regs_append]; rfl
        clear hr hx
        go_wp2_with (go_at_call 159; ((with_reducible refine (rpass_any _ x _).mono ?_); rintro e w' ⟨rfl, rfl⟩))
        go_round
        case rel => exact ⟨k + 1, by omega, by go_num, by rw [E.out]⟩
        case measure => simp [intOf]; omega
    · have hkn : l.length ≤ k := by omega
      clear hl
      have E : Hid (l.take k = l) := List.take_of_length_le hkn
      go_wp2
      go_ret
      exact ⟨ret_int (by rw [E.out, not32]; unfold cmore; rw [HQ.out]), rfl⟩
theorem rmore_zero (ao : Option Addr) (n cap : Nat) (l : List UInt8) (hn : n = l.length) (hm : n ≤ 1073741824) (w : World) (hl : SB w ao cap l) :
    Calls Try.prog 145 #[.int .u32 0, .slice ao n cap] w fun e w' => e = .returned (.int .u32 (csum l).toNat) ∧ w = w' := rmore_any 0#32 ao n cap l hn hm w hl
theorem rsum_any (ao : Option Addr) (n cap : Nat) (l : List UInt8) (hn : n = l.length) (hm : n ≤ 1073741824) (w : World) (hl : SB w ao cap l) :
    Calls Try.prog 102 #[.slice ao n cap] w fun e w' => e = .returned (.int .u32 (csum l).toNat) ∧ w = w' := by
  subst hn
  go_enter Try.func102, Try.ntmps102
  go_wp2_with (go_at_call 145; ((with_reducible refine (rmore_zero ao _ cap l rfl hm _ hl).mono ?_); rintro e w1 ⟨rfl, rfl⟩))
  go_ret
  exact ⟨rfl, rfl⟩

theorem SB.tail (s : R32) (w : World) : SB (w.alloc (.cells #[.int .u8 ((s.toNat : Int) % 256), .int .u8 ((s.toNat : Int) / 256 % 256), .int .u8 ((s.toNat : Int) / 65536 % 256), .int .u8 ((s.toNat : Int) / 16777216)] 5)) (some ⟨w.heap.size, 0, none⟩) 4 (ctail s) := by
  rw [byte32_0, byte32 s 8 256 rfl, byte32 s 16 65536 rfl, byte32_24]
  exact SB.laid w (ctail s) _ 4
set_option maxRecDepth 100000 in
set_option maxHeartbeats 400000 in
theorem rseal_any (ao : Option Addr) (n cap : Nat) (l : List UInt8) (hn : n = l.length) (hm : n ≤ 1073741824) (w : World) (hl : SB w ao cap l) :
    Calls Try.prog 28 #[.slice ao n cap] w fun e w' => ∃ v, e = .returned v ∧ w'.ownsRow w.heap.size 5 1 v (l.length + 4) (bv (csealed l)) ∧ Below w.heap.size w w' := by
  subst hn
  go_enter Try.func28, Try.ntmps28
  go_wp2_with (first
    | (go_at_call 102; ((with_reducible refine (rsum_any ao _ cap l rfl hm _ hl).mono ?_); rintro e w3 ⟨rfl, rfl⟩))
    | (refine wpl_append rfl (.tmp 6) (.tmp 7) rfl w.heap.size _ _ _ l rfl (owns_empty w) ao _ cap rfl rfl (hl.below (fresh_alloc _ _)) (by omega) (by simp) ?_; intro v2 w2 ho2 hg2 _; have hb2 := below_grown (fresh_alloc _ _) (owns_empty w) hg2 (Nat.le_refl _); clear hg2)
    | (refine wpl_append rfl (.tmp 8) (.tmp 20) rfl w.heap.size _ _ _ (ctail (csum l)) rfl (ho2.alloc _) (some ⟨w2.heap.size, 0, none⟩) _ 4 rfl rfl (SB.tail _ _) (by omega) (by have := hb2.size; simp; omega) ?_; intro v5 w5 ho5 hg5 _))
  go_ret
  refine ⟨v5, rfl, ?_, below_grown (hb2.alloc hb2.size _) (ho2.alloc _) hg5 (Nat.le_refl _)⟩
  simpa [csealed, ctail_length] using ho5

set_option maxRecDepth 100000 in
set_option maxHeartbeats 400000 in
theorem ropen_short (ao : Option Addr) (n cap : Nat) (l : List UInt8) (hn : n = l.length) (hm : n < 4) (w : World) :
    Calls Try.prog 26 #[.slice ao n cap] w fun e w' => e = .returned (.tuple #[.slice none 0 0, .int .i64 6]) ∧ w = w' := by
  subst hn
  go_enter Try.func26, Try.ntmps26
  go_wp2_with fail
  go_ret2
  exact ⟨rfl, rfl⟩

theorem cOpen_sealed (l : List UInt8) : (csealed (l.take (l.length - 4)) = l) ↔ ctail (csum (l.take (l.length - 4))) = l.drop (l.length - 4) := by
  unfold csealed
  constructor
  · intro h1
    have h2 := congrArg (List.drop (l.length - 4)) h1
    rwa [List.drop_append_of_le_length (by simp), List.drop_of_length_le (by simp), List.nil_append] at h2
  · intro h1
    rw [h1, List.take_append_drop]

set_option maxRecDepth 100000 in
set_option maxHeartbeats 1000000 in
theorem ropen_long (b o n cap : Nat) (l : List UInt8) (hn : n = l.length) (hm : 4 ≤ n) (hb : n ≤ 1073741824) (hcap : n ≤ cap) (w : World) (hl : w.rangeAt b o (bv l)) :
    Calls Try.prog 26 #[.slice (some ⟨b, o, none⟩) n cap] w fun e w' => ∃ v, e = .returned (.tuple #[v, .int .i64 (cOpen l).2]) ∧ w'.ownsRow w.heap.size 5 1 v (cOpen l).1.length (bv (cOpen l).1) ∧ Below w.heap.size w w' := by
  subst hn
  have hI : (4 : Int) ≤ (l.length : Int) := by omega
  have s1 : SB w (some ⟨b, o, none⟩) cap (l.take (l.length - 4)) := SB.take (.inr (.inr ⟨b, o, rfl, hl⟩)) _
  have s2 : SB w (some ⟨b, o, none⟩) cap l := .inr (.inr ⟨b, o, rfl, hl⟩)
  have c2 := fun (w : World) (h : SB w (some ⟨b, o, none⟩) cap l) => b2s w _ _ _ _ rfl h
  obtain ⟨B, hB⟩ : ∃ B, ((str (csealed (List.take (l.length - 4) l))).toList == (str l).toList) = B := ⟨_, rfl⟩
  have HB := hid hB
  go_enter Try.func26, Try.ntmps26
  go_wp2_with (first
    | (refine wpl_append rfl (.tmp 8) (.tmp 13) rfl w.heap.size _ _ _ (l.take (l.length - 4)) rfl (owns_empty w) _ _ cap rfl (by simp) (s1.below (fresh_alloc _ _)) (by simp; omega) (by simp) ?_; intro v2 w2 ho2 hg2 _; have hb2 := below_grown (fresh_alloc _ _) (owns_empty w) hg2 (Nat.le_refl _); clear hg2; obtain ⟨ao2, cap2, rfl, hn2, hs2⟩ := SB.ofOwns ho2; have HN2 := hid hn2; clear hn2))
  have hbd : Below w.heap.size w w2.drew := hb2.drew
  refine wp_region_held_drew (S := fun w' => SB w' (some ⟨b, o, none⟩) cap l ∧ Below w.heap.size w w' ∧ w'.ownsRow w.heap.size 5 1 (.slice ao2 (0 + (l.length - 4)) cap2) (0 + (l.length - 4)) (bv ([] ++ l.take (l.length - 4)))) (by kernel_rfl) ⟨s2.below hbd, hbd, ho2⟩ (fun hS => ?_)
  refine wpAnyH_take (i := 0) (v := ?v0) (by simp only [List.getElem?_toArray, List.getElem?_cons_zero]; exact rfl) (by kernel_rfl) (by kernel_rfl) (by kernel_rfl) (by exact fun _ _ _ h => h) (Or.inl ⟨by rfl, ?y0⟩) hS ?r0
  case y0 => (intro w' hSw; (try dsimp only at hSw); go_simp; (try with_reducible rfl))
  simp only [Act.put, List.setIfInBounds_toArray, List.set_cons_zero, List.set_cons_succ]
  refine wpAnyH_take (i := 3) (v := ?v3) (by simp only [List.getElem?_toArray, List.getElem?_cons_zero, List.getElem?_cons_succ]; exact rfl) (by kernel_rfl) (by kernel_rfl) (by kernel_rfl) (by exact fun _ _ _ h => h) (Or.inl ⟨by rfl, ?y3⟩) hS ?r3
  case y3 => (intro w' hSw; (try dsimp only at hSw); go_simp; (try with_reducible rfl))
  simp only [Act.put, List.setIfInBounds_toArray, List.set_cons_zero, List.set_cons_succ]
  refine wpAnyH_take (i := 4) (v := ?v4) (by simp only [List.getElem?_toArray, List.getElem?_cons_zero, List.getElem?_cons_succ]; exact rfl) (by kernel_rfl) (by kernel_rfl) (by kernel_rfl) (by exact fun _ _ _ h => h) (Or.inl ⟨by rfl, ?y4⟩) hS ?r4
  case y4 => (intro w' hSw; (try dsimp only at hSw); go_simp; (try with_reducible rfl))
  simp only [Act.put, List.setIfInBounds_toArray, List.set_cons_zero, List.set_cons_succ]
  refine wpAnyH_ready (rs := [1]) (by kernel_rfl) (by simp) ?_
  refine AllReadyH.cons (by simp only [List.getElem?_toArray, List.getElem?_cons_zero, List.getElem?_cons_succ]; exact rfl) (fun K hK => ?_) AllReadyH.nil
  go_simp
  refine (rseal_any ao2 (l.length - 4) cap2 (l.take (l.length - 4)) (by simp) (by omega) w2.drew (hs2.below (Below.refl _ _).drew)).mono ?_
  rintro e w3 ⟨v3, rfl, ho3, hb3⟩
  obtain ⟨ao3, cap3, rfl, hn3, hs3⟩ := SB.ofOwns ho3
  refine hK.out _ _ ?k1 (fun hS => ?s1)
  case k1 => exact ⟨hS.1.below hb3, hS.2.1.trans (hb3.mono hS.2.1.size), owns_below hS.2.2 hb3⟩
  clear hK K
  try simp only [Act.put, List.setIfInBounds_toArray, List.set_cons_zero, List.set_cons_succ]
  refine wpAnyH_ready (rs := [2]) (by kernel_rfl) (by simp) ?_
  refine AllReadyH.cons (by simp only [List.getElem?_toArray, List.getElem?_cons_zero, List.getElem?_cons_succ]; exact rfl) (fun K hK => ?_) AllReadyH.nil
  have d := b2s w3 ao3 l.length cap3 _ (by rw [← hn3]; simp; omega) hs3
  clear hn3
  go_simp
  refine hK.out _ _ ?k2 (fun hS => ?s2)
  case k2 => exact hS
  clear hK K
  try simp only [Act.put, List.setIfInBounds_toArray, List.set_cons_zero, List.set_cons_succ]
  refine wpAnyH_take (i := 5) (v := ?v5) (by simp only [List.getElem?_toArray, List.getElem?_cons_zero, List.getElem?_cons_succ]; exact rfl) (by kernel_rfl) (by kernel_rfl) (by kernel_rfl) (by exact fun _ _ _ h => h) (Or.inl ⟨by rfl, ?y5⟩) hS ?r5
  case y5 => (intro w' hSw; (try dsimp only at hSw); go_simp; (try with_reducible rfl))
  simp only [Act.put, List.setIfInBounds_toArray, List.set_cons_zero, List.set_cons_succ]
  refine wpAnyH_done (by kernel_rfl) ?_ _
  have HS := hid hS
  clear hS hb2 hb3 hB c2 s1 s2 ho2 hs2 ho3 hs3 hbd d
  cases B
  · go_wp2
    go_ret2
    have hc : ¬ ctail (csum (l.take (l.length - 4))) = l.drop (l.length - 4) := by
      intro h; have := HB.out; rw [str_eq, (cOpen_sealed l).2 h, same_self] at this; cases this
    refine ⟨.slice none 0 0, ?_, ?_, HS.out.2.1⟩
    · rw [cOpen, if_neg (by omega), if_neg hc]; rfl
    · rw [cOpen, if_neg (by omega), if_neg hc]; exact World.ownsRow_nil _ _ _ _
  · have hc : Hid (ctail (csum (l.take (l.length - 4))) = l.drop (l.length - 4)) := by
      have := HB.out; rw [str_eq, same_iff] at this; exact (cOpen_sealed l).1 this
    go_wp2
    go_ret2
    refine ⟨.slice ao2 (l.length - 4) cap2, ?_, ?_, HS.out.2.1⟩
    · rw [cOpen, if_neg (by omega), if_pos hc.out]; rfl
    · rw [cOpen, if_neg (by omega), if_pos hc.out]; simpa using HS.out.2.2

theorem open_any (ao : Option Addr) (n cap : Nat) (l : List UInt8) (hn : n = l.length) (hb : n ≤ 1073741824) (hcap : n ≤ cap) (w : World) (hl : SB w ao cap l) :
    Calls Try.prog 25 #[.slice ao n cap] w fun e w' => ∃ v, e = .returned (.tuple #[v, .int .i64 (cOpen l).2]) ∧ w'.ownsRow w.heap.size 5 1 v (cOpen l).1.length (bv (cOpen l).1) ∧ Below w.heap.size w w' := by
  by_cases h4 : n < 4
  · refine (open_short ao n cap l hn h4 w).mono ?_
    rintro e w' ⟨rfl, rfl⟩
    refine ⟨.slice none 0 0, ?_, ?_, Below.refl _ _⟩
    · rw [cOpen, if_pos (by omega)]
    · rw [cOpen, if_pos (by omega)]; exact World.ownsRow_nil _ _ _ _
  · rcases hl with ⟨rfl, rfl, rfl⟩ | ⟨a, rfl, rfl⟩ | ⟨b, o, rfl, h⟩
    · simp at hn; omega
    · simp at hn; omega
    · exact open_long b o n cap l hn (by omega) hb hcap w h
theorem ropen_any (ao : Option Addr) (n cap : Nat) (l : List UInt8) (hn : n = l.length) (hb : n ≤ 1073741824) (hcap : n ≤ cap) (w : World) (hl : SB w ao cap l) :
    Calls Try.prog 26 #[.slice ao n cap] w fun e w' => ∃ v, e = .returned (.tuple #[v, .int .i64 (cOpen l).2]) ∧ w'.ownsRow w.heap.size 5 1 v (cOpen l).1.length (bv (cOpen l).1) ∧ Below w.heap.size w w' := by
  by_cases h4 : n < 4
  · refine (ropen_short ao n cap l hn h4 w).mono ?_
    rintro e w' ⟨rfl, rfl⟩
    refine ⟨.slice none 0 0, ?_, ?_, Below.refl _ _⟩
    · rw [cOpen, if_pos (by omega)]
    · rw [cOpen, if_pos (by omega)]; exact World.ownsRow_nil _ _ _ _
  · rcases hl with ⟨rfl, rfl, rfl⟩ | ⟨a, rfl, rfl⟩ | ⟨b, o, rfl, h⟩
    · simp at hn; omega
    · simp at hn; omega
    · exact ropen_long b o n cap l hn (by omega) hb hcap w h
end Go.Proofs.Ytlondopgibcikaa
namespace Go.Proofs.Ytlondopgibcikaa
open Go.RowKit Ent

theorem sum9 : ((csum [49, 50, 51, 52, 53, 54, 55, 56, 57]).toNat : Int) = 3421780262 := by decide +kernel
theorem more9 : ((cmore (csum [49, 50, 51, 52]) [53, 54, 55, 56, 57]).toNat : Int) = 3421780262 := by decide +kernel

set_option maxRecDepth 100000 in
set_option maxHeartbeats 400000 in
theorem opens1_any (ao bo : Option Addr) (n m cap d : Nat) (l r : List UInt8) (er : Int) (hn : n = l.length) (hb : n ≤ 1073741824) (hcap : n ≤ cap) (hm : m = r.length) (w : World) (hl : SB w ao cap l) (hr : SB w bo d r) (h : cOpen l = (r, er)) :
    Calls Try.prog 33 #[.slice ao n cap, .slice bo m d, .int .i64 er] w fun e w' => e = .returned (.bool true) ∧ Below w.heap.size w w' := by
  have Hm := hid hm; have Hn := hid hn
  clear hm hn
  go_enter Try.func33, Try.ntmps33
  go_wp2_with fail
  refine (open_any ao n cap l Hn.out hb hcap w hl).mono ?_
  rintro e w1 ⟨v, rfl, ho, hb1⟩
  rw [h] at ho
  obtain ⟨ao2, cap2, rfl, hn2, hs2⟩ := SB.ofOwns ho
  have H := hid h
  rw [H.out]
  clear h hn2 ho
  go_wp2_with fail
  refine (same_any ao2 bo _ m cap2 d r r rfl Hm.out _ hs2 (hr.below hb1)).mono ?_
  rintro e w2 ⟨rfl, rfl⟩
  rw [same_self]
  go_wp2
  go_ret
  exact ⟨by simp, hb1⟩

set_option maxRecDepth 100000 in
set_option maxHeartbeats 400000 in
theorem awake1_any (w : World) :
    Calls Try.prog 22 #[] w fun e w' => e = .returned (.bool true) ∧ Below w.heap.size w w' := by
  have h1 := sum9
  have h2 := more9
  have kc := fun (w : World) (C : Array Value) (n c : Nat) => Lib.run_convert_bytes_const (P := Try.prog) w 22 5 C n c Try.underlying22 Try.underlying5
  go_enter Try.func22, Try.ntmps22
  go_wp2_with fail
  refine (sum_any _ _ _ [49, 50, 51, 52, 53, 54, 55, 56, 57] rfl (by decide) _ (SB.laid _ [49, 50, 51, 52, 53, 54, 55, 56, 57] _ _)).mono ?_
  rintro e w1 ⟨rfl, hb1⟩
  have hb := (fresh_alloc w _).trans (hb1.mono (fresh_alloc w _).size)
  clear hb1
  go_wp2_with fail
  refine (sum_any _ _ _ [49, 50, 51, 52] rfl (by decide) _ (SB.laid _ [49, 50, 51, 52] _ _)).mono ?_
  rintro e w2 ⟨rfl, hb2⟩
  have hb := (hb.alloc hb.size _).trans (hb2.mono (by have := hb.size; simp; omega))
  clear hb2
  go_wp2_with fail
  refine (more_any (csum [49, 50, 51, 52]) _ _ _ [53, 54, 55, 56, 57] rfl (by decide) _ (SB.laid _ [53, 54, 55, 56, 57] _ _)).mono ?_
  rintro e w3 ⟨rfl, hb3⟩
  have hb := (hb.alloc hb.size _).trans (hb3.mono (by have := hb.size; simp; omega))
  clear hb3
  go_wp2_with fail
  refine (opens1_any _ _ _ _ _ _ [0, 0, 0, 0] [] 0 rfl (by decide) (by decide) rfl _ (SB.laid _ [0, 0, 0, 0] _ _) (SB.nil _) (by decide +kernel)).mono ?_
  rintro e w4 ⟨rfl, hb4⟩
  have hb := (hb.alloc hb.size _).trans (hb4.mono (by have := hb.size; simp; omega))
  clear hb4
  go_wp2_with fail
  refine (opens1_any _ _ _ _ _ _ [0, 0, 0] [] 6 rfl (by decide) (by decide) rfl _ (SB.laid _ [0, 0, 0] _ _) (SB.nil _) (by decide +kernel)).mono ?_
  rintro e w5 ⟨rfl, hb5⟩
  have hb := (hb.alloc hb.size _).trans (hb5.mono (by have := hb.size; simp; omega))
  go_wp2
  go_ret
  exact ⟨rfl, hb⟩
end Go.Proofs.Ytlondopgibcikaa
namespace Go.Proofs.Ytlondopgibcikaa
open Go.RowKit Ent

def colCells (n : Nat) : List Value := (List.range 32).map fun i => Value.int .u32 (colsOf n i).toNat
theorem colCells_at (n i : Nat) (h : i < 32) : (colCells n).toArray[i]? = some (Value.int .u32 (colsOf n i).toNat) := by
  have h2 : (List.range 32)[i]? = some i := by rw [List.getElem?_range h]
  simp [colCells, h2]
theorem colCells_of {n : Nat} {cs : Array Value} (hs : cs.size = 32) (h : ∀ j, j < 32 → cs[j]? = some (Value.int .u32 (colsOf n j).toNat)) : cs = (colCells n).toArray := by
  apply Array.ext_getElem?
  intro i
  by_cases hi : i < 32
  · rw [h i hi, colCells_at n i hi]
  · rw [Array.getElem?_eq_none (by omega), Array.getElem?_eq_none (by simp [colCells]; omega)]
/-- columns that are n noughts, in a block -/
def Cols (w : World) (b n : Nat) : Prop := w.heap[b]? = some (.cells (colCells n).toArray 164 (0, 0))

set_option maxRecDepth 100000 in
set_option maxHeartbeats 400000 in
theorem of_any (b n : Nat) (r : R32) (w : World) (h : Cols w b n) :
    Calls Try.prog 105 #[.pointer (some ⟨b, 0, none⟩), .int .u32 r.toNat] w fun e w' => e = .returned (.int .u32 (stps n r).toNat) ∧ w = w' := by
  have H := hid h
  clear h
  go_enter Try.func105, Try.ntmps105
  go_wp2
  go_loop [4, 5, 6] (fun x _ i => ∃ k : Nat, k ≤ 32 ∧ i = .int .i64 k ∧ x = .int .u32 (ap (colsOf n) k r).toNat) (fun _ _ i => 32 - (intOf i).toNat)
  case atStart => exact ⟨0, Nat.zero_le _, rfl, rfl⟩
  case round =>
    obtain ⟨k, hk, rfl, rfl⟩ := hrel
    by_cases hlt : k < 32
    · have hc : w.cell? ⟨b, k, none⟩ = some (.int .u32 (colsOf n k).toNat) := cell_blk H.out (colCells_at n k hlt)
      go_wp2
      · have hb : (bits BinOp.and IntKind.u32 ((r.toNat : Int) / 2 ^ k) 1 == 1) = true := by assumption
        go_round
        case rel => exact ⟨k + 1, by omega, by go_num, by rw [ap, if_pos (bit_true hb), xor32]⟩
        case measure => simp [intOf]; omega
      · have hb : (bits BinOp.and IntKind.u32 ((r.toNat : Int) / 2 ^ k) 1 == 1) = false := by assumption
        go_round
        case rel => exact ⟨k + 1, by omega, by go_num, by rw [ap, if_neg (by rw [bit_false hb]; decide)]; simp⟩
        case measure => simp [intOf]; omega
    · have hk8 : k = 32 := by omega
      subst hk8
      go_wp2
      go_ret
      exact ⟨ret_int (by rw [ap_cols]), rfl⟩

theorem ap_sq (n i : Nat) : stps n (colsOf n i) = colsOf (n + n) i := by unfold colsOf; rw [← stps_add]

set_option maxRecDepth 100000 in
set_option maxHeartbeats 400000 in
theorem squared_any (b n : Nat) (w : World) (h : Cols w b n) :
    Calls Try.prog 104 #[.pointer (some ⟨b, 0, none⟩)] w fun e w' => ∃ b', e = .returned (.pointer (some ⟨b', 0, none⟩)) ∧ Cols w' b' (n + n) ∧ w.heap.size ≤ b' ∧ Below w.heap.size w w' := by
  have H := hid h
  have hbl := lt_blk h
  clear h
  go_enter Try.func104, Try.ntmps104
  go_wp2_with fail
  go_loopw [4, 5] (fun _ i wr => ∃ k : Nat, k ≤ 32 ∧ i = .int .i64 k ∧ Below w.heap.size w wr ∧ ∃ cs : Array Value, cs.size = 32 ∧ wr.heap[w.heap.size]? = some (.cells cs 164 (0, 0)) ∧ ∀ j, j < k → cs[j]? = some (Value.int .u32 (colsOf (n + n) j).toNat)) (fun _ i _ => 32 - (intOf i).toNat)
  case atStart =>
    refine ⟨0, Nat.zero_le _, rfl, fresh_alloc _ _, _, ?_, alloc_new w _, fun j hj => by omega⟩
    rfl
  case round =>
    obtain ⟨k, hk, rfl, hB, cs, hsz, h1, hcs⟩ := hrel
    have HH := hid (And.intro hsz (And.intro h1 hcs)); clear hsz h1 hcs
    by_cases hlt : k < 32
    · obtain ⟨v, hv⟩ := at_some (show k < cs.size by rw [HH.out.1]; exact hlt)
      have hc : wr.cell? ⟨w.heap.size, k, none⟩ = some v := cell_blk HH.out.2.1 hv
      have hf := free_blk HH.out.2.1 k
      have hm : Hid (Cols wr b n) := by show Cols wr b n; unfold Cols; rw [hB.block b hbl]; exact H.out
      have hcm : wr.cell? ⟨b, k, none⟩ = some (.int .u32 (colsOf n k).toNat) := cell_blk hm.out (colCells_at n k hlt)
      clear hv
      go_wp2_with (go_at_call 105; ((with_reducible refine (of_any b n (colsOf n k) _ hm.out).mono ?_); rintro e w' ⟨rfl, rfl⟩))
      go_roundw
      case rel =>
        obtain ⟨hsz, h1, hcs⟩ := HH.out
        refine ⟨k + 1, by omega, by go_num, hB.setCell (by simp) _, _, ?_, set_blk h1 k _, ?_⟩
        · rw [size_set_blk, hsz]
        · intro j hj
          rw [Array.getElem?_setIfInBounds]
          by_cases hjk : k = j
          · subst hjk
            rw [if_pos rfl, if_pos (by omega), ap_sq]
          · rw [if_neg hjk]; exact hcs j (by omega)
      case measure => simp [intOf]; omega
    · have hk8 : k = 32 := by omega
      subst hk8
      go_wp2
      go_ret
      obtain ⟨hsz, h1, hcs⟩ := HH.out
      refine ⟨w.heap.size, rfl, ?_, Nat.le_refl _, hB⟩
      unfold Cols; rw [← colCells_of hsz hcs]; exact h1

theorem shl_int (k : Nat) (h1 : 1 ≤ k) (h2 : k < 32) : (2 ^ (k - 1) % 4294967296 : Int) = ((colsOf 1 k).toNat : Int) := by
  obtain ⟨i, rfl⟩ : ∃ i, k = i + 1 := ⟨k - 1, by omega⟩
  rw [cols_bit i (by omega), Nat.add_sub_cancel, BitVec.toNat_shiftLeft, Nat.shiftLeft_eq]
  simp

set_option maxRecDepth 100000 in
set_option maxHeartbeats 400000 in
theorem join_range (a b : R32) (n : Int) (h : n < 0 ∨ 1073741824 < n) (w : World) :
    Calls Try.prog 31 #[.int .u32 a.toNat, .int .u32 b.toNat, .int .i64 n] w fun e w' => e = .returned (.tuple #[.int .u32 0, .int .i64 3]) ∧ w = w' := by
  by_cases h0 : n < 0
  · go_enter Try.func31, Try.ntmps31
    go_wp2_with fail
    go_ret2
    exact ⟨rfl, rfl⟩
  · have h1 : 1073741824 < n := by omega
    have h2 : 0 ≤ n := by omega
    clear h h0
    go_enter Try.func31, Try.ntmps31
    go_wp2_with fail
    go_ret2
    exact ⟨rfl, rfl⟩

set_option maxRecDepth 100000 in
set_option maxHeartbeats 400000 in
theorem bit_any (w : World) :
    Calls Try.prog 103 #[] w fun e w' => ∃ b', e = .returned (.pointer (some ⟨b', 0, none⟩)) ∧ Cols w' b' 1 ∧ w.heap.size ≤ b' ∧ Below w.heap.size w w' := by
  go_enter Try.func103, Try.ntmps103
  go_wp2_with fail
  go_loopw [2] (fun i wr => ∃ k : Nat, 1 ≤ k ∧ k ≤ 32 ∧ i = .int .i64 k ∧ Below w.heap.size w wr ∧ ∃ cs : Array Value, cs.size = 32 ∧ wr.heap[w.heap.size]? = some (.cells cs 164 (0, 0)) ∧ ∀ j, j < k → cs[j]? = some (Value.int .u32 (colsOf 1 j).toNat)) (fun i _ => 32 - (intOf i).toNat)
  case atStart =>
    refine ⟨1, Nat.le_refl _, by omega, rfl, fresh_alloc _ _, _, ?_, alloc_new w _, ?_⟩
    · rfl
    · intro j hj
      have : j = 0 := by omega
      subst this
      rw [cols_bit0]; rfl
  case round =>
    obtain ⟨k, hk1, hk, rfl, hB, cs, hsz, h1, hcs⟩ := hrel
    have HH := hid (And.intro hsz (And.intro h1 hcs)); clear hsz h1 hcs
    by_cases hlt : k < 32
    · obtain ⟨v, hv⟩ := at_some (show k < cs.size by rw [HH.out.1]; exact hlt)
      have hc : wr.cell? ⟨w.heap.size, k, none⟩ = some v := cell_blk HH.out.2.1 hv
      have hf := free_blk HH.out.2.1 k
      have hI : (0 : Int) ≤ (k : Int) - 1 := by omega
      have ht : ((k : Int) - 1).toNat = k - 1 := by omega
      have hwr : IntKind.i64.wrap ((k : Int) - 1) = (k : Int) - 1 := IntWalk.i64_in _ (by omega)
      clear hv
      go_wp2_with fail
      go_region
      go_wp2
      go_roundw
      case rel =>
        obtain ⟨hsz, h1, hcs⟩ := HH.out
        refine ⟨k + 1, by omega, by omega, by go_num, (hB.setCell (by simp) _).drew, _, ?_, set_blk h1 k _, ?_⟩
        · rw [size_set_blk, hsz]
        · intro j hj
          rw [Array.getElem?_setIfInBounds]
          by_cases hjk : k = j
          · subst hjk
            rw [if_pos rfl, if_pos (by omega), shl_int k hk1 hlt]
          · rw [if_neg hjk]; exact hcs j (by omega)
      case measure => simp [intOf]; omega
    · have hk8 : k = 32 := by omega
      subst hk8
      go_wp2
      go_ret
      obtain ⟨hsz, h1, hcs⟩ := HH.out
      refine ⟨w.heap.size, rfl, ?_, Nat.le_refl _, hB⟩
      unfold Cols; rw [← colCells_of hsz hcs]; exact h1

theorem join_bits (n k : Nat) (a : R32) : stps (k * (n % 2)) a = if n % 2 = 1 then stps k a else a := by
  have : n % 2 = 0 ∨ n % 2 = 1 := by omega
  rcases this with h | h
  · rw [h]; rfl
  · rw [h]; simp
set_option maxRecDepth 100000 in
set_option maxHeartbeats 400000 in
theorem join_any (a b : R32) (n : Nat) (hn : n ≤ 1073741824) (w : World) :
    Calls Try.prog 31 #[.int .u32 a.toNat, .int .u32 b.toNat, .int .i64 n] w fun e w' => e = .returned (.tuple #[.int .u32 (cjoin a b n).toNat, .int .i64 0]) ∧ Below w.heap.size w w' := by
  go_enter Try.func31, Try.ntmps31
  go_wp2_with fail
  refine (bit_any _).mono ?_
  rintro e w1 ⟨b1, rfl, hc1, hg1, hb1⟩
  have H1 := hid (And.intro hc1 hg1); clear hc1 hg1
  go_wp2_with fail
  refine (squared_any b1 1 w1 H1.out.1).mono ?_
  rintro e w2 ⟨b2, rfl, hc2, hg2, hb2⟩
  have H2 := hid (And.intro hc2 hg2); clear hc2 hg2
  go_wp2_with fail
  refine (squared_any b2 2 w2 H2.out.1).mono ?_
  rintro e w3 ⟨b3, rfl, hc3, hg3, hb3⟩
  have H3 := hid (And.intro hc3 hg3); clear hc3 hg3
  go_wp2_with fail
  refine (squared_any b3 4 w3 H3.out.1).mono ?_
  rintro e w4 ⟨b4, rfl, hc4, hg4, hb4⟩
  have H4 := hid (And.intro hc4 hg4); clear hc4 hg4
  have hb := hb1.trans ((hb2.trans ((hb3.trans (hb4.mono hb3.size)).mono hb2.size)).mono hb1.size)
  have HB := hid hb
  clear hb1 hb2 hb3 hb4 hb
  go_wp2_with fail
  go_loopw [0, 2, 8] (fun x i m wr => ∃ (k c bm : Nat) (q : R32), i = .int .i64 k ∧ k ≤ n ∧ x = .int .u32 q.toNat ∧ m = .pointer (some ⟨bm, 0, none⟩) ∧ Cols wr bm c ∧ stps (c * k) q = stps (8 * n) a ∧ Below w.heap.size w wr) (fun _ i _ _ => (intOf i).toNat)
  case atStart => exact ⟨n, 8, b4, a, rfl, Nat.le_refl _, rfl, rfl, H4.out.1, rfl, HB.out⟩
  case round =>
    obtain ⟨k, c, bm, q, rfl, hk, rfl, rfl, hc, hq, hB⟩ := hrel
    have HC := hid hc; have HQ := hid hq; clear hc hq
    by_cases h0 : k = 0
    · subst h0
      go_wp2
      go_ret2
      have e : Hid (q = stps (8 * n) a) := HQ.out
      refine ⟨?_, hB⟩
      show Ending.returned (.tuple #[.int .u32 (bits BinOp.xor IntKind.u32 (q.toNat : Int) (b.toNat : Int)), .int .i64 0]) = _
      rw [xor32, e.out]; rfl
    · have hp : 0 < k := by omega
      have hbit := and1_i64 k (by omega)
      clear h0
      by_cases ho : k % 2 = 1
      · have hb' : (bits BinOp.and IntKind.i64 (k : Int) 1 == 1) = true := by rw [hbit, ho]; rfl
        have HO := hid ho
        clear hbit ho
        go_wp2_with fail
        refine (of_any bm c q wr HC.out).mono ?_
        rintro e w' ⟨rfl, rfl⟩
        go_wp2_with fail
        refine (squared_any bm c wr HC.out).mono ?_
        rintro e w' ⟨bm', rfl, hc', hg', hb''⟩
        have HC' := hid hc'; clear hc' hg'
        go_wp2_with fail
        go_roundw
        case rel =>
          refine ⟨k / 2, c + c, bm', stps c q, by go_num, by omega, rfl, rfl, HC'.out, ?_, hB.trans (hb''.mono hB.size)⟩
          rw [← HQ.out, ← stps_add]
          congr 1
          have := HO.out
          have e2 : k = 2 * (k / 2) + 1 := by omega
          generalize k / 2 = m at *
          subst e2
          rw [Nat.mul_add, Nat.add_mul, ← Nat.mul_assoc, Nat.mul_comm c 2, Nat.two_mul, Nat.add_mul]; omega
        case measure => simp [intOf]; omega
      · have ho2 : k % 2 = 0 := by omega
        have hb' : (bits BinOp.and IntKind.i64 (k : Int) 1 == 1) = false := by rw [hbit, ho2]; rfl
        have HO := hid ho2
        clear hbit ho ho2
        go_wp2_with fail
        refine (squared_any bm c wr HC.out).mono ?_
        rintro e w' ⟨bm', rfl, hc', hg', hb''⟩
        have HC' := hid hc'; clear hc' hg'
        go_wp2_with fail
        go_roundw
        case rel =>
          refine ⟨k / 2, c + c, bm', q, by go_num, by omega, rfl, rfl, HC'.out, ?_, hB.trans (hb''.mono hB.size)⟩
          rw [← HQ.out]
          congr 1
          have := HO.out
          have e2 : k = 2 * (k / 2) := by omega
          generalize k / 2 = m at *
          subst e2
          rw [← Nat.mul_assoc, Nat.mul_comm c 2, Nat.two_mul]
        case measure => simp [intOf]; omega
end Go.Proofs.Ytlondopgibcikaa
namespace Go.Proofs.Ytlondopgibcikaa
open Go.RowKit Ent

theorem SB.some {w : World} {ao : Option Addr} {cap : Nat} {l : List UInt8} (h : SB w ao cap l) (hl : 0 < l.length) : ∃ b o, ao = some ⟨b, o, none⟩ ∧ w.rangeAt b o (bv l) := by
  rcases h with ⟨_, _, rfl⟩ | ⟨_, _, rfl⟩ | h
  · simp at hl
  · simp at hl
  · exact h
theorem join9 : ((cjoin (csum [49, 50, 51, 52]) (csum [53, 54, 55, 56, 57]) 5).toNat : Int) = 3421780262 := by decide +kernel
theorem sum0 : ((csum []).toNat : Int) = 0 := by decide +kernel
theorem seal9 : csealed [49, 50, 51, 52, 53, 54, 55, 56, 57] = [49, 50, 51, 52, 53, 54, 55, 56, 57, 38, 57, 244, 203] := by decide +kernel
theorem seal0 : csealed [] = [0, 0, 0, 0] := by decide +kernel

set_option maxRecDepth 100000 in
set_option maxHeartbeats 1000000 in
theorem known1_any (w : World) :
    Calls Try.prog 4 #[] w fun e w' => e = .returned (.bool true) ∧ Below w.heap.size w w' := by
  have h1 := join9
  have h2 := sum0
  have kc := fun (w : World) (C : Array Value) (n c : Nat) => Lib.run_convert_bytes_const (P := Try.prog) w 22 5 C n c Try.underlying22 Try.underlying5
  go_enter Try.func4, Try.ntmps4
  go_wp2_with fail
  refine (sum_any _ _ _ [49, 50, 51, 52] rfl (by decide) _ (SB.laid _ [49, 50, 51, 52] _ _)).mono ?_
  rintro e w1 ⟨rfl, hb1⟩
  have hb := th (fresh_alloc w _) hb1
  clear hb1
  go_wp2_with fail
  refine (sum_any _ _ _ [53, 54, 55, 56, 57] rfl (by decide) _ (SB.laid _ [53, 54, 55, 56, 57] _ _)).mono ?_
  rintro e w2 ⟨rfl, hb2⟩
  have hb := tha hb hb2
  clear hb2
  go_wp2_with fail
  refine (join_any (csum [49, 50, 51, 52]) (csum [53, 54, 55, 56, 57]) 5 (by decide) _).mono ?_
  rintro e w3 ⟨rfl, hb3⟩
  have hb := th hb hb3
  clear hb3
  go_wp2_with fail
  refine (join_range 0#32 0#32 (-1) (by decide) _).mono ?_
  rintro e w4 ⟨rfl, rfl⟩
  go_wp2_with fail
  refine (seal_any _ _ _ [49, 50, 51, 52, 53, 54, 55, 56, 57] rfl (by decide) _ (SB.laid _ [49, 50, 51, 52, 53, 54, 55, 56, 57] _ _)).mono ?_
  rintro e w4 ⟨v, rfl, ho, hb4⟩
  rw [seal9] at ho
  obtain ⟨ao, cs, rfl, hn, hc, hs, -, -⟩ := own_all ho
  have hc13 : 13 ≤ cs := hc
  have hne : ¬ cs = 9 := by omega
  have hI : (9 : Int) ≤ (cs : Int) := by omega
  obtain ⟨b, o, rfl, hr⟩ := hs.some (by decide)
  have s9 : SB w4 (some ⟨b, o + 9, none⟩) (cs - 9) [38, 57, 244, 203] := SB.drop hr 9
  have hb := tha hb hb4
  clear hb4 ho hn hc hs hr
  go_wp2_with fail
  refine (awake1_any _).mono ?_
  rintro e w5 ⟨rfl, hb5⟩
  have s9 := s9.below hb5
  have hb := th hb hb5
  clear hb5
  go_wp2_with fail
  refine (sum_any none 0 0 [] rfl (by decide) _ (SB.nil _)).mono ?_
  rintro e w6 ⟨rfl, hb6⟩
  have s9 := s9.below hb6
  have hb := th hb hb6
  clear hb6
  go_wp2_with fail
  refine (same_any _ _ _ _ _ _ [38, 57, 244, 203] [38, 57, 244, 203] rfl rfl _ (s9.below (fresh_alloc _ _)) (SB.laid _ [38, 57, 244, 203] _ 4)).mono ?_
  rintro e w7 ⟨rfl, rfl⟩
  rw [same_self]
  have hb := hb.alloc hb.size (.cells (bv [38, 57, 244, 203]).toArray 5)
  clear s9
  go_wp2_with fail
  refine (seal_any none 0 0 [] rfl (by decide) _ (SB.nil _)).mono ?_
  rintro e w7 ⟨v, rfl, ho, hb7⟩
  rw [seal0] at ho
  obtain ⟨ao, cs0, rfl, hn, hc, hs, -, -⟩ := own_all ho
  have hb := th hb hb7
  clear hb7 ho hn hc
  go_wp2_with fail
  refine (same_any _ _ _ _ _ _ [0, 0, 0, 0] [0, 0, 0, 0] rfl rfl _ (hs.below (fresh_alloc _ _)) (SB.laid _ [0, 0, 0, 0] _ 4)).mono ?_
  rintro e w8 ⟨rfl, hw8⟩
  rw [same_self]
  have hb : Below w.heap.size w w8 := hw8 ▸ hb.alloc hb.size _
  clear hs hw8
  go_wp2_with fail
  refine (opens1_any _ _ _ _ _ _ [0, 0, 0, 1] [] 5 rfl (by decide) (by decide) rfl _ (SB.laid _ [0, 0, 0, 1] _ _) (SB.nil _) (by decide +kernel)).mono ?_
  rintro e w8 ⟨rfl, hb8⟩
  have hb := tha hb hb8
  go_wp2
  go_ret
  exact ⟨by simp, hb⟩
end Go.Proofs.Ytlondopgibcikaa
namespace Go.Proofs.Ytlondopgibcikaa
open Go.RowKit Ent

theorem wpl_append_g {w : World} {ops : Array Oper} {rest : List Oper} {o : Oper} {a : Act} {Q : Exit → Act → World → Prop} (hw : Region.wanted o (yielded ops a.tmps) = true) (s x : Operand)
    (ho : o.op = .call { callee := .builtin .append, args := #[s, x], argTypes := #[22, 22] })
    (base : Nat) (v : Value) (n : Nat) (xs ys : List UInt8) (hs : a.eval s = v) (hown : w.ownsRow base 5 1 v n (bv xs)) (ao : Option Addr) (m c : Nat) (hx : a.eval x = .slice ao m c) (hm : m = ys.length) (hsrc : SB w ao c ys)
    (hb : n + m ≤ 1099511627776) (hbase : base ≤ w.heap.size)
    (h : ∀ v' w', w'.ownsRow base 5 1 v' (n + m) (bv (xs ++ ys)) → w.grownBy w' v.ownBlock → (v' = .slice none 0 0 ↔ v = .slice none 0 0 ∧ m = 0) → wpList Try.prog ops Q rest (a.put o.dst v') w') : wpList Try.prog ops Q (o :: rest) a w :=
  BigFrame.wpList_want hw fun _ hK => wpo_append s x ho base v n xs ys hs hown ao m c hx hm hsrc hb hbase fun v' w' h1 h2 h3 => hK _ _ (h v' w' h1 h2 h3)
theorem pick_nat (x : Int) (n : Nat) (hn : 0 < n) : ∃ m : Nat, m < n ∧ x % (n : Int) = (m : Int) := by
  have h1 := Int.emod_nonneg x (show (n : Int) ≠ 0 by omega)
  have h2 := Int.emod_lt_of_pos x (show (0 : Int) < n by omega)
  exact ⟨(x % n).toNat, by omega, by omega⟩
theorem join_int (a b : R32) (n : Int) (k : Nat) (hk : n = (k : Int)) (hn : k ≤ 1073741824) (w : World) :
    Calls Try.prog 31 #[.int .u32 a.toNat, .int .u32 b.toNat, .int .i64 n] w fun e w' => e = .returned (.tuple #[.int .u32 (cjoin a b k).toNat, .int .i64 0]) ∧ Below w.heap.size w w' := by
  subst hk; exact join_any a b k hn w
theorem parts_join (l : List UInt8) (m : Nat) : cjoin (csum (l.take m)) (csum (l.drop m)) (l.drop m).length = csum l := by
  rw [← cmore_join, ← csum_append, List.take_append_drop]
theorem parts_more (l : List UInt8) (m : Nat) : cmore (csum (l.take m)) (l.drop m) = csum l := by
  rw [← csum_append, List.take_append_drop]
theorem parts_zeros (l z : List UInt8) : cjoin (csum l) (csum z) z.length = csum (l ++ z) := by rw [← cmore_join, ← csum_append]
theorem parts_zmore (l z : List UInt8) : cmore (csum l) z = csum (l ++ z) := (csum_append l z).symm

theorem made_SB {w : World} {base g z : Nat} {l : List UInt8} (h : w.ownsRow base 5 1 (.slice (some ⟨g, 0, none⟩) z z) z (bv l)) : SB w (some ⟨g, 0, none⟩) z l := .inr (.inr ⟨g, 0, rfl, (own_range h).2.2⟩)
set_option maxRecDepth 100000 in
set_option maxHeartbeats 1000000 in
theorem crcParts_walk (ao : Option Addr) (n cap : Nat) (l : List UInt8) (cut noughts : Int) (hn : n = l.length) (hcap : n ≤ cap) (hmx : n ≤ 9223372036854775807) (w : World) (hl : SB w ao cap l)
    (hc1 : -9223372036854775808 ≤ cut) (hc2 : cut ≤ 9223372036854775807) (hz1 : -9223372036854775808 ≤ noughts) (hz2 : noughts ≤ 9223372036854775807) :
    Calls Try.prog 5 #[.slice ao n cap, .int .i64 cut, .int .i64 noughts] w fun e w' => e = .returned (.bool true) ∧ Below w.heap.size w w' := by
  by_cases hbig : 300 < n
  · have Hn := hid hn
    clear hn
    go_enter Try.func5, Try.ntmps5
    go_wp2_with (go_at_call 4; ((with_reducible refine (known1_any _).mono ?_); rintro e w1 ⟨rfl, hb1⟩))
    go_ret
    exact ⟨rfl, hb1⟩
  have hn3 : n ≤ 300 := by omega
  subst hn
  clear hbig
  have HC := hid hcap
  obtain ⟨m, hm, em⟩ := pick_nat cut (l.length + 1) (by omega)
  obtain ⟨z, hz, ez⟩ := pick_nat noughts 1001 (by omega)
  have EM := hid em; have EZ := hid ez
  clear em ez
  have hsl := run_sl ao l.length cap m (by omega)
  have stk : Hid (SB w ao cap (l.take m)) := hl.take m
  have sdr : Hid (SB w (sl ao m cap) (cap - m) (l.drop m)) := hl.sl (by omega) hcap
  have hI1 : (0 : Int) ≤ (m : Int) := by omega
  have hI2 : (m : Int) ≤ (cap : Int) := by omega
  have hI3 : (m : Int) ≤ (l.length : Int) := by omega
  go_enter Try.func5, Try.ntmps5
  go_wp2_with fail
  refine (known1_any _).mono ?_
  rintro e w1 ⟨rfl, hb1⟩
  have HB := hid hb1
  clear hb1
  go_wp2_with fail
  refine (pick_any cut _ (by omega) (by omega) hc1 hc2 w1).mono ?_
  rintro e w' ⟨rfl, rfl⟩
  rw [show cut % ((l.length : Int) + 1) = (m : Int) from EM.out]
  go_wp2_with fail
  refine (pick_any noughts _ (by omega) (by omega) hz1 hz2 w1).mono ?_
  rintro e w' ⟨rfl, rfl⟩
  rw [show noughts % 1001 = (z : Int) from EZ.out]
  go_wp2_with fail
  have HB0 : Hid (Below w.heap.size w w1.drew) := HB.out.drew
  refine wp_region_held_drew (S := fun w' => Below w.heap.size w w') (by kernel_rfl) HB0.out (fun hS => ?_)
  refine wpAnyH_take (i := 0) (v := ?v0) (by simp only [List.getElem?_toArray, List.getElem?_cons_zero]; exact rfl) (by kernel_rfl) (by kernel_rfl) (by kernel_rfl) (by exact fun _ _ _ h => h) (Or.inl ⟨by rfl, ?y0⟩) hS ?r0
  case y0 => (intro w' hSw; (try dsimp only at hSw); go_simp; (try with_reducible rfl))
  simp only [Act.put, List.setIfInBounds_toArray, List.set_cons_zero, List.set_cons_succ]
  refine wpAnyH_take (i := 1) (v := ?v1) (by simp only [List.getElem?_toArray, List.getElem?_cons_zero, List.getElem?_cons_succ]; exact rfl) (by kernel_rfl) (by kernel_rfl) (by kernel_rfl) (by exact fun _ _ _ h => h) (Or.inl ⟨by rfl, ?y1⟩) hS ?r1
  case y1 => (intro w' hSw; (try dsimp only at hSw); go_simp; (try with_reducible rfl))
  simp only [Act.put, List.setIfInBounds_toArray, List.set_cons_zero, List.set_cons_succ]
  refine wpAnyH_take (i := 2) (v := ?v2) (by simp only [List.getElem?_toArray, List.getElem?_cons_zero, List.getElem?_cons_succ]; exact rfl) (by kernel_rfl) (by kernel_rfl) (by kernel_rfl) (by exact fun _ _ _ h => h) (Or.inl ⟨by rfl, ?y2⟩) hS ?r2
  case y2 => (intro w' hSw; (try dsimp only at hSw); go_simp; (try with_reducible rfl))
  simp only [Act.put, List.setIfInBounds_toArray, List.set_cons_zero, List.set_cons_succ]
  refine wpAnyH_take (i := 4) (v := ?v4) (by simp only [List.getElem?_toArray, List.getElem?_cons_zero, List.getElem?_cons_succ]; exact rfl) (by kernel_rfl) (by kernel_rfl) (by kernel_rfl) (by exact fun _ _ _ h => h) (Or.inl ⟨by rfl, ?y4⟩) hS ?r4
  case y4 => (intro w' hSw; (try dsimp only at hSw); go_simp; (try with_reducible rfl))
  simp only [Act.put, List.setIfInBounds_toArray, List.set_cons_zero, List.set_cons_succ]
  refine wpAnyH_take (i := 5) (v := ?v5) (by simp only [List.getElem?_toArray, List.getElem?_cons_zero, List.getElem?_cons_succ]; exact rfl) (by kernel_rfl) (by kernel_rfl) (by kernel_rfl) (by exact fun _ _ _ h => h) (Or.inl ⟨by rfl, ?y5⟩) hS ?r5
  case y5 => (intro w' hSw; (try dsimp only at hSw); go_simp; (try with_reducible rfl))
  simp only [Act.put, List.setIfInBounds_toArray, List.set_cons_zero, List.set_cons_succ]
  refine wpAnyH_take (i := 6) (v := ?v6) (by simp only [List.getElem?_toArray, List.getElem?_cons_zero, List.getElem?_cons_succ]; exact rfl) (by kernel_rfl) (by kernel_rfl) (by kernel_rfl) (by exact fun _ _ _ h => h) (Or.inl ⟨by rfl, ?y6⟩) hS ?r6
  case y6 => (intro w' hSw; (try dsimp only at hSw); go_simp; (try with_reducible rfl))
  simp only [Act.put, List.setIfInBounds_toArray, List.set_cons_zero, List.set_cons_succ]
  refine wpAnyH_ready (rs := [3]) (by kernel_rfl) (by simp) ?_
  refine AllReadyH.cons (by simp only [List.getElem?_toArray, List.getElem?_cons_zero, List.getElem?_cons_succ]; exact rfl) (fun K hK => ?_) AllReadyH.nil
  go_simp
  refine (sum_any ao m cap (l.take m) (by simp; omega) (by omega) _ (stk.out.below hS)).mono ?_
  rintro e w3 ⟨rfl, hb3⟩
  refine hK.out _ _ ?k3 (fun hS => ?s3)
  case k3 => exact th hS hb3
  clear hK K
  try simp only [Act.put, List.setIfInBounds_toArray, List.set_cons_zero, List.set_cons_succ]
  refine wpAnyH_ready (rs := [7]) (by kernel_rfl) (by simp) ?_
  refine AllReadyH.cons (by simp only [List.getElem?_toArray, List.getElem?_cons_zero, List.getElem?_cons_succ]; exact rfl) (fun K hK => ?_) AllReadyH.nil
  go_simp
  refine (sum_any (sl ao m cap) (l.length - m) (cap - m) (l.drop m) (by simp) (by omega) _ (sdr.out.below hS)).mono ?_
  rintro e w4 ⟨rfl, hb4⟩
  refine hK.out _ _ ?k7 (fun hS => ?s7)
  case k7 => exact th hS hb4
  clear hK K
  try simp only [Act.put, List.setIfInBounds_toArray, List.set_cons_zero, List.set_cons_succ]
  refine wpAnyH_take (i := 8) (v := ?v8) (by simp only [List.getElem?_toArray, List.getElem?_cons_zero, List.getElem?_cons_succ]; exact rfl) (by kernel_rfl) (by kernel_rfl) (by kernel_rfl) (by exact fun _ _ _ h => h) (Or.inl ⟨by rfl, ?y8⟩) hS ?r8
  case y8 => (intro w' hSw; (try dsimp only at hSw); go_simp; (try with_reducible rfl))
  simp only [Act.put, List.setIfInBounds_toArray, List.set_cons_zero, List.set_cons_succ]
  refine wpAnyH_take (i := 9) (v := ?v9) (by simp only [List.getElem?_toArray, List.getElem?_cons_zero, List.getElem?_cons_succ]; exact rfl) (by kernel_rfl) (by kernel_rfl) (by kernel_rfl) (by exact fun _ _ _ h => h) (Or.inl ⟨by rfl, ?y9⟩) hS ?r9
  case y9 => (intro w' hSw; (try dsimp only at hSw); go_simp; (try with_reducible rfl))
  simp only [Act.put, List.setIfInBounds_toArray, List.set_cons_zero, List.set_cons_succ]
  refine wpAnyH_done (by kernel_rfl) ?_ _
  have HB := hid hS
  clear hS hb3 hb4
  go_wp2_with fail
  refine (join_int (csum (l.take m)) (csum (l.drop m)) _ (l.drop m).length (by simp; omega) (by simp; omega) _).mono ?_
  rintro e w5 ⟨rfl, hb5⟩
  rw [parts_join]
  have HB := hid (th HB.out hb5)
  clear hb5
  have hz2' : (z : Int) ≤ 1001 := by omega
  go_wp2_with (refine wpl_make rfl (.tmp 45) (.tmp 45) rfl w5.heap.size _ _ z rfl rfl rfl rfl (by omega) (Nat.le_refl _) ?_; intro w6 ho6 hg6; have sz := hid (made_SB ho6); have hg6 := hid (below_of_grown_none hg6); clear ho6)
  have Z : ∃ zs : List UInt8, zs = List.replicate z 0 ∧ z = zs.length := ⟨_, rfl, by simp⟩
  obtain ⟨zs, hzs, hzl⟩ := Z
  have sz : Hid (SB w6 (some ⟨w5.heap.size, 0, none⟩) z zs) := by have := sz.out; rw [← hzs] at this; exact this
  have HZ := hid hzl
  clear hzs hzl
  have HB := hid (th HB.out hg6.out)
  go_wp2_with fail
  refine (sum_any ao _ cap l rfl (by omega) _ (hl.below HB.out)).mono ?_
  rintro e w7 ⟨rfl, hb7⟩
  have HB := hid (th HB.out hb7)
  have sz := hid (sz.out.below hb7)
  clear hb7
  go_wp2_with fail
  refine (sum_any _ _ z zs HZ.out (by omega) _ sz.out).mono ?_
  rintro e w8 ⟨rfl, hb8⟩
  have HB := hid (th HB.out hb8)
  have sz := hid (sz.out.below hb8)
  clear hb8
  go_wp2_with fail
  refine (join_int (csum l) (csum zs) _ zs.length (by rw [← HZ.out]) (by rw [← HZ.out]; omega) _).mono ?_
  rintro e w9 ⟨rfl, hb9⟩
  rw [parts_zeros]
  have HB := hid (th HB.out hb9)
  have sz := hid (sz.out.below hb9)
  clear hb9
  go_wp2_with fail
  refine (sum_any ao _ cap l rfl (by omega) _ (hl.below HB.out)).mono ?_
  rintro e w10 ⟨rfl, hb10⟩
  have HB := hid (th HB.out hb10)
  have sz := hid (sz.out.below hb10)
  clear hb10
  go_wp2_with fail
  refine (more_any (csum (l.take m)) (sl ao m cap) (l.length - m) (cap - m) (l.drop m) (by simp) (by omega) _ (sdr.out.below HB.out)).mono ?_
  rintro e w11 ⟨rfl, hb11⟩
  rw [parts_more]
  have HB := hid (th HB.out hb11)
  have sz := hid (sz.out.below hb11)
  clear hb11
  go_wp2_with fail
  refine (copy_any ao _ cap l rfl (by omega) _ (hl.below HB.out)).mono ?_
  rintro e w12 ⟨v, rfl, ho, hnv, hb12⟩
  have sz12 := hid (sz.out.below hb12)
  have ho := hid ho
  have HB12 := hid hb12
  have hsz : Hid (w11.heap.size ≤ w12.heap.size) := hid hb12.size
  clear hb12 hnv
  go_wp2_with (refine wpl_append_g (by rfl) (.tmp 83) (.tmp 84) rfl w11.heap.size v _ l zs rfl ho.out _ z z rfl HZ.out sz12.out (by omega) hsz.out ?_; intro v13 w13 ho13 hg13 hn13; clear hn13; have HB13 := hid (below_grown HB12.out ho.out hg13 (Nat.le_refl _)); clear hg13; have ho13 := hid (own_all ho13))
  obtain ⟨a13, c13, rfl, hn13, hc13, hs13, -, -⟩ := ho13.out
  have hs13 := hid hs13
  have hn13 := hid hn13
  clear ho13 hc13
  refine (sum_any a13 _ c13 (l ++ zs) hn13.out (by omega) _ hs13.out).mono ?_
  rintro e w14 ⟨rfl, hb14⟩
  have HB14 := hid (th HB13.out hb14)
  clear hb14
  go_wp2_with fail
  refine (more_any (csum l) _ z z zs HZ.out (by omega) _ (sz.out.below HB14.out)).mono ?_
  rintro e w15 ⟨rfl, hb15⟩
  rw [parts_zmore]
  have HB := hid (th (th HB.out HB14.out) hb15)
  clear hb15
  go_wp2_with fail
  go_ret
  exact ⟨by simp, HB.out⟩
end Go.Proofs.Ytlondopgibcikaa
