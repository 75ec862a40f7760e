/- The walks of entrepotref01. -/
import Derived.Test.YtlondopgibcikaaRows
import Derived.Test.YtlondopgibcikaaPlainCrc
import Derived.Test.YtlondopgibcikaaBits
import Derived.Test.YtlondopgibcikaaHeap
import Derived.Test.YtlondopgibcikaaCrcW
import Derived.Test.YtlondopgibcikaaKit
import Derived.Test.YtlondopgibcikaaCrcV
import Derived.WalkKit
import Derived.WalkSpells
import Derived.WalkLawsBesides
import Derived.Deep.RegionHeld3
namespace Go.Proofs.Ytlondopgibcikaa
open Go.RowKit Ent

theorem rstep_int (r : R32) (h : bits BinOp.and IntKind.u32 (r.toNat : Int) 1 = 1) : bits BinOp.xor IntKind.u32 ((r.toNat : Int) / 2) 3988292384 = ((stp r).toNat : Int) := by
  have e1 : bits BinOp.and IntKind.u32 (r.toNat : Int) 1 = ((r &&& 1#32).toNat : Int) := and32 r 1#32
  have e2 : ((r.toNat : Int) / (2 : Int)) = ((r >>> 1).toNat : Int) := shr32 r 1 2 rfl
  have e3 : (3988292384 : Int) = (cpoly.toNat : Int) := rfl
  rw [e2, e3, xor32]
  unfold stp
  rw [if_pos]
  rw [e1, lsb_and] at h
  cases hb : r.getLsbD 0
  · rw [hb] at h; simp at h
  · rfl
theorem rstep_int0 (r : R32) (h : ¬ bits BinOp.and IntKind.u32 (r.toNat : Int) 1 = 1) : ((r.toNat : Int) / 2) = ((stp r).toNat : Int) := by
  have e1 : bits BinOp.and IntKind.u32 (r.toNat : Int) 1 = ((r &&& 1#32).toNat : Int) := and32 r 1#32
  have e2 : ((r.toNat : Int) / (2 : Int)) = ((r >>> 1).toNat : Int) := shr32 r 1 2 rfl
  rw [e2]
  unfold stp
  rw [if_neg]
  rw [e1, lsb_and] at h
  cases hb : r.getLsbD 0
  · simp
  · rw [hb] at h; simp at h

set_option maxRecDepth 100000 in
set_option maxHeartbeats 400000 in
theorem rpass_any (r : R32) (c : UInt8) (w : World) :
    Calls Try.prog 159 #[.int .u32 r.toNat, .int .u8 c.toNat] w fun e w' => e = .returned (.int .u32 (cpass r c).toNat) ∧ w = w' := by
  have hx := zb_int r c
  have hl := byte_lt c
  go_enter Try.func159, Try.ntmps159
  go_wp2
  go_loop [0, 5, 6] (fun x i _ => ∃ k : Nat, k ≤ 8 ∧ i = .int .i64 k ∧ x = .int .u32 (stps k (r ^^^ zb c)).toNat) (fun _ i _ => 8 - (intOf i).toNat)
  case atStart => exact ⟨0, Nat.zero_le _, rfl, by simp [stps]⟩
  case round =>
    clear hx hl
    obtain ⟨k, hk, rfl, rfl⟩ := hrel
    by_cases hlt : k < 8
    · have E := hid (stps_succ' k (r ^^^ zb c))
      generalize stps k (r ^^^ zb c) = q at *
      by_cases hb : bits BinOp.and IntKind.u32 (q.toNat : Int) 1 = 1
      · have hb' : (bits BinOp.and IntKind.u32 (q.toNat : Int) 1 == 1) = true := by simp [hb]
        have H := hid hb
        clear hb
        go_wp2
        go_round
        case rel => exact ⟨k + 1, by omega, by go_num, by rw [E.out, rstep_int q H.out]⟩
        case measure => simp [intOf]; omega
      · have hb' : (bits BinOp.and IntKind.u32 (q.toNat : Int) 1 == 1) = false := by simp [hb]
        have H := hid hb
        clear hb
        go_wp2
        go_round
        case rel => exact ⟨k + 1, by omega, by go_num, by rw [E.out, rstep_int0 q H.out]⟩
        case measure => simp [intOf]; omega
    · have hk8 : k = 8 := by omega
      subst hk8
      go_wp2
      go_ret
      exact ⟨rfl, rfl⟩

set_option maxRecDepth 100000 in
set_option maxHeartbeats 400000 in
theorem rmore_any (s : R32) (ao : Option Addr) (n cap : Nat) (l : List UInt8) (hn : n = l.length) (hm : n ≤ 1073741824) (w : World) (hl : SB w ao cap l) :
    Calls Try.prog 145 #[.int .u32 s.toNat, .slice ao n cap] w fun e w' => e = .returned (.int .u32 (cmore s l).toNat) ∧ w = w' := by
  subst hn
  have hN := not32 s
  obtain ⟨q, hq⟩ : ∃ q, ~~~ s = q := ⟨_, rfl⟩
  rw [hq] at hN
  have HQ := hid hq
  clear hq
  go_enter Try.func145, Try.ntmps145
  go_wp2
  go_loop [5, 6] (fun x i => ∃ k : Nat, k ≤ l.length ∧ i = .int .i64 k ∧ x = .int .u32 (regs (l.take k) q).toNat) (fun _ i => l.length - (intOf i).toNat)
  case atStart => exact ⟨0, Nat.zero_le _, rfl, rfl⟩
  case round =>
    clear hN
    obtain ⟨k, hk, rfl, rfl⟩ := hrel
    by_cases hlt : k < l.length
    · rcases hl with ⟨_, _, rfl⟩ | ⟨_, _, rfl⟩ | ⟨b, o, rfl, hr⟩
      · simp at hlt
      · simp at hlt
      · obtain ⟨x, hx⟩ : ∃ x, l[k]? = some x := ⟨l[k], by simp [hlt]⟩
        have hc := rangeAt_byte hr hx
        have E : Hid (regs (l.take (k + 1)) q = cpass (regs (l.take k) q) x) := by
          have : l.take (k + 1) = l.take k ++ [x] := by rw [List.take_add_one, hx]; rfl
          show regs (l.take (k + 1)) q = cpass (regs (l.take k) q) x
          rw [this, regs_append]; rfl
        clear hr hx
        go_wp2_with (go_at_call 159; ((with_reducible refine (rpass_any _ x _).mono ?_); rintro e w' ⟨rfl, rfl⟩))
        go_round
        case rel => exact ⟨k + 1, by omega, by go_num, by rw [E.out]⟩
        case measure => simp [intOf]; omega
    · have hkn : l.length ≤ k := by omega
      clear hl
      have E : Hid (l.take k = l) := List.take_of_length_le hkn
      go_wp2
      go_ret
      exact ⟨ret_int (by rw [E.out, not32]; unfold cmore; rw [HQ.out]), rfl⟩
theorem rmore_zero (ao : Option Addr) (n cap : Nat) (l : List UInt8) (hn : n = l.length) (hm : n ≤ 1073741824) (w : World) (hl : SB w ao cap l) :
    Calls Try.prog 145 #[.int .u32 0, .slice ao n cap] w fun e w' => e = .returned (.int .u32 (csum l).toNat) ∧ w = w' := rmore_any 0#32 ao n cap l hn hm w hl
theorem rsum_any (ao : Option Addr) (n cap : Nat) (l : List UInt8) (hn : n = l.length) (hm : n ≤ 1073741824) (w : World) (hl : SB w ao cap l) :
    Calls Try.prog 102 #[.slice ao n cap] w fun e w' => e = .returned (.int .u32 (csum l).toNat) ∧ w = w' := by
  subst hn
  go_enter Try.func102, Try.ntmps102
  go_wp2_with (go_at_call 145; ((with_reducible refine (rmore_zero ao _ cap l rfl hm _ hl).mono ?_); rintro e w1 ⟨rfl, rfl⟩))
  go_ret
  exact ⟨rfl, rfl⟩

theorem SB.tail (s : R32) (w : World) : SB (w.alloc (.cells #[.int .u8 ((s.toNat : Int) % 256), .int .u8 ((s.toNat : Int) / 256 % 256), .int .u8 ((s.toNat : Int) / 65536 % 256), .int .u8 ((s.toNat : Int) / 16777216)] 5)) (some ⟨w.heap.size, 0, none⟩) 4 (ctail s) := by
  rw [byte32_0, byte32 s 8 256 rfl, byte32 s 16 65536 rfl, byte32_24]
  exact SB.laid w (ctail s) _ 4
set_option maxRecDepth 100000 in
set_option maxHeartbeats 400000 in
theorem rseal_any (ao : Option Addr) (n cap : Nat) (l : List UInt8) (hn : n = l.length) (hm : n ≤ 1073741824) (w : World) (hl : SB w ao cap l) :
    Calls Try.prog 28 #[.slice ao n cap] w fun e w' => ∃ v, e = .returned v ∧ w'.ownsRow w.heap.size 5 1 v (l.length + 4) (bv (csealed l)) ∧ Below w.heap.size w w' := by
  subst hn
  go_enter Try.func28, Try.ntmps28
  go_wp2_with (first
    | (go_at_call 102; ((with_reducible refine (rsum_any ao _ cap l rfl hm _ hl).mono ?_); rintro e w3 ⟨rfl, rfl⟩))
    | (refine wpl_append rfl (.tmp 6) (.tmp 7) rfl w.heap.size _ _ _ l rfl (owns_empty w) ao _ cap rfl rfl (hl.below (fresh_alloc _ _)) (by omega) (by simp) ?_; intro v2 w2 ho2 hg2 _; have hb2 := below_grown (fresh_alloc _ _) (owns_empty w) hg2 (Nat.le_refl _); clear hg2)
    | (refine wpl_append rfl (.tmp 8) (.tmp 20) rfl w.heap.size _ _ _ (ctail (csum l)) rfl (ho2.alloc _) (some ⟨w2.heap.size, 0, none⟩) _ 4 rfl rfl (SB.tail _ _) (by omega) (by have := hb2.size; simp; omega) ?_; intro v5 w5 ho5 hg5 _))
  go_ret
  refine ⟨v5, rfl, ?_, below_grown (hb2.alloc hb2.size _) (ho2.alloc _) hg5 (Nat.le_refl _)⟩
  simpa [csealed, ctail_length] using ho5

set_option maxRecDepth 100000 in
set_option maxHeartbeats 400000 in
theorem ropen_short (ao : Option Addr) (n cap : Nat) (l : List UInt8) (hn : n = l.length) (hm : n < 4) (w : World) :
    Calls Try.prog 26 #[.slice ao n cap] w fun e w' => e = .returned (.tuple #[.slice none 0 0, .int .i64 6]) ∧ w = w' := by
  subst hn
  go_enter Try.func26, Try.ntmps26
  go_wp2_with fail
  go_ret2
  exact ⟨rfl, rfl⟩

theorem cOpen_sealed (l : List UInt8) : (csealed (l.take (l.length - 4)) = l) ↔ ctail (csum (l.take (l.length - 4))) = l.drop (l.length - 4) := by
  unfold csealed
  constructor
  · intro h1
    have h2 := congrArg (List.drop (l.length - 4)) h1
    rwa [List.drop_append_of_le_length (by simp), List.drop_of_length_le (by simp), List.nil_append] at h2
  · intro h1
    rw [h1, List.take_append_drop]

set_option maxRecDepth 100000 in
set_option maxHeartbeats 1000000 in
theorem ropen_long (b o n cap : Nat) (l : List UInt8) (hn : n = l.length) (hm : 4 ≤ n) (hb : n ≤ 1073741824) (hcap : n ≤ cap) (w : World) (hl : w.rangeAt b o (bv l)) :
    Calls Try.prog 26 #[.slice (some ⟨b, o, none⟩) n cap] w fun e w' => ∃ v, e = .returned (.tuple #[v, .int .i64 (cOpen l).2]) ∧ w'.ownsRow w.heap.size 5 1 v (cOpen l).1.length (bv (cOpen l).1) ∧ Below w.heap.size w w' := by
  subst hn
  have hI : (4 : Int) ≤ (l.length : Int) := by omega
  have s1 : SB w (some ⟨b, o, none⟩) cap (l.take (l.length - 4)) := SB.take (.inr (.inr ⟨b, o, rfl, hl⟩)) _
  have s2 : SB w (some ⟨b, o, none⟩) cap l := .inr (.inr ⟨b, o, rfl, hl⟩)
  have c2 := fun (w : World) (h : SB w (some ⟨b, o, none⟩) cap l) => b2s w _ _ _ _ rfl h
  obtain ⟨B, hB⟩ : ∃ B, ((str (csealed (List.take (l.length - 4) l))).toList == (str l).toList) = B := ⟨_, rfl⟩
  have HB := hid hB
  go_enter Try.func26, Try.ntmps26
  go_wp2_with (first
    | (refine wpl_append rfl (.tmp 8) (.tmp 13) rfl w.heap.size _ _ _ (l.take (l.length - 4)) rfl (owns_empty w) _ _ cap rfl (by simp) (s1.below (fresh_alloc _ _)) (by simp; omega) (by simp) ?_; intro v2 w2 ho2 hg2 _; have hb2 := below_grown (fresh_alloc _ _) (owns_empty w) hg2 (Nat.le_refl _); clear hg2; obtain ⟨ao2, cap2, rfl, hn2, hs2⟩ := SB.ofOwns ho2; have HN2 := hid hn2; clear hn2))
  have hbd : Below w.heap.size w w2.drew := hb2.drew
  refine wp_region_held_drew (S := fun w' => SB w' (some ⟨b, o, none⟩) cap l ∧ Below w.heap.size w w' ∧ w'.ownsRow w.heap.size 5 1 (.slice ao2 (0 + (l.length - 4)) cap2) (0 + (l.length - 4)) (bv ([] ++ l.take (l.length - 4)))) (by kernel_rfl) ⟨s2.below hbd, hbd, ho2⟩ (fun hS => ?_)
  refine wpAnyH_take (i := 0) (v := ?v0) (by simp only [List.getElem?_toArray, List.getElem?_cons_zero]; exact rfl) (by kernel_rfl) (by kernel_rfl) (by kernel_rfl) (by exact fun _ _ _ h => h) (Or.inl ⟨by rfl, ?y0⟩) hS ?r0
  case y0 => (intro w' hSw; (try dsimp only at hSw); go_simp; (try with_reducible rfl))
  simp only [Act.put, List.setIfInBounds_toArray, List.set_cons_zero, List.set_cons_succ]
  refine wpAnyH_take (i := 3) (v := ?v3) (by simp only [List.getElem?_toArray, List.getElem?_cons_zero, List.getElem?_cons_succ]; exact rfl) (by kernel_rfl) (by kernel_rfl) (by kernel_rfl) (by exact fun _ _ _ h => h) (Or.inl ⟨by rfl, ?y3⟩) hS ?r3
  case y3 => (intro w' hSw; (try dsimp only at hSw); go_simp; (try with_reducible rfl))
  simp only [Act.put, List.setIfInBounds_toArray, List.set_cons_zero, List.set_cons_succ]
  refine wpAnyH_take (i := 4) (v := ?v4) (by simp only [List.getElem?_toArray, List.getElem?_cons_zero, List.getElem?_cons_succ]; exact rfl) (by kernel_rfl) (by kernel_rfl) (by kernel_rfl) (by exact fun _ _ _ h => h) (Or.inl ⟨by rfl, ?y4⟩) hS ?r4
  case y4 => (intro w' hSw; (try dsimp only at hSw); go_simp; (try with_reducible rfl))
  simp only [Act.put, List.setIfInBounds_toArray, List.set_cons_zero, List.set_cons_succ]
  refine wpAnyH_ready (rs := [1]) (by kernel_rfl) (by simp) ?_
  refine AllReadyH.cons (by simp only [List.getElem?_toArray, List.getElem?_cons_zero, List.getElem?_cons_succ]; exact rfl) (fun K hK => ?_) AllReadyH.nil
  go_simp
  refine (rseal_any ao2 (l.length - 4) cap2 (l.take (l.length - 4)) (by simp) (by omega) w2.drew (hs2.below (Below.refl _ _).drew)).mono ?_
  rintro e w3 ⟨v3, rfl, ho3, hb3⟩
  obtain ⟨ao3, cap3, rfl, hn3, hs3⟩ := SB.ofOwns ho3
  refine hK.out _ _ ?k1 (fun hS => ?s1)
  case k1 => exact ⟨hS.1.below hb3, hS.2.1.trans (hb3.mono hS.2.1.size), owns_below hS.2.2 hb3⟩
  clear hK K
  try simp only [Act.put, List.setIfInBounds_toArray, List.set_cons_zero, List.set_cons_succ]
  refine wpAnyH_ready (rs := [2]) (by kernel_rfl) (by simp) ?_
  refine AllReadyH.cons (by simp only [List.getElem?_toArray, List.getElem?_cons_zero, List.getElem?_cons_succ]; exact rfl) (fun K hK => ?_) AllReadyH.nil
  have d := b2s w3 ao3 l.length cap3 _ (by rw [← hn3]; simp; omega) hs3
  clear hn3
  go_simp
  refine hK.out _ _ ?k2 (fun hS => ?s2)
  case k2 => exact hS
  clear hK K
  try simp only [Act.put, List.setIfInBounds_toArray, List.set_cons_zero, List.set_cons_succ]
  refine wpAnyH_take (i := 5) (v := ?v5) (by simp only [List.getElem?_toArray, List.getElem?_cons_zero, List.getElem?_cons_succ]; exact rfl) (by kernel_rfl) (by kernel_rfl) (by kernel_rfl) (by exact fun _ _ _ h => h) (Or.inl ⟨by rfl, ?y5⟩) hS ?r5
  case y5 => (intro w' hSw; (try dsimp only at hSw); go_simp; (try with_reducible rfl))
  simp only [Act.put, List.setIfInBounds_toArray, List.set_cons_zero, List.set_cons_succ]
  refine wpAnyH_done (by kernel_rfl) ?_ _
  have HS := hid hS
  clear hS hb2 hb3 hB c2 s1 s2 ho2 hs2 ho3 hs3 hbd d
  cases B
  · go_wp2
    go_ret2
    have hc : ¬ ctail (csum (l.take (l.length - 4))) = l.drop (l.length - 4) := by
      intro h; have := HB.out; rw [str_eq, (cOpen_sealed l).2 h, same_self] at this; cases this
    refine ⟨.slice none 0 0, ?_, ?_, HS.out.2.1⟩
    · rw [cOpen, if_neg (by omega), if_neg hc]; rfl
    · rw [cOpen, if_neg (by omega), if_neg hc]; exact World.ownsRow_nil _ _ _ _
  · have hc : Hid (ctail (csum (l.take (l.length - 4))) = l.drop (l.length - 4)) := by
      have := HB.out; rw [str_eq, same_iff] at this; exact (cOpen_sealed l).1 this
    go_wp2
    go_ret2
    refine ⟨.slice ao2 (l.length - 4) cap2, ?_, ?_, HS.out.2.1⟩
    · rw [cOpen, if_neg (by omega), if_pos hc.out]; rfl
    · rw [cOpen, if_neg (by omega), if_pos hc.out]; simpa using HS.out.2.2

theorem open_any (ao : Option Addr) (n cap : Nat) (l : List UInt8) (hn : n = l.length) (hb : n ≤ 1073741824) (hcap : n ≤ cap) (w : World) (hl : SB w ao cap l) :
    Calls Try.prog 25 #[.slice ao n cap] w fun e w' => ∃ v, e = .returned (.tuple #[v, .int .i64 (cOpen l).2]) ∧ w'.ownsRow w.heap.size 5 1 v (cOpen l).1.length (bv (cOpen l).1) ∧ Below w.heap.size w w' := by
  by_cases h4 : n < 4
  · refine (open_short ao n cap l hn h4 w).mono ?_
    rintro e w' ⟨rfl, rfl⟩
    refine ⟨.slice none 0 0, ?_, ?_, Below.refl _ _⟩
    · rw [cOpen, if_pos (by omega)]
    · rw [cOpen, if_pos (by omega)]; exact World.ownsRow_nil _ _ _ _
  · rcases hl with ⟨rfl, rfl, rfl⟩ | ⟨a, rfl, rfl⟩ | ⟨b, o, rfl, h⟩
    · simp at hn; omega
    · simp at hn; omega
    · exact open_long b o n cap l hn (by omega) hb hcap w h
theorem ropen_any (ao : Option Addr) (n cap : Nat) (l : List UInt8) (hn : n = l.length) (hb : n ≤ 1073741824) (hcap : n ≤ cap) (w : World) (hl : SB w ao cap l) :
    Calls Try.prog 26 #[.slice ao n cap] w fun e w' => ∃ v, e = .returned (.tuple #[v, .int .i64 (cOpen l).2]) ∧ w'.ownsRow w.heap.size 5 1 v (cOpen l).1.length (bv (cOpen l).1) ∧ Below w.heap.size w w' := by
  by_cases h4 : n < 4
  · refine (ropen_short ao n cap l hn h4 w).mono ?_
    rintro e w' ⟨rfl, rfl⟩
    refine ⟨.slice none 0 0, ?_, ?_, Below.refl _ _⟩
    · rw [cOpen, if_pos (by omega)]
    · rw [cOpen, if_pos (by omega)]; exact World.ownsRow_nil _ _ _ _
  · rcases hl with ⟨rfl, rfl, rfl⟩ | ⟨a, rfl, rfl⟩ | ⟨b, o, rfl, h⟩
    · simp at hn; omega
    · simp at hn; omega
    · exact ropen_long b o n cap l hn (by omega) hb hcap w h
end Go.Proofs.Ytlondopgibcikaa
