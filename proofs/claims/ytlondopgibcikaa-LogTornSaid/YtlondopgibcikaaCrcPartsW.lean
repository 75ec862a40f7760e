/- The walk of CrcParts. -/
import Derived.Test.YtlondopgibcikaaRows
import Derived.Test.YtlondopgibcikaaPlainCrc
import Derived.Test.YtlondopgibcikaaBits
import Derived.Test.YtlondopgibcikaaHeap
import Derived.Test.YtlondopgibcikaaCrcW
import Derived.Test.YtlondopgibcikaaKit
import Derived.Test.YtlondopgibcikaaCrcV
import Derived.Test.YtlondopgibcikaaRef1
import Derived.Test.YtlondopgibcikaaLaw01
import Derived.Test.YtlondopgibcikaaCrcJ
import Derived.Test.YtlondopgibcikaaCrcKnownW
import Derived.WalkKit
import Derived.WalkSpells
import Derived.WalkLawsBesides
import Derived.Deep.RegionHeld3
import Derived.Lib.SlBytesConst
namespace Go.Proofs.Ytlondopgibcikaa
open Go.RowKit Ent

theorem wpl_append_g {w : World} {ops : Array Oper} {rest : List Oper} {o : Oper} {a : Act} {Q : Exit → Act → World → Prop} (hw : Region.wanted o (yielded ops a.tmps) = true) (s x : Operand)
    (ho : o.op = .call { callee := .builtin .append, args := #[s, x], argTypes := #[22, 22] })
    (base : Nat) (v : Value) (n : Nat) (xs ys : List UInt8) (hs : a.eval s = v) (hown : w.ownsRow base 5 1 v n (bv xs)) (ao : Option Addr) (m c : Nat) (hx : a.eval x = .slice ao m c) (hm : m = ys.length) (hsrc : SB w ao c ys)
    (hb : n + m ≤ 1099511627776) (hbase : base ≤ w.heap.size)
    (h : ∀ v' w', w'.ownsRow base 5 1 v' (n + m) (bv (xs ++ ys)) → w.grownBy w' v.ownBlock → (v' = .slice none 0 0 ↔ v = .slice none 0 0 ∧ m = 0) → wpList Try.prog ops Q rest (a.put o.dst v') w') : wpList Try.prog ops Q (o :: rest) a w :=
  BigFrame.wpList_want hw fun _ hK => wpo_append s x ho base v n xs ys hs hown ao m c hx hm hsrc hb hbase fun v' w' h1 h2 h3 => hK _ _ (h v' w' h1 h2 h3)
theorem pick_nat (x : Int) (n : Nat) (hn : 0 < n) : ∃ m : Nat, m < n ∧ x % (n : Int) = (m : Int) := by
  have h1 := Int.emod_nonneg x (show (n : Int) ≠ 0 by omega)
  have h2 := Int.emod_lt_of_pos x (show (0 : Int) < n by omega)
  exact ⟨(x % n).toNat, by omega, by omega⟩
theorem join_int (a b : R32) (n : Int) (k : Nat) (hk : n = (k : Int)) (hn : k ≤ 1073741824) (w : World) :
    Calls Try.prog 31 #[.int .u32 a.toNat, .int .u32 b.toNat, .int .i64 n] w fun e w' => e = .returned (.tuple #[.int .u32 (cjoin a b k).toNat, .int .i64 0]) ∧ Below w.heap.size w w' := by
  subst hk; exact join_any a b k hn w
theorem parts_join (l : List UInt8) (m : Nat) : cjoin (csum (l.take m)) (csum (l.drop m)) (l.drop m).length = csum l := by
  rw [← cmore_join, ← csum_append, List.take_append_drop]
theorem parts_more (l : List UInt8) (m : Nat) : cmore (csum (l.take m)) (l.drop m) = csum l := by
  rw [← csum_append, List.take_append_drop]
theorem parts_zeros (l z : List UInt8) : cjoin (csum l) (csum z) z.length = csum (l ++ z) := by rw [← cmore_join, ← csum_append]
theorem parts_zmore (l z : List UInt8) : cmore (csum l) z = csum (l ++ z) := (csum_append l z).symm

theorem made_SB {w : World} {base g z : Nat} {l : List UInt8} (h : w.ownsRow base 5 1 (.slice (some ⟨g, 0, none⟩) z z) z (bv l)) : SB w (some ⟨g, 0, none⟩) z l := .inr (.inr ⟨g, 0, rfl, (own_range h).2.2⟩)
set_option maxRecDepth 100000 in
set_option maxHeartbeats 1000000 in
theorem crcParts_walk (ao : Option Addr) (n cap : Nat) (l : List UInt8) (cut noughts : Int) (hn : n = l.length) (hcap : n ≤ cap) (hmx : n ≤ 9223372036854775807) (w : World) (hl : SB w ao cap l)
    (hc1 : -9223372036854775808 ≤ cut) (hc2 : cut ≤ 9223372036854775807) (hz1 : -9223372036854775808 ≤ noughts) (hz2 : noughts ≤ 9223372036854775807) :
    Calls Try.prog 5 #[.slice ao n cap, .int .i64 cut, .int .i64 noughts] w fun e w' => e = .returned (.bool true) ∧ Below w.heap.size w w' := by
  by_cases hbig : 300 < n
  · have Hn := hid hn
    clear hn
    go_enter Try.func5, Try.ntmps5
    go_wp2_with (go_at_call 4; ((with_reducible refine (known1_any _).mono ?_); rintro e w1 ⟨rfl, hb1⟩))
    go_ret
    exact ⟨rfl, hb1⟩
  have hn3 : n ≤ 300 := by omega
  subst hn
  clear hbig
  have HC := hid hcap
  obtain ⟨m, hm, em⟩ := pick_nat cut (l.length + 1) (by omega)
  obtain ⟨z, hz, ez⟩ := pick_nat noughts 1001 (by omega)
  have EM := hid em; have EZ := hid ez
  clear em ez
  have hsl := run_sl ao l.length cap m (by omega)
  have stk : Hid (SB w ao cap (l.take m)) := hl.take m
  have sdr : Hid (SB w (sl ao m cap) (cap - m) (l.drop m)) := hl.sl (by omega) hcap
  have hI1 : (0 : Int) ≤ (m : Int) := by omega
  have hI2 : (m : Int) ≤ (cap : Int) := by omega
  have hI3 : (m : Int) ≤ (l.length : Int) := by omega
  go_enter Try.func5, Try.ntmps5
  go_wp2_with fail
  refine (known1_any _).mono ?_
  rintro e w1 ⟨rfl, hb1⟩
  have HB := hid hb1
  clear hb1
  go_wp2_with fail
  refine (pick_any cut _ (by omega) (by omega) hc1 hc2 w1).mono ?_
  rintro e w' ⟨rfl, rfl⟩
  rw [show cut % ((l.length : Int) + 1) = (m : Int) from EM.out]
  go_wp2_with fail
  refine (pick_any noughts _ (by omega) (by omega) hz1 hz2 w1).mono ?_
  rintro e w' ⟨rfl, rfl⟩
  rw [show noughts % 1001 = (z : Int) from EZ.out]
  go_wp2_with fail
  have HB0 : Hid (Below w.heap.size w w1.drew) := HB.out.drew
  refine wp_region_held_drew (S := fun w' => Below w.heap.size w w') (by kernel_rfl) HB0.out (fun hS => ?_)
  refine wpAnyH_take (i := 0) (v := ?v0) (by simp only [List.getElem?_toArray, List.getElem?_cons_zero]; exact rfl) (by kernel_rfl) (by kernel_rfl) (by kernel_rfl) (by exact fun _ _ _ h => h) (Or.inl ⟨by rfl, ?y0⟩) hS ?r0
  case y0 => (intro w' hSw; (try dsimp only at hSw); go_simp; (try with_reducible rfl))
  simp only [Act.put, List.setIfInBounds_toArray, List.set_cons_zero, List.set_cons_succ]
  refine wpAnyH_take (i := 1) (v := ?v1) (by simp only [List.getElem?_toArray, List.getElem?_cons_zero, List.getElem?_cons_succ]; exact rfl) (by kernel_rfl) (by kernel_rfl) (by kernel_rfl) (by exact fun _ _ _ h => h) (Or.inl ⟨by rfl, ?y1⟩) hS ?r1
  case y1 => (intro w' hSw; (try dsimp only at hSw); go_simp; (try with_reducible rfl))
  simp only [Act.put, List.setIfInBounds_toArray, List.set_cons_zero, List.set_cons_succ]
  refine wpAnyH_take (i := 2) (v := ?v2) (by simp only [List.getElem?_toArray, List.getElem?_cons_zero, List.getElem?_cons_succ]; exact rfl) (by kernel_rfl) (by kernel_rfl) (by kernel_rfl) (by exact fun _ _ _ h => h) (Or.inl ⟨by rfl, ?y2⟩) hS ?r2
  case y2 => (intro w' hSw; (try dsimp only at hSw); go_simp; (try with_reducible rfl))
  simp only [Act.put, List.setIfInBounds_toArray, List.set_cons_zero, List.set_cons_succ]
  refine wpAnyH_take (i := 4) (v := ?v4) (by simp only [List.getElem?_toArray, List.getElem?_cons_zero, List.getElem?_cons_succ]; exact rfl) (by kernel_rfl) (by kernel_rfl) (by kernel_rfl) (by exact fun _ _ _ h => h) (Or.inl ⟨by rfl, ?y4⟩) hS ?r4
  case y4 => (intro w' hSw; (try dsimp only at hSw); go_simp; (try with_reducible rfl))
  simp only [Act.put, List.setIfInBounds_toArray, List.set_cons_zero, List.set_cons_succ]
  refine wpAnyH_take (i := 5) (v := ?v5) (by simp only [List.getElem?_toArray, List.getElem?_cons_zero, List.getElem?_cons_succ]; exact rfl) (by kernel_rfl) (by kernel_rfl) (by kernel_rfl) (by exact fun _ _ _ h => h) (Or.inl ⟨by rfl, ?y5⟩) hS ?r5
  case y5 => (intro w' hSw; (try dsimp only at hSw); go_simp; (try with_reducible rfl))
  simp only [Act.put, List.setIfInBounds_toArray, List.set_cons_zero, List.set_cons_succ]
  refine wpAnyH_take (i := 6) (v := ?v6) (by simp only [List.getElem?_toArray, List.getElem?_cons_zero, List.getElem?_cons_succ]; exact rfl) (by kernel_rfl) (by kernel_rfl) (by kernel_rfl) (by exact fun _ _ _ h => h) (Or.inl ⟨by rfl, ?y6⟩) hS ?r6
  case y6 => (intro w' hSw; (try dsimp only at hSw); go_simp; (try with_reducible rfl))
  simp only [Act.put, List.setIfInBounds_toArray, List.set_cons_zero, List.set_cons_succ]
  refine wpAnyH_ready (rs := [3]) (by kernel_rfl) (by simp) ?_
  refine AllReadyH.cons (by simp only [List.getElem?_toArray, List.getElem?_cons_zero, List.getElem?_cons_succ]; exact rfl) (fun K hK => ?_) AllReadyH.nil
  go_simp
  refine (sum_any ao m cap (l.take m) (by simp; omega) (by omega) _ (stk.out.below hS)).mono ?_
  rintro e w3 ⟨rfl, hb3⟩
  refine hK.out _ _ ?k3 (fun hS => ?s3)
  case k3 => exact th hS hb3
  clear hK K
  try simp only [Act.put, List.setIfInBounds_toArray, List.set_cons_zero, List.set_cons_succ]
  refine wpAnyH_ready (rs := [7]) (by kernel_rfl) (by simp) ?_
  refine AllReadyH.cons (by simp only [List.getElem?_toArray, List.getElem?_cons_zero, List.getElem?_cons_succ]; exact rfl) (fun K hK => ?_) AllReadyH.nil
  go_simp
  refine (sum_any (sl ao m cap) (l.length - m) (cap - m) (l.drop m) (by simp) (by omega) _ (sdr.out.below hS)).mono ?_
  rintro e w4 ⟨rfl, hb4⟩
  refine hK.out _ _ ?k7 (fun hS => ?s7)
  case k7 => exact th hS hb4
  clear hK K
  try simp only [Act.put, List.setIfInBounds_toArray, List.set_cons_zero, List.set_cons_succ]
  refine wpAnyH_take (i := 8) (v := ?v8) (by simp only [List.getElem?_toArray, List.getElem?_cons_zero, List.getElem?_cons_succ]; exact rfl) (by kernel_rfl) (by kernel_rfl) (by kernel_rfl) (by exact fun _ _ _ h => h) (Or.inl ⟨by rfl, ?y8⟩) hS ?r8
  case y8 => (intro w' hSw; (try dsimp only at hSw); go_simp; (try with_reducible rfl))
  simp only [Act.put, List.setIfInBounds_toArray, List.set_cons_zero, List.set_cons_succ]
  refine wpAnyH_take (i := 9) (v := ?v9) (by simp only [List.getElem?_toArray, List.getElem?_cons_zero, List.getElem?_cons_succ]; exact rfl) (by kernel_rfl) (by kernel_rfl) (by kernel_rfl) (by exact fun _ _ _ h => h) (Or.inl ⟨by rfl, ?y9⟩) hS ?r9
  case y9 => (intro w' hSw; (try dsimp only at hSw); go_simp; (try with_reducible rfl))
  simp only [Act.put, List.setIfInBounds_toArray, List.set_cons_zero, List.set_cons_succ]
  refine wpAnyH_done (by kernel_rfl) ?_ _
  have HB := hid hS
  clear hS hb3 hb4
  go_wp2_with fail
  refine (join_int (csum (l.take m)) (csum (l.drop m)) _ (l.drop m).length (by simp; omega) (by simp; omega) _).mono ?_
  rintro e w5 ⟨rfl, hb5⟩
  rw [parts_join]
  have HB := hid (th HB.out hb5)
  clear hb5
  have hz2' : (z : Int) ≤ 1001 := by omega
  go_wp2_with (refine wpl_make rfl (.tmp 45) (.tmp 45) rfl w5.heap.size _ _ z rfl rfl rfl rfl (by omega) (Nat.le_refl _) ?_; intro w6 ho6 hg6; have sz := hid (made_SB ho6); have hg6 := hid (below_of_grown_none hg6); clear ho6)
  have Z : ∃ zs : List UInt8, zs = List.replicate z 0 ∧ z = zs.length := ⟨_, rfl, by simp⟩
  obtain ⟨zs, hzs, hzl⟩ := Z
  have sz : Hid (SB w6 (some ⟨w5.heap.size, 0, none⟩) z zs) := by have := sz.out; rw [← hzs] at this; exact this
  have HZ := hid hzl
  clear hzs hzl
  have HB := hid (th HB.out hg6.out)
  go_wp2_with fail
  refine (sum_any ao _ cap l rfl (by omega) _ (hl.below HB.out)).mono ?_
  rintro e w7 ⟨rfl, hb7⟩
  have HB := hid (th HB.out hb7)
  have sz := hid (sz.out.below hb7)
  clear hb7
  go_wp2_with fail
  refine (sum_any _ _ z zs HZ.out (by omega) _ sz.out).mono ?_
  rintro e w8 ⟨rfl, hb8⟩
  have HB := hid (th HB.out hb8)
  have sz := hid (sz.out.below hb8)
  clear hb8
  go_wp2_with fail
  refine (join_int (csum l) (csum zs) _ zs.length (by rw [← HZ.out]) (by rw [← HZ.out]; omega) _).mono ?_
  rintro e w9 ⟨rfl, hb9⟩
  rw [parts_zeros]
  have HB := hid (th HB.out hb9)
  have sz := hid (sz.out.below hb9)
  clear hb9
  go_wp2_with fail
  refine (sum_any ao _ cap l rfl (by omega) _ (hl.below HB.out)).mono ?_
  rintro e w10 ⟨rfl, hb10⟩
  have HB := hid (th HB.out hb10)
  have sz := hid (sz.out.below hb10)
  clear hb10
  go_wp2_with fail
  refine (more_any (csum (l.take m)) (sl ao m cap) (l.length - m) (cap - m) (l.drop m) (by simp) (by omega) _ (sdr.out.below HB.out)).mono ?_
  rintro e w11 ⟨rfl, hb11⟩
  rw [parts_more]
  have HB := hid (th HB.out hb11)
  have sz := hid (sz.out.below hb11)
  clear hb11
  go_wp2_with fail
  refine (copy_any ao _ cap l rfl (by omega) _ (hl.below HB.out)).mono ?_
  rintro e w12 ⟨v, rfl, ho, hnv, hb12⟩
  have sz12 := hid (sz.out.below hb12)
  have ho := hid ho
  have HB12 := hid hb12
  have hsz : Hid (w11.heap.size ≤ w12.heap.size) := hid hb12.size
  clear hb12 hnv
  go_wp2_with (refine wpl_append_g (by rfl) (.tmp 83) (.tmp 84) rfl w11.heap.size v _ l zs rfl ho.out _ z z rfl HZ.out sz12.out (by omega) hsz.out ?_; intro v13 w13 ho13 hg13 hn13; clear hn13; have HB13 := hid (below_grown HB12.out ho.out hg13 (Nat.le_refl _)); clear hg13; have ho13 := hid (own_all ho13))
  obtain ⟨a13, c13, rfl, hn13, hc13, hs13, -, -⟩ := ho13.out
  have hs13 := hid hs13
  have hn13 := hid hn13
  clear ho13 hc13
  refine (sum_any a13 _ c13 (l ++ zs) hn13.out (by omega) _ hs13.out).mono ?_
  rintro e w14 ⟨rfl, hb14⟩
  have HB14 := hid (th HB13.out hb14)
  clear hb14
  go_wp2_with fail
  refine (more_any (csum l) _ z z zs HZ.out (by omega) _ (sz.out.below HB14.out)).mono ?_
  rintro e w15 ⟨rfl, hb15⟩
  rw [parts_zmore]
  have HB := hid (th (th HB.out HB14.out) hb15)
  clear hb15
  go_wp2_with fail
  go_ret
  exact ⟨by simp, HB.out⟩
end Go.Proofs.Ytlondopgibcikaa
