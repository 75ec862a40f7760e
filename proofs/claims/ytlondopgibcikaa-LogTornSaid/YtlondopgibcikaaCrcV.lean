/- The walks of crc, continued: sums, seals. -/
import Derived.Test.YtlondopgibcikaaRows
import Derived.Test.YtlondopgibcikaaPlainCrc
import Derived.Test.YtlondopgibcikaaBits
import Derived.Test.YtlondopgibcikaaHeap
import Derived.Test.YtlondopgibcikaaCrcW
import Derived.Test.YtlondopgibcikaaKit
import Derived.WalkKit
import Derived.WalkSpells
import Derived.WalkLawsBesides
import Derived.Deep.RegionHeld3
namespace Go.Proofs.Ytlondopgibcikaa
open Go.RowKit Ent

set_option maxRecDepth 100000 in
set_option maxHeartbeats 400000 in
theorem more_any (s : R32) (ao : Option Addr) (n cap : Nat) (l : List UInt8) (hn : n = l.length) (hm : n ≤ 1073741824) (w : World) (hl : SB w ao cap l) :
    Calls Try.prog 35 #[.int .u32 s.toNat, .slice ao n cap] w fun e w' => e = .returned (.int .u32 (cmore s l).toNat) ∧ Below w.heap.size w w' := by
  subst hn
  go_enter Try.func35, Try.ntmps35
  go_wp2_with (first | (go_at_call 106; ((with_reducible refine (made_any _).mono ?_); rintro e w1 ⟨rfl, hb⟩)) | (refine wpList_store_row rfl 131 (.tmp 5) (.tmp 6) rfl _ _ rfl rfl _ _ (alloc_new _ _) tab_info (zero256_size.trans tabCells_size.symm) tabCells_one ?_))
  rw [not32]
  have hs : SB ((w1.alloc (Obj.cells Try.zeroCells131 131)).setRow w1.heap.size tabCells.toArray) ao cap l :=
    hl.below (below_setRow' (hb.alloc hb.size _) hb.size _)
  with_reducible refine (fold_any (~~~ s) ao _ cap l rfl hm w1.heap.size _ (setRow_heap _ _ _ _ _ _ (alloc_new _ _)) hs).mono ?_
  rintro e w2 ⟨rfl, rfl⟩
  go_wp2
  go_ret
  exact ⟨ret_int (by rw [not32]; rfl), below_setRow' (hb.alloc hb.size _) hb.size _⟩

theorem more_zero (ao : Option Addr) (n cap : Nat) (l : List UInt8) (hn : n = l.length) (hm : n ≤ 1073741824) (w : World) (hl : SB w ao cap l) :
    Calls Try.prog 35 #[.int .u32 0, .slice ao n cap] w fun e w' => e = .returned (.int .u32 (csum l).toNat) ∧ Below w.heap.size w w' := more_any 0#32 ao n cap l hn hm w hl
theorem sum_any (ao : Option Addr) (n cap : Nat) (l : List UInt8) (hn : n = l.length) (hm : n ≤ 1073741824) (w : World) (hl : SB w ao cap l) :
    Calls Try.prog 32 #[.slice ao n cap] w fun e w' => e = .returned (.int .u32 (csum l).toNat) ∧ Below w.heap.size w w' := by
  subst hn
  go_enter Try.func32, Try.ntmps32
  go_wp2_with (go_at_call 35; ((with_reducible refine (more_zero ao _ cap l rfl hm _ hl).mono ?_); rintro e w1 ⟨rfl, hb⟩))
  go_ret
  exact ⟨rfl, hb⟩

set_option maxRecDepth 100000 in
set_option maxHeartbeats 400000 in
theorem tail_any (s : R32) (w : World) :
    Calls Try.prog 101 #[.int .u32 s.toNat] w fun e w' => e = .returned (.slice (some ⟨w.heap.size, 0, none⟩) 4 4) ∧ w' = w.alloc (.cells (bv (ctail s)).toArray 5) := by
  go_enter Try.func101, Try.ntmps101
  go_wp2
  go_ret
  refine ⟨rfl, ?_⟩
  rw [byte32_0, byte32 s 8 256 rfl, byte32 s 16 65536 rfl, byte32_24]
  rfl

set_option maxRecDepth 100000 in
set_option maxHeartbeats 400000 in
theorem seal_any (ao : Option Addr) (n cap : Nat) (l : List UInt8) (hn : n = l.length) (hm : n ≤ 1073741824) (w : World) (hl : SB w ao cap l) :
    Calls Try.prog 24 #[.slice ao n cap] w fun e w' => ∃ v, e = .returned v ∧ w'.ownsRow w.heap.size 5 1 v (l.length + 4) (bv (csealed l)) ∧ Below w.heap.size w w' := by
  subst hn
  go_enter Try.func24, Try.ntmps24
  go_wp2_with (first
    | (refine wpl_make0 rfl _ (.tmp 5) rfl w.heap.size _ (l.length + 4) rfl rfl (by omega) (by omega) (Nat.le_refl _) ?_; intro w1 ho1 hg1; have hb1 := below_of_grown_none hg1; clear hg1)
    | (refine wpl_append rfl (.tmp 6) (.tmp 7) rfl w.heap.size _ _ _ l rfl ho1 ao _ cap rfl rfl (hl.below hb1) (by omega) hb1.size ?_; intro v2 w2 ho2 hg2 _; have hb2 := below_grown hb1 ho1 hg2 (Nat.le_refl _); clear hg2 hb1 ho1)
    | (go_at_call 32; ((with_reducible refine (sum_any ao _ cap l rfl hm _ (hl.below hb2)).mono ?_); rintro e w3 ⟨rfl, hb3⟩; have ho3 := owns_below ho2 (hb3.mono (Nat.le_refl _)); have hb4 := hb2.trans (hb3.mono hb2.size); clear hb2 ho2 hb3))
    | (go_at_call 101; ((with_reducible refine (tail_any _ _).mono ?_); rintro e w4 ⟨rfl, rfl⟩))
    | (refine wpl_append rfl (.tmp 8) (.tmp 11) rfl w.heap.size _ _ _ (ctail (csum l)) rfl (ho3.alloc _) (some ⟨w3.heap.size, 0, none⟩) _ 4 rfl rfl (SB.laid _ _ _ _) (by omega) (by have := hb4.size; simp; omega) ?_; intro v5 w5 ho5 hg5 _))
  go_ret
  refine ⟨_, rfl, ?_, ?_⟩
  · simpa [csealed] using ho5
  · exact below_grown (hb4.alloc hb4.size _) (ho3.alloc _) hg5 (Nat.le_refl _)

theorem SB.take {w : World} {ao : Option Addr} {cap : Nat} {l : List UInt8} (h : SB w ao cap l) (n : Nat) : SB w ao cap (l.take n) := by
  rcases h with ⟨h1, h2, rfl⟩ | ⟨a, h1, rfl⟩ | ⟨b, o, h1, h⟩
  · exact .inl ⟨h1, h2, by simp⟩
  · exact .inr (.inl ⟨a, h1, by simp⟩)
  · refine .inr (.inr ⟨b, o, h1, fun j v hv => h j v ?_⟩)
    simp only [bv_get, List.getElem?_take] at hv ⊢
    split at hv
    · exact hv
    · simp at hv
theorem SB.drop {w : World} {b o cap : Nat} {l : List UInt8} (h : w.rangeAt b o (bv l)) (n : Nat) : SB w (some ⟨b, o + n, none⟩) cap (l.drop n) :=
  .inr (.inr ⟨b, o + n, rfl, fun j v hv => by
    rw [Nat.add_assoc]; refine h (n + j) v ?_
    rw [bv_get] at hv ⊢; simpa using hv⟩)

set_option maxRecDepth 100000 in
set_option maxHeartbeats 400000 in
theorem open_short (ao : Option Addr) (n cap : Nat) (l : List UInt8) (hn : n = l.length) (hm : n < 4) (w : World) :
    Calls Try.prog 25 #[.slice ao n cap] w fun e w' => e = .returned (.tuple #[.slice none 0 0, .int .i64 6]) ∧ w = w' := by
  subst hn
  go_enter Try.func25, Try.ntmps25
  go_wp2_with fail
  go_ret2
  exact ⟨rfl, rfl⟩

set_option maxRecDepth 100000 in
set_option maxHeartbeats 1000000 in
theorem open_long (b o n cap : Nat) (l : List UInt8) (hn : n = l.length) (hm : 4 ≤ n) (hb : n ≤ 1073741824) (hcap : n ≤ cap) (w : World) (hl : w.rangeAt b o (bv l)) :
    Calls Try.prog 25 #[.slice (some ⟨b, o, none⟩) n cap] w fun e w' => ∃ v, e = .returned (.tuple #[v, .int .i64 (cOpen l).2]) ∧ w'.ownsRow w.heap.size 5 1 v (cOpen l).1.length (bv (cOpen l).1) ∧ Below w.heap.size w w' := by
  subst hn
  have hI : (4 : Int) ≤ (l.length : Int) := by omega
  have s1 : SB w (some ⟨b, o, none⟩) cap (l.take (l.length - 4)) := SB.take (.inr (.inr ⟨b, o, rfl, hl⟩)) _
  have s2 : SB w (some ⟨b, o + (l.length - 4), none⟩) (cap - (l.length - 4)) (l.drop (l.length - 4)) := SB.drop hl _
  have c2 := fun (w : World) (h : SB w (some ⟨b, o + (l.length - 4), none⟩) (cap - (l.length - 4)) (l.drop (l.length - 4))) => b2s w _ 4 _ _ (by simp; omega) h
  have h0 : (0 : Int) ≤ (l.length : Int) - 4 := by omega
  have ht : ((l.length : Int) - 4).toNat = l.length - 4 := by omega
  have hle : (l.length : Int) - 4 ≤ (cap : Int) := by omega
  have hle2 : (l.length : Int) - 4 ≤ (l.length : Int) := by omega
  have hne : ¬ cap = l.length - 4 := by omega
  have hd : l.length - (l.length - 4) = 4 := by omega
  have hb0 : Below w.heap.size w w.drew := (Below.refl _ _).drew
  obtain ⟨B, hB⟩ : ∃ B, ((str (ctail (csum (List.take (l.length - 4) l)))).toList == (str (List.drop (l.length - 4) l)).toList) = B := ⟨_, rfl⟩
  have HB := hid hB
  go_enter Try.func25, Try.ntmps25
  go_wp2_with fail
  refine wp_region_held_drew (S := fun w' => SB w' (some ⟨b, o, none⟩) cap (l.take (l.length - 4)) ∧ SB w' (some ⟨b, o + (l.length - 4), none⟩) (cap - (l.length - 4)) (l.drop (l.length - 4)) ∧ Below w.heap.size w w') (by kernel_rfl) ⟨s1.below hb0, s2.below hb0, hb0⟩ (fun hS => ?_)
  refine wpAnyH_take (i := 0) (v := ?v0) (by simp only [List.getElem?_toArray, List.getElem?_cons_zero]; exact rfl) (by kernel_rfl) (by kernel_rfl) (by kernel_rfl) (by exact fun _ _ _ h => h) (Or.inl ⟨by rfl, ?y0⟩) hS ?r0
  case y0 => (intro w' hSw; (try dsimp only at hSw); go_simp; (try with_reducible rfl))
  simp only [Act.put, List.setIfInBounds_toArray, List.set_cons_zero, List.set_cons_succ]
  refine wpAnyH_take (i := 1) (v := ?v1) (by simp only [List.getElem?_toArray, List.getElem?_cons_zero, List.getElem?_cons_succ]; exact rfl) (by kernel_rfl) (by kernel_rfl) (by kernel_rfl) (by exact fun _ _ _ h => h) (Or.inl ⟨by rfl, ?y1⟩) hS ?r1
  case y1 => (intro w' hSw; (try dsimp only at hSw); go_simp; (try with_reducible rfl))
  simp only [Act.put, List.setIfInBounds_toArray, List.set_cons_zero, List.set_cons_succ]
  refine wpAnyH_take (i := 2) (v := ?v2) (by simp only [List.getElem?_toArray, List.getElem?_cons_zero, List.getElem?_cons_succ]; exact rfl) (by kernel_rfl) (by kernel_rfl) (by kernel_rfl) (by exact fun _ _ _ h => h) (Or.inl ⟨by rfl, ?y2⟩) hS ?r2
  case y2 => (intro w' hSw; (try dsimp only at hSw); go_simp; (try with_reducible rfl))
  simp only [Act.put, List.setIfInBounds_toArray, List.set_cons_zero, List.set_cons_succ]
  refine wpAnyH_take (i := 6) (v := ?v6) (by simp only [List.getElem?_toArray, List.getElem?_cons_zero, List.getElem?_cons_succ]; exact rfl) (by kernel_rfl) (by kernel_rfl) (by kernel_rfl) (by exact fun _ _ _ h => h) (Or.inl ⟨by rfl, ?y6⟩) hS ?r6
  case y6 => (intro w' hSw; (try dsimp only at hSw); go_simp; (try with_reducible rfl))
  simp only [Act.put, List.setIfInBounds_toArray, List.set_cons_zero, List.set_cons_succ]
  refine wpAnyH_take (i := 7) (v := ?v7) (by simp only [List.getElem?_toArray, List.getElem?_cons_zero, List.getElem?_cons_succ]; exact rfl) (by kernel_rfl) (by kernel_rfl) (by kernel_rfl) (by exact fun _ _ _ h => h) (Or.inl ⟨by rfl, ?y7⟩) hS ?r7
  case y7 => (intro w' hSw; (try dsimp only at hSw); go_simp; (try with_reducible rfl))
  simp only [Act.put, List.setIfInBounds_toArray, List.set_cons_zero, List.set_cons_succ]
  refine wpAnyH_take (i := 8) (v := ?v8) (by simp only [List.getElem?_toArray, List.getElem?_cons_zero, List.getElem?_cons_succ]; exact rfl) (by kernel_rfl) (by kernel_rfl) (by kernel_rfl) (by exact fun _ _ _ h => h) (Or.inl ⟨by rfl, ?y8⟩) hS ?r8
  case y8 => (intro w' hSw; (try dsimp only at hSw); go_simp; (try with_reducible rfl))
  simp only [Act.put, List.setIfInBounds_toArray, List.set_cons_zero, List.set_cons_succ]
  refine wpAnyH_take (i := 9) (v := ?v9) (by simp only [List.getElem?_toArray, List.getElem?_cons_zero, List.getElem?_cons_succ]; exact rfl) (by kernel_rfl) (by kernel_rfl) (by kernel_rfl) (by exact fun _ _ _ h => h) (Or.inl ⟨by rfl, ?y9⟩) hS ?r9
  case y9 => (intro w' hSw; (try dsimp only at hSw); go_simp; (try with_reducible rfl))
  simp only [Act.put, List.setIfInBounds_toArray, List.set_cons_zero, List.set_cons_succ]
  refine wpAnyH_ready (rs := [3]) (by kernel_rfl) (by simp) ?_
  refine AllReadyH.cons (by simp only [List.getElem?_toArray, List.getElem?_cons_zero, List.getElem?_cons_succ]; exact rfl) (fun K hK => ?_) AllReadyH.nil
  go_simp
  (with_reducible refine (sum_any _ _ cap (l.take (l.length - 4)) (by simp) (by simp; omega) _ hS.1).mono ?_)
  rintro e w3 ⟨rfl, hb3⟩
  refine hK.out _ _ ?k3 (fun hS => ?s3)
  case k3 => exact ⟨hS.1.below hb3, hS.2.1.below hb3, hS.2.2.trans (hb3.mono hS.2.2.size)⟩
  clear hK K
  try simp only [Act.put, List.setIfInBounds_toArray, List.set_cons_zero, List.set_cons_succ]
  refine wpAnyH_ready (rs := [4]) (by kernel_rfl) (by simp) ?_
  refine AllReadyH.cons (by simp only [List.getElem?_toArray, List.getElem?_cons_zero, List.getElem?_cons_succ]; exact rfl) (fun K hK => ?_) AllReadyH.nil
  go_simp
  (with_reducible refine (tail_any _ _).mono ?_)
  rintro e w4 ⟨rfl, rfl⟩
  refine hK.out _ _ ?k4 (fun hS => ?s4)
  case k4 => exact ⟨hS.1.below (fresh_alloc _ _), hS.2.1.below (fresh_alloc _ _), hS.2.2.trans ((fresh_alloc _ _).mono hS.2.2.size)⟩
  clear hK K
  try simp only [Act.put, List.setIfInBounds_toArray, List.set_cons_zero, List.set_cons_succ]
  refine wpAnyH_ready (rs := [5]) (by kernel_rfl) (by simp) ?_
  refine AllReadyH.cons (by simp only [List.getElem?_toArray, List.getElem?_cons_zero, List.getElem?_cons_succ]; exact rfl) (fun K hK => ?_) AllReadyH.nil
  have d := b2s (w3.alloc (Obj.cells (bv (ctail (csum (List.take (l.length - 4) l)))).toArray 5)) _ 4 4 (ctail (csum (List.take (l.length - 4) l))) rfl (SB.laid _ _ _ _)
  go_simp
  refine hK.out _ _ ?k5 (fun hS => ?s5)
  case k5 => exact hS
  clear hK K
  try simp only [Act.put, List.setIfInBounds_toArray, List.set_cons_zero, List.set_cons_succ]
  refine wpAnyH_take (i := 10) (v := ?v10) (by simp only [List.getElem?_toArray, List.getElem?_cons_zero, List.getElem?_cons_succ]; exact rfl) (by kernel_rfl) (by kernel_rfl) (by kernel_rfl) (by exact fun _ _ _ h => h) (Or.inl ⟨by rfl, ?y10⟩) hS ?r10
  case y10 => (intro w' hSw; (try dsimp only at hSw); go_simp; (try with_reducible rfl))
  simp only [Act.put, List.setIfInBounds_toArray, List.set_cons_zero, List.set_cons_succ]
  refine wpAnyH_done (by kernel_rfl) ?_ _
  have HS := hid hS
  clear hb0 hb3 hB c2 s1 s2
  cases B
  · go_wp2
    go_ret2
    have hc : ¬ ctail (csum (l.take (l.length - 4))) = l.drop (l.length - 4) := by
      intro h; have := HB.out; rw [str_eq, h, same_self] at this; cases this
    refine ⟨.slice none 0 0, ?_, ?_, HS.out.2.2⟩
    · rw [cOpen, if_neg (by omega), if_neg hc]; rfl
    · rw [cOpen, if_neg (by omega), if_neg hc]; exact World.ownsRow_nil _ _ _ _
  · have hc : Hid (ctail (csum (l.take (l.length - 4))) = l.drop (l.length - 4)) := by
      have := HB.out; rw [str_eq, same_iff] at this; exact this
    go_wp2_with (refine wpl_append rfl _ (.tmp 23) rfl w.heap.size _ _ [] (l.take (l.length - 4)) rfl (World.ownsRow_nil _ _ _ _) _ (l.length - 4) cap rfl (by simp) HS.out.1 (by omega) HS.out.2.2.size ?_; intro v5 w5 ho5 hg5 _)
    go_ret2
    refine ⟨v5, ?_, ?_, below_grown HS.out.2.2 (World.ownsRow_nil _ _ 5 1) hg5 (Nat.le_refl _)⟩
    · rw [cOpen, if_neg (by omega), if_pos hc.out]; rfl
    · rw [cOpen, if_neg (by omega), if_pos hc.out]; simpa using ho5
end Go.Proofs.Ytlondopgibcikaa
