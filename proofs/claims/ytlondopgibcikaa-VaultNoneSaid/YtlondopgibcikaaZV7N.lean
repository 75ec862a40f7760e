/- VaultNone. -/
import Derived.Test.YtlondopgibcikaaRows
import Derived.Test.YtlondopgibcikaaGBase
import Derived.Test.YtlondopgibcikaaGDevice
import Derived.Test.YtlondopgibcikaaGRefDev
import Derived.Test.YtlondopgibcikaaGLogA
import Derived.Test.YtlondopgibcikaaGLogC
import Derived.Test.YtlondopgibcikaaGRefLog
import Derived.Test.YtlondopgibcikaaGVaultA
import Derived.Test.YtlondopgibcikaaGVaultC
import Derived.Test.YtlondopgibcikaaGVaultE
import Derived.Test.YtlondopgibcikaaGVaultG
import Derived.Test.YtlondopgibcikaaZDevNone
import Derived.Test.YtlondopgibcikaaZLogNoneW
import Derived.WalkKit
import Derived.WalkSpells
import Derived.WalkLawsBesides
import Derived.Laws.IdiomStrings
namespace Go.Proofs.Ytlondopgibcikaa
open Go.RowKit Ent
/-- a vault that is nil, or that nobody opened -/
def NoneV (w : World) (v : Value) : Prop := v = .pointer none ∨ ∃ a, v = ptr a ∧ w.cell? ⟨a, 0, none⟩ = some (.pointer none)
theorem NoneV.below {w w' : World} {v : Value} (h : NoneV w v) (hb : Below w.heap.size w w') : NoneV w' v := by
  rcases h with h | ⟨a, h1, h2⟩
  · exact .inl h
  · exact .inr ⟨a, h1, by rw [hb.cell (World.block_lt_of_cell? w _ h2)]; exact h2⟩
set_option maxRecDepth 100000 in
theorem none7_none (v : Value) (w : World) (h : NoneV w v) :
    Calls Try.prog 130 #[v] w fun e w' => e = .returned (.bool true) ∧ w' = w := by
  rcases h with rfl | ⟨a, rfl, c0⟩
  · go_enter Try.func130, Try.ntmps130
    go_wp2
    go_ret
    exact ⟨rfl, rfl⟩
  · unfold ptr
    go_enter Try.func130, Try.ntmps130
    go_wp2
    go_ret
    exact ⟨rfl, rfl⟩
set_option maxRecDepth 100000 in
theorem none7_ready (v : Value) (w : World) (h : NoneV w v) :
    Calls Try.prog 121 #[v] w fun e w' => e = .returned (.int .i64 1) ∧ w' = w := by
  have H := hid h
  clear h
  go_enter Try.func121, Try.ntmps121
  go_wp2_with fail
  refine (none7_none v w H.out).mono ?_
  rintro e w' ⟨rfl, rfl⟩
  go_wp2
  go_ret
  exact ⟨rfl, rfl⟩
set_option maxRecDepth 100000 in
theorem none7_gen (v : Value) (w : World) (h : NoneV w v) :
    Calls Try.prog 90 #[v] w fun e w' => e = .returned (.int .i64 0) ∧ w' = w := by
  have H := hid h
  clear h
  go_enter Try.func90, Try.ntmps90
  go_wp2_with fail
  refine (none7_none v w H.out).mono ?_
  rintro e w' ⟨rfl, rfl⟩
  go_wp2
  go_ret
  exact ⟨rfl, rfl⟩
set_option maxRecDepth 100000 in
theorem none7_free (v : Value) (w : World) (h : NoneV w v) :
    Calls Try.prog 91 #[v] w fun e w' => e = .returned (.int .i64 0) ∧ w' = w := by
  have H := hid h
  clear h
  go_enter Try.func91, Try.ntmps91
  go_wp2_with fail
  refine (none7_none v w H.out).mono ?_
  rintro e w' ⟨rfl, rfl⟩
  go_wp2
  go_ret
  exact ⟨rfl, rfl⟩
set_option maxRecDepth 100000 in
theorem none7_records (v : Value) (w : World) (h : NoneV w v) :
    Calls Try.prog 89 #[v] w fun e w' => e = .returned (.slice none 0 0) ∧ w' = w := by
  have H := hid h
  clear h
  go_enter Try.func89, Try.ntmps89
  go_wp2_with fail
  refine (none7_none v w H.out).mono ?_
  rintro e w' ⟨rfl, rfl⟩
  go_wp2
  go_ret
  exact ⟨rfl, rfl⟩
set_option maxRecDepth 100000 in
theorem none7_append (v : Value) (ao : Option Addr) (m c : Nat) (w : World) (h : NoneV w v) :
    Calls Try.prog 87 #[v, .slice ao m c] w fun e w' => e = .returned (.int .i64 1) ∧ Below w.heap.size w w' := by
  obtain ⟨w1, hw1⟩ : ∃ w1, w.alloc (.cells #[v] 103) = w1 := ⟨_, rfl⟩
  obtain ⟨w2, hw2⟩ : ∃ w2, w1.alloc (.cells #[.slice ao m c] 22) = w2 := ⟨_, rfl⟩
  have hb2 : Below w.heap.size w w2 := by rw [← hw2, ← hw1]; exact (fresh_alloc w _).alloc (by rw [World.size_alloc]; omega) _
  have cv : w2.cell? ⟨w.heap.size, 0, none⟩ = some v := by
    rw [← hw2]; exact cell_blk (alloc_old (by rw [← hw1]; exact alloc_new w _) _) rfl
  have H := hid (h.below hb2); have HB2 := hid hb2; have HW1 := hid hw1; have HW2 := hid hw2
  obtain ⟨bv, hbv⟩ : ∃ bv, w.heap.size = bv := ⟨_, rfl⟩
  have HBV := hid hbv
  rw [hbv] at cv
  have hvt : (∃ x, v = .pointer x) := by rcases h with h | ⟨a, h, _⟩ <;> exact ⟨_, h⟩
  obtain ⟨x, rfl⟩ := hvt
  clear h hb2 hw1 hw2 hbv
  go_enter Try.func87, Try.ntmps87
  go_upto_region 1 with fail
  rw [HW1.out, HW2.out, HBV.out]
  go_wp2_with fail
  refine (none7_ready _ w2 H.out).mono ?_
  rintro e w' ⟨rfl, hw'⟩
  subst w'
  go_wp2
  go_ret
  exact ⟨rfl, HB2.out⟩
set_option maxRecDepth 100000 in
theorem none7_may (v : Value) (w : World) (h : NoneDev w v) :
    Calls Try.prog 132 #[v] w fun e w' => e = .returned (.int .i64 1) ∧ w' = w := by
  have H := hid h
  clear h
  go_enter Try.func132, Try.ntmps132
  go_wp2_with fail
  refine (none_size v w H.out).mono ?_
  rintro e w' ⟨rfl, rfl⟩
  go_wp2
  go_ret
  exact ⟨rfl, rfl⟩
set_option maxRecDepth 100000 in
theorem none7_open (v : Value) (w : World) (h : NoneDev w v) :
    Calls Try.prog 92 #[v] w fun e w' => e = .returned (.tuple #[.pointer none, .int .i64 1]) ∧ w' = w := by
  have H := hid h
  clear h
  go_enter Try.func92, Try.ntmps92
  go_wp2_with fail
  refine (none7_may v w H.out).mono ?_
  rintro e w' ⟨rfl, rfl⟩
  go_wp2
  go_ret2
  exact ⟨rfl, rfl⟩
set_option maxRecDepth 100000 in
theorem none7_format (v : Value) (w : World) (h : NoneDev w v) :
    Calls Try.prog 93 #[v] w fun e w' => e = .returned (.int .i64 1) ∧ Below w.heap.size w w' := by
  obtain ⟨w1, hw1⟩ : ∃ w1, w.alloc (.cells #[v] 41) = w1 := ⟨_, rfl⟩
  have hb1 : Below w.heap.size w w1 := by rw [← hw1]; exact fresh_alloc w _
  have cv : w1.cell? ⟨w.heap.size, 0, none⟩ = some v := by rw [← hw1]; exact cell_blk (alloc_new w _) rfl
  have H := hid (h.below hb1); have HB1 := hid hb1; have HW1 := hid hw1
  obtain ⟨bv, hbv⟩ : ∃ bv, w.heap.size = bv := ⟨_, rfl⟩
  have HBV := hid hbv
  rw [hbv] at cv
  have hvt : (∃ x, v = .pointer x) := by rcases h with h | ⟨a, h, _⟩ <;> exact ⟨_, h⟩
  obtain ⟨x, rfl⟩ := hvt
  clear h hb1 hw1 hbv
  go_enter Try.func93, Try.ntmps93
  go_upto_region 1 with fail
  rw [HW1.out, HBV.out]
  go_wp2_with fail
  refine (none7_may _ w1 H.out).mono ?_
  rintro e w' ⟨rfl, hw'⟩
  subst w'
  go_wp2
  go_ret
  exact ⟨rfl, HB1.out⟩
set_option maxRecDepth 100000 in
theorem none7_replace (v : Value) (ao : Option Addr) (m c : Nat) (w : World) (h : NoneV w v) :
    Calls Try.prog 88 #[v, .slice ao m c] w fun e w' => e = .returned (.int .i64 1) ∧ Below w.heap.size w w' := by
  obtain ⟨w1, hw1⟩ : ∃ w1, w.alloc (.cells #[v] 103) = w1 := ⟨_, rfl⟩
  obtain ⟨w2, hw2⟩ : ∃ w2, w1.alloc (.cells #[.slice ao m c] 79) = w2 := ⟨_, rfl⟩
  have hb2 : Below w.heap.size w w2 := by rw [← hw2, ← hw1]; exact (fresh_alloc w _).alloc (by rw [World.size_alloc]; omega) _
  have cv : w2.cell? ⟨w.heap.size, 0, none⟩ = some v := by
    rw [← hw2]; exact cell_blk (alloc_old (by rw [← hw1]; exact alloc_new w _) _) rfl
  obtain ⟨bv, hbv⟩ : ∃ bv, w.heap.size = bv := ⟨_, rfl⟩
  obtain ⟨bl, hbl⟩ : ∃ bl, w1.heap.size = bl := ⟨_, rfl⟩
  have H := hid (h.below hb2); have HB2 := hid hb2; have HW1 := hid hw1; have HW2 := hid hw2
  have HBV := hid hbv
  have HBL : Hid (bv + 1 = bl) := hid (by rw [← hbl, ← hw1, ← hbv]; exact (World.size_alloc _ _).symm)
  rw [hbv] at cv
  have hvt : (∃ x, v = .pointer x) := by rcases h with h | ⟨a, h, _⟩ <;> exact ⟨_, h⟩
  obtain ⟨x, rfl⟩ := hvt
  clear h hb2 hw1 hw2 hbv hbl
  go_enter Try.func88, Try.ntmps88
  go_upto_region 1 with fail
  rw [HW1.out, HBV.out, HW2.out, HBL.out]
  go_wp2_with (refine wpl_layV rowF rfl 2 _ rfl [.func (.func 121) #[.pointer x] #[], .func (.func 127) #[] #[ptr bv, ptr bl]] rfl (by omega) (by omega) (by simp [Value.cells]) (by simp [Act.eval, ptr]) ?_; intro w6 hb6 h6; have HB6 := hid hb6; have H6 := hid h6; clear hb6 h6)
  refine (vall_any w2.heap.size 2 (by omega) (fun k => if k = 0 then 121 else 127) (fun k => if k = 0 then #[.pointer x] else #[]) (fun k => if k = 0 then #[] else #[ptr bv, ptr bl]) (fun k w' => k = 0 ∧ w' = w6) (fun c w' => c = 1 ∧ w' = w6) (fun k w' hk ⟨h0, h1⟩ => by subst h0; subst h1; exact H6.out.cell (j := 0) rfl) (fun k w' hk ⟨h0, h1⟩ => by
    subst h0; subst h1
    refine (none7_ready _ w' (H.out.below HB6.out)).mono ?_
    rintro e w9 ⟨rfl, rfl⟩
    exact ⟨1, rfl, fun h => by omega, fun _ => ⟨rfl, rfl⟩⟩) (fun k hk xs w' => by
    rcases (by omega : k = 0 ∨ k = 1) with rfl | rfl
    · exact enter_ready xs w'
    · exact enter_r1 xs w') w6 ⟨rfl, rfl⟩).mono ?_
  rintro e w7 ⟨c7, rfl, h0, h1⟩
  have hc7 : c7 = 1 ∧ w7 = w6 := by
    by_cases hc : c7 = 0
    · have := (h0 hc).1; omega
    · exact h1 hc
  obtain ⟨rfl, rfl⟩ := hc7
  clear h0 h1
  have HB7 := hid (HB2.out.trans (HB6.out.mono HB2.out.size))
  go_wp2
  go_ret
  exact ⟨rfl, HB7.out⟩
set_option maxRecDepth 100000 in
set_option maxHeartbeats 2000000 in
theorem vaultNone_walk (ao : Option Addr) (m c : Nat) (hm : m ≤ 9223372036854775807) (w : World) :
    Calls Try.prog 19 #[.slice ao m c] w fun e w' => e = .returned (.bool true) ∧ Below w.heap.size w w' := by
  by_cases hbig : 60 < m
  · have qd : decide ((60 : Int) < (m : Int)) = true := decide_eq_true (by omega)
    go_enter Try.func19, Try.ntmps19
    go_wp2_with fail
    refine (awake7_any w).mono ?_
    rintro e w2 ⟨rfl, hb⟩
    have HB := hid hb
    clear hb
    go_wp2
    go_ret
    exact ⟨rfl, HB.out⟩
  · have qd : decide ((60 : Int) < (m : Int)) = false := decide_eq_false (by omega)
    obtain ⟨wA1, hwA⟩ : ∃ wA, w.alloc (.cells #[.pointer none, .int .i64 0, .int .i64 0, .slice none 0 0, .bool false] 105) = wA := ⟨_, rfl⟩
    obtain ⟨wB1, hwB⟩ : ∃ wB, wA1.alloc (.cells #[.pointer none, ptr w.heap.size] 103) = wB := ⟨_, rfl⟩
    obtain ⟨bA1, hbA⟩ : ∃ bA, w.heap.size = bA := ⟨_, rfl⟩
    obtain ⟨bB1, hbB⟩ : ∃ bB, wA1.heap.size = bB := ⟨_, rfl⟩
    rw [hbA] at hwB
    have HAB1 : Hid (bA1 + 1 = bB1) := hid (by rw [← hbB, ← hwA, ← hbA]; exact (World.size_alloc _ _).symm)
    have HB1 : Hid (Below w.heap.size w wB1) := hid (by rw [← hwB, ← hwA]; exact (fresh_alloc w _).alloc (by rw [World.size_alloc]; omega) _)
    have HV1 : Hid (∀ k : Nat, k < 2 → ∃ x, wB1.cell? ⟨bB1, k, none⟩ = some (.pointer x) ∧ NoneV wB1 (.pointer x)) := hid (by
      intro k hlt
      rw [← hwB, ← hbB]
      have h1 := alloc_new wA1 (.cells #[.pointer none, ptr bA1] 103)
      match k, hlt with
      | 0, _ => exact ⟨none, cell_blk h1 rfl, .inl rfl⟩
      | 1, _ => exact ⟨some ⟨bA1, 0, none⟩, cell_blk h1 rfl, .inr ⟨bA1, rfl, cell_blk (alloc_old (by rw [← hwA, ← hbA]; exact alloc_new w _) _) rfl⟩⟩)
    have HWA1 := hid hwA; have HWB1 := hid hwB; have HbA1 := hid hbA; have HbB1 := hid hbB
    unfold ptr at HWB1
    clear hwA hwB hbA hbB
    go_enter Try.func19, Try.ntmps19
    go_upto_region 4 with fail
    rw [HbA1.out, HWA1.out, HAB1.out, HWB1.out]
    go_wp2_with fail
    go_loopw [4] (fun i wr => ∃ k : Nat, k ≤ 2 ∧ i = .int .i64 k ∧ Below wB1.heap.size wB1 wr) (fun i _ => 2 - (intOf i).toNat)
    case atStart => exact ⟨0, by omega, rfl, Below.refl _ _⟩
    case round =>
      obtain ⟨k, hk, rfl, hbr⟩ := hrel
      have HBR := hid hbr
      clear hbr
      by_cases hlt : k < 2
      · obtain ⟨v, hv0, hN⟩ := HV1.out k hlt
        have hv : wr.cell? ⟨bB1, k, none⟩ = some (.pointer v) := by rw [HBR.out.cell (World.block_lt_of_cell? _ _ hv0)]; exact hv0
        have HN := hid (hN.below HBR.out)
        clear hN hv0
        go_wp2_with fail
        refine (none7_append _ ao m c wr HN.out).mono ?_
        rintro e wa ⟨rfl, hb⟩
        have HNa := hid (HN.out.below hb); have HRa := hid (th HBR.out hb)
        clear hb hv
        go_wp2_with fail
        refine (none7_replace _ _ 1 1 _ (HNa.out.below (fresh_alloc wa _))).mono ?_
        rintro e wb ⟨rfl, hb⟩
        have hb := (fresh_alloc wa (.cells #[.slice ao m c] 22)).trans (hb.mono (by rw [World.size_alloc]; omega))
        have HNb := hid (HNa.out.below hb); have HRb := hid (th HRa.out hb)
        clear hb
        go_wp2_with fail
        refine (none7_records _ wb HNb.out).mono ?_
        rintro e w' ⟨rfl, hw'⟩
        subst w'
        go_wp2_with fail
        refine (none7_gen _ wb HNb.out).mono ?_
        rintro e w' ⟨rfl, hw'⟩
        subst w'
        go_wp2_with fail
        refine (none7_free _ wb HNb.out).mono ?_
        rintro e w' ⟨rfl, hw'⟩
        subst w'
        go_wp2
        go_roundw
        case rel => exact ⟨k + 1, by omega, by go_num, HRb.out⟩
        case measure => simp [intOf]; omega
      · obtain rfl : k = 2 := by omega
        have HBX : Hid (Below w.heap.size w wr) := hid (HB1.out.trans (HBR.out.mono HB1.out.size))
        clear HV1 HWA1 HWB1 HbA1 HbB1 HAB1 HB1 HBR
        obtain ⟨wo, hwo⟩ : ∃ wo : World, wo = wr := ⟨_, rfl⟩
        subst hwo
        obtain ⟨wA2, hwA⟩ : ∃ wA, wo.alloc (.cells #[.slice none 0 0, .slice none 0 0, .slice none 0 0, .nilFunc, .int .i64 0, .bool false] 70) = wA := ⟨_, rfl⟩
        obtain ⟨wB2, hwB⟩ : ∃ wB, wA2.alloc (.cells #[.pointer none, ptr wo.heap.size] 41) = wB := ⟨_, rfl⟩
        obtain ⟨bA2, hbA⟩ : ∃ bA, wo.heap.size = bA := ⟨_, rfl⟩
        obtain ⟨bB2, hbB⟩ : ∃ bB, wA2.heap.size = bB := ⟨_, rfl⟩
        rw [hbA] at hwB
        have HAB2 : Hid (bA2 + 1 = bB2) := hid (by rw [← hbB, ← hwA, ← hbA]; exact (World.size_alloc _ _).symm)
        have HB2 : Hid (Below wo.heap.size wo wB2) := hid (by rw [← hwB, ← hwA]; exact (fresh_alloc wo _).alloc (by rw [World.size_alloc]; omega) _)
        have HV2 : Hid (∀ k : Nat, k < 2 → ∃ x, wB2.cell? ⟨bB2, k, none⟩ = some (.pointer x) ∧ NoneDev wB2 (.pointer x)) := hid (by
          intro k hlt
          rw [← hwB, ← hbB]
          have h1 := alloc_new wA2 (.cells #[.pointer none, ptr bA2] 41)
          match k, hlt with
          | 0, _ => exact ⟨none, cell_blk h1 rfl, .inl rfl⟩
          | 1, _ => exact ⟨some ⟨bA2, 0, none⟩, cell_blk h1 rfl, .inr ⟨bA2, rfl, cell_blk (alloc_old (by rw [← hwA, ← hbA]; exact alloc_new wo _) _) rfl⟩⟩)
        have HWA2 := hid hwA; have HWB2 := hid hwB; have HbA2 := hid hbA; have HbB2 := hid hbB
        unfold ptr at HWB2
        clear hwA hwB hbA hbB
        go_upto_region 11 with fail
        rw [HbA2.out, HWA2.out, HAB2.out, HWB2.out]
        go_wp2_with fail
        go_loopw [7] (fun i wr => ∃ k : Nat, k ≤ 2 ∧ i = .int .i64 k ∧ Below wB2.heap.size wB2 wr) (fun i _ => 2 - (intOf i).toNat)
        case atStart => exact ⟨0, by omega, rfl, Below.refl _ _⟩
        case round =>
          obtain ⟨k, hk, rfl, hbr⟩ := hrel
          have HBR := hid hbr
          clear hbr
          by_cases hlt : k < 2
          · obtain ⟨v, hv0, hN⟩ := HV2.out k hlt
            have hv : wr.cell? ⟨bB2, k, none⟩ = some (.pointer v) := by rw [HBR.out.cell (World.block_lt_of_cell? _ _ hv0)]; exact hv0
            have HN := hid (hN.below HBR.out)
            clear hN hv0
            go_wp2_with fail
            refine (none7_open _ wr HN.out).mono ?_
            rintro e w' ⟨rfl, hw'⟩
            subst w'
            go_wp2_with fail
            refine (none7_format _ wr HN.out).mono ?_
            rintro e wa ⟨rfl, hb⟩
            have HRa := hid (th HBR.out hb)
            clear hb
            go_wp2
            go_roundw
            case rel => (repeat apply Exists.intro); exact ⟨⟨k + 1, by omega, by go_num, HRa.out⟩, rfl⟩
            case measure => simp [intOf]; omega
          · obtain rfl : k = 2 := by omega
            have HBY : Hid (Below w.heap.size w wr) := hid (HBX.out.trans ((HB2.out.trans (HBR.out.mono HB2.out.size)).mono HBX.out.size))
            go_wp2_with fail
            refine (awake7_any wr).mono ?_
            rintro e w9 ⟨rfl, hb⟩
            have HB9 := hid (th HBY.out hb)
            clear hb
            go_wp2
            go_ret
            exact ⟨rfl, HB9.out⟩
end Go.Proofs.Ytlondopgibcikaa
