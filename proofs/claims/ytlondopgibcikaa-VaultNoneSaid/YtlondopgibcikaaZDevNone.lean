/- The walk of DeviceNone. -/
import Derived.Test.YtlondopgibcikaaRows
import Derived.Test.YtlondopgibcikaaGBase
import Derived.Test.YtlondopgibcikaaGDevice
import Derived.Test.YtlondopgibcikaaGRefDev
import Derived.WalkKit
import Derived.WalkSpells
import Derived.WalkLawsBesides
import Derived.Deep.RegionHeld3
import Derived.Lib.SliceRun
namespace Go.Proofs.Ytlondopgibcikaa
open Go.RowKit Ent

/-- a device that is nil, or that nobody made -/
def NoneDev (w : World) (v : Value) : Prop := v = .pointer none ∨ ∃ a, v = ptr a ∧ w.cell? ⟨a, 0, none⟩ = some (.slice none 0 0)
set_option maxRecDepth 100000 in
set_option maxHeartbeats 400000 in
theorem none_none (v : Value) (w : World) (h : NoneDev w v) :
    Calls Try.prog 109 #[v] w fun e w' => e = .returned (.bool true) ∧ w' = w := by
  have e67 := fun w a n c => Lib.run_eql_slice_nil (P := Try.prog) w 67 136 a n c 0 0 Try.underlying67
  rcases h with rfl | ⟨a, rfl, c0⟩
  · go_enter Try.func109, Try.ntmps109
    go_wp2
    go_ret
    exact ⟨rfl, rfl⟩
  · unfold ptr
    go_enter Try.func109, Try.ntmps109
    go_wp2
    go_ret
    exact ⟨rfl, rfl⟩
set_option maxRecDepth 100000 in
set_option maxHeartbeats 400000 in
theorem none_ready (v : Value) (w : World) (h : NoneDev w v) :
    Calls Try.prog 110 #[v] w fun e w' => e = .returned (.int .i64 1) ∧ w' = w := by
  have H := hid h
  clear h
  go_enter Try.func110, Try.ntmps110
  go_wp2_with fail
  refine (none_none v w H.out).mono ?_
  rintro e w' ⟨rfl, rfl⟩
  go_wp2
  go_ret
  exact ⟨rfl, rfl⟩
set_option maxRecDepth 100000 in
set_option maxHeartbeats 400000 in
theorem none_size (v : Value) (w : World) (h : NoneDev w v) :
    Calls Try.prog 55 #[v] w fun e w' => e = .returned (.int .i64 0) ∧ w' = w := by
  have H := hid h
  clear h
  go_enter Try.func55, Try.ntmps55
  go_wp2_with fail
  refine (none_none v w H.out).mono ?_
  rintro e w' ⟨rfl, rfl⟩
  go_wp2
  go_ret
  exact ⟨rfl, rfl⟩
set_option maxRecDepth 100000 in
set_option maxHeartbeats 400000 in
theorem none_loose (v : Value) (w : World) (h : NoneDev w v) :
    Calls Try.prog 50 #[v] w fun e w' => e = .returned (.int .i64 0) ∧ w' = w := by
  have H := hid h
  clear h
  go_enter Try.func50, Try.ntmps50
  go_wp2_with fail
  refine (none_none v w H.out).mono ?_
  rintro e w' ⟨rfl, rfl⟩
  go_wp2
  go_ret
  exact ⟨rfl, rfl⟩
set_option maxRecDepth 100000 in
set_option maxHeartbeats 400000 in
theorem none_out (v : Value) (w : World) (h : NoneDev w v) :
    Calls Try.prog 42 #[v] w fun e w' => e = .returned (.bool false) ∧ w' = w := by
  have H := hid h
  clear h
  go_enter Try.func42, Try.ntmps42
  go_wp2_with fail
  refine (none_none v w H.out).mono ?_
  rintro e w' ⟨rfl, rfl⟩
  go_wp2
  go_ret
  exact ⟨rfl, rfl⟩
set_option maxRecDepth 100000 in
set_option maxHeartbeats 400000 in
theorem none_flush (v : Value) (w : World) (h : NoneDev w v) :
    Calls Try.prog 41 #[v] w fun e w' => e = .returned (.int .i64 1) ∧ w' = w := by
  have H := hid h
  clear h
  go_enter Try.func41, Try.ntmps41
  go_wp2_with fail
  refine (none_ready v w H.out).mono ?_
  rintro e w' ⟨rfl, rfl⟩
  go_wp2
  go_ret
  exact ⟨rfl, rfl⟩
set_option maxRecDepth 100000 in
set_option maxHeartbeats 400000 in
theorem none_fuse (v : Value) (n : Int) (w : World) (h : NoneDev w v) :
    Calls Try.prog 40 #[v, .int .i64 n] w fun e w' => e = .returned (.int .i64 1) ∧ w' = w := by
  have H := hid h
  clear h
  go_enter Try.func40, Try.ntmps40
  go_wp2_with fail
  refine (none_ready v w H.out).mono ?_
  rintro e w' ⟨rfl, rfl⟩
  go_wp2
  go_ret
  exact ⟨rfl, rfl⟩
set_option maxRecDepth 100000 in
set_option maxHeartbeats 400000 in
theorem none_write (v : Value) (n : Int) (ao : Option Addr) (m c : Nat) (w : World) (h : NoneDev w v) :
    Calls Try.prog 48 #[v, .int .i64 n, .slice ao m c] w fun e w' => e = .returned (.int .i64 1) ∧ w' = w := by
  have H := hid h
  clear h
  go_enter Try.func48, Try.ntmps48
  go_wp2_with fail
  refine (none_ready v w H.out).mono ?_
  rintro e w' ⟨rfl, rfl⟩
  go_wp2
  go_ret
  exact ⟨rfl, rfl⟩
set_option maxRecDepth 100000 in
set_option maxHeartbeats 400000 in
theorem none_crash (v : Value) (n : Int) (ao : Option Addr) (m c : Nat) (w : World) (h : NoneDev w v) :
    Calls Try.prog 39 #[v, .slice ao m c, .int .i64 n] w fun e w' => e = .returned (.int .i64 1) ∧ w' = w := by
  have H := hid h
  clear h
  go_enter Try.func39, Try.ntmps39
  go_wp2_with fail
  refine (none_none v w H.out).mono ?_
  rintro e w' ⟨rfl, rfl⟩
  go_wp2
  go_ret
  exact ⟨rfl, rfl⟩
set_option maxRecDepth 100000 in
set_option maxHeartbeats 400000 in
theorem none_read (v : Value) (n : Int) (w : World) (h : NoneDev w v) :
    Calls Try.prog 43 #[v, .int .i64 n] w fun e w' => e = .returned (.tuple #[.slice none 0 0, .int .i64 1]) ∧ w' = w := by
  have H := hid h
  clear h
  go_enter Try.func43, Try.ntmps43
  go_wp2_with fail
  refine (none_ready v w H.out).mono ?_
  rintro e w' ⟨rfl, rfl⟩
  go_wp2
  go_ret2
  exact ⟨rfl, rfl⟩
set_option maxRecDepth 100000 in
set_option maxHeartbeats 400000 in
theorem none_image (v : Value) (n : Int) (w : World) (h : NoneDev w v) :
    Calls Try.prog 51 #[v, .int .i64 n] w fun e w' => e = .returned (.tuple #[.slice none 0 0, .int .i64 1]) ∧ w' = w := by
  have H := hid h
  clear h
  go_enter Try.func51, Try.ntmps51
  go_wp2_with fail
  refine (none_none v w H.out).mono ?_
  rintro e w' ⟨rfl, rfl⟩
  go_wp2
  go_ret2
  exact ⟨rfl, rfl⟩
set_option maxRecDepth 100000 in
set_option maxHeartbeats 1000000 in
theorem deviceNone_walk (n : Int) (ao : Option Addr) (m c : Nat) (hm : m ≤ 9223372036854775807) (w : World) :
    Calls Try.prog 11 #[.int .i64 n, .slice ao m c] w fun e w' => e = .returned (.bool true) ∧ Below w.heap.size w w' := by
  by_cases hbig : 70 < m
  · go_enter Try.func11, Try.ntmps11
    go_wp2_with fail
    refine (awake5_any w).mono ?_
    rintro e w1 ⟨rfl, hb⟩
    have HB := hid hb
    clear hb
    go_wp2
    go_ret
    exact ⟨rfl, HB.out⟩
  · go_enter Try.func11, Try.ntmps11
    go_wp2_with fail
    obtain ⟨w2, hw2⟩ : ∃ w2, w2 = (w.alloc (.cells #[.slice none 0 0, .slice none 0 0, .slice none 0 0, .nilFunc, .int .i64 0, .bool false] 70)).alloc (.cells #[.pointer none, ptr w.heap.size] 41) := ⟨_, rfl⟩
    have HW := hid hw2
    go_loopw [6] (fun i wr => ∃ k : Nat, k ≤ 2 ∧ i = .int .i64 k ∧ wr = w2) (fun i _ => 2 - (intOf i).toNat)
    case atStart => exact ⟨0, by omega, rfl, hw2.symm⟩
    case round =>
      obtain ⟨k, hk, rfl, rfl⟩ := hrel
      clear hw2
      by_cases hlt : k < 2
      · obtain ⟨v, hv, hN⟩ : ∃ v, wr.cell? ⟨w.heap.size + 1, k, none⟩ = some v ∧ NoneDev wr v := by
          rw [HW.out]
          have h1 := alloc_new (w.alloc (.cells #[.slice none 0 0, .slice none 0 0, .slice none 0 0, .nilFunc, .int .i64 0, .bool false] 70)) (.cells #[.pointer none, ptr w.heap.size] 41)
          rw [show (w.alloc (.cells #[.slice none 0 0, .slice none 0 0, .slice none 0 0, .nilFunc, .int .i64 0, .bool false] 70)).heap.size = w.heap.size + 1 by simp] at h1
          match k, hlt with
          | 0, _ => exact ⟨_, cell_blk h1 rfl, .inl rfl⟩
          | 1, _ => exact ⟨_, cell_blk h1 rfl, .inr ⟨_, rfl, cell_blk (alloc_old (alloc_new w _) _) rfl⟩⟩
        have HN := hid hN
        clear hN
        go_wp2_with fail
        refine (none_read v n _ HN.out).mono ?_
        rintro e w' ⟨rfl, rfl⟩
        go_wp2_with fail
        refine (none_image v n _ HN.out).mono ?_
        rintro e w' ⟨rfl, rfl⟩
        go_wp2_with fail
        refine (none_size v _ HN.out).mono ?_
        rintro e w' ⟨rfl, rfl⟩
        go_wp2_with fail
        refine (none_loose v _ HN.out).mono ?_
        rintro e w' ⟨rfl, rfl⟩
        go_wp2_with fail
        refine (none_out v _ HN.out).mono ?_
        rintro e w' ⟨rfl, rfl⟩
        go_wp2_with fail
        refine (none_write v n ao m c _ HN.out).mono ?_
        rintro e w' ⟨rfl, rfl⟩
        go_wp2_with fail
        refine (none_flush v _ HN.out).mono ?_
        rintro e w' ⟨rfl, rfl⟩
        go_wp2_with fail
        refine (none_fuse v n _ HN.out).mono ?_
        rintro e w' ⟨rfl, rfl⟩
        go_wp2_with fail
        refine (none_crash v n none 0 0 _ HN.out).mono ?_
        rintro e w' ⟨rfl, rfl⟩
        go_wp2
        go_roundw
        case rel => exact ⟨k + 1, by omega, by go_num, by trivial⟩
        case measure => simp [intOf]; omega
      · have hk8 : k = 2 := by omega
        subst hk8
        have HB : Hid (Below w.heap.size w wr) := by
          have h1 := fresh_alloc w (.cells #[.slice none 0 0, .slice none 0 0, .slice none 0 0, .nilFunc, .int .i64 0, .bool false] 70)
          have := h1.alloc h1.size (.cells #[.pointer none, ptr w.heap.size] 41)
          rw [← HW.out] at this; exact this
        go_wp2_with fail
        refine (awake5_any wr).mono ?_
        rintro e w1 ⟨rfl, hb⟩
        have HB := hid (th HB.out hb)
        clear hb
        go_wp2
        go_ret
        exact ⟨rfl, HB.out⟩
end Go.Proofs.Ytlondopgibcikaa
