/- The walks of the log's Check, Need, kinds. (Printed by wip/log1.py.) -/
import Derived.Test.YtlondopgibcikaaRows
import Derived.Test.YtlondopgibcikaaHeap
import Derived.Test.YtlondopgibcikaaKit
import Derived.Test.YtlondopgibcikaaCrcV
import Derived.Test.YtlondopgibcikaaDev
import Derived.Test.YtlondopgibcikaaDevW
import Derived.Test.YtlondopgibcikaaDevV
import Derived.Test.YtlondopgibcikaaDevU
import Derived.Test.YtlondopgibcikaaDevC
import Derived.Test.YtlondopgibcikaaLaw05
import Derived.Test.YtlondopgibcikaaLL
import Derived.Test.YtlondopgibcikaaLogP
import Derived.Test.YtlondopgibcikaaLogW
import Derived.Test.YtlondopgibcikaaLogX
import Derived.WalkKit
import Derived.Deep.QuietTactic
import Derived.BigQuiet
import Derived.WalkSpells
import Derived.WalkLawsBesides
import Derived.Deep.RegionHeld3
namespace Go.Proofs.Ytlondopgibcikaa
open Go.RowKit Ent

theorem below_drewN {B : Nat} {w0 w : World} (h : Below B w0 w) (n : Nat) : Below B w0 (w.drewN n) := ⟨h.os, h.tape, h.output, h.size, h.block⟩
theorem size_drewN {W : World} {a : Nat} {F : Nat → Prop} {d : Dev} (h : PDev W a F d) (n : Nat) : Calls Try.prog 55 #[ptr a] (W.drewN n) fun e w' => e = .returned (.int .i64 d.img.length) ∧ w' = W.drewN n :=
  lift_size _ (h.below (below_drewN (Below.refl _ _) n))
/-- why an area may not be -/
def checkOf (d : Dev) (f t g : Int) : Int := if f < 0 ∨ t < f ∨ (d.img.length : Int) < t ∨ g < 1 ∨ 2147483647 < g then 3 else 0
set_option maxRecDepth 100000 in
set_option maxHeartbeats 2000000 in
theorem check_any {a : Nat} {F : Nat → Prop} {d : Dev} (f t g : Int) (w : World) (h : PDev w a F d) :
    Calls Try.prog 66 #[ptr a, .agg #[.int .i64 f, .int .i64 t, .int .i64 g]] w fun e w' => e = .returned (.int .i64 (checkOf d f t g)) ∧ Below w.heap.size w w' := by
  have hok : d.ok := by obtain ⟨_, _, _, _, _, h⟩ := h; exact h.ok
  have hpos := hok.pos
  have hlen := hok.len
  have hz : (((d.img.length : Nat) : Int) == 0) = false := by rw [beq_eq_false_iff_ne]; omega
  have H1 := hid (h.below (fresh_alloc w (.cells #[.int .i64 f, .int .i64 t, .int .i64 g] 76)))
  have HB := hid (fresh_alloc w (.cells #[.int .i64 f, .int .i64 t, .int .i64 g] 76))
  clear h hok
  unfold ptr at *
  by_cases h1 : f < 0
  · have HC : Hid (checkOf d f t g = 3) := hid (by unfold checkOf; rw [if_pos (.inl h1)])
    have hd1 : decide (f < 0) = true := decide_eq_true h1
    go_enter Try.func66, Try.ntmps66
    go_wp2_with fail
    refine (lift_size _ H1.out).mono ?_
    rintro e w' ⟨rfl, rfl⟩
    go_wp2_with fail
    go_quiet ((go_at_call 55; exact Calls.quiet_of_same (size_drewN H1.out _)))
    go_wp2
    go_ret
    exact ⟨by rw [HC.out]; rfl, below_drewN HB.out _⟩
  have hd1 : decide (f < 0) = false := decide_eq_false h1
  by_cases h2 : t < f
  · have HC : Hid (checkOf d f t g = 3) := hid (by unfold checkOf; rw [if_pos (.inr (.inl h2))])
    have hd2 : decide (t < f) = true := decide_eq_true h2
    go_enter Try.func66, Try.ntmps66
    go_wp2_with fail
    refine (lift_size _ H1.out).mono ?_
    rintro e w' ⟨rfl, rfl⟩
    go_wp2_with fail
    go_quiet ((go_at_call 55; exact Calls.quiet_of_same (size_drewN H1.out _)))
    go_wp2
    go_ret
    exact ⟨by rw [HC.out]; rfl, below_drewN HB.out _⟩
  have hd2 : decide (t < f) = false := decide_eq_false h2
  by_cases h3 : (d.img.length : Int) < t
  · have HC : Hid (checkOf d f t g = 3) := hid (by unfold checkOf; rw [if_pos (.inr (.inr (.inl h3)))])
    have hd3 : decide ((d.img.length : Int) < t) = true := decide_eq_true h3
    go_enter Try.func66, Try.ntmps66
    go_wp2_with fail
    refine (lift_size _ H1.out).mono ?_
    rintro e w' ⟨rfl, rfl⟩
    go_wp2_with fail
    go_quiet ((go_at_call 55; exact Calls.quiet_of_same (size_drewN H1.out _)))
    go_wp2
    go_ret
    exact ⟨by rw [HC.out]; rfl, below_drewN HB.out _⟩
  have hd3 : decide ((d.img.length : Int) < t) = false := decide_eq_false h3
  by_cases h4 : g < 1
  · have HC : Hid (checkOf d f t g = 3) := hid (by unfold checkOf; rw [if_pos (.inr (.inr (.inr (.inl h4))))])
    have hd4 : decide (g < 1) = true := decide_eq_true h4
    go_enter Try.func66, Try.ntmps66
    go_wp2_with fail
    refine (lift_size _ H1.out).mono ?_
    rintro e w' ⟨rfl, rfl⟩
    go_wp2_with fail
    go_quiet ((go_at_call 55; exact Calls.quiet_of_same (size_drewN H1.out _)))
    go_wp2
    go_ret
    exact ⟨by rw [HC.out]; rfl, below_drewN HB.out _⟩
  have hd4 : decide (g < 1) = false := decide_eq_false h4
  by_cases h5 : 2147483647 < g
  · have HC : Hid (checkOf d f t g = 3) := hid (by unfold checkOf; rw [if_pos (.inr (.inr (.inr (.inr h5))))])
    have hd5 : decide (2147483647 < g) = true := decide_eq_true h5
    go_enter Try.func66, Try.ntmps66
    go_wp2_with fail
    refine (lift_size _ H1.out).mono ?_
    rintro e w' ⟨rfl, rfl⟩
    go_wp2_with fail
    go_quiet ((go_at_call 55; exact Calls.quiet_of_same (size_drewN H1.out _)))
    go_wp2
    go_ret
    exact ⟨by rw [HC.out]; rfl, below_drewN HB.out _⟩
  have hd5 : decide (2147483647 < g) = false := decide_eq_false h5
  have HC : Hid (checkOf d f t g = 0) := hid (by unfold checkOf; rw [if_neg (by rintro (h | h | h | h | h) <;> contradiction)])
  go_enter Try.func66, Try.ntmps66
  go_wp2_with fail
  refine (lift_size _ H1.out).mono ?_
  rintro e w' ⟨rfl, rfl⟩
  go_wp2_with fail
  go_quiet ((go_at_call 55; exact Calls.quiet_of_same (size_drewN H1.out _)))
  go_wp2
  go_ret
  exact ⟨by rw [HC.out]; rfl, below_drewN HB.out _⟩
set_option maxRecDepth 100000 in
theorem need_bad (n : Int) (h : n < 0 ∨ 1048576 < n) (w : World) : Calls Try.prog 61 #[.int .i64 n] w fun e w' => e = .returned (.int .i64 0) ∧ w' = w := by
  by_cases h1 : n < 0
  all_goals
    (try have h2 : 1048576 < n := by omega)
    go_enter Try.func61, Try.ntmps61
    go_wp2
    go_ret
    exact ⟨rfl, rfl⟩
set_option maxRecDepth 100000 in
set_option maxHeartbeats 400000 in
theorem need_any (n : Nat) (h : n ≤ 1048576) (w : World) : Calls Try.prog 61 #[.int .i64 n] w fun e w' => e = .returned (.int .i64 (needOf n)) ∧ w' = w := by
  by_cases h0 : n = 0
  · subst h0
    go_enter Try.func61, Try.ntmps61
    go_wp2
    go_ret
    exact ⟨rfl, rfl⟩
  · have HE : Hid (needOf n = (n + 48) / 49) := hid (by unfold needOf; rw [if_neg h0])
    go_enter Try.func61, Try.ntmps61
    go_wp2
    go_ret
    refine ⟨?_, rfl⟩
    rw [HE.out]
    show Ending.returned (.int .i64 (max 1 (((n : Int) + 49 - 1) / 49))) = _
    congr 2
    rw [Int.max_eq_right (by omega)]; omega
set_option maxRecDepth 100000 in
set_option maxHeartbeats 400000 in
theorem kinds_any (i many : Nat) (h : many ≤ 65536) (h1 : 1 ≤ many) (w : World) : Calls Try.prog 116 #[.int .i64 i, .int .i64 many] w fun e w' => e = .returned (.int .i64 (kindOf i many)) ∧ w' = w := by
  by_cases h1 : many = 1
  · have b1 : ((many : Int) == 1) = true := by simp [h1]
    have HK : Hid (kindOf i many = 1) := hid (by unfold kindOf; rw [if_pos h1])
    clear h1
    go_enter Try.func116, Try.ntmps116
    go_wp2
    go_ret
    exact ⟨by rw [HK.out]; rfl, rfl⟩
  have b1 : ((many : Int) == 1) = false := by rw [beq_eq_false_iff_ne]; omega
  by_cases h2 : i = 0
  · have b2 : ((i : Int) == 0) = true := by simp [h2]
    have HK : Hid (kindOf i many = 2) := hid (by unfold kindOf; rw [if_neg h1, if_pos h2])
    clear h1 h2
    go_enter Try.func116, Try.ntmps116
    go_wp2
    go_ret
    exact ⟨by rw [HK.out]; rfl, rfl⟩
  have b2 : ((i : Int) == 0) = false := by rw [beq_eq_false_iff_ne]; omega
  by_cases h3 : i = many - 1
  · have b3 : ((i : Int) == (many : Int) - 1) = true := by rw [beq_iff_eq]; omega
    have HK : Hid (kindOf i many = 4) := hid (by unfold kindOf; rw [if_neg h1, if_neg h2, if_pos h3])
    clear h1 h2 h3
    go_enter Try.func116, Try.ntmps116
    go_wp2
    go_ret
    exact ⟨by rw [HK.out]; rfl, rfl⟩
  · have b3 : ((i : Int) == (many : Int) - 1) = false := by rw [beq_eq_false_iff_ne]; omega
    have HK : Hid (kindOf i many = 3) := hid (by unfold kindOf; rw [if_neg h1, if_neg h2, if_neg h3])
    clear h1 h2 h3
    go_enter Try.func116, Try.ntmps116
    go_wp2
    go_ret
    exact ⟨by rw [HK.out]; rfl, rfl⟩
end Go.Proofs.Ytlondopgibcikaa
