/- The walks of layer 6's helpers: has, SameLists, made, awake. -/
import Derived.Test.YtlondopgibcikaaRows
import Derived.Test.YtlondopgibcikaaHeap
import Derived.Test.YtlondopgibcikaaKit
import Derived.Test.YtlondopgibcikaaCrcV
import Derived.Test.YtlondopgibcikaaDev
import Derived.Test.YtlondopgibcikaaDevW
import Derived.Test.YtlondopgibcikaaDevV
import Derived.Test.YtlondopgibcikaaDevU
import Derived.Test.YtlondopgibcikaaDevT
import Derived.Test.YtlondopgibcikaaDevC
import Derived.Test.YtlondopgibcikaaLaw05
import Derived.Test.YtlondopgibcikaaLL
import Derived.Test.YtlondopgibcikaaSt
import Derived.Test.YtlondopgibcikaaSt2
import Derived.Test.YtlondopgibcikaaLogP
import Derived.Test.YtlondopgibcikaaLogW
import Derived.Test.YtlondopgibcikaaLogX
import Derived.Test.YtlondopgibcikaaLogY
import Derived.Test.YtlondopgibcikaaLogZ
import Derived.Test.YtlondopgibcikaaLogB
import Derived.Test.YtlondopgibcikaaLogS
import Derived.Test.YtlondopgibcikaaLogS2
import Derived.Test.YtlondopgibcikaaLogT
import Derived.Test.YtlondopgibcikaaLogT2
import Derived.WalkKit
import Derived.WalkSpells
import Derived.WalkLawsBesides
import Derived.Deep.RegionHeld3
import Derived.Deep.QuietTactic
import Derived.BigQuiet
namespace Go.Proofs.Ytlondopgibcikaa
open Go.RowKit Ent

/-- lists of bytes that may be read -/
def LR (w : World) (ao : Option Addr) (L : List (List UInt8)) : Prop := L = [] ∨ ∃ b o, ao = some ⟨b, o, none⟩ ∧ ∀ (i : Nat) (l : List UInt8), L[i]? = some l → ∃ lo cap, w.cell? ⟨b, o + i, none⟩ = some (.slice lo l.length cap) ∧ l.length ≤ cap ∧ SB w lo cap l
theorem LR.below {w w' : World} {ao : Option Addr} {L : List (List UInt8)} (h : LR w ao L) (hb : Below w.heap.size w w') : LR w' ao L := by
  rcases h with h | ⟨b, o, rfl, h⟩
  · exact .inl h
  · refine .inr ⟨b, o, rfl, fun i l hl => ?_⟩
    obtain ⟨lo, cap, hc, hcap, hs⟩ := h i l hl
    exact ⟨lo, cap, by rw [hb.cell (World.block_lt_of_cell? w _ hc)]; exact hc, hcap, hs.below hb⟩
theorem LR.at {w : World} {ao : Option Addr} {L : List (List UInt8)} (h : LR w ao L) {i : Nat} {l : List UInt8} (hl : L[i]? = some l) : ∃ b o lo cap, ao = some ⟨b, o, none⟩ ∧ w.cell? ⟨b, o + i, none⟩ = some (.slice lo l.length cap) ∧ l.length ≤ cap ∧ SB w lo cap l := by
  rcases h with rfl | ⟨b, o, rfl, h⟩
  · simp at hl
  · obtain ⟨lo, cap, h1, h2, h3⟩ := h i l hl
    exact ⟨b, o, lo, cap, rfl, h1, h2, h3⟩
theorem LR.ofRow {w : World} {B : Nat} {ao : Option Addr} {n cap : Nat} {vs : List Value} {F : Nat → Prop} {L : List (List UInt8)} (ho : w.ownsRow B 22 1 (.slice ao n cap) n vs) (hr : RowS w F vs L) (hn : n = L.length) : LR w ao L := by
  subst hn
  by_cases h0 : L = []
  · exact .inl h0
  · obtain ⟨g, rfl, _, _, _, hc, _⟩ := own_cell ho (List.length_pos_iff.2 h0)
    refine .inr ⟨g, 0, rfl, fun i l hl => ?_⟩
    obtain ⟨v, hv, lo, c, rfl, hcap, hs, _⟩ := hr.at hl
    exact ⟨lo, c, by rw [Nat.zero_add]; exact hc i _ hv, hcap, hs⟩
theorem FreshL.lr {B : Nat} {w : World} {v : Value} {L : List (List UInt8)} (h : FreshL B w v L) : ∃ ao cap, v = .slice ao L.length cap ∧ LR w ao L := by
  obtain ⟨vs, Fb, ho, hr, _, _⟩ := h
  obtain ⟨ao, cap, rfl⟩ := own_slice ho
  exact ⟨ao, cap, rfl, LR.ofRow ho hr.ss rfl⟩
def sameL (L R : List (List UInt8)) : Bool := decide (L = R)
theorem same_drewN (ao bo : Option Addr) (n m c d : Nat) (l r : List UInt8) (hn : n = l.length) (hm : m = r.length) (w : World) (q : Nat) (hl : SB w ao c l) (hr : SB w bo d r) :
    Calls Try.prog 27 #[.slice ao n c, .slice bo m d] (w.drewN q) fun e w' => e = .returned (.bool (sameB l r)) ∧ w' = w.drewN q :=
  (same_any ao bo n m c d l r hn hm (w.drewN q) (hl.below (below_drewN (Below.refl _ _) q)) (hr.below (below_drewN (Below.refl _ _) q))).mono fun _ _ ⟨h1, h2⟩ => ⟨h1, h2.symm⟩
set_option maxRecDepth 100000 in
set_option maxHeartbeats 1000000 in
theorem sameLists_any (ao bo : Option Addr) (n m c d : Nat) (L R : List (List UInt8)) (hn : n = L.length) (hm : m = R.length) (hb : n ≤ 1073741824) (hb2 : m ≤ 1073741824) (w : World) (hl : LR w ao L) (hr : LR w bo R) :
    Calls Try.prog 83 #[.slice ao n c, .slice bo m d] w fun e w' => e = .returned (.bool (sameL L R)) ∧ Below w.heap.size w w' := by
  have HN := hid hn; have HM := hid hm
  have HL := hid hl; have HR := hid hr
  clear hn hm hl hr
  by_cases hne : n = m
  rotate_left
  · have HS : Hid (sameL L R = false) := hid (by
      unfold sameL
      rw [decide_eq_false_iff_not]; intro h; rw [h] at HN; exact hne (HN.out.trans HM.out.symm))
    have hb0 : ((n : Int) == (m : Int)) = false := by rw [beq_eq_false_iff_ne]; omega
    go_enter Try.func83, Try.ntmps83
    go_wp2_with fail
    go_loopw [5, 6] (fun s i wr => s = .bool false ∧ i = .int .i64 0 ∧ w = wr) (fun _ _ _ => 0)
    case atStart => exact ⟨rfl, rfl, rfl⟩
    case round =>
      obtain ⟨rfl, rfl, rfl⟩ := hrel
      go_wp2
      go_ret
      exact ⟨by rw [HS.out]; rfl, Below.refl _ _⟩
  subst hne
  go_enter Try.func83, Try.ntmps83
  go_wp2_with fail
  go_loopw [5, 6] (fun s i wr => ∃ (k : Nat) (b : Bool), k ≤ n ∧ i = .int .i64 k ∧ s = .bool b ∧ (b = true ↔ L.take k = R.take k) ∧ Below w.heap.size w wr) (fun _ i _ => n - (intOf i).toNat)
  case atStart => exact ⟨0, true, Nat.zero_le _, rfl, rfl, by simp, Below.refl _ _⟩
  case round =>
    obtain ⟨k, b, hk, rfl, rfl, ht, hbe⟩ := hrel
    have HT := hid ht; have HB := hid hbe
    clear ht hbe
    cases b
    · have HS : Hid (sameL L R = false) := hid (by
        unfold sameL
        rw [decide_eq_false_iff_not]; intro h
        exact absurd (HT.out.2 (by rw [h])) (by simp))
      go_wp2
      go_ret
      exact ⟨by rw [HS.out]; rfl, HB.out⟩
    · by_cases hlt : k < n
      · obtain ⟨l, hl⟩ : ∃ l, L[k]? = some l := ⟨_, List.getElem?_eq_getElem (by rw [← HN.out]; exact hlt)⟩
        obtain ⟨r, hr⟩ : ∃ r, R[k]? = some r := ⟨_, List.getElem?_eq_getElem (by rw [← HM.out]; exact hlt)⟩
        obtain ⟨b1, o1, lo1, cap1, rfl, cx, _, hs1⟩ := (HL.out.below HB.out).at hl
        obtain ⟨b2, o2, lo2, cap2, rfl, cy, _, hs2⟩ := (HR.out.below HB.out).at hr
        have HS1 := hid hs1; have HS2 := hid hs2
        have HLL := hid hl; have HRR := hid hr
        clear hl hr hs1 hs2
        go_wp2_with fail
        go_quiet ((go_at_call 27; exact Calls.quiet_of_same (same_drewN lo1 lo2 l.length r.length cap1 cap2 l r rfl rfl wr _ HS1.out HS2.out)))
        go_wp2
        go_roundw
        case rel =>
          refine ⟨k + 1, sameB l r, by omega, by go_num, rfl, ?_, below_drewN HB.out _⟩
          rw [List.take_add_one, List.take_add_one, HLL.out, HRR.out, HT.out.1 (by first | exact trivial | rfl)]
          simp [sameB]
        case measure => simp [intOf]; omega
      · have hk9 : k = n := by omega
        have HS : Hid (sameL L R = true) := hid (by
          have h := HT.out.1 rfl
          rw [hk9, List.take_of_length_le (by rw [HN.out]; exact Nat.le_refl _), List.take_of_length_le (by rw [HM.out]; exact Nat.le_refl _)] at h
          unfold sameL; rw [h]; simp)
        go_wp2
        go_ret
        exact ⟨by rw [HS.out]; rfl, HB.out⟩
section
variable {B : Nat} {w0 w : World} {As : List Asset} {a : Nat} {d : Dev}
theorem St.log_blank (h : St B w0 w As) (i : Nat) (hi : As[i]? = some (dev a d)) (f t g : Int) (hlo : d.loose.length ≤ 1073000000) :
    Calls Try.prog 67 #[ptr a, .agg #[.int .i64 f, .int .i64 t, .int .i64 g]] w fun e w' => e = .returned (.int .i64 (blankOf d f t g).1) ∧ St B w0 w' (As.set i (dev a (blankOf d f t g).2)) := by
  obtain ⟨F, hA, hF, ho, hcl⟩ := h.open i hi
  refine (blank_any f t g w hA (fun k hk => (hF k hk).2) hlo).mono ?_
  rintro e w' ⟨he, hp, hk⟩
  exact ⟨he, hcl w' _ _ hk (good_dev _ _) hp (fun _ h => h)⟩
theorem St.log_write (h : St B w0 w As) (i : Nat) (hi : As[i]? = some (dev a d)) (f t g at_ : Int) (ao : Option Addr) (rn rc : Nat) (rec : List UInt8) (hrn : rn = rec.length) (hrc : rn ≤ rc) (hrm : rn ≤ 9223372036854775807) (hs : SB w ao rc rec) (hap : rec ≠ [] → Apart B As i ao) (hlo : d.loose.length ≤ 1073000000) (ha1 : -9223372036854775808 ≤ at_ ∧ at_ ≤ 9223372036854775807) :
    Calls Try.prog 64 #[ptr a, .agg #[.int .i64 f, .int .i64 t, .int .i64 g], .int .i64 at_, .slice ao rn rc] w fun e w' => e = .returned (.tuple #[.int .i64 (logWrite d f t g at_ rec).1.1, .int .i64 (logWrite d f t g at_ rec).1.2]) ∧ St B w0 w' (As.set i (dev a (logWrite d f t g at_ rec).2)) := by
  obtain ⟨F, hA, hF, ho, hcl⟩ := h.open i hi
  refine (logWrite_any f t g at_ ao rn rc rec hrn hrc hrm w hs (fun hne => (hap hne).not hF ho) hA (fun k hk => (hF k hk).2) hlo ha1).mono ?_
  rintro e w' ⟨he, hp, hk⟩
  exact ⟨he, hcl w' _ _ hk (good_dev _ _) hp (fun _ h => h)⟩
theorem St.log_scan (h : St B w0 w As) (i : Nat) (hi : As[i]? = some (dev a d)) (f t g : Int) :
    Calls Try.prog 65 #[ptr a, .agg #[.int .i64 f, .int .i64 t, .int .i64 g]] w fun e w' => ∃ v, e = .returned (.tuple #[v, .int .i64 (logScan d f t g).2.1, .int .i64 (logScan d f t g).2.2]) ∧ FreshL w.heap.size w' v (logScan d f t g).1 ∧ Below w.heap.size w w' := by
  obtain ⟨F, hA, _⟩ := h.open i hi
  exact scan_any f t g w hA
theorem St.log_check (h : St B w0 w As) (i : Nat) (hi : As[i]? = some (dev a d)) (f t g : Int) :
    Calls Try.prog 66 #[ptr a, .agg #[.int .i64 f, .int .i64 t, .int .i64 g]] w fun e w' => e = .returned (.int .i64 (checkOf d f t g)) ∧ Below w.heap.size w w' := by
  obtain ⟨F, hA, _⟩ := h.open i hi
  exact check_any f t g w hA
end
set_option maxRecDepth 100000 in
theorem area6_any (g : Int) (w : World) : Calls Try.prog 69 #[.int .i64 g] w fun e w' => e = .returned (.agg #[.int .i64 1, .int .i64 4, .int .i64 g]) ∧ Below w.heap.size w w' := by
  go_enter Try.func69, Try.ntmps69
  go_wp2
  refine bodyPost_ret (results_cell_row rfl _ _ w.heap.size 76 #[.int .i64 1, .int .i64 4, .int .i64 g] (0, 0) _ rfl (alloc_new w _) Try.underlying76 rfl (by kernel_rfl)) rfl ⟨rfl, fresh_alloc w _⟩
/-- has an area just these records? -/
def hasB (d : Dev) (f t g next : Int) (W : List (List UInt8)) : Bool := decide ((logScan d f t g).2.2 = 0) && (decide ((logScan d f t g).2.1 = next) && sameL (logScan d f t g).1 W)
theorem scan_len (d : Dev) (base gen : Nat) : ∀ (m i : Nat) (out : List (List UInt8)) (next : Nat) (rec : List UInt8) (b : Bool), (scanLoop d base gen m i out next rec b).1.length ≤ out.length + m
  | 0, _, out, _, _, _ => by simp [scanLoop]
  | m + 1, i, out, next, rec, b => by
    rw [scanLoop]
    split
    · simp
    · split
      · simp
      · split
        · have := scan_len d base gen m (i + 1) out next (rec ++ by assumption) true
          omega
        · have := scan_len d base gen m (i + 1) (out ++ [rec ++ by assumption]) (i + 1) [] false
          rw [List.length_append] at this; simp at this; omega
theorem logScan_len {d : Dev} (h : d.ok) (f t g : Int) : (logScan d f t g).1.length ≤ 65536 := by
  have := h.len
  unfold logScan
  split
  · exact Nat.zero_le _
  · rename_i hc
    have hc := check_ok hc
    split
    · exact Nat.zero_le _
    · refine Nat.le_trans (scan_len d f.toNat g.toNat (t - f).toNat 0 [] 0 [] false) ?_
      simp; omega
set_option maxRecDepth 100000 in
set_option maxHeartbeats 400000 in
theorem has6_any {a : Nat} {F : Nat → Prop} {d : Dev} (f t g next : Int) (ao : Option Addr) (n c : Nat) (L : List (List UInt8)) (hn : n = L.length) (hnb : n ≤ 1073741824) (w : World) (hL : LR w ao L) (h : PDev w a F d) :
    Calls Try.prog 71 #[ptr a, .agg #[.int .i64 f, .int .i64 t, .int .i64 g], .int .i64 next, .slice ao n c] w fun e w' => e = .returned (.bool (hasB d f t g next L)) ∧ Below w.heap.size w w' := by
  have hok : d.ok := by obtain ⟨_, _, _, _, _, h⟩ := h; exact h.ok
  have HLEN := hid (logScan_len hok f t g)
  have HN := hid hn
  obtain ⟨w1, hw1⟩ : ∃ w1, w.alloc (.cells #[.int .i64 f, .int .i64 t, .int .i64 g] 76) = w1 := ⟨_, rfl⟩
  have HW1 := hid hw1
  have HBX : Hid (Blk w1 w.heap.size 76 [.int .i64 f, .int .i64 t, .int .i64 g]) := hid (by rw [← hw1]; exact alloc_new w _)
  have HB1 : Hid (Below w.heap.size w w1) := hid (by rw [← hw1]; exact fresh_alloc w _)
  have H1 := hid (h.below HB1.out)
  have HL1 := hid (hL.below HB1.out)
  clear hw1 h hok hn hL
  unfold ptr
  go_enter Try.func71, Try.ntmps71
  go_wp2_with fail
  rw [HW1.out]
  have x0 := HBX.out.cell (j := 0) rfl
  have x1 := HBX.out.cell (j := 1) rfl
  have x2 := HBX.out.cell (j := 2) rfl
  go_wp2_with fail
  refine (scan_any f t g w1 H1.out).mono ?_
  rintro e w2 ⟨v, rfl, hf, hb2⟩
  clear x0 x1 x2
  obtain ⟨l, hl⟩ : ∃ l, (logScan d f t g).1 = l := ⟨_, rfl⟩
  rw [hl] at hf HLEN
  obtain ⟨bo, cap, rfl, hlr⟩ := hf.lr
  have HB2 := hid (HB1.out.trans (hb2.mono HB1.out.size))
  have HLL := hid (HL1.out.below hb2)
  have HLR := hid hlr
  have HLE := hid hl
  clear hf hb2 hlr hl
  obtain ⟨e, he⟩ : ∃ e, (logScan d f t g).2.2 = e := ⟨_, rfl⟩
  obtain ⟨m, hm⟩ : ∃ m, (logScan d f t g).2.1 = m := ⟨_, rfl⟩
  rw [he, hm]
  have HH : Hid (hasB d f t g next L = (decide (e = 0) && (decide (m = next) && sameL l L))) := hid (by rw [hasB, HLE.out, he, hm])
  clear he hm
  obtain ⟨n2, hn2⟩ : ∃ n2, l.length = n2 := ⟨_, rfl⟩
  have HN2 := hid hn2
  have hb5 : n2 ≤ 65536 := by rw [← hn2]; exact HLEN.out
  rw [hn2]
  clear hn2
  by_cases h1 : e = 0
  · subst h1
    by_cases h2 : m = next
    · subst h2
      have z2 : (m == m) = true := beq_self_eq_true m
      have z3 : decide (m = m) = true := by simp
      go_wp2_with fail
      refine (sameLists_any bo ao n2 n cap c l L HN2.out.symm HN.out (by omega) hnb w2 HLR.out HLL.out).mono ?_
      rintro e w3 ⟨rfl, hb3⟩
      have HB3 := hid (HB2.out.trans (hb3.mono HB2.out.size))
      clear hb3
      go_wp2
      go_ret
      exact ⟨by rw [HH.out]; simp, HB3.out⟩
    · have z2 : (m == next) = false := by rw [beq_eq_false_iff_ne]; exact h2
      have z3 : decide (m = next) = false := by simp [h2]
      have HZ := hid z3
      go_wp2
      go_ret
      exact ⟨by rw [HH.out, HZ.out]; rfl, HB2.out⟩
  · have z2 : (e == 0) = false := by rw [beq_eq_false_iff_ne]; exact h1
    have z3 : decide (e = 0) = false := by simp [h1]
    have HZ := hid z3
    go_wp2
    go_ret
    exact ⟨by rw [HH.out, HZ.out]; rfl, HB2.out⟩
end Go.Proofs.Ytlondopgibcikaa
