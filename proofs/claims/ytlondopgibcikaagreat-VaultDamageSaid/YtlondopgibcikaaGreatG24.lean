/- The vault's Format. A vault in memory: none, ready, told, Gen. -/
import Derived.Test.YtlondopgibcikaaGreatRows
import Derived.Test.YtlondopgibcikaaGreatG01
import Derived.Test.YtlondopgibcikaaGreatG02
import Derived.Test.YtlondopgibcikaaGreatG06
import Derived.Test.YtlondopgibcikaaGreatG07
import Derived.Test.YtlondopgibcikaaGreatG08
import Derived.Test.YtlondopgibcikaaGreatG09
import Derived.Test.YtlondopgibcikaaGreatG10
import Derived.Test.YtlondopgibcikaaGreatG14
import Derived.Test.YtlondopgibcikaaGreatG15
import Derived.Test.YtlondopgibcikaaGreatG16
import Derived.Test.YtlondopgibcikaaGreatG17
import Derived.Test.YtlondopgibcikaaGreatG18
import Derived.Test.YtlondopgibcikaaGreatG21
import Derived.Test.YtlondopgibcikaaGreatG22
import Derived.Test.YtlondopgibcikaaGreatG23
import Derived.WalkKit
import Derived.WalkSpells
import Derived.WalkLawsBesides
import Derived.Deep.RegionHeld3
import Derived.Deep.QuietTactic
import Derived.BigQuiet
import Derived.Great.Walk
namespace Go.Proofs.YtlondopgibcikaaGreat
open Go.RowKit Ent
/-- a generation's area is made blank -/
def blankD (d : Dev) (gen : Nat) : Int × Dev := blankOf d (fromOf d.img.length gen : Nat) (fromOf d.img.length gen + halfOf d.img.length : Nat) gen
theorem St.v_area {B : Nat} {w0 w w1 : World} {As : List Asset} {a : Nat} {d : Dev} (h : St B w0 w As) (hb : Below w.heap.size w w1) (i : Nat) (hi : As[i]? = some (dev a d)) (gen : Nat) (hg : gen ≤ 2147483648) (hn : 2 ≤ d.img.length) :
    Calls Tryz.prog 63 #[ptr a, .int .i64 gen] w1 fun e w' => e = .returned (.agg #[.int .i64 (fromOf d.img.length gen : Nat), .int .i64 (fromOf d.img.length gen + halfOf d.img.length : Nat), .int .i64 gen]) ∧ Below w1.heap.size w1 w' := by
  obtain ⟨F, hA, _⟩ := h.open2 hb i hi
  exact varea_any gen hg w1 hA hn
/-- Format's things -/
def formatFs (k : Nat) (d : Dev) : Int × Dev := if k = 0 then d.write 0 (zr 64) else if k = 1 then d.write 1 (zr 64) else if k = 2 then d.flush else if k = 3 then blankD d 1 else countsD d 1
def formatD (d : Dev) : Int × Dev := if d.img.length < 8 then (3, d) else seqOf formatFs 0 5 d
theorem counts_loose (d : Dev) (gen : Nat) : (countsD d gen).2.loose.length ≤ d.loose.length + 1 ∧ (countsD d gen).2.img.length = d.img.length := by
  have h1 := write_loose d ((gen % 2 : Nat) : Int) (supSec gen d.img.length)
  unfold countsD andD
  split
  · have h2 := flush_loose (d.write ((gen % 2 : Nat) : Int) (supSec gen d.img.length)).2
    exact ⟨by omega, by rw [h2.2, h1.2]⟩
  · exact h1
theorem formatFs_loose (k : Nat) (d : Dev) : (formatFs k d).2.loose.length ≤ d.loose.length + d.img.length + 1 ∧ (formatFs k d).2.img.length = d.img.length := by
  unfold formatFs
  split
  · have := write_loose d 0 (zr 64); exact ⟨by omega, this.2⟩
  · split
    · have := write_loose d 1 (zr 64); exact ⟨by omega, this.2⟩
    · split
      · have := flush_loose d; exact ⟨by omega, this.2⟩
      · split
        · have := blank_loose d (fromOf d.img.length 1 : Nat) (fromOf d.img.length 1 + halfOf d.img.length : Nat) ((1 : Nat) : Int); exact ⟨Nat.le_succ_of_le this.1, this.2⟩
        · have := counts_loose d 1; exact ⟨by omega, this.2⟩
set_option maxRecDepth 100000 in
set_option maxHeartbeats 1000000 in
theorem vformat1 {B : Nat} {w0 w : World} {As : List Asset} {a : Nat} {d : Dev} (h : St B w0 w As) (i : Nat) (hi : As[i]? = some (dev a d)) (jd bd : Nat) (hjd : As[jd]? = some (blkA bd 26 [ptr a])) (hid1 : i ≠ jd) (hlo : d.loose.length ≤ 1073741824) :
    Calls Tryz.prog 82 #[ptr bd] w fun e w' => e = .returned (.int .i64 (d.write 0 (zr 64)).1) ∧ St B w0 w' (As.set i (dev a (d.write 0 (zr 64)).2)) := by
  have cd := (h.blk jd hjd).cell (j := 0) rfl
  have H := hid h; have HI := hid hi; have HJD := hid hjd
  clear h hi hjd
  unfold ptr at cd ⊢
  go_enter Tryz.func82, Tryz.ntmps82
  go_upto_region 1 with fail
  refine wp_region_held_drew (S := fun w' => w'.cell? ⟨bd, 0, none⟩ = some (.pointer (some ⟨a, 0, none⟩))) (by kernel_rfl) cd (fun hS => ?_)
  refine tkH (i := 0) (v := ?v0x1z) (y := Or.inl ⟨by rfl, ?y0x1z⟩) (s := hS) (h := ?r0x1z)
  case y0x1z => (intro w' hSw; (try dsimp only at hSw); go_simp; (try with_reducible rfl))
  simp only [Act.put, sA, sB, sC]
  refine rdH (i := 1) (h := fun K hK => ?_)
  go_simp
  refine (noughts_any _).mono ?_
  rintro e w5 ⟨g5, rfl, h5, hg5, hb5⟩
  have hS5 := (hb5.cell (World.block_lt_of_cell? _ _ hS)).trans hS
  have HB5 : Hid (Below w.heap.size w w5) := hid (th (Below.refl w.heap.size w).drew hb5)
  have H5 := hid h5
  have HG5 : Hid (w.heap.size ≤ g5) := hid hg5
  clear hb5 h5 hg5
  refine hK.out _ _ ?k1x2z (fun hS => ?s1x2z)
  case k1x2z => exact hS5
  clear hK K
  try simp only [Act.put, sA, sB, sC]
  refine rdH (i := 2) (h := fun K hK => ?_)
  go_simp
  refine (H.out.dev_write2 HB5.out i HI.out 0 _ 64 _ (zr 64) rfl (.inr (.inr ⟨_, _, rfl, H5.out.range fun j v hv => by rw [Nat.zero_add]; exact hv⟩)) (fun x hx => by cases hx; exact .inr HG5.out) hlo).mono ?_
  rintro e w7 ⟨rfl, h7⟩
  have H7 := hid h7
  have hS7 := ((H7.out.blk jd (by rw [List.getElem?_set_ne hid1]; exact HJD.out)).cell (j := 0) rfl)
  clear h7
  refine hK.out _ _ ?k2x3z (fun hS => ?s2x3z)
  case k2x3z => exact hS7
  clear hK K
  try simp only [Act.put, sA, sB, sC]
  refine tkH (i := 3) (v := ?v3x4z) (y := Or.inl ⟨by rfl, ?y3x4z⟩) (s := hS) (h := ?r3x4z)
  case y3x4z => (intro w' hSw; (try dsimp only at hSw); go_simp; (try with_reducible rfl))
  simp only [Act.put, sA, sB, sC]
  refine wpAnyH_done (by kernel_rfl) ?_ _
  go_wp2
  go_ret
  exact ⟨rfl, H7.out⟩
set_option maxRecDepth 100000 in
set_option maxHeartbeats 1000000 in
theorem vformat2 {B : Nat} {w0 w : World} {As : List Asset} {a : Nat} {d : Dev} (h : St B w0 w As) (i : Nat) (hi : As[i]? = some (dev a d)) (jd bd : Nat) (hjd : As[jd]? = some (blkA bd 26 [ptr a])) (hid1 : i ≠ jd) (hlo : d.loose.length ≤ 1073741824) :
    Calls Tryz.prog 84 #[ptr bd] w fun e w' => e = .returned (.int .i64 (d.write 1 (zr 64)).1) ∧ St B w0 w' (As.set i (dev a (d.write 1 (zr 64)).2)) := by
  have cd := (h.blk jd hjd).cell (j := 0) rfl
  have H := hid h; have HI := hid hi; have HJD := hid hjd
  clear h hi hjd
  unfold ptr at cd ⊢
  go_enter Tryz.func84, Tryz.ntmps84
  go_upto_region 1 with fail
  refine wp_region_held_drew (S := fun w' => w'.cell? ⟨bd, 0, none⟩ = some (.pointer (some ⟨a, 0, none⟩))) (by kernel_rfl) cd (fun hS => ?_)
  refine tkH (i := 0) (v := ?v0x1z) (y := Or.inl ⟨by rfl, ?y0x1z⟩) (s := hS) (h := ?r0x1z)
  case y0x1z => (intro w' hSw; (try dsimp only at hSw); go_simp; (try with_reducible rfl))
  simp only [Act.put, sA, sB, sC]
  refine rdH (i := 1) (h := fun K hK => ?_)
  go_simp
  refine (noughts_any _).mono ?_
  rintro e w5 ⟨g5, rfl, h5, hg5, hb5⟩
  have hS5 := (hb5.cell (World.block_lt_of_cell? _ _ hS)).trans hS
  have HB5 : Hid (Below w.heap.size w w5) := hid (th (Below.refl w.heap.size w).drew hb5)
  have H5 := hid h5
  have HG5 : Hid (w.heap.size ≤ g5) := hid hg5
  clear hb5 h5 hg5
  refine hK.out _ _ ?k1x2z (fun hS => ?s1x2z)
  case k1x2z => exact hS5
  clear hK K
  try simp only [Act.put, sA, sB, sC]
  refine rdH (i := 2) (h := fun K hK => ?_)
  go_simp
  refine (H.out.dev_write2 HB5.out i HI.out 1 _ 64 _ (zr 64) rfl (.inr (.inr ⟨_, _, rfl, H5.out.range fun j v hv => by rw [Nat.zero_add]; exact hv⟩)) (fun x hx => by cases hx; exact .inr HG5.out) hlo).mono ?_
  rintro e w7 ⟨rfl, h7⟩
  have H7 := hid h7
  have hS7 := ((H7.out.blk jd (by rw [List.getElem?_set_ne hid1]; exact HJD.out)).cell (j := 0) rfl)
  clear h7
  refine hK.out _ _ ?k2x3z (fun hS => ?s2x3z)
  case k2x3z => exact hS7
  clear hK K
  try simp only [Act.put, sA, sB, sC]
  refine tkH (i := 3) (v := ?v3x4z) (y := Or.inl ⟨by rfl, ?y3x4z⟩) (s := hS) (h := ?r3x4z)
  case y3x4z => (intro w' hSw; (try dsimp only at hSw); go_simp; (try with_reducible rfl))
  simp only [Act.put, sA, sB, sC]
  refine wpAnyH_done (by kernel_rfl) ?_ _
  go_wp2
  go_ret
  exact ⟨rfl, H7.out⟩
set_option maxRecDepth 100000 in
set_option maxHeartbeats 1000000 in
theorem vformat3 {B : Nat} {w0 w : World} {As : List Asset} {a : Nat} {d : Dev} (h : St B w0 w As) (i : Nat) (hi : As[i]? = some (dev a d)) (jd bd : Nat) (hjd : As[jd]? = some (blkA bd 26 [ptr a])) (hid1 : i ≠ jd) (hlo : d.loose.length ≤ 1073000000) (hn : 2 ≤ d.img.length) :
    Calls Tryz.prog 85 #[ptr bd] w fun e w' => e = .returned (.int .i64 (blankD d 1).1) ∧ St B w0 w' (As.set i (dev a (blankD d 1).2)) := by
  have cd := (h.blk jd hjd).cell (j := 0) rfl
  have H := hid h; have HI := hid hi; have HJD := hid hjd
  obtain ⟨n, hnn⟩ : ∃ n, d.img.length = n := ⟨_, rfl⟩
  have HN := hid hnn
  unfold blankD
  rw [hnn]
  clear h hi hjd hnn
  unfold ptr at cd ⊢
  go_enter Tryz.func85, Tryz.ntmps85
  go_upto_region 1 with fail
  refine wp_region_held_drew (S := fun w' => w'.cell? ⟨bd, 0, none⟩ = some (.pointer (some ⟨a, 0, none⟩))) (by kernel_rfl) cd (fun hS => ?_)
  refine tkH (i := 0) (v := ?v0x1z) (y := Or.inl ⟨by rfl, ?y0x1z⟩) (s := hS) (h := ?r0x1z)
  case y0x1z => (intro w' hSw; (try dsimp only at hSw); go_simp; (try with_reducible rfl))
  simp only [Act.put, sA, sB, sC]
  refine tkH (i := 1) (v := ?v1x2z) (y := Or.inl ⟨by rfl, ?y1x2z⟩) (s := hS) (h := ?r1x2z)
  case y1x2z => (intro w' hSw; (try dsimp only at hSw); go_simp; (try with_reducible rfl))
  simp only [Act.put, sA, sB, sC]
  refine rdH (i := 2) (h := fun K hK => ?_)
  go_simp
  refine (H.out.v_area (Below.refl _ _).drew i HI.out 1 (by omega) hn).mono ?_
  rintro e w5 ⟨rfl, hb5⟩
  rw [HN.out]
  have hS5 := (hb5.cell (World.block_lt_of_cell? _ _ hS)).trans hS
  have H5 := hid (H.out.below (th (Below.refl w.heap.size w).drew hb5))
  clear hb5
  refine hK.out _ _ ?k2x3z (fun hS => ?s2x3z)
  case k2x3z => exact hS5
  clear hK K
  try simp only [Act.put, sA, sB, sC]
  refine rdH (i := 3) (h := fun K hK => ?_)
  go_simp
  refine (H5.out.log_blank i HI.out (fromOf n 1 : Nat) (fromOf n 1 + halfOf n : Nat) ((1 : Nat) : Int) hlo).mono ?_
  rintro e w7 ⟨rfl, h7⟩
  have H7 := hid h7
  have hS7 := ((H7.out.blk jd (by rw [List.getElem?_set_ne hid1]; exact HJD.out)).cell (j := 0) rfl)
  clear h7
  refine hK.out _ _ ?k3x4z (fun hS => ?s3x4z)
  case k3x4z => exact hS7
  clear hK K
  try simp only [Act.put, sA, sB, sC]
  refine tkH (i := 4) (v := ?v4x5z) (y := Or.inl ⟨by rfl, ?y4x5z⟩) (s := hS) (h := ?r4x5z)
  case y4x5z => (intro w' hSw; (try dsimp only at hSw); go_simp; (try with_reducible rfl))
  simp only [Act.put, sA, sB, sC]
  refine wpAnyH_done (by kernel_rfl) ?_ _
  go_wp2
  go_ret
  exact ⟨rfl, H7.out⟩
set_option maxRecDepth 100000 in
set_option maxHeartbeats 1000000 in
theorem vformat4 {B : Nat} {w0 w : World} {As : List Asset} {a : Nat} {d : Dev} (h : St B w0 w As) (i : Nat) (hi : As[i]? = some (dev a d)) (jd bd : Nat) (hjd : As[jd]? = some (blkA bd 26 [ptr a])) (hlo : d.loose.length ≤ 1073000000) :
    Calls Tryz.prog 87 #[ptr bd] w fun e w' => e = .returned (.int .i64 (countsD d 1).1) ∧ St B w0 w' (As.set i (dev a (countsD d 1).2)) := by
  have cd := (h.blk jd hjd).cell (j := 0) rfl
  have H := hid h; have HI := hid hi
  clear h hi hjd
  unfold ptr at cd ⊢
  go_enter Tryz.func87, Tryz.ntmps87
  go_wp2_with fail
  refine (vcounts_any H.out i HI.out 1 (by omega) (by omega)).mono ?_
  rintro e w7 ⟨rfl, h7⟩
  have H7 := hid h7
  clear h7
  go_wp2
  go_ret
  exact ⟨rfl, H7.out⟩
theorem enter_f1 (xs : Array Value) (w : World) : (callFunc 82 xs).run Tryz.prog w = .ok (.enter 82 xs) w := by kernel_rfl
theorem enter_f2 (xs : Array Value) (w : World) : (callFunc 84 xs).run Tryz.prog w = .ok (.enter 84 xs) w := by kernel_rfl
theorem enter_f3 (xs : Array Value) (w : World) : (callFunc 85 xs).run Tryz.prog w = .ok (.enter 85 xs) w := by kernel_rfl
theorem enter_f4 (xs : Array Value) (w : World) : (callFunc 87 xs).run Tryz.prog w = .ok (.enter 87 xs) w := by kernel_rfl
def fmtIds (k : Nat) : FuncId := if k = 0 then 82 else if k = 1 then 84 else if k = 2 then 16 else if k = 3 then 85 else 87
theorem vformat_all {B : Nat} {w0 w : World} {As : List Asset} {a : Nat} {d : Dev} (bd g : Nat) (h : St B w0 w (As ++ [blkA bd 26 [ptr a], blkA g 49 [.func (.func 82) #[] #[ptr bd], .func (.func 84) #[] #[ptr bd], .func (.func 16) #[ptr a] #[], .func (.func 85) #[] #[ptr bd], .func (.func 87) #[] #[ptr bd]]])) (i : Nat) (hi : As[i]? = some (dev a d)) (hn : 8 ≤ d.img.length) (hlo : d.loose.length ≤ 1000000000) :
    Calls Tryz.prog 64 #[.slice (some ⟨g, 0, none⟩) 5 5] w fun e w' => e = .returned (.int .i64 (formatD d).1) ∧ St B w0 w' (As.set i (dev a (formatD d).2)) := by
  have hok := (h.ok i (get_pre hi)).len
  refine (vall_seq (S := Dev) (fun s w => St B w0 w ((As ++ [blkA bd 26 [ptr a], blkA g 49 [.func (.func 82) #[] #[ptr bd], .func (.func 84) #[] #[ptr bd], .func (.func 16) #[ptr a] #[], .func (.func 85) #[] #[ptr bd], .func (.func 87) #[] #[ptr bd]]]).set i (dev a s))) (fun k s => s.loose.length ≤ d.loose.length + k * 65537 ∧ s.img.length = d.img.length) formatFs g 5 (by omega) fmtIds (fun k => if k = 2 then #[ptr a] else #[]) (fun k => if k = 2 then #[] else #[ptr bd]) ?_ ?_ ?_ w d ?_ ⟨by omega, rfl⟩).mono ?_
  · intro k s w' hk hs
    have := hs.blk (As.length + 1) (get_post' i hi 1 rfl)
    rcases (by omega : k = 0 ∨ k = 1 ∨ k = 2 ∨ k = 3 ∨ k = 4) with rfl | rfl | rfl | rfl | rfl
    · exact this.cell (j := 0) rfl
    · exact this.cell (j := 1) rfl
    · exact this.cell (j := 2) rfl
    · exact this.cell (j := 3) rfl
    · exact this.cell (j := 4) rfl
  · intro k s w' hk hq hs
    have hi' := set_get (C := dev a s) (get_pre (X := [blkA bd 26 [ptr a], blkA g 49 [.func (.func 82) #[] #[ptr bd], .func (.func 84) #[] #[ptr bd], .func (.func 16) #[ptr a] #[], .func (.func 85) #[] #[ptr bd], .func (.func 87) #[] #[ptr bd]]]) hi)
    have hl := formatFs_loose k s
    have hq2 : (formatFs k s).2.loose.length ≤ d.loose.length + (k + 1) * 65537 ∧ (formatFs k s).2.img.length = d.img.length := ⟨by omega, by rw [hl.2, hq.2]⟩
    rcases (by omega : k = 0 ∨ k = 1 ∨ k = 2 ∨ k = 3 ∨ k = 4) with rfl | rfl | rfl | rfl | rfl
    · refine (vformat1 hs i hi' (As.length + 0) bd (get_post' i hi 0 rfl) (ne_post hi 0) (by omega)).mono ?_
      rintro e w2 ⟨rfl, h2⟩
      rw [set_twice] at h2
      exact ⟨rfl, h2, fun _ => hq2⟩
    · refine (vformat2 hs i hi' (As.length + 0) bd (get_post' i hi 0 rfl) (ne_post hi 0) (by omega)).mono ?_
      rintro e w2 ⟨rfl, h2⟩
      rw [set_twice] at h2
      exact ⟨rfl, h2, fun _ => hq2⟩
    · refine (hs.dev_flush i hi').mono ?_
      rintro e w2 ⟨rfl, h2⟩
      rw [set_twice] at h2
      exact ⟨rfl, h2, fun _ => hq2⟩
    · refine (vformat3 hs i hi' (As.length + 0) bd (get_post' i hi 0 rfl) (ne_post hi 0) (by omega) (by omega)).mono ?_
      rintro e w2 ⟨rfl, h2⟩
      rw [set_twice] at h2
      exact ⟨rfl, h2, fun _ => hq2⟩
    · refine (vformat4 hs i hi' (As.length + 0) bd (get_post' i hi 0 rfl) (by omega)).mono ?_
      rintro e w2 ⟨rfl, h2⟩
      rw [set_twice] at h2
      exact ⟨rfl, h2, fun _ => hq2⟩
  · intro k hk xs w'
    rcases (by omega : k = 0 ∨ k = 1 ∨ k = 2 ∨ k = 3 ∨ k = 4) with rfl | rfl | rfl | rfl | rfl
    · exact enter_f1 xs w'
    · exact enter_f2 xs w'
    · exact enter_flush xs w'
    · exact enter_f3 xs w'
    · exact enter_f4 xs w'
  · have : ((As ++ [blkA bd 26 [ptr a], blkA g 49 [.func (.func 82) #[] #[ptr bd], .func (.func 84) #[] #[ptr bd], .func (.func 16) #[ptr a] #[], .func (.func 85) #[] #[ptr bd], .func (.func 87) #[] #[ptr bd]]]).set i (dev a d)) = _ := set_same (get_pre hi)
    rw [this]; exact h
  · rintro e w' ⟨rfl, h'⟩
    have e1 : seqOf formatFs 0 5 d = formatD d := by unfold formatD; rw [if_neg (by omega)]
    rw [e1] at h' ⊢
    rw [set_pre hi] at h'
    exact ⟨rfl, h'.drop_post⟩
set_option maxRecDepth 100000 in
set_option maxHeartbeats 1000000 in
theorem vformat_any {B : Nat} {w0 w : World} {As : List Asset} {a : Nat} {d : Dev} (h : St B w0 w As) (i : Nat) (hi : As[i]? = some (dev a d)) (hlo : d.loose.length ≤ 1000000000) :
    Calls Tryz.prog 36 #[ptr a] w fun e w' => e = .returned (.int .i64 (formatD d).1) ∧ St B w0 w' (As.set i (dev a (formatD d).2)) := by
  have HI := hid hi
  obtain ⟨bd, hbd⟩ : ∃ bd, w.heap.size = bd := ⟨_, rfl⟩
  obtain ⟨w1, hw1⟩ : ∃ w1, w.alloc (.cells #[ptr a] 26) = w1 := ⟨_, rfl⟩
  have h1 : St B w0 w1 (As ++ [blkA bd 26 [ptr a]]) := by rw [← hw1, ← hbd]; exact h.box _ _
  have H1 := hid h1
  have cd := (h1.blk (As.length + 0) (get_post 0 rfl)).cell (j := 0) rfl
  obtain ⟨F, hA, _⟩ := h1.open i (get_pre hi)
  have HM := hid (vmay_any w1 hA)
  have HW1 := hid hw1; have HBD := hid hbd
  clear h h1 hi hbd hw1 hA
  unfold ptr at cd HW1 HM ⊢
  by_cases h8 : d.img.length < 8
  · have HE : Hid (formatD d = (3, d)) := hid (by unfold formatD; rw [if_pos h8])
    have HE2 : Hid (mayOf d = 3) := hid (by unfold mayOf; rw [if_pos h8])
    rw [HE.out]
    go_enter Tryz.func36, Tryz.ntmps36
    go_upto_region 1 with fail
    rw [HW1.out, HBD.out]
    go_wp2_with fail
    refine HM.out.mono ?_
    rintro e w' ⟨rfl, hw'⟩
    subst w'
    rw [HE2.out]
    go_wp2
    go_ret
    exact ⟨rfl, by rw [set_same HI.out]; exact H1.out.drop_post⟩
  · have HE2 : Hid (mayOf d = 0) := hid (by unfold mayOf; rw [if_neg h8])
    go_enter Tryz.func36, Tryz.ntmps36
    go_upto_region 1 with fail
    rw [HW1.out, HBD.out]
    go_wp2_with fail
    refine HM.out.mono ?_
    rintro e w' ⟨rfl, hw'⟩
    subst w'
    rw [HE2.out]
    go_wp2_with (refine wpl_layV rowF rfl 5 _ rfl [.func (.func 82) #[] #[ptr bd], .func (.func 84) #[] #[ptr bd], .func (.func 16) #[ptr a] #[], .func (.func 85) #[] #[ptr bd], .func (.func 87) #[] #[ptr bd]] rfl (by omega) (by omega) (by simp [Value.cells]) (by simp [Act.eval, ptr]) ?_; intro w6 hb6 h6; have H6 := hid (H1.out.addBlk' hb6 h6 (Nat.le_refl _)); clear hb6 h6)
    obtain ⟨g6, hg6⟩ : ∃ g6, w1.heap.size = g6 := ⟨_, rfl⟩
    rw [hg6]
    rw [hg6] at H6
    clear hg6
    refine (vformat_all bd g6 H6.out i HI.out (by omega) hlo).mono ?_
    rintro e w7 ⟨rfl, h7⟩
    have H7 := hid h7
    clear h7
    go_wp2
    go_ret
    exact ⟨rfl, H7.out⟩
end Go.Proofs.YtlondopgibcikaaGreat
namespace Go.Proofs.YtlondopgibcikaaGreat
open Go.RowKit Ent
/-- a vault's cells -/
def vCells (a gen : Nat) (next : Int) (vl : Value) (br : Bool) : List Value := [ptr a, .int .i64 gen, .int .i64 next, vl, .bool br]
/-- records of its own -/
def listA (v : Value) (L : List (List UInt8)) : Asset := fun w F => ∃ vs Fb, w.ownsRow 0 44 1 v L.length vs ∧ RowSW w Fb vs L ∧ (∀ k, Fb k → F k) ∧ ∀ k, v.ownBlock = some k → F k ∧ ¬ Fb k
theorem good_listA (v : Value) (L : List (List UInt8)) : Good (listA v L) := ⟨fun ⟨vs, Fb, ho, hr, hf, hv⟩ hk hG => ⟨vs, Fb, owns_keep ho hk (fun k hk' => hG _ (hv k hk').1), hr.keep hk (fun k hk' => hG _ (hf k hk')), hf, hv⟩⟩
theorem FreshL.listA {B : Nat} {w : World} {v : Value} {L : List (List UInt8)} (h : FreshL B w v L) : YtlondopgibcikaaGreat.listA v L w (fun k => B ≤ k ∧ k < w.heap.size) := by
  obtain ⟨vs, Fb, h1, h2, h3, h4⟩ := h
  exact ⟨vs, Fb, owns_mono h1 (Nat.zero_le _), h2, h3, fun k hk => ⟨h1.lt k hk, h4 k hk⟩⟩
theorem St.addList {B : Nat} {w0 w w1 : World} {As : List Asset} (h : St B w0 w As) (hb : Below w.heap.size w w1) {v : Value} {L : List (List UInt8)} (hl : FreshL w.heap.size w1 v L) : St B w0 w1 (As ++ [listA v L]) :=
  h.add hb (good_listA _ _) hl.listA (fun _ hk => hk)
/-- lists of bytes that are read, in blocks of F -/
def LRF (w : World) (F : Nat → Prop) (lo : Option Addr) (L : List (List UInt8)) : Prop := L = [] ∨ ∃ b o, lo = some ⟨b, o, none⟩ ∧ F b ∧ ∀ (k : Nat) (l : List UInt8), L[k]? = some l → ∃ ro rc, w.cell? ⟨b, o + k, none⟩ = some (.slice ro l.length rc) ∧ l.length ≤ rc ∧ SB w ro rc l ∧ (l ≠ [] → ∀ x, ro = some x → F x.block)
theorem LRF.keep {w w' : World} {F G : Nat → Prop} {lo : Option Addr} {L : List (List UInt8)} (h : LRF w F lo L) (hk : Keep G w w') (hG : ∀ k, F k → ¬ G k) : LRF w' F lo L := by
  rcases h with h | ⟨b, o, h1, h2, h3⟩
  · exact .inl h
  · refine .inr ⟨b, o, h1, h2, fun k l hl => ?_⟩
    obtain ⟨ro, rc, c1, c2, c3, c4⟩ := h3 k l hl
    exact ⟨ro, rc, (hk.cell (World.block_lt_of_cell? w _ c1) (hG _ h2)).trans c1, c2, sb_keepE c3 hk (fun hne x hx => hG _ (c4 hne x hx)), c4⟩
theorem keepB {B : Nat} {w0 w : World} (h : Below B w0 w) : Keep (fun k => B ≤ k) w0 w := ⟨h.os, h.tape, h.output, h.size, fun k _ hn => h.block k (by omega)⟩
theorem LRF.lr {w : World} {F : Nat → Prop} {lo : Option Addr} {L : List (List UInt8)} (h : LRF w F lo L) : LR w lo L := by
  rcases h with h | ⟨b, o, h1, h2, h3⟩
  · exact .inl h
  · exact .inr ⟨b, o, h1, fun k l hl => by obtain ⟨ro, rc, c1, c2, c3, _⟩ := h3 k l hl; exact ⟨ro, rc, c1, c2, c3⟩⟩
def lstA (lo : Option Addr) (L : List (List UInt8)) : Asset := fun w F => LRF w F lo L
theorem good_lstA (lo : Option Addr) (L : List (List UInt8)) : Good (lstA lo L) := ⟨fun h hk hG => LRF.keep h hk hG⟩
theorem lrf_of_row {w : World} {F : Nat → Prop} {v : Value} {L : List (List UInt8)} {vs : List Value} {Fb : Nat → Prop} (ho : w.ownsRow 0 44 1 v L.length vs) (hr : RowSW w Fb vs L) (hf : ∀ k, Fb k → F k) (hv : ∀ k, v.ownBlock = some k → F k) : ∃ lo c, v = .slice lo L.length c ∧ LRF w F lo L := by
  rcases ho.2 with ⟨h1, h0⟩ | ⟨g, c, cur, hv', hg, hh, hc, hm, hs, ht⟩
  · exact ⟨none, 0, by rw [h0]; exact h1, .inl (List.eq_nil_of_length_eq_zero h0)⟩
  · refine ⟨_, c, hv', .inr ⟨g, 0, rfl, hv g (by rw [hv']; rfl), fun k l hl => ?_⟩⟩
    obtain ⟨u, hu, ro, rc, e1, e2, e3, _, e5⟩ := (show ∃ u, vs[k]? = some u ∧ SW w Fb u l from by
      obtain ⟨u, hu⟩ : ∃ u, vs[k]? = some u := ⟨_, List.getElem?_eq_getElem (by rw [hr.1]; exact (List.getElem?_eq_some_iff.1 hl).1)⟩
      exact ⟨u, hu, hr.2 k u l hu hl⟩)
    refine ⟨ro, rc, ?_, e2, e3, fun _ x hx => hf _ (e5 x hx)⟩
    rw [Nat.zero_add, cell_of_row w g k cur _ _ hh, ← e1]
    rw [← ht, List.getElem?_take] at hu
    split at hu
    · simpa using hu
    · cases hu
theorem listA_lst {w : World} {F : Nat → Prop} {v : Value} {L : List (List UInt8)} (h : listA v L w F) : ∃ lo c, v = .slice lo L.length c ∧ LRF w F lo L := by
  obtain ⟨vs, Fb, ho, hr, hf, hv⟩ := h
  exact lrf_of_row ho hr hf (fun k hk => (hv k hk).1)
/-- lists that are lent: old ones, or another asset's -/
def LentI (B : Nat) (w0 : World) (As : List Asset) (i : Nat) (lo : Option Addr) (L : List (List UInt8)) : Prop := LRF w0 (fun k => k < B) lo L ∨ ∃ (j : Nat) (A : Asset), i ≠ j ∧ As[j]? = some A ∧ ∀ w F, A w F → LRF w F lo L
section
variable {B : Nat} {w0 w w1 : World} {As X : List Asset} {a : Nat} {d : Dev} {lo : Option Addr} {L : List (List UInt8)}
theorem LentI.app {i : Nat} (h : LentI B w0 As i lo L) : LentI B w0 (As ++ X) i lo L := by
  rcases h with h | ⟨j, A, h1, h2, h3⟩
  · exact .inl h
  · exact .inr ⟨j, A, h1, get_pre h2, h3⟩
theorem LentI.set {i : Nat} (C : Asset) (h : LentI B w0 As i lo L) : LentI B w0 (As.set i C) i lo L := by
  rcases h with h | ⟨j, A, h1, h2, h3⟩
  · exact .inl h
  · exact .inr ⟨j, A, h1, by rw [List.getElem?_set_ne h1]; exact h2, h3⟩
theorem LentI.lrf {i : Nat} (h : LentI B w0 As i lo L) (hs : St B w0 w As) : ∃ F, LRF w F lo L := by
  rcases h with h | ⟨j, A, h1, h2, h3⟩
  · exact ⟨_, h.keep (keepB hs.be) (fun k hk hF => by omega)⟩
  · obtain ⟨F, hA, _⟩ := hs.open j h2
    exact ⟨F, h3 _ _ hA⟩
/-- one of them is written into the log -/
theorem St.log_writeL (h : St B w0 w As) (i : Nat) (hi : As[i]? = some (dev a d)) (hl : LentI B w0 As i lo L) (f t g at_ : Int) (k : Nat) (rec : List UInt8) (hk : L[k]? = some rec) (hrm : rec.length ≤ 9223372036854775807) (hlo : d.loose.length ≤ 1073000000) (ha1 : -9223372036854775808 ≤ at_ ∧ at_ ≤ 9223372036854775807) :
    ∃ b o ro rc, lo = some ⟨b, o, none⟩ ∧ w.cell? ⟨b, o + k, none⟩ = some (.slice ro rec.length rc) ∧ ∀ w1, Below w.heap.size w w1 →
    Calls Tryz.prog 73 #[ptr a, .agg #[.int .i64 f, .int .i64 t, .int .i64 g], .int .i64 at_, .slice ro rec.length rc] w1 fun e w' => e = .returned (.tuple #[.int .i64 (logWrite d f t g at_ rec).1.1, .int .i64 (logWrite d f t g at_ rec).1.2]) ∧ St B w0 w' (As.set i (dev a (logWrite d f t g at_ rec).2)) := by
  rcases hl with hl | ⟨j, A, hij, hj, hLA⟩
  · have hl2 := hl.keep (keepB h.be) (fun k hk hF => by omega)
    rcases hl2 with hl2 | ⟨b, o, h1, h2, h3⟩
    · rw [hl2] at hk; simp at hk
    · obtain ⟨ro, rc, c1, c2, c3, c4⟩ := h3 k rec hk
      refine ⟨b, o, ro, rc, h1, c1, fun w1 hb => ?_⟩
      exact h.log_write2 hb i hi f t g at_ ro rec.length rc rec rfl c2 hrm (c3.below hb) (fun hne x hx => .inl (c4 hne x hx)) hlo ha1
  · obtain ⟨F, hA, hF, ho, _⟩ := h.open i hi
    obtain ⟨G, hG, hGB, hFG⟩ := ho j _ hij hj
    rcases hLA _ _ hG with hl2 | ⟨b, o, h1, h2, h3⟩
    · rw [hl2] at hk; simp at hk
    · obtain ⟨ro, rc, c1, c2, c3, c4⟩ := h3 k rec hk
      refine ⟨b, o, ro, rc, h1, c1, fun w1 hb => ?_⟩
      obtain ⟨F', hA', hF', ho', hcl'⟩ := (h.below hb).open i hi
      obtain ⟨G', hG', hGB', hFG'⟩ := ho' j _ hij hj
      rcases hLA _ _ hG' with hl3 | ⟨b', o', h1', h2', h3'⟩
      · rw [hl3] at hk; simp at hk
      · obtain ⟨ro', rc', c1', c2', c3', c4'⟩ := h3' k rec hk
        have e1 : b = b' ∧ o = o' := by rw [h1] at h1'; injection h1' with e; injection e with e1 e2; exact ⟨e1, e2⟩
        obtain ⟨rfl, rfl⟩ := e1
        have e2 : w1.cell? ⟨b, o + k, none⟩ = some (.slice ro rec.length rc) := (hb.cell (World.block_lt_of_cell? w _ c1)).trans c1
        rw [e2] at c1'
        injection c1' with c1'
        injection c1' with e3 _ e4
        subst e3; subst e4
        refine (logWrite_any f t g at_ ro rec.length rc rec rfl c2 hrm w1 c3' (fun hne x hx hf => hFG' _ hf (c4' hne x hx)) hA' (fun k hk => (hF' k hk).2) hlo ha1).mono ?_
        rintro e w' ⟨he, hp, hk⟩
        exact ⟨he, hcl' w' _ _ hk (good_dev _ _) hp (fun _ h => h)⟩
end
set_option maxRecDepth 100000 in
theorem vnone_any (v a gen : Nat) (next : Int) (vl : Value) (br : Bool) (w : World) (h : Blk w v 102 (vCells a gen next vl br)) :
    Calls Tryz.prog 91 #[ptr v] w fun e w' => e = .returned (.bool false) ∧ w' = w := by
  have c0 := h.cell (j := 0) rfl
  unfold ptr at c0 ⊢
  go_enter Tryz.func91, Tryz.ntmps91
  go_wp2
  go_ret
  exact ⟨rfl, rfl⟩
set_option maxRecDepth 100000 in
theorem vready_any (v a gen : Nat) (next : Int) (vl : Value) (br : Bool) (w : World) (h : Blk w v 102 (vCells a gen next vl br)) :
    Calls Tryz.prog 70 #[ptr v] w fun e w' => e = .returned (.int .i64 (if br then 23 else 0)) ∧ w' = w := by
  have c4 := h.cell (j := 4) rfl
  have H := hid h
  clear h
  unfold ptr
  go_enter Tryz.func70, Tryz.ntmps70
  go_wp2_with fail
  refine (vnone_any v a gen next vl br w H.out).mono ?_
  rintro e w' ⟨rfl, hw'⟩
  subst w'
  cases br
  · go_wp2
    go_ret
    exact ⟨rfl, rfl⟩
  · go_wp2
    go_ret
    exact ⟨rfl, rfl⟩
set_option maxRecDepth 100000 in
theorem vgen_any (v a gen : Nat) (next : Int) (vl : Value) (br : Bool) (w : World) (h : Blk w v 102 (vCells a gen next vl br)) :
    Calls Tryz.prog 39 #[ptr v] w fun e w' => e = .returned (.int .i64 gen) ∧ w' = w := by
  have c1 := h.cell (j := 1) rfl
  have H := hid h
  clear h
  unfold ptr
  go_enter Tryz.func39, Tryz.ntmps39
  go_wp2_with fail
  refine (vnone_any v a gen next vl br w H.out).mono ?_
  rintro e w' ⟨rfl, hw'⟩
  subst w'
  go_wp2
  go_ret
  exact ⟨rfl, rfl⟩
set_option maxRecDepth 100000 in
theorem vtold_any (v a gen : Nat) (next c : Int) (vl : Value) (br : Bool) (w : World) (h : Blk w v 102 (vCells a gen next vl br)) :
    Calls Tryz.prog 74 #[ptr v, .int .i64 c] w fun e w' => e = .returned (.int .i64 c) ∧ Blk w' v 102 (vCells a gen next vl (br || decide (c ≠ 0))) ∧ Keep (fun k => k = v) w w' := by
  have c4 := h.cell (j := 4) rfl
  have f4 := h.free 4
  have H := hid h
  clear h
  unfold ptr
  cases br
  · by_cases hc : c = 0
    · subst hc
      have HS := hid (H.out.set 4 (.bool false))
      go_enter Tryz.func74, Tryz.ntmps74
      go_wp2
      go_ret
      exact ⟨rfl, HS.out, (Keep.refl (fun k => k = v) _).setCell (p := ⟨v, 4, none⟩) rfl _⟩
    · have hne : (c != 0) = true := by simpa using hc
      have HS := hid (H.out.set 4 (.bool true))
      have HC := hid hc
      clear hc
      go_enter Tryz.func74, Tryz.ntmps74
      go_wp2
      go_ret
      exact ⟨rfl, by rw [decide_eq_true HC.out]; exact HS.out, (Keep.refl (fun k => k = v) _).setCell (p := ⟨v, 4, none⟩) rfl _⟩
  · have HS := hid (H.out.set 4 (.bool true))
    go_enter Tryz.func74, Tryz.ntmps74
    go_wp2
    go_ret
    exact ⟨rfl, HS.out, (Keep.refl (fun k => k = v) _).setCell (p := ⟨v, 4, none⟩) rfl _⟩
end Go.Proofs.YtlondopgibcikaaGreat
