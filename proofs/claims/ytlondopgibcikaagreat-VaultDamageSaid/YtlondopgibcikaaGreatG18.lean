/- Assets: the document's log; lent bytes; what an act of layer 6 makes of a device. Split from LogNeedsW: what names functions of the laws. The log, plainly: what a scan tells of records one behind the other. The document's Check, Blank, Sectors. The document's Sectors. -/
import Derived.Test.YtlondopgibcikaaGreatRows
import Derived.Test.YtlondopgibcikaaGreatG01
import Derived.Test.YtlondopgibcikaaGreatG02
import Derived.Test.YtlondopgibcikaaGreatG03
import Derived.Test.YtlondopgibcikaaGreatG04
import Derived.Test.YtlondopgibcikaaGreatG05
import Derived.Test.YtlondopgibcikaaGreatG06
import Derived.Test.YtlondopgibcikaaGreatG07
import Derived.Test.YtlondopgibcikaaGreatG08
import Derived.Test.YtlondopgibcikaaGreatG09
import Derived.Test.YtlondopgibcikaaGreatG10
import Derived.Test.YtlondopgibcikaaGreatG11
import Derived.Test.YtlondopgibcikaaGreatG13
import Derived.Test.YtlondopgibcikaaGreatG14
import Derived.Test.YtlondopgibcikaaGreatG15
import Derived.Test.YtlondopgibcikaaGreatG16
import Derived.Test.YtlondopgibcikaaGreatG17
import Derived.WalkKit
import Derived.WalkSpells
import Derived.WalkLawsBesides
import Derived.Deep.RegionHeld3
import Derived.Deep.QuietTactic
import Derived.BigQuiet
namespace Go.Proofs.YtlondopgibcikaaGreat
open Go.RowKit Ent
theorem FreshL.below {B : Nat} {w w' : World} {v : Value} {L : List (List UInt8)} (h : FreshL B w v L) (hb : Below w.heap.size w w') : FreshL B w' v L := by
  obtain ⟨vs, Fb, h1, h2, h3, h4⟩ := h
  exact ⟨vs, Fb, owns_below h1 hb, h2.keep (Keep.ofBelow (F := fun _ => False) hb) (fun _ _ => id), fun k hk => ⟨(h3 k hk).1, Nat.lt_of_lt_of_le (h3 k hk).2 hb.size⟩, h4⟩
section
variable {B : Nat} {w0 w w1 : World} {As : List Asset} {a : Nat} {d : Dev}
end
theorem scan_short (d : Dev) (base gen M : Nat) : ∀ (m i : Nat) (out : List (List UInt8)) (next : Nat) (rec : List UInt8) (b : Bool), (∀ l ∈ out, l.length ≤ M) → rec.length + 49 * m ≤ M → ∀ l ∈ (scanLoop d base gen m i out next rec b).1, l.length ≤ M
  | 0, _, out, _, _, _, h, _ => h
  | m + 1, i, out, next, rec, b, h, hr => by
    rw [scanLoop]
    rcases hro : rightOf (d.read ((base + i : Nat) : Int)).1 gen i with _ | ⟨k, p⟩
    · exact h
    · have h49 := (right_kind hro).2.2
      simp only
      split
      · exact h
      · split
        · exact scan_short d base gen M m _ _ _ _ _ h (by rw [List.length_append]; omega)
        · refine scan_short d base gen M m _ _ _ _ _ (fun l hl => ?_) (by simp; omega)
          rcases List.mem_append.1 hl with hl | hl
          · exact h l hl
          · simp at hl; subst hl; rw [List.length_append]; omega
theorem logScan_short {d : Dev} (h : d.ok) (f t g : Int) : ∀ l ∈ (logScan d f t g).1, l.length ≤ 3211264 := by
  have := h.len
  unfold logScan
  split
  · simp
  · rename_i hc
    have hc := check_ok hc
    split
    · simp
    · exact scan_short d _ _ _ _ 0 [] 0 [] false (by simp) (by simp; omega)
theorem blankLoop_loose : ∀ (m : Nat) (d : Dev) (i : Nat), (blankLoop d i m).2.loose.length ≤ d.loose.length + m ∧ (blankLoop d i m).2.img.length = d.img.length
  | 0, d, i => ⟨Nat.le_refl _, rfl⟩
  | m + 1, d, i => by
    have h1 := write_loose d (i : Int) (zr 64)
    rw [blankLoop]
    split
    · exact ⟨by omega, h1.2⟩
    · have h2 := blankLoop_loose m (d.write (i : Int) (zr 64)).2 (i + 1)
      exact ⟨by omega, by rw [h2.2, h1.2]⟩
theorem blank_loose (d : Dev) (f t g : Int) : (blankOf d f t g).2.loose.length ≤ d.loose.length + d.img.length ∧ (blankOf d f t g).2.img.length = d.img.length := by
  unfold blankOf
  split
  · exact ⟨Nat.le_add_right _ _, rfl⟩
  · rename_i hc
    obtain ⟨c1, c2, c3, -, -⟩ := check_ok hc
    have h9 : (t - f).toNat ≤ d.img.length := by omega
    have h1 := blankLoop_loose (t - f).toNat d f.toNat
    split
    · exact ⟨by omega, h1.2⟩
    · have h2 := flush_loose (blankLoop d f.toNat (t - f).toNat).2
      exact ⟨by omega, by rw [h2.2, h1.2]⟩
theorem writeLoop_loose (gen at_ base many : Nat) : ∀ (ps : List (List UInt8)) (i : Nat) (d : Dev), (writeLoop gen at_ base many i ps d).2.loose.length ≤ d.loose.length + ps.length ∧ (writeLoop gen at_ base many i ps d).2.img.length = d.img.length
  | [], i, d => ⟨Nat.le_refl _, rfl⟩
  | p :: ps, i, d => by
    have h1 := write_loose d ((base + at_ + i : Nat) : Int) (logSec gen (at_ + i) (kindOf i many) p)
    rw [writeLoop]
    split
    · exact ⟨by rw [List.length_cons]; omega, h1.2⟩
    · have h2 := writeLoop_loose gen at_ base many ps (i + 1) (d.write ((base + at_ + i : Nat) : Int) (logSec gen (at_ + i) (kindOf i many) p)).2
      exact ⟨by rw [List.length_cons]; omega, by rw [h2.2, h1.2]⟩
theorem lwrite_loose (d : Dev) (f t g at_ : Int) (rec : List UInt8) : (logWrite d f t g at_ rec).2.loose.length ≤ d.loose.length + d.img.length ∧ (logWrite d f t g at_ rec).2.img.length = d.img.length := by
  unfold logWrite
  split
  · exact ⟨Nat.le_add_right _ _, rfl⟩
  · rename_i hc
    have hc := check_ok hc
    split
    · exact ⟨Nat.le_add_right _ _, rfl⟩
    · split
      · exact ⟨Nat.le_add_right _ _, rfl⟩
      · split
        · exact ⟨Nat.le_add_right _ _, rfl⟩
        · rename_i ha _ hf
          have h1 := writeLoop_loose g.toNat at_.toNat f.toNat (needOf rec.length) (partsOf rec) 0 d
          rw [partsOf_len] at h1
          split <;> exact ⟨by simp only; omega, h1.2⟩
end Go.Proofs.YtlondopgibcikaaGreat
namespace Go.Proofs.YtlondopgibcikaaGreat
open Go.RowKit Ent
def needI (n : Int) : Int := if n < 0 ∨ 1048576 < n then 0 else needOf n.toNat
set_option maxRecDepth 100000 in
set_option maxHeartbeats 400000 in
theorem needR_any (n : Int) (w : World) : Calls Tryz.prog 76 #[.int .i64 n] w fun e w' => e = .returned (.int .i64 (needI n)) ∧ w' = w := by
  by_cases h : n < 0 ∨ 1048576 < n
  · have HE : Hid (needI n = 0) := hid (by rw [needI, if_pos h])
    by_cases h1 : n < 0
    · clear h
      go_enter Tryz.func76, Tryz.ntmps76
      go_wp2
      go_ret
      exact ⟨by rw [HE.out]; rfl, rfl⟩
    · have h2 : 1048576 < n := by omega
      clear h
      go_enter Tryz.func76, Tryz.ntmps76
      go_wp2
      go_ret
      exact ⟨by rw [HE.out]; rfl, rfl⟩
  · have HE : Hid (needI n = needOf n.toNat) := hid (by rw [needI, if_neg h])
    obtain ⟨m, rfl⟩ : ∃ m : Nat, n = m := ⟨n.toNat, by omega⟩
    have hm : m ≤ 1048576 := by omega
    clear h
    by_cases h0 : m = 0
    · subst h0
      go_enter Tryz.func76, Tryz.ntmps76
      go_wp2
      go_ret
      exact ⟨by rw [HE.out]; rfl, rfl⟩
    · have HN : Hid (needOf m = (m + 48) / 49) := hid (by unfold needOf; rw [if_neg h0])
      have b1 : ((m : Int) == 0) = false := by rw [beq_eq_false_iff_ne]; omega
      go_enter Tryz.func76, Tryz.ntmps76
      go_wp2
      go_ret
      refine ⟨?_, rfl⟩
      rw [HE.out, Int.toNat_natCast, HN.out]
      show Ending.returned (.int .i64 (((m : Int) + 49 - 1) / 49)) = _
      congr 2
      omega
end Go.Proofs.YtlondopgibcikaaGreat
namespace Go.Proofs.YtlondopgibcikaaGreat
open Go.RowKit Ent
/-! ### what is right -/
/-- the j-th sector of a record that lies at at_ -/
def recSec (gen at_ : Nat) (rec : List UInt8) (j : Nat) : List UInt8 := logSec gen (at_ + j) (kindOf j (needOf rec.length)) ((rec.drop (49 * j)).take 49)
def needsOf : List (List UInt8) → Nat
  | [] => 0
  | r :: L => needOf r.length + needsOf L
theorem needsOf_snoc (L : List (List UInt8)) (r : List UInt8) : needsOf (L ++ [r]) = needsOf L + needOf r.length := by
  induction L with
  | nil => simp [needsOf]
  | cons x L ih => simp [needsOf, ih]; omega
/-- do these records lie in the sectors from at_ on? -/
def LiesIn (S : Nat → List UInt8) (gen : Nat) : Nat → List (List UInt8) → Prop
  | _, [] => True
  | at_, r :: L => (∀ j, j < needOf r.length → S (at_ + j) = recSec gen at_ r j) ∧ LiesIn S gen (at_ + needOf r.length) L
theorem LiesIn.snoc {S : Nat → List UInt8} {gen : Nat} : ∀ {L : List (List UInt8)} {at_ : Nat} {r : List UInt8}, LiesIn S gen at_ L → (∀ j, j < needOf r.length → S (at_ + needsOf L + j) = recSec gen (at_ + needsOf L) r j) → LiesIn S gen at_ (L ++ [r])
  | [], at_, r, _, h2 => by exact ⟨by simpa [needsOf] using h2, trivial⟩
  | x :: L, at_, r, h, h2 => by
    refine ⟨h.1, LiesIn.snoc h.2 ?_⟩
    intro j hj
    have := h2 j hj
    simpa [needsOf, Nat.add_assoc] using this
theorem LiesIn.same {S T : Nat → List UInt8} {gen : Nat} : ∀ {L : List (List UInt8)} {at_ : Nat}, LiesIn S gen at_ L → (∀ i, at_ ≤ i → i < at_ + needsOf L → T i = S i) → LiesIn T gen at_ L
  | [], _, _, _ => trivial
  | x :: L, at_, h, h2 => by
    refine ⟨fun j hj => ?_, h.2.same fun i h3 h4 => h2 i (by omega) (by simp [needsOf]; omega)⟩
    rw [h2 (at_ + j) (by omega) (by simp [needsOf]; omega)]
    exact h.1 j hj
/-- whatever lies in a sector of records lies there under its own index -/
theorem LiesIn.at {S : Nat → List UInt8} {gen : Nat} : ∀ {L : List (List UInt8)} {at_ : Nat}, LiesIn S gen at_ L → ∀ i, at_ ≤ i → i < at_ + needsOf L → ∃ k p, S i = logSec gen i k p
  | [], at_, _, i, h1, h2 => by simp [needsOf] at h2; omega
  | x :: L, at_, h, i, h1, h2 => by
    by_cases hi : i < at_ + needOf x.length
    · refine ⟨kindOf (i - at_) (needOf x.length), ((x.drop (49 * (i - at_))).take 49), ?_⟩
      have := h.1 (i - at_) (by omega)
      rw [show at_ + (i - at_) = i by omega] at this
      rw [this, recSec, show at_ + (i - at_) = i by omega]
    · exact h.2.at i (by omega) (by simp [needsOf] at h2; omega)
end Go.Proofs.YtlondopgibcikaaGreat
namespace Go.Proofs.YtlondopgibcikaaGreat
open Go.RowKit Ent
/-- since w, a device at a has been turned; G is its own now -/
structure TurnR (F : Nat → Prop) (w w' : World) (a : Nat) (d : Dev) (G : Nat → Prop) : Prop where
  p : RD w' a G d
  g : ∀ k, G k → grow F w w' k
  k : Keep F w w'
section
variable {F G : Nat → Prop} {w w1 w2 : World} {a : Nat} {d d2 : Dev}
theorem TurnR.start (h : RD w a F d) : TurnR F w w a d F := ⟨h, fun _ => .inl, Keep.refl _ _⟩
theorem TurnR.below (h : TurnR F w w1 a d G) (hb : Below w1.heap.size w1 w2) : TurnR F w w2 a d G :=
  ⟨h.p.below hb, fun k hk => (h.g k hk).imp id fun x => ⟨x.1, Nat.lt_of_lt_of_le x.2 hb.size⟩, h.k.trans (Keep.ofBelow hb)⟩
theorem TurnR.step (h : TurnR F w w1 a d G) (hp : RD w2 a (grow G w1 w2) d2) (hk : Keep G w1 w2) : TurnR F w w2 a d2 (grow G w1 w2) where
  p := hp
  g := fun k hh => by
    rcases hh with hh | hh
    · exact (h.g k hh).imp id fun x => ⟨x.1, Nat.lt_of_lt_of_le x.2 hk.size⟩
    · exact .inr ⟨Nat.le_trans h.k.size hh.1, hh.2⟩
  k := h.k.comp hk (fun _ _ x => x) (fun i hi hg => by
    rcases h.g i hg with x | x
    · exact x
    · omega)
theorem TurnR.lt (h : TurnR F w w1 a d G) (hF : ∀ k, F k → k < w.heap.size) : ∀ k, G k → k < w1.heap.size := fun k hk => by
  rcases h.g k hk with x | x
  · exact Nat.lt_of_lt_of_le (hF k x) h.k.size
  · exact x.2
theorem TurnR.stop (h : TurnR F w w1 a d G) : RD w1 a (grow F w w1) d ∧ Keep F w w1 := ⟨h.p.mono h.g, h.k⟩
theorem TurnR.rebase (h : TurnR F w1 w2 a d G) (hb : Below w.heap.size w w1) : TurnR F w w2 a d G :=
  ⟨h.p, fun k hk => (h.g k hk).imp id fun x => ⟨Nat.le_trans hb.size x.1, x.2⟩, (Keep.ofBelow hb).trans h.k⟩
theorem TurnR.aside {g : Nat} (h : TurnR F w w1 a d G) (hk : Keep (fun j => j = g) w1 w2) (hg : ¬ G g) (hw : w.heap.size ≤ g) : TurnR F w w2 a d G where
  p := h.p.keep hk (fun k hk e => hg (by rw [← e]; exact hk))
  g := fun k hh => (h.g k hh).imp id fun x => ⟨x.1, Nat.lt_of_lt_of_le x.2 hk.size⟩
  k := h.k.comp hk (fun _ _ x => x) (fun i hi e => by omega)
end
theorem sizeR_drewN {W : World} {a : Nat} {F : Nat → Prop} {d : Dev} (h : RD W a F d) (n : Nat) : Calls Tryz.prog 42 #[ptr a] (W.drewN n) fun e w' => e = .returned (.int .i64 d.img.length) ∧ w' = W.drewN n :=
  sizeR_any _ (h.below (below_drewN (Below.refl _ _) n))
set_option maxRecDepth 100000 in
set_option maxHeartbeats 2000000 in
theorem rcheck_any {a : Nat} {F : Nat → Prop} {d : Dev} (f t g : Int) (w : World) (h : RD w a F d) :
    Calls Tryz.prog 106 #[ptr a, .agg #[.int .i64 f, .int .i64 t, .int .i64 g]] w fun e w' => e = .returned (.int .i64 (checkOf d f t g)) ∧ Below w.heap.size w w' := by
  have hlen := h.1.len
  obtain ⟨w1, hw1⟩ : ∃ w1, w.alloc (.cells #[.int .i64 f, .int .i64 t, .int .i64 g] 99) = w1 := ⟨_, rfl⟩
  have HW1 := hid hw1
  have HBX : Hid (Blk w1 w.heap.size 99 [.int .i64 f, .int .i64 t, .int .i64 g]) := hid (by rw [← hw1]; exact alloc_new w _)
  have HB : Hid (Below w.heap.size w w1) := hid (by rw [← hw1]; exact fresh_alloc w _)
  have H1 := hid (h.below HB.out)
  clear hw1 h
  unfold ptr at *
  by_cases h1 : f < 0
  · have HC : Hid (checkOf d f t g = 3) := hid (by unfold checkOf; rw [if_pos (.inl h1)])
    have hd1 : decide (f < 0) = true := decide_eq_true h1
    go_enter Tryz.func106, Tryz.ntmps106
    go_wp2_with fail
    rw [HW1.out]
    have x0 := HBX.out.cell (j := 0) rfl
    have x1 := HBX.out.cell (j := 1) rfl
    have x2 := HBX.out.cell (j := 2) rfl
    go_quiet (fail)
    go_wp2
    go_ret
    exact ⟨by rw [HC.out]; rfl, below_drewN HB.out _⟩
  have hd1 : decide (f < 0) = false := decide_eq_false h1
  by_cases h2 : t < f
  · have HC : Hid (checkOf d f t g = 3) := hid (by unfold checkOf; rw [if_pos (.inr (.inl h2))])
    have hd2 : decide (t < f) = true := decide_eq_true h2
    go_enter Tryz.func106, Tryz.ntmps106
    go_wp2_with fail
    rw [HW1.out]
    have x0 := HBX.out.cell (j := 0) rfl
    have x1 := HBX.out.cell (j := 1) rfl
    have x2 := HBX.out.cell (j := 2) rfl
    go_quiet (fail)
    go_wp2
    go_ret
    exact ⟨by rw [HC.out]; rfl, below_drewN HB.out _⟩
  have hd2 : decide (t < f) = false := decide_eq_false h2
  by_cases h3 : (d.img.length : Int) < t
  · have HC : Hid (checkOf d f t g = 3) := hid (by unfold checkOf; rw [if_pos (.inr (.inr (.inl h3)))])
    have hd3 : decide ((d.img.length : Int) < t) = true := decide_eq_true h3
    go_enter Tryz.func106, Tryz.ntmps106
    go_wp2_with fail
    rw [HW1.out]
    have x0 := HBX.out.cell (j := 0) rfl
    have x1 := HBX.out.cell (j := 1) rfl
    have x2 := HBX.out.cell (j := 2) rfl
    go_quiet ((go_at_call 42; exact Calls.quiet_of_same (sizeR_drewN H1.out _)))
    go_wp2
    go_ret
    exact ⟨by rw [HC.out]; rfl, below_drewN HB.out _⟩
  have hd3 : decide ((d.img.length : Int) < t) = false := decide_eq_false h3
  by_cases h4 : g < 1
  · have HC : Hid (checkOf d f t g = 3) := hid (by unfold checkOf; rw [if_pos (.inr (.inr (.inr (.inl h4))))])
    have hd4 : decide (g < 1) = true := decide_eq_true h4
    go_enter Tryz.func106, Tryz.ntmps106
    go_wp2_with fail
    rw [HW1.out]
    have x0 := HBX.out.cell (j := 0) rfl
    have x1 := HBX.out.cell (j := 1) rfl
    have x2 := HBX.out.cell (j := 2) rfl
    go_quiet ((go_at_call 42; exact Calls.quiet_of_same (sizeR_drewN H1.out _)))
    go_wp2
    go_ret
    exact ⟨by rw [HC.out]; rfl, below_drewN HB.out _⟩
  have hd4 : decide (g < 1) = false := decide_eq_false h4
  by_cases h5 : 2147483647 < g
  · have HC : Hid (checkOf d f t g = 3) := hid (by unfold checkOf; rw [if_pos (.inr (.inr (.inr (.inr h5))))])
    have hd5 : decide (2147483647 < g) = true := decide_eq_true h5
    go_enter Tryz.func106, Tryz.ntmps106
    go_wp2_with fail
    rw [HW1.out]
    have x0 := HBX.out.cell (j := 0) rfl
    have x1 := HBX.out.cell (j := 1) rfl
    have x2 := HBX.out.cell (j := 2) rfl
    go_quiet ((go_at_call 42; exact Calls.quiet_of_same (sizeR_drewN H1.out _)))
    go_wp2
    go_ret
    exact ⟨by rw [HC.out]; rfl, below_drewN HB.out _⟩
  have hd5 : decide (2147483647 < g) = false := decide_eq_false h5
  have HC : Hid (checkOf d f t g = 0) := hid (by unfold checkOf; rw [if_neg (by rintro (h | h | h | h | h) <;> contradiction)])
  go_enter Tryz.func106, Tryz.ntmps106
  go_wp2_with fail
  rw [HW1.out]
  have x0 := HBX.out.cell (j := 0) rfl
  have x1 := HBX.out.cell (j := 1) rfl
  have x2 := HBX.out.cell (j := 2) rfl
  go_quiet ((go_at_call 42; exact Calls.quiet_of_same (sizeR_drewN H1.out _)))
  go_wp2
  go_ret
  exact ⟨by rw [HC.out]; rfl, below_drewN HB.out _⟩
set_option maxRecDepth 100000 in
set_option maxHeartbeats 2000000 in
theorem rblank_any {a : Nat} {F : Nat → Prop} {d : Dev} (f t g : Int) (w : World) (h : RD w a F d) (hF : ∀ k, F k → k < w.heap.size) (hlo : d.loose.length ≤ 1073000000) :
    Calls Tryz.prog 89 #[ptr a, .agg #[.int .i64 f, .int .i64 t, .int .i64 g]] w fun e w' => e = .returned (.int .i64 (blankOf d f t g).1) ∧ RD w' a (grow F w w') (blankOf d f t g).2 ∧ Keep F w w' := by
  have HLEN := hid h.1.len
  obtain ⟨w1, hw1⟩ : ∃ w1, w.alloc (.cells #[.int .i64 f, .int .i64 t, .int .i64 g] 99) = w1 := ⟨_, rfl⟩
  have HW1 := hid hw1
  have HBX : Hid (Blk w1 w.heap.size 99 [.int .i64 f, .int .i64 t, .int .i64 g]) := hid (by rw [← hw1]; exact alloc_new w _)
  have HB1 : Hid (Below w.heap.size w w1) := hid (by rw [← hw1]; exact fresh_alloc w _)
  have H1 := hid (h.below HB1.out)
  have HF := hid hF
  clear hw1 h hF
  unfold ptr
  by_cases hc : checkOf d f t g ≠ 0
  · have HE : Hid (blankOf d f t g = (checkOf d f t g, d)) := hid (by unfold blankOf; rw [if_pos hc])
    have h3 : checkOf d f t g = 3 := (check_code d f t g).resolve_left hc
    have H3 := hid h3
    clear h3 hc
    go_enter Tryz.func89, Tryz.ntmps89
    go_wp2_with fail
    rw [HW1.out]
    have x0 := HBX.out.cell (j := 0) rfl
    have x1 := HBX.out.cell (j := 1) rfl
    have x2 := HBX.out.cell (j := 2) rfl
    go_wp2_with fail
    refine (rcheck_any f t g w1 H1.out).mono ?_
    rintro e w2 ⟨rfl, hb2⟩
    rw [H3.out]
    have HB2 := hid hb2
    have HBX2 := hid (HBX.out.below hb2 HBX.out.lt)
    clear hb2 x0 x1 x2
    have x0 := HBX2.out.cell (j := 0) rfl
    go_wp2_with fail
    go_loopw [5, 6] (fun e i wr => e = .int .i64 3 ∧ i = .int .i64 f ∧ wr = w2) (fun _ _ _ => 0)
    case atStart => exact ⟨rfl, rfl, rfl⟩
    case round =>
      obtain ⟨rfl, rfl, hwr⟩ := hrel
      subst wr
      have x1 := HBX2.out.cell (j := 1) rfl
      clear x0
      by_cases hft : f < t
      · go_wp2
        go_ret
        exact ⟨by rw [HE.out]; show _ = Ending.returned (.int .i64 (checkOf d f t g)); rw [H3.out]; rfl, by rw [HE.out]; exact (H1.out.below HB2.out).mono fun _ => .inl, (Keep.ofBelow HB1.out).trans (Keep.ofBelow HB2.out)⟩
      · go_wp2
        go_ret
        exact ⟨by rw [HE.out]; show _ = Ending.returned (.int .i64 (checkOf d f t g)); rw [H3.out]; rfl, by rw [HE.out]; exact (H1.out.below HB2.out).mono fun _ => .inl, (Keep.ofBelow HB1.out).trans (Keep.ofBelow HB2.out)⟩
  obtain ⟨h1, h2, h3, h4, h5⟩ := check_ok hc
  have H0 : Hid (checkOf d f t g = 0) := hid (by simpa using hc)
  have HCN := hid hc
  clear hc
  obtain ⟨n, rfl⟩ : ∃ n : Nat, f = (n : Int) := ⟨f.toNat, by omega⟩
  obtain ⟨m, rfl⟩ : ∃ m : Nat, t = (n : Int) + (m : Int) := ⟨(t - n).toNat, by omega⟩
  have hnm : n + m ≤ 65536 := by have := HLEN.out; omega
  have HE : Hid (blankOf d n (n + m) g = if (blankLoop d n m).1 ≠ 0 then blankLoop d n m else (blankLoop d n m).2.flush) := hid (by
    unfold blankOf; rw [if_neg HCN.out, Int.toNat_natCast, show ((n : Int) + (m : Int) - (n : Int)).toNat = m by omega])
  clear h1 h2 h3
  go_enter Tryz.func89, Tryz.ntmps89
  go_wp2_with fail
  rw [HW1.out]
  have x0 := HBX.out.cell (j := 0) rfl
  have x1 := HBX.out.cell (j := 1) rfl
  have x2 := HBX.out.cell (j := 2) rfl
  go_wp2_with fail
  refine (rcheck_any n (n + m) g w1 H1.out).mono ?_
  rintro e w2 ⟨rfl, hb2⟩
  rw [H0.out]
  have H2 := hid (H1.out.below hb2)
  have HB2 := hid hb2
  have HBX2 := hid (HBX.out.below hb2 HBX.out.lt)
  have HSZ := hid HBX2.out.lt
  clear hb2 x0 x1 x2
  have cb0 := HBX2.out.cell (j := 0) rfl
  go_wp2_with fail
  clear cb0
  go_loopw [5, 6] (fun e i wr => ∃ (k : Nat) (c : Int) (d' : Dev) (G : Nat → Prop), k ≤ m ∧ e = .int .i64 c ∧ i = .int .i64 ((n + k : Nat) : Int) ∧ (blankLoop d n m = if c ≠ 0 then (c, d') else blankLoop d' (n + k) (m - k)) ∧ TurnR F w2 wr a d' G ∧ d'.loose.length ≤ d.loose.length + k) (fun _ i _ => n + m - (intOf i).toNat)
  case atStart => exact ⟨0, 0, d, F, Nat.zero_le _, rfl, rfl, rfl, TurnR.start H2.out, Nat.le_refl _⟩
  case round =>
    obtain ⟨k, c, d', G, hk, rfl, rfl, hl, ht, hlo'⟩ := hrel
    have HL := hid hl; have HT := hid ht
    have HBXr := hid (HBX2.out.keep ht.k (fun hh => by have := HF.out _ hh; omega))
    have cb1 := HBXr.out.cell (j := 1) rfl
    have HGL := hid (ht.lt (fun j hj => Nat.lt_trans (HF.out j hj) HSZ.out))
    clear hl ht
    by_cases hlt : k < m
    · have hlt2 : ((n + k : Nat) : Int) < (n : Int) + (m : Int) := by omega
      have hlt3 : ((n : Int) + (k : Int)) < (n : Int) + (m : Int) := by omega
      by_cases hc : c = 0
      · subst hc
        obtain ⟨q, hq⟩ : ∃ q, m - k = q + 1 := ⟨m - k - 1, by omega⟩
        have HL1 : Hid (blankLoop d n m = if (d'.write ((n + k : Nat) : Int) (zr 64)).1 ≠ 0 then d'.write ((n + k : Nat) : Int) (zr 64) else blankLoop (d'.write ((n + k : Nat) : Int) (zr 64)).2 (n + (k + 1)) (m - (k + 1))) := hid (by
          rw [HL.out, if_neg (by simp), hq, blankLoop, show m - (k + 1) = q by omega]; rfl)
        clear hq
        have hlo2 := (write_loose d' ((n + k : Nat) : Int) (zr 64)).1
        go_wp2_with (refine wpl_makeZ rfl (.const (.int .i64 64)) (.const (.int .i64 64)) rfl 64 rfl rfl (by omega) ?_; intro w3 hb3 hm3; have HB3 := hid hb3; have HM3 := hid hm3; clear hb3 hm3)
        refine (writeR_any ((n + k : Nat) : Int) (some ⟨wr.heap.size, 0, none⟩) 64 64 (zr 64) rfl w3 (.inr (.inr ⟨_, 0, rfl, HM3.out.range fun j v hv => by rw [Nat.zero_add]; exact hv⟩)) (fun x hx hh => by cases hx; have := HGL.out _ hh; simp at this) (by omega) (HT.out.below HB3.out).p).mono ?_
        rintro e w4 ⟨rfl, h4, hk4⟩
        obtain ⟨r, hr⟩ : ∃ r, d'.write ((n + k : Nat) : Int) (zr 64) = r := ⟨_, rfl⟩
        rw [hr] at h4 hlo2 HL1 ⊢
        have HT4 := hid ((HT.out.below HB3.out).step h4 hk4)
        clear hr h4 hk4
        have HL2 : Hid (blankLoop d n m = if r.1 ≠ 0 then (r.1, r.2) else blankLoop r.2 (n + (k + 1)) (m - (k + 1))) := hid (by rw [HL1.out])
        go_wp2
        go_roundw
        case rel => exact ⟨k + 1, r.1, r.2, _, by omega, rfl, by go_num, HL2.out, HT4.out, by omega⟩
        case measure => simp [intOf]; omega
      · have hz : (c == 0) = false := by simpa using hc
        have hz2 : (c != 0) = true := by simpa using hc
        have HR : Hid (blankLoop d n m = (c, d')) := hid (by rw [HL.out, if_pos hc])
        have HRE : Hid (blankOf d n (n + m) g = (c, d')) := hid (by rw [HE.out, HR.out, if_pos hc])
        clear hc
        go_wp2
        go_ret
        have hst := (HT.out.rebase (th HB1.out HB2.out)).stop
        exact ⟨by rw [HRE.out]; rfl, by rw [HRE.out]; exact hst.1, hst.2⟩
    · obtain rfl : k = m := by omega
      have hge2 : ¬ ((n + k : Nat) : Int) < (n : Int) + (k : Int) := by omega
      by_cases hc : c = 0
      · subst hc
        have HR : Hid (blankLoop d n k = (0, d')) := hid (by rw [HL.out, if_neg (by simp), Nat.sub_self, blankLoop])
        have HRE : Hid (blankOf d n (n + k) g = d'.flush) := hid (by rw [HE.out, HR.out]; simp)
        go_wp2_with fail
        refine (flushR_any wr (by omega) HT.out.p).mono ?_
        rintro e w4 ⟨rfl, h4, hk4⟩
        have HT4 := hid (HT.out.step (h4.mono fun _ => .inl) hk4)
        clear h4 hk4
        go_wp2
        go_ret
        have hst := (HT4.out.rebase (th HB1.out HB2.out)).stop
        exact ⟨by rw [HRE.out]; rfl, by rw [HRE.out]; exact hst.1, hst.2⟩
      · have hz : (c == 0) = false := by simpa using hc
        have hz2 : (c != 0) = true := by simpa using hc
        have HR : Hid (blankLoop d n k = (c, d')) := hid (by rw [HL.out, if_pos hc])
        have HRE : Hid (blankOf d n (n + k) g = (c, d')) := hid (by rw [HE.out, HR.out, if_pos hc])
        clear hc
        go_wp2
        go_ret
        have hst := (HT.out.rebase (th HB1.out HB2.out)).stop
        exact ⟨by rw [HRE.out]; rfl, by rw [HRE.out]; exact hst.1, hst.2⟩
end Go.Proofs.YtlondopgibcikaaGreat
namespace Go.Proofs.YtlondopgibcikaaGreat
open Go.RowKit Ent
theorem sb_cut {w : World} {ro : Option Addr} {rn rc : Nat} {l : List UInt8} (hrn : rn = l.length) (hrc : rn ≤ rc) (hs : SB w ro rc l) (lo hi : Nat) (h1 : lo ≤ hi) (h2 : hi ≤ rn) :
    SB w (if rc = lo then ro else ro.map (·.add (lo * 1))) (rc - lo) ((l.drop lo).take (hi - lo)) := by
  rcases hs with ⟨rfl, rfl, rfl⟩ | ⟨a, rfl, rfl⟩ | ⟨b, o, rfl, hr⟩
  · exact .inl ⟨by simp, by omega, by simp⟩
  · refine .inr (.inl ?_)
    split
    · exact ⟨_, rfl, by simp⟩
    · exact ⟨_, rfl, by simp⟩
  · by_cases hc : rc = lo
    · rw [if_pos hc]
      exact .inr (.inl ⟨_, rfl, by rw [show hi - lo = 0 by omega, List.take_zero]⟩)
    · rw [if_neg hc]
      refine .inr (.inr ⟨b, o + lo, by rw [Option.map_some, Nat.mul_one, Addr.add_mid], fun j v hv => ?_⟩)
      rw [Nat.add_assoc]
      refine hr (lo + j) v ?_
      rw [bv_get] at hv ⊢
      rw [List.getElem?_take] at hv
      split at hv
      · rwa [List.getElem?_drop] at hv
      · cases hv
theorem slice_fact (ro : Option Addr) (rn rc : Nat) (l : List UInt8) (hrn : rn = l.length) (hrc : rn ≤ rc) (lo hi u c : Nat) (ly hz : Int) (ey : ly = (lo : Int)) (ez : hz = (hi : Int)) (h1 : lo ≤ hi) (h2 : hi ≤ rn) (hu : hi - lo = u) (hc : rc - lo = c) :
    ∃ RO, (∀ W, (Instr.sliceAt 44 (.slice ro rn rc) (some (.int .i64 ly)) (some (.int .i64 hz)) none).run Tryz.prog W = .ok (.slice RO u c) W) ∧ ∀ W, SB W ro rc l → SB W RO c ((l.drop lo).take u) := by
  subst ey; subst ez; subst hu; subst hc
  have ht : Tryz.prog.underlying 44 = some (.slice (Tryz.prog.elem 44)) := by simp [Program.elem, Tryz.underlying44]
  have he : Tryz.prog.elem 44 = 5 := by simp [Program.elem, Tryz.underlying44]
  refine ⟨_, fun W => ?_, fun W hs => sb_cut hrn hrc hs lo hi h1 h2⟩
  have hsz : (sizeOf 5).run Tryz.prog W = .ok 1 W := by kernel_rfl
  have hr := run_slice_lh (P := Tryz.prog) (w := W) 44 ro rn rc ht .i64 .i64 (lo : Int) (hi : Int) (by omega) (by omega) (by omega)
  rw [he, hsz] at hr
  simp only [Result.andThen, Int.toNat_natCast] at hr
  rw [run_sliceAt_slice (h := ht), hr]
  rfl
theorem own_of_blk {w : World} {g B : Nat} {l : List UInt8} (h : Blk w g 5 (bv l)) (hB : B ≤ g) {n : Nat} (hn : n = l.length) (hm : n ≤ 65536) : w.ownsRow B 5 1 (.slice (some ⟨g, 0, none⟩) n n) n (bv l) := by
  subst hn
  exact ⟨by simp, .inr ⟨g, l.length, (bv l).toArray, rfl, hB, h, Nat.le_refl _, by simp [maxLen]; omega, by simp, by rw [Nat.mul_one]; exact List.take_of_length_le (by simp)⟩⟩
theorem ScanI.sector {B : Nat} {w0 wr w' : World} {vo vr : Value} {out : List (List UInt8)} {rec : List UInt8} {vs : List Value} {Fb : Nat → Prop} (h : ScanI B w0 wr vo vr out rec vs Fb) {g : Nat} {sec : List UInt8} (hl : sec.length = 64) (hb : Blk w' g 5 (bv sec)) (hg : wr.heap.size ≤ g) (hbe : Below wr.heap.size wr w') :
    ScanI B w0 w' vo (.slice (some ⟨g, 0, none⟩) 64 64) out sec vs Fb :=
  { h.below hbe with
    rr := by rw [hl]; exact own_of_blk hb (Nat.le_trans h.bl hg) hl.symm (by omega)
    nr := fun k hk => by
      simp [Value.ownBlock] at hk
      subst hk
      exact ⟨fun hf => by have := (h.fb _ hf).2; omega, fun he => by have := own_lt h.oo _ he; omega⟩ }
theorem recSec_len' (gen at_ : Nat) (rec : List UInt8) (j : Nat) : (recSec gen at_ rec j).length = 64 := logSec_len (List.length_take_le _ _)
/-- a record's sectors -/
def secsOf (gen at_ : Nat) (rec : List UInt8) : List (List UInt8) := (List.range (needOf rec.length)).map (recSec gen at_ rec)
theorem needI_nat {n : Nat} (h : n ≤ 1048576) : needI (n : Int) = (needOf n : Int) := by
  unfold needI
  rw [if_neg (by omega), Int.toNat_natCast]
set_option maxRecDepth 100000 in
set_option maxHeartbeats 2000000 in
theorem rsectors_any (gen index : Nat) (ro : Option Addr) (rn rc : Nat) (rec : List UInt8) (hrn : rn = rec.length) (hrc : rn ≤ rc) (hr : rn ≤ 1048576) (hg : gen < 2147483648) (hi : index ≤ 1073741824) (w : World) (hs : SB w ro rc rec) :
    Calls Tryz.prog 107 #[.int .i64 gen, .int .i64 index, .slice ro rn rc] w fun e w' => ∃ v, e = .returned v ∧ FreshL w.heap.size w' v (secsOf gen index rec) ∧ Below w.heap.size w w' := by
  have HRN := hid hrn; have HS := hid hs
  obtain ⟨Q, hQ⟩ : ∃ Q, needOf rn = Q := ⟨_, rfl⟩
  have HQ := hid hQ
  have hq1 : 1 ≤ Q := by rw [← hQ]; exact needOf_pos _
  have hq2 : Q ≤ 21400 := by rw [← hQ]; unfold needOf; split <;> omega
  have HQ49 : Hid (∀ k, k < Q → k * 49 ≤ rn) := hid (fun k hk => by rw [← hQ] at hk; unfold needOf at hk; split at hk <;> omega)
  clear hrn hs hQ
  go_enter Tryz.func107, Tryz.ntmps107
  go_wp2_with fail
  refine (needR_any rn w).mono ?_
  rintro e w' ⟨rfl, hw'⟩
  subst w'
  rw [needI_nat hr, HQ.out]
  go_wp2_with fail
  go_loopw [8, 9] (fun v8 i wr => ∃ (VO : Value) (k : Nat) (vs : List Value) (Fb : Nat → Prop), VO = v8 ∧ k ≤ Q ∧ i = .int .i64 k ∧ ScanI w.heap.size w wr VO (.slice none 0 0) ((List.range k).map (recSec gen index rec)) [] vs Fb) (fun _ i _ => Q - (intOf i).toNat)
  case atStart => exact ⟨_, 0, [], _, rfl, Nat.zero_le _, rfl, ScanI.start w⟩
  case round =>
    obtain ⟨VO, k, vs, Fb, rfl, hk, rfl, hI⟩ := hrel
    have HI := hid hI
    clear hI
    by_cases hlt : k < Q
    · have hk49 := HQ49.out k hlt
      obtain ⟨hh, hhh⟩ : ∃ h, min rn ((k + 1) * 49) = h := ⟨_, rfl⟩
      have hh1 : k * 49 ≤ hh := by omega
      have hh2 : hh ≤ rn := by omega
      obtain ⟨u, hu⟩ : ∃ u, hh - k * 49 = u := ⟨_, rfl⟩
      obtain ⟨cu, hcu⟩ : ∃ c, rc - k * 49 = c := ⟨_, rfl⟩
      have hh3 : u ≤ 49 := by omega
      have HHH : Hid (min (rn : Int) (((k : Int) + 1) * 49) = (hh : Int)) := hid (by omega)
      have HPART : Hid ((rec.drop (k * 49)).take u = (rec.drop (49 * k)).take 49) := hid (by
        rw [Nat.mul_comm k 49]
        by_cases h9 : u = 49
        · rw [h9]
        · rw [List.take_of_length_le (by simp; rw [← HRN.out]; omega), List.take_of_length_le (by simp; rw [← HRN.out]; omega)])
      have HPL : Hid (u = ((rec.drop (k * 49)).take u).length) := hid (by simp; rw [← HRN.out]; omega)
      have HNK : Hid ((index : Int) + (k : Int) = ((index + k : Nat) : Int)) := hid (by omega)
      obtain ⟨RO, hsl, hsb⟩ := slice_fact ro rn rc rec HRN.out hrc (k * 49) hh u cu ((k : Int) * 49) (min (rn : Int) (((k : Int) + 1) * 49)) (by omega) HHH.out hh1 hh2 hu hcu
      have HSP := hid (hsb wr (HS.out.below HI.out.be))
      clear hhh hu hcu hh1 hh2 hsb
      by_cases q1 : Q = 1
      · have e1 : ((Q : Int) == 1) = true := by simp; omega
        have HKD : Hid (kindOf k (needOf rec.length) = 1) := hid (by rw [← HRN.out, HQ.out]; unfold kindOf; rw [if_pos q1])
        clear q1
        have HSEC : Hid (logSec gen (index + k) 1 ((rec.drop (k * 49)).take u) = recSec gen index rec k) := hid (by
          rw [recSec, HKD.out, HPART.out])
        go_wp2_with fail
        rw [HNK.out]
        refine (rsector_any gen (index + k) 1 RO u cu ((rec.drop (k * 49)).take u) HPL.out (by omega) hg (by omega) (by omega) wr HSP.out).mono ?_
        rintro e w4 ⟨gs, rfl, hm, hgs, hb4⟩
        rw [HSEC.out] at hm
        have HI4 := hid (HI.out.sector (by rw [recSec_len']) hm hgs hb4)
        clear hm hgs hb4
        go_wp2_with (refine wpl_appendR rowL rfl (.tmp 30) (.tmp 47) rfl w.heap.size VO _ vs rfl (HI4.out.below (fresh_alloc w4 _)).oo w4.heap.size rfl [.slice (some ⟨gs, 0, none⟩) 64 64] (alloc_new w4 _) rfl (by intro u hu; simp at hu; subst hu; rfl) (by simp; omega) (HI4.out.below (fresh_alloc w4 _)).bl ?_; intro v7 w7 ho7 hg7 hw7; have HI7 := hid ((HI4.out.below (fresh_alloc w4 (.cells #[.slice (some ⟨gs, 0, none⟩) 64 64] 44))).told ho7 hg7 hw7); clear ho7 hg7 hw7)
        go_roundw
        case rel => exact ⟨v7, k + 1, _, _, rfl, by omega, by go_num, by rw [List.range_succ, List.map_append]; exact HI7.out⟩
        case measure => simp [intOf]; omega
      have e1 : ((Q : Int) == 1) = false := by rw [beq_eq_false_iff_ne]; omega
      by_cases k0 : k = 0
      · have e2 : ((k : Int) == 0) = true := by simp; omega
        have HKD : Hid (kindOf k (needOf rec.length) = 2) := hid (by rw [← HRN.out, HQ.out]; unfold kindOf; rw [if_neg q1, if_pos k0])
        clear k0
        have HSEC : Hid (logSec gen (index + k) 2 ((rec.drop (k * 49)).take u) = recSec gen index rec k) := hid (by
          rw [recSec, HKD.out, HPART.out])
        go_wp2_with fail
        rw [HNK.out]
        refine (rsector_any gen (index + k) 2 RO u cu ((rec.drop (k * 49)).take u) HPL.out (by omega) hg (by omega) (by omega) wr HSP.out).mono ?_
        rintro e w4 ⟨gs, rfl, hm, hgs, hb4⟩
        rw [HSEC.out] at hm
        have HI4 := hid (HI.out.sector (by rw [recSec_len']) hm hgs hb4)
        clear hm hgs hb4
        go_wp2_with (refine wpl_appendR rowL rfl (.tmp 30) (.tmp 47) rfl w.heap.size VO _ vs rfl (HI4.out.below (fresh_alloc w4 _)).oo w4.heap.size rfl [.slice (some ⟨gs, 0, none⟩) 64 64] (alloc_new w4 _) rfl (by intro u hu; simp at hu; subst hu; rfl) (by simp; omega) (HI4.out.below (fresh_alloc w4 _)).bl ?_; intro v7 w7 ho7 hg7 hw7; have HI7 := hid ((HI4.out.below (fresh_alloc w4 (.cells #[.slice (some ⟨gs, 0, none⟩) 64 64] 44))).told ho7 hg7 hw7); clear ho7 hg7 hw7)
        go_roundw
        case rel => exact ⟨v7, k + 1, _, _, rfl, by omega, by go_num, by rw [List.range_succ, List.map_append]; exact HI7.out⟩
        case measure => simp [intOf]; omega
      have e2 : ((k : Int) == 0) = false := by rw [beq_eq_false_iff_ne]; omega
      by_cases kl : k = Q - 1
      · have e3 : ((k : Int) == (Q : Int) - 1) = true := by simp; omega
        have HKD : Hid (kindOf k (needOf rec.length) = 4) := hid (by rw [← HRN.out, HQ.out]; unfold kindOf; rw [if_neg q1, if_neg k0, if_pos kl])
        clear kl
        have HSEC : Hid (logSec gen (index + k) 4 ((rec.drop (k * 49)).take u) = recSec gen index rec k) := hid (by
          rw [recSec, HKD.out, HPART.out])
        go_wp2_with fail
        rw [HNK.out]
        refine (rsector_any gen (index + k) 4 RO u cu ((rec.drop (k * 49)).take u) HPL.out (by omega) hg (by omega) (by omega) wr HSP.out).mono ?_
        rintro e w4 ⟨gs, rfl, hm, hgs, hb4⟩
        rw [HSEC.out] at hm
        have HI4 := hid (HI.out.sector (by rw [recSec_len']) hm hgs hb4)
        clear hm hgs hb4
        go_wp2_with (refine wpl_appendR rowL rfl (.tmp 30) (.tmp 47) rfl w.heap.size VO _ vs rfl (HI4.out.below (fresh_alloc w4 _)).oo w4.heap.size rfl [.slice (some ⟨gs, 0, none⟩) 64 64] (alloc_new w4 _) rfl (by intro u hu; simp at hu; subst hu; rfl) (by simp; omega) (HI4.out.below (fresh_alloc w4 _)).bl ?_; intro v7 w7 ho7 hg7 hw7; have HI7 := hid ((HI4.out.below (fresh_alloc w4 (.cells #[.slice (some ⟨gs, 0, none⟩) 64 64] 44))).told ho7 hg7 hw7); clear ho7 hg7 hw7)
        go_roundw
        case rel => exact ⟨v7, k + 1, _, _, rfl, by omega, by go_num, by rw [List.range_succ, List.map_append]; exact HI7.out⟩
        case measure => simp [intOf]; omega
      have e3 : ((k : Int) == (Q : Int) - 1) = false := by rw [beq_eq_false_iff_ne]; omega
      have HKD : Hid (kindOf k (needOf rec.length) = 3) := hid (by rw [← HRN.out, HQ.out]; unfold kindOf; rw [if_neg q1, if_neg k0, if_neg kl])
      have HSEC : Hid (logSec gen (index + k) 3 ((rec.drop (k * 49)).take u) = recSec gen index rec k) := hid (by
        rw [recSec, HKD.out, HPART.out])
      go_wp2_with fail
      rw [HNK.out]
      refine (rsector_any gen (index + k) 3 RO u cu ((rec.drop (k * 49)).take u) HPL.out (by omega) hg (by omega) (by omega) wr HSP.out).mono ?_
      rintro e w4 ⟨gs, rfl, hm, hgs, hb4⟩
      rw [HSEC.out] at hm
      have HI4 := hid (HI.out.sector (by rw [recSec_len']) hm hgs hb4)
      clear hm hgs hb4
      go_wp2_with (refine wpl_appendR rowL rfl (.tmp 30) (.tmp 47) rfl w.heap.size VO _ vs rfl (HI4.out.below (fresh_alloc w4 _)).oo w4.heap.size rfl [.slice (some ⟨gs, 0, none⟩) 64 64] (alloc_new w4 _) rfl (by intro u hu; simp at hu; subst hu; rfl) (by simp; omega) (HI4.out.below (fresh_alloc w4 _)).bl ?_; intro v7 w7 ho7 hg7 hw7; have HI7 := hid ((HI4.out.below (fresh_alloc w4 (.cells #[.slice (some ⟨gs, 0, none⟩) 64 64] 44))).told ho7 hg7 hw7); clear ho7 hg7 hw7)
      go_roundw
      case rel => exact ⟨v7, k + 1, _, _, rfl, by omega, by go_num, by rw [List.range_succ, List.map_append]; exact HI7.out⟩
      case measure => simp [intOf]; omega
    · obtain rfl : k = Q := by omega
      have HE : Hid (secsOf gen index rec = (List.range k).map (recSec gen index rec)) := hid (by rw [secsOf, ← HRN.out, HQ.out])
      go_wp2
      go_ret
      exact ⟨VO, rfl, by rw [HE.out]; exact HI.out.fresh, HI.out.be⟩
end Go.Proofs.YtlondopgibcikaaGreat
