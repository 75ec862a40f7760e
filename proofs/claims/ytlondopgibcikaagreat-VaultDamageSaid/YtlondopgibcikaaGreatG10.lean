/- A device that is turned by calls one behind the other. The walk of the log's Blank. -/
import Derived.Test.YtlondopgibcikaaGreatRows
import Derived.Test.YtlondopgibcikaaGreatG01
import Derived.Test.YtlondopgibcikaaGreatG02
import Derived.Test.YtlondopgibcikaaGreatG03
import Derived.Test.YtlondopgibcikaaGreatG04
import Derived.Test.YtlondopgibcikaaGreatG06
import Derived.Test.YtlondopgibcikaaGreatG07
import Derived.Test.YtlondopgibcikaaGreatG08
import Derived.Test.YtlondopgibcikaaGreatG09
import Derived.WalkKit
import Derived.WalkSpells
import Derived.WalkLawsBesides
import Derived.Deep.RegionHeld3
namespace Go.Proofs.YtlondopgibcikaaGreat
open Go.RowKit Ent
/-- since w, a device at a has been turned; G is its own now -/
structure Turn (F : Nat → Prop) (w w' : World) (a : Nat) (d : Dev) (G : Nat → Prop) : Prop where
  p : PDev w' a G d
  g : ∀ k, G k → grow F w w' k
  k : Keep F w w'
section
variable {F G : Nat → Prop} {w w1 w2 : World} {a : Nat} {d d2 : Dev}
theorem Turn.start (h : PDev w a F d) : Turn F w w a d F := ⟨h, fun _ => .inl, Keep.refl _ _⟩
theorem Turn.below (h : Turn F w w1 a d G) (hb : Below w1.heap.size w1 w2) : Turn F w w2 a d G :=
  ⟨h.p.below hb, fun k hk => (h.g k hk).imp id fun x => ⟨x.1, Nat.lt_of_lt_of_le x.2 hb.size⟩, h.k.trans (Keep.ofBelow hb)⟩
theorem Turn.step (h : Turn F w w1 a d G) (hp : PDev w2 a (grow G w1 w2) d2) (hk : Keep G w1 w2) : Turn F w w2 a d2 (grow G w1 w2) where
  p := hp
  g := fun k hh => by
    rcases hh with hh | hh
    · exact (h.g k hh).imp id fun x => ⟨x.1, Nat.lt_of_lt_of_le x.2 hk.size⟩
    · exact .inr ⟨Nat.le_trans h.k.size hh.1, hh.2⟩
  k := h.k.comp hk (fun _ _ x => x) (fun i hi hg => by
    rcases h.g i hg with x | x
    · exact x
    · omega)
theorem Turn.lt (h : Turn F w w1 a d G) (hF : ∀ k, F k → k < w.heap.size) : ∀ k, G k → k < w1.heap.size := fun k hk => by
  rcases h.g k hk with x | x
  · exact Nat.lt_of_lt_of_le (hF k x) h.k.size
  · exact x.2
theorem Turn.stop (h : Turn F w w1 a d G) : PDev w1 a (grow F w w1) d ∧ Keep F w w1 := ⟨h.p.mono h.g, h.k⟩
theorem Turn.rebase (h : Turn F w1 w2 a d G) (hb : Below w.heap.size w w1) : Turn F w w2 a d G :=
  ⟨h.p, fun k hk => (h.g k hk).imp id fun x => ⟨Nat.le_trans hb.size x.1, x.2⟩, (Keep.ofBelow hb).trans h.k⟩
theorem Turn.aside {g : Nat} (h : Turn F w w1 a d G) (hk : Keep (fun j => j = g) w1 w2) (hg : ¬ G g) (hw : w.heap.size ≤ g) : Turn F w w2 a d G where
  p := h.p.keep hk (fun k hk e => hg (by rw [← e]; exact hk))
  g := fun k hh => (h.g k hh).imp id fun x => ⟨x.1, Nat.lt_of_lt_of_le x.2 hk.size⟩
  k := h.k.comp hk (fun _ _ x => x) (fun i hi e => by omega)
end
end Go.Proofs.YtlondopgibcikaaGreat
namespace Go.Proofs.YtlondopgibcikaaGreat
open Go.RowKit Ent
def blankLoop : Dev → Nat → Nat → Int × Dev
  | d, _, 0 => (0, d)
  | d, i, m + 1 => if (d.write (i : Int) (zr 64)).1 ≠ 0 then d.write (i : Int) (zr 64) else blankLoop (d.write (i : Int) (zr 64)).2 (i + 1) m
def blankOf (d : Dev) (f t g : Int) : Int × Dev :=
  if checkOf d f t g ≠ 0 then (checkOf d f t g, d) else if (blankLoop d f.toNat (t - f).toNat).1 ≠ 0 then blankLoop d f.toNat (t - f).toNat else (blankLoop d f.toNat (t - f).toNat).2.flush
theorem check_ok {d : Dev} {f t g : Int} (h : ¬ checkOf d f t g ≠ 0) : 0 ≤ f ∧ f ≤ t ∧ t ≤ d.img.length ∧ 1 ≤ g ∧ g ≤ 2147483647 := by
  unfold checkOf at h
  split at h
  · simp at h
  · omega
theorem check_code (d : Dev) (f t g : Int) : checkOf d f t g = 0 ∨ checkOf d f t g = 3 := by
  unfold checkOf; split
  · exact .inr rfl
  · exact .inl rfl
theorem wpl_makeZ {ops : Array Oper} {rest : List Oper} {o : Oper} {a : Act} {w : World} {Q : Exit → Act → World → Prop} (hgd : o.guard = none) (l c : Operand) (ho : o.op = .makeSlice 44 l c) (n : Nat) (hl : a.eval l = .int .i64 n) (hc : a.eval c = .int .i64 n) (hn : n ≤ 65536)
    (h : ∀ w', Below w.heap.size w w' → Blk w' w.heap.size 5 (bv (zr n)) → wpList Tryz.prog ops Q rest (a.put o.dst (.slice (some ⟨w.heap.size, 0, none⟩) n n)) w') : wpList Tryz.prog ops Q (o :: rest) a w :=
  wpList_plain hgd fun _ hK => wpo_make l c ho n hl hc hn fun w' h1 h2 => hK _ _ (h w' h1 h2)
set_option maxRecDepth 100000 in
set_option maxHeartbeats 2000000 in
theorem blank_any {a : Nat} {F : Nat → Prop} {d : Dev} (f t g : Int) (w : World) (h : PDev w a F d) (hF : ∀ k, F k → k < w.heap.size) (hlo : d.loose.length ≤ 1073000000) :
    Calls Tryz.prog 86 #[ptr a, .agg #[.int .i64 f, .int .i64 t, .int .i64 g]] w fun e w' => e = .returned (.int .i64 (blankOf d f t g).1) ∧ PDev w' a (grow F w w') (blankOf d f t g).2 ∧ Keep F w w' := by
  have hok : d.ok := by obtain ⟨_, _, _, _, _, h⟩ := h; exact h.ok
  have HLEN := hid hok.len
  obtain ⟨w1, hw1⟩ : ∃ w1, w.alloc (.cells #[.int .i64 f, .int .i64 t, .int .i64 g] 99) = w1 := ⟨_, rfl⟩
  have HW1 := hid hw1
  have HBX : Hid (Blk w1 w.heap.size 99 [.int .i64 f, .int .i64 t, .int .i64 g]) := hid (by rw [← hw1]; exact alloc_new w _)
  have HB1 : Hid (Below w.heap.size w w1) := hid (by rw [← hw1]; exact fresh_alloc w _)
  have H1 := hid (h.below HB1.out)
  have HF := hid hF
  clear hw1 h hF hok
  unfold ptr
  by_cases hc : checkOf d f t g ≠ 0
  · have HE : Hid (blankOf d f t g = (checkOf d f t g, d)) := hid (by unfold blankOf; rw [if_pos hc])
    have h3 : checkOf d f t g = 3 := (check_code d f t g).resolve_left hc
    have H3 := hid h3
    clear h3 hc
    go_enter Tryz.func86, Tryz.ntmps86
    go_wp2_with fail
    rw [HW1.out]
    refine (check_any f t g w1 H1.out).mono ?_
    rintro e w2 ⟨rfl, hb2⟩
    rw [H3.out]
    have HB2 := hid hb2
    clear hb2
    go_wp2
    go_ret
    exact ⟨by rw [HE.out]; show _ = Ending.returned (.int .i64 (checkOf d f t g)); rw [H3.out]; rfl, by rw [HE.out]; exact (H1.out.below HB2.out).mono fun _ => .inl, (Keep.ofBelow HB1.out).trans (Keep.ofBelow HB2.out)⟩
  obtain ⟨h1, h2, h3, h4, h5⟩ := check_ok hc
  have H0 : Hid (checkOf d f t g = 0) := hid (by simpa using hc)
  have HCN := hid hc
  clear hc
  obtain ⟨n, rfl⟩ : ∃ n : Nat, f = (n : Int) := ⟨f.toNat, by omega⟩
  obtain ⟨m, rfl⟩ : ∃ m : Nat, t = (n : Int) + (m : Int) := ⟨(t - n).toNat, by omega⟩
  have hnm : n + m ≤ 65536 := by have := HLEN.out; omega
  have HE : Hid (blankOf d n (n + m) g = if (blankLoop d n m).1 ≠ 0 then blankLoop d n m else (blankLoop d n m).2.flush) := hid (by
    unfold blankOf; rw [if_neg HCN.out, Int.toNat_natCast, show ((n : Int) + (m : Int) - (n : Int)).toNat = m by omega])
  clear h1 h2 h3
  go_enter Tryz.func86, Tryz.ntmps86
  go_wp2_with fail
  rw [HW1.out]
  refine (check_any n (n + m) g w1 H1.out).mono ?_
  rintro e w2 ⟨rfl, hb2⟩
  rw [H0.out]
  have H2 := hid (H1.out.below hb2)
  have HB2 := hid hb2
  have HBX2 := hid (HBX.out.below hb2 HBX.out.lt)
  have HK2 : Hid (Keep F w w2) := hid ((Keep.ofBelow HB1.out).trans (Keep.ofBelow hb2))
  have hsz : w.heap.size < w2.heap.size := HBX2.out.lt
  have HSZ := hid hsz
  clear hb2 hsz
  have cb0 := HBX2.out.cell (j := 0) rfl
  go_wp2_with fail
  clear cb0
  go_loopw [6] (fun i wr => ∃ (k : Nat) (d' : Dev) (G : Nat → Prop), k ≤ m ∧ i = .int .i64 ((n + k : Nat) : Int) ∧ blankLoop d n m = blankLoop d' (n + k) (m - k) ∧ Turn F w2 wr a d' G ∧ d'.loose.length ≤ d.loose.length + k) (fun i _ => n + m - (intOf i).toNat)
  case atStart => exact ⟨0, d, F, Nat.zero_le _, rfl, rfl, Turn.start H2.out, Nat.le_refl _⟩
  case round =>
    obtain ⟨k, d', G, hk, rfl, hl, ht, hlo'⟩ := hrel
    have HL := hid hl; have HT := hid ht
    have HBXr := hid (HBX2.out.keep ht.k (fun hh => by have := HF.out _ hh; omega))
    have cb1 := HBXr.out.cell (j := 1) rfl
    have HGL := hid (ht.lt (fun j hj => Nat.lt_trans (HF.out j hj) HSZ.out))
    clear hl ht
    by_cases hlt : k < m
    · obtain ⟨q, hq⟩ : ∃ q, m - k = q + 1 := ⟨m - k - 1, by omega⟩
      have HL1 : Hid (blankLoop d n m = if (d'.write ((n + k : Nat) : Int) (zr 64)).1 ≠ 0 then d'.write ((n + k : Nat) : Int) (zr 64) else blankLoop (d'.write ((n + k : Nat) : Int) (zr 64)).2 (n + (k + 1)) (m - (k + 1))) := hid (by
        rw [HL.out, hq, blankLoop, show m - (k + 1) = q by omega]; rfl)
      clear hq
      have hlo2 := (write_loose d' ((n + k : Nat) : Int) (zr 64)).1
      have hlt2 : ((n + k : Nat) : Int) < (n : Int) + (m : Int) := by omega
      go_wp2_with (refine wpl_makeZ rfl (.const (.int .i64 64)) (.const (.int .i64 64)) rfl 64 rfl rfl (by omega) ?_; intro w3 hb3 hm3; have HB3 := hid hb3; have HM3 := hid hm3; clear hb3 hm3)
      refine (lift_write ((n + k : Nat) : Int) (some ⟨wr.heap.size, 0, none⟩) 64 64 (zr 64) rfl w3 (.inr (.inr ⟨_, 0, rfl, HM3.out.range fun j v hv => by rw [Nat.zero_add]; exact hv⟩)) (fun x hx hh => by cases hx; have := HGL.out _ hh; simp at this) (by omega) (HT.out.below HB3.out).p).mono ?_
      rintro e w4 ⟨rfl, h4, hk4⟩
      obtain ⟨r, hr⟩ : ∃ r, d'.write ((n + k : Nat) : Int) (zr 64) = r := ⟨_, rfl⟩
      rw [hr] at h4 hlo2 HL1 ⊢
      have HT4 := hid ((HT.out.below HB3.out).step h4 hk4)
      clear hr h4 hk4
      by_cases hc : r.1 = 0
      · have HL2 : Hid (blankLoop d n m = blankLoop r.2 (n + (k + 1)) (m - (k + 1))) := hid (by rw [HL1.out, if_neg (by simpa using hc)])
        rw [hc]
        clear hc
        go_wp2
        go_roundw
        case rel => exact ⟨k + 1, r.2, _, by omega, by go_num, HL2.out, HT4.out, by omega⟩
        case measure => simp [intOf]; omega
      · have HR : Hid (blankOf d n (n + m) g = r) := hid (by rw [HE.out, HL1.out, if_pos hc, if_pos hc])
        have hz : (r.1 == 0) = false := by simpa using hc
        have hz2 : (r.1 != 0) = true := by simpa using hc
        clear hc
        go_wp2
        go_ret
        have hst := (HT4.out.rebase (th HB1.out HB2.out)).stop
        exact ⟨by rw [HR.out]; rfl, by rw [HR.out]; exact hst.1, hst.2⟩
    · have hk9 : k = m := by omega
      have HL1 : Hid (blankLoop d n m = (0, d')) := hid (by rw [HL.out, hk9, Nat.sub_self, blankLoop])
      have HR : Hid (blankOf d n (n + m) g = d'.flush) := hid (by rw [HE.out, HL1.out]; simp)
      have hlt2 : ¬ ((n + k : Nat) : Int) < (n : Int) + (m : Int) := by omega
      go_wp2_with fail
      refine (lift_flush wr HT.out.p).mono ?_
      rintro e w4 ⟨rfl, h4, hk4⟩
      have HT4 := hid (HT.out.step (h4.mono fun _ => .inl) hk4)
      clear h4 hk4
      go_wp2
      go_ret
      have hst := (HT4.out.rebase (th HB1.out HB2.out)).stop
      exact ⟨by rw [HR.out]; rfl, by rw [HR.out]; exact hst.1, hst.2⟩
end Go.Proofs.YtlondopgibcikaaGreat
