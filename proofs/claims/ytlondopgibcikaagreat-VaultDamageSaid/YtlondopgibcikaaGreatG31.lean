/- The document's vault (entrepotref07): counts, fits, Free. The document's vault (entrepotref07): Format. -/
import Derived.Test.YtlondopgibcikaaGreatRows
import Derived.Test.YtlondopgibcikaaGreatG01
import Derived.Test.YtlondopgibcikaaGreatG02
import Derived.Test.YtlondopgibcikaaGreatG06
import Derived.Test.YtlondopgibcikaaGreatG07
import Derived.Test.YtlondopgibcikaaGreatG08
import Derived.Test.YtlondopgibcikaaGreatG09
import Derived.Test.YtlondopgibcikaaGreatG10
import Derived.Test.YtlondopgibcikaaGreatG13
import Derived.Test.YtlondopgibcikaaGreatG16
import Derived.Test.YtlondopgibcikaaGreatG17
import Derived.Test.YtlondopgibcikaaGreatG18
import Derived.Test.YtlondopgibcikaaGreatG19
import Derived.Test.YtlondopgibcikaaGreatG21
import Derived.Test.YtlondopgibcikaaGreatG22
import Derived.Test.YtlondopgibcikaaGreatG23
import Derived.Test.YtlondopgibcikaaGreatG24
import Derived.Test.YtlondopgibcikaaGreatG25
import Derived.Test.YtlondopgibcikaaGreatG26
import Derived.Test.YtlondopgibcikaaGreatG27
import Derived.Test.YtlondopgibcikaaGreatG30
import Derived.WalkKit
import Derived.WalkSpells
import Derived.WalkLawsBesides
import Derived.Deep.RegionHeld3
import Derived.Deep.QuietTactic
import Derived.BigQuiet
namespace Go.Proofs.YtlondopgibcikaaGreat
open Go.RowKit Ent
theorem maxOf_snoc (gs : List Nat) (x : Nat) : maxOf (gs ++ [x]) = max (maxOf gs) x := by simp [maxOf]
theorem supGens_max (d : Dev) (k : Nat) : maxOf (supGens d (k + 1)) = max (maxOf (supGens d k)) (rightG (d.read (k : Int)).1 d.img.length) := by
  rw [supGens_succ]
  unfold rightG
  split
  · rw [maxOf_snoc]
  · simp
theorem supGens_no (d : Dev) (k : Nat) : supGens d k = [] ↔ maxOf (supGens d k) = 0 := by
  constructor
  · intro h; rw [h]; rfl
  · intro h
    by_cases h0 : supGens d k = []
    · exact h0
    · have := supGens_le d k _ (maxOf_mem _ h0)
      omega
theorem rightG_le (b : List UInt8) (n : Nat) : rightG b n ≤ 2147483647 := by
  unfold rightG
  split
  · rename_i h
    unfold isSup at h
    simp only [Bool.and_eq_true, decide_eq_true_eq] at h
    exact h.1.2
  · omega
theorem maxGens_le (d : Dev) (k : Nat) : maxOf (supGens d k) ≤ 2147483647 := by
  by_cases h0 : supGens d k = []
  · rw [h0]; simp [maxOf]
  · exact (supGens_le d k _ (maxOf_mem _ h0)).2
/-- which generation counts -/
def countsG (d : Dev) : Nat × Int := if d.out then (0, 22) else if maxOf (supGens d 2) = 0 then (0, 23) else (maxOf (supGens d 2), 0)
theorem read_sec {d : Dev} (h : d.ok) (ho : d.out = false) {i : Nat} (hi : i < d.img.length) : (d.read (i : Int)).1.length = 64 := by
  have hh : has d.now.length (i : Int) = true := by rw [Dev.now_len]; simp [has]; omega
  unfold Dev.read
  rw [ho]
  show (secOf d.now (i : Int)).1.length = 64
  unfold secOf
  rw [hh]
  have hin : i < d.now.length := by rw [Dev.now_len]; exact hi
  have := h.now64 _ (List.getElem_mem hin)
  simpa [hin] using this
set_option maxRecDepth 100000 in
set_option maxHeartbeats 2000000 in
theorem rcounts_any {B : Nat} {w0 w : World} {As : List Asset} {a : Nat} {d : Dev} (h : St B w0 w As) (i : Nat) (hi : As[i]? = some (rdev a d)) (hn2 : 2 ≤ d.img.length) (hlo : d.loose.length ≤ 1073741824) :
    Calls Tryz.prog 93 #[ptr a] w fun e w' => e = .returned (.tuple #[.int .i64 ((countsG d).1 : Nat), .int .i64 (countsG d).2]) ∧ Below w.heap.size w w' := by
  have hok := h.okR i hi
  have hlen := hok.len
  obtain ⟨n, hnn⟩ : ∃ n, d.img.length = n := ⟨_, rfl⟩
  have HN := hid hnn; have HOK := hid hok
  rw [hnn] at hlen hn2
  have H := hid h; have HI := hid hi
  clear h hi hok hnn
  unfold ptr
  by_cases ho : d.out = true
  · have HE : Hid (countsG d = (0, 22)) := hid (by unfold countsG; rw [if_pos ho])
    have HO := hid ho
    clear ho
    have hr := H.out.rdev_read i HI.out 0 hlo
    rw [read_out HO.out] at hr
    have HR := hid hr
    clear hr
    rw [HE.out]
    unfold ptr at HR
    go_enter Tryz.func93, Tryz.ntmps93
    go_wp2_with fail
    go_loopw [4, 5] (fun g x wr => x = .int .i64 0 ∧ g = .int .i64 0 ∧ wr = w) (fun _ _ _ => 0)
    case atStart => exact ⟨rfl, rfl, rfl⟩
    case round =>
      obtain ⟨rfl, rfl, hwr⟩ := hrel
      subst wr
      go_wp2_with fail
      refine HR.out.mono ?_
      rintro e w2 ⟨v, rfl, ao, cap, rfl, _, _, _, _, hb2⟩
      have HB2 := hid hb2
      clear hb2
      go_wp2
      go_ret2
      exact ⟨rfl, HB2.out⟩
  · have ho : d.out = false := by simpa using ho
    have HO := hid ho
    have HE : Hid (countsG d = if maxOf (supGens d 2) = 0 then (0, 23) else (maxOf (supGens d 2), 0)) := hid (by unfold countsG; rw [ho]; rfl)
    clear ho
    go_enter Tryz.func93, Tryz.ntmps93
    go_wp2_with fail
    go_loopw [4, 5] (fun g x wr => ∃ (k m : Nat), k ≤ 2 ∧ x = .int .i64 k ∧ g = .int .i64 m ∧ m = maxOf (supGens d k) ∧ Below w.heap.size w wr) (fun _ x _ => 2 - (intOf x).toNat)
    case atStart => exact ⟨0, 0, by omega, rfl, rfl, rfl, Below.refl _ _⟩
    case round =>
      obtain ⟨k, m, hk, rfl, rfl, hm, hb⟩ := hrel
      have HM := hid hm; have HB := hid hb
      have hmb := maxGens_le d k
      rw [← hm] at hmb
      clear hm hb
      by_cases hlt : k < 2
      · have hr := (H.out.below HB.out).rdev_read i HI.out k hlo
        rw [read_code HO.out (by rw [HN.out]; omega)] at hr
        have hs64 := read_sec HOK.out HO.out (i := k) (by rw [HN.out]; omega)
        have HX := hid (supGens_max d k)
        have hrg := rightG_le (d.read (k : Int)).1 d.img.length
        generalize hsec : (d.read (k : Int)).1 = sec at hr hs64 HX hrg
        rw [HN.out] at HX hrg
        have HS64 := hid hs64
        obtain ⟨r, hrr⟩ : ∃ r, rightG sec n = r := ⟨_, rfl⟩
        rw [hrr] at HX hrg
        have HRR := hid hrr
        rw [← HM.out] at HX
        have HR := hid hr
        clear hr hs64 hrr hsec
        unfold ptr at HR
        go_wp2_with fail
        refine HR.out.mono ?_
        rintro e w2 ⟨v, rfl, ao, cap, rfl, _, hsb, _, _, hb2⟩
        rw [HS64.out]
        have HSB := hid hsb
        have HB2 := hid (th HB.out hb2)
        clear hsb hb2
        go_wp2_with fail
        have hsz := (H.out.below HB2.out).rdev_size i HI.out
        rw [HN.out] at hsz
        unfold ptr at hsz
        refine hsz.mono ?_
        rintro e w3 ⟨rfl, hw3⟩
        subst w3
        go_wp2_with fail
        refine (r7right_any ao cap sec n HS64.out hlen w2 HSB.out).mono ?_
        rintro e w4 ⟨rfl, hb4⟩
        rw [HRR.out]
        have HB4 := hid (th HB2.out hb4)
        clear hb4 hsz
        obtain ⟨mx, hmx⟩ : ∃ mx, max m r = mx := ⟨_, rfl⟩
        rw [hmx] at HX
        have HMX := hid hmx
        clear hmx
        go_wp2_with fail
        exact ⟨⟨k + 1, mx, by omega, by go_num, by rw [← HMX.out]; exact congrArg (Value.int IntKind.i64) (by omega), HX.out.symm, HB4.out⟩, by simp [intOf]; omega⟩
      · obtain rfl : k = 2 := by omega
        rw [← HM.out] at HE
        by_cases hm0 : m = 0
        · have HE2 : Hid (countsG d = (0, 23)) := hid (by rw [HE.out, if_pos hm0])
          subst hm0
          go_wp2
          go_ret2
          rw [HE2.out]
          exact ⟨rfl, HB.out⟩
        · have HE2 : Hid (countsG d = (m, 0)) := hid (by rw [HE.out, if_neg hm0])
          have hb0 : ((m : Int) == 0) = false := by rw [beq_eq_false_iff_ne]; omega
          go_wp2
          go_ret2
          rw [HE2.out]
          exact ⟨rfl, HB.out⟩
set_option maxRecDepth 100000 in
set_option maxHeartbeats 2000000 in
theorem rfits_any {B : Nat} {w0 w : World} {As : List Asset} {a : Nat} {d : Dev} (h : St B w0 w As) (i : Nat) (hi : As[i]? = some (rdev a d)) (v gen : Nat) (next : Int) (vl : Value) (br : Bool) (hv : Blk w v 77 (vCells a gen next vl br)) (lo : Option Addr) (len c : Nat) (L : List (List UInt8)) (hL : LR w lo L) (hlen : len = L.length) (hl1 : len ≤ 1000) (hg : gen ≤ 2147483647) (hl2 : ∀ l ∈ L, l.length ≤ 1073741824) (hn2 : 2 ≤ d.img.length) :
    Calls Tryz.prog 108 #[ptr v, .slice lo len c] w fun e w' => e = .returned (.int .i64 (fitsOf gen d.img.length L)) ∧ w' = w := by
  have c0 := hv.cell (j := 0) rfl
  have c1 := hv.cell (j := 1) rfl
  have hok := (h.okR i hi).len
  unfold ptr at c0
  obtain ⟨n, hnn⟩ : ∃ n, d.img.length = n := ⟨_, rfl⟩
  have HN := hid hnn
  obtain ⟨hf, hhf⟩ : ∃ hf, halfOf n = hf := ⟨_, rfl⟩
  have HHF := hid hhf
  rw [hnn] at hok hn2 ⊢
  have hfb : hf ≤ 65536 := by rw [← hhf]; unfold halfOf; omega
  have HH : Hid (((n : Int) - 2) / 2 = (hf : Int)) := hid (by rw [← hhf, halfOf]; omega)
  have H := hid h; have HI := hid hi; have HL := hid hL; have HLEN := hid hlen; have HL2 := hid hl2
  clear h hi hv hL hlen hl2 hnn hhf
  unfold ptr
  by_cases hg0 : gen = 2147483647
  · subst hg0
    have hgb : decide ((2147483647 : Int) ≤ ((2147483647 : Nat) : Int)) = true := rfl
    have HE : Hid (fitsOf 2147483647 n L = 10) := hid (by unfold fitsOf; rw [if_pos rfl])
    go_enter Tryz.func108, Tryz.ntmps108
    go_wp2
    go_ret
    exact ⟨by rw [HE.out]; rfl, rfl⟩
  · have HG0 := hid hg0
    have hgb : decide ((2147483647 : Int) ≤ (gen : Int)) = false := decide_eq_false (by omega)
    clear hg0
    go_enter Tryz.func108, Tryz.ntmps108
    go_wp2_with fail
    go_loopw [5, 6] (fun v5 i wr => ∃ (k nd : Nat), k ≤ len ∧ i = .int .i64 k ∧ v5 = .int .i64 nd ∧ nd = needsOf (L.take k) ∧ nd ≤ k * 1048577 ∧ (∀ (j : Nat) (l : List UInt8), j < k → L[j]? = some l → l.length ≤ 1048576) ∧ wr = w) (fun _ i _ => len - (intOf i).toNat)
    case atStart => exact ⟨0, 0, Nat.zero_le _, rfl, rfl, rfl, by omega, fun j l hj => absurd hj (by omega), rfl⟩
    case round =>
      obtain ⟨k, nd, hk, rfl, rfl, hnd, hndb, hsm, hwr⟩ := hrel
      subst wr
      have HND := hid hnd; have HSM := hid hsm
      clear hnd hsm
      by_cases hlt : k < len
      · obtain ⟨l, hll⟩ : ∃ l, L[k]? = some l := ⟨_, List.getElem?_eq_getElem (by rw [← HLEN.out]; exact hlt)⟩
        obtain ⟨b1, o1, lo1, cap1, rfl, cx, hcap, hs1⟩ := HL.out.at hll
        have hlb := HL2.out l (List.mem_of_getElem? hll)
        obtain ⟨u, hu⟩ : ∃ u, l.length = u := ⟨_, rfl⟩
        have HLL := hid hll
        rw [hu] at cx hlb
        have HU := hid hu
        clear hcap hs1 hll hu
        by_cases hbig : 1048576 < u
        · have qd : decide ((1048576 : Int) < (u : Int)) = true := decide_eq_true (by omega)
          have HE : Hid (fitsOf gen n L = 4) := hid (by unfold fitsOf; rw [if_neg HG0.out, long_mem HLL.out (by rw [HU.out]; exact hbig)]; rfl)
          go_wp2
          go_ret
          exact ⟨by rw [HE.out]; rfl, rfl⟩
        · have qd : decide ((1048576 : Int) < (u : Int)) = false := decide_eq_false (by omega)
          have hnl := needOf_le1 u
          obtain ⟨m, hm⟩ : ∃ m, needOf u = m := ⟨_, rfl⟩
          have HM := hid hm
          rw [hm] at hnl
          clear hm
          obtain ⟨s, hs⟩ : ∃ s : Nat, nd + m = s := ⟨_, rfl⟩
          have qw : IntKind.i64.wrap ((nd : Int) + (m : Int)) = (s : Int) := by rw [IntWalk.i64_in _ (by omega)]; omega
          have HSS := hid hs
          clear hs
          go_wp2_with fail
          refine (rneed_any u (by omega) w).mono ?_
          rintro e w' ⟨rfl, hw'⟩
          subst w'
          rw [HM.out]
          go_wp2_with fail
          go_roundw
          case rel => exact ⟨k + 1, s, by omega, by go_num, by trivial, by rw [needsOf_take HLL.out, ← HND.out, HU.out, HM.out, HSS.out], by have := HSS.out; omega, fun j l' hj hjl => by
            by_cases hj2 : j < k
            · exact HSM.out j l' hj2 hjl
            · obtain rfl : j = k := by omega
              rw [HLL.out] at hjl; injection hjl with hjl; rw [← hjl, HU.out]; omega, by trivial⟩
          case measure => simp [intOf]; omega
      · obtain rfl : k = len := by omega
        have HNL : Hid (longOne L = false) := hid (long_not fun j l' hjl => HSM.out j l' (by rw [HLEN.out]; exact (List.getElem?_eq_some_iff.1 hjl).1) hjl)
        have HND : Hid (needsOf L = nd) := hid (by rw [HND.out, List.take_of_length_le (by rw [HLEN.out]; exact Nat.le_refl _)])
        have hsz := H.out.rdev_size i HI.out
        rw [HN.out] at hsz
        have HSZ := hid hsz
        clear hsz
        unfold ptr at HSZ
        by_cases hbig : hf < nd
        · have qd : decide (((n : Int) - 2) / 2 < (nd : Int)) = true := by rw [HH.out]; exact decide_eq_true (by omega)
          have HE : Hid (fitsOf gen n L = 10) := hid (by unfold fitsOf; rw [if_neg HG0.out, HNL.out, HHF.out, HND.out, if_pos hbig]; rfl)
          go_wp2_with fail
          refine HSZ.out.mono ?_
          rintro e w' ⟨rfl, hw'⟩
          subst w'
          go_wp2
          go_ret
          exact ⟨by rw [HE.out]; rfl, rfl⟩
        · have qd : decide (((n : Int) - 2) / 2 < (nd : Int)) = false := by rw [HH.out]; exact decide_eq_false (by omega)
          have HE : Hid (fitsOf gen n L = 0) := hid (by unfold fitsOf; rw [if_neg HG0.out, HNL.out, HHF.out, HND.out, if_neg hbig]; rfl)
          go_wp2_with fail
          refine HSZ.out.mono ?_
          rintro e w' ⟨rfl, hw'⟩
          subst w'
          go_wp2
          go_ret
          exact ⟨by rw [HE.out]; rfl, rfl⟩
theorem St.rsize_drewN {B : Nat} {w0 w : World} {As : List Asset} {a n : Nat} {d : Dev} (h : St B w0 w As) (i : Nat) (hi : As[i]? = some (rdev a d)) (hn : d.img.length = n) (q : Nat) :
    Calls Tryz.prog 42 #[.pointer (some ⟨a, 0, none⟩)] (w.drewN q) fun e w' => e = .returned (.int .i64 n) ∧ w' = w.drewN q := by
  have := (h.below (below_drewN (Below.refl _ _) q)).rdev_size i hi
  rw [hn] at this
  exact this
set_option maxRecDepth 100000 in
set_option maxHeartbeats 1000000 in
theorem rfree_any {B : Nat} {w0 w : World} {As : List Asset} {a : Nat} {d : Dev} (h : St B w0 w As) (i : Nat) (hi : As[i]? = some (rdev a d)) (v gen : Nat) (next : Int) (vl : Value) (br : Bool) (hv : Blk w v 77 (vCells a gen next vl br)) (hn2 : 2 ≤ d.img.length) (hnx : 0 ≤ next ∧ next ≤ 131072) :
    Calls Tryz.prog 41 #[ptr v] w fun e w' => e = .returned (.int .i64 (freeOf d.img.length next)) ∧ Below w.heap.size w w' := by
  have c0 := hv.cell (j := 0) rfl
  have c2 := hv.cell (j := 2) rfl
  have hok := (h.okR i hi).len
  unfold ptr at c0
  obtain ⟨n, hnn⟩ : ∃ n, d.img.length = n := ⟨_, rfl⟩
  have HN := hid hnn
  obtain ⟨hf, hhf⟩ : ∃ hf, halfOf n = hf := ⟨_, rfl⟩
  rw [hnn] at hok hn2 ⊢
  have hfb : hf ≤ 65536 := by rw [← hhf]; unfold halfOf; omega
  have HH : ((n : Int) - 2) / 2 = (hf : Int) := by rw [← hhf, halfOf]; omega
  have qt : IntKind.i64.wrap (((n : Int) - 2) / 2 - next) = (hf : Int) - next := by rw [HH]; exact IntWalk.i64_in _ (by omega)
  unfold freeOf
  rw [hhf]
  have H := hid h; have HI := hid hi
  clear h hi hv hnn hhf HH
  unfold ptr
  go_enter Tryz.func41, Tryz.ntmps41
  go_wp2_with fail
  go_quiet ((go_at_call 42; exact Calls.quiet_of_same (H.out.rsize_drewN i HI.out HN.out _)))
  go_wp2
  go_ret
  exact ⟨rfl, below_drewN (Below.refl _ _) _⟩
end Go.Proofs.YtlondopgibcikaaGreat
namespace Go.Proofs.YtlondopgibcikaaGreat
open Go.RowKit Ent
section
variable {B : Nat} {w0 w w1 : World} {As : List Asset} {a : Nat} {d : Dev}
/-- a write of what is new -/
theorem St.rdev_writeF (h : St B w0 w As) (hb : Below w.heap.size w w1) (i : Nat) (hi : As[i]? = some (rdev a d)) (n : Int) (bo : Option Addr) (m c : Nat) (b : List UInt8) (hm : m = b.length) (hs : SB w1 bo c b) (hfr : ∀ x, bo = some x → w.heap.size ≤ x.block) (hlo : d.loose.length ≤ 1073741824) :
    Calls Tryz.prog 14 #[ptr a, .int .i64 n, .slice bo m c] w1 fun e w' => e = .returned (.int .i64 (d.write n b).1) ∧ St B w0 w' (As.set i (rdev a (d.write n b).2)) := by
  obtain ⟨F, hA, hF, hcl⟩ := h.open2 hb i hi
  refine (writeR_any n bo m c b hm w1 hs (fun x hx hf => by have := hF _ hf; have := hfr x hx; omega) hlo hA).mono ?_
  rintro e w' ⟨he, hp, hk⟩
  exact ⟨he, hcl w' _ _ hk (good_rdev _ _) hp (fun _ h => h)⟩
/-- the superblock of a generation, made and written -/
theorem own_fresh {B n : Nat} {v : Value} {l : List UInt8} {w : World} (h : w.ownsRow B 5 1 v n (bv l)) : ∃ bo c, v = .slice bo n c ∧ n = l.length ∧ SB w bo c l ∧ ∀ x, bo = some x → B ≤ x.block := by
  obtain ⟨bo, c, hv, hn, hs⟩ := SB.ofOwns h
  refine ⟨bo, c, hv, hn, hs, fun x hx => ?_⟩
  exact (h.lt x.block (by rw [hv, hx]; rfl)).1
end
theorem formatFs_two (k : Nat) (d : Dev) (h : k < 2) : formatFs k d = d.write (k : Int) (zr 64) := by
  rcases (by omega : k = 0 ∨ k = 1) with rfl | rfl <;> rfl
theorem seqOf_ok {S : Type} {fs : Nat → S → Int × S} {k m : Nat} {s : S} (h : (fs k s).1 = 0) : seqOf fs k (m + 1) s = seqOf fs (k + 1) m (fs k s).2 := by
  show (if (fs k s).1 = 0 then _ else _) = _
  rw [if_pos h]
theorem seqOf_no {S : Type} {fs : Nat → S → Int × S} {k m : Nat} {s : S} (h : ¬ (fs k s).1 = 0) : seqOf fs k (m + 1) s = fs k s := by
  show (if (fs k s).1 = 0 then _ else _) = _
  rw [if_neg h]
set_option maxRecDepth 100000 in
set_option maxHeartbeats 2000000 in
theorem rformat_any {B : Nat} {w0 w : World} {As : List Asset} {a : Nat} {d : Dev} (h : St B w0 w As) (i : Nat) (hi : As[i]? = some (rdev a d)) (hlo : d.loose.length ≤ 1000000000) :
    Calls Tryz.prog 37 #[ptr a] w fun e w' => e = .returned (.int .i64 (formatD d).1) ∧ St B w0 w' (As.set i (rdev a (formatD d).2)) := by
  have hok := h.okR i hi
  have hlen := hok.len
  obtain ⟨n, hnn⟩ : ∃ n, d.img.length = n := ⟨_, rfl⟩
  have HN := hid hnn
  rw [hnn] at hlen
  have hsz := h.rdev_size i hi
  rw [hnn] at hsz
  have H := hid h; have HI := hid hi; have HSZ := hid hsz
  clear h hi hok hnn hsz
  unfold ptr at HSZ ⊢
  by_cases hn8 : n < 8
  · have qd : decide ((n : Int) < 8) = true := decide_eq_true (by omega)
    have HE : Hid (formatD d = (3, d)) := hid (by unfold formatD; rw [HN.out, if_pos hn8])
    go_enter Tryz.func37, Tryz.ntmps37
    go_wp2_with fail
    refine HSZ.out.mono ?_
    rintro e w' ⟨rfl, hw'⟩
    subst w'
    go_wp2
    go_ret
    rw [HE.out]
    exact ⟨rfl, by rw [set_same HI.out]; exact H.out⟩
  · have qd : decide ((n : Int) < 8) = false := decide_eq_false (by omega)
    have HE : Hid (formatD d = seqOf formatFs 0 5 d) := hid (by unfold formatD; rw [HN.out, if_neg hn8])
    have H0 : Hid (St B w0 w (As.set i (rdev a d))) := hid (by rw [set_same HI.out]; exact H.out)
    go_enter Tryz.func37, Tryz.ntmps37
    go_wp2_with fail
    refine HSZ.out.mono ?_
    rintro e w' ⟨rfl, hw'⟩
    subst w'
    go_wp2_with fail
    go_loopw [4] (fun x wr => ∃ (k : Nat) (dk : Dev), k ≤ 2 ∧ x = .int .i64 k ∧ dk.img.length = n ∧ dk.loose.length ≤ d.loose.length + k ∧ seqOf formatFs 0 5 d = seqOf formatFs k (5 - k) dk ∧ St B w0 wr (As.set i (rdev a dk))) (fun x _ => 2 - (intOf x).toNat)
    case atStart => exact ⟨0, d, by omega, rfl, HN.out, by omega, rfl, H0.out⟩
    case round =>
      obtain ⟨k, dk, hk, rfl, hik, hlk, hsq, hst⟩ := hrel
      have HIK := hid hik; have HSQ := hid hsq; have HST := hid hst
      clear hik hsq hst
      by_cases hlt : k < 2
      · go_wp2_with (refine wpl_makeZ rfl _ _ rfl 64 rfl rfl (by omega) ?_; intro w1 hb1 hm1; have HB1 := hid hb1; have HM1 := hid hm1; clear hb1 hm1)
        have hw := HST.out.rdev_writeF HB1.out i (set_get HI.out) (k : Int) (some ⟨wr.heap.size, 0, none⟩) 64 64 (zr 64) (by simp [zr]) (.inr (.inr ⟨_, _, rfl, HM1.out.range fun j v hv => by rw [Nat.zero_add]; exact hv⟩)) (fun x hx => by cases hx; exact Nat.le_refl _) (by omega)
        unfold ptr at hw
        have HW := hid hw
        clear hw
        have hff := formatFs_two k dk hlt
        have hwl := write_loose dk (k : Int) (zr 64)
        rw [HIK.out] at hwl
        rw [set_twice] at HW
        rw [show 5 - k = (4 - k) + 1 by omega] at HSQ
        generalize dk.write (k : Int) (zr 64) = x at HW hff hwl
        obtain ⟨ex, dx⟩ := x
        have HFF := hid hff
        clear hff
        dsimp only at HW hwl
        refine HW.out.mono ?_
        rintro e w2 ⟨rfl, h2⟩
        have H2 := hid h2; have HWI := hid hwl.2
        have hwl1 := hwl.1
        clear h2 hwl
        by_cases he : ex = 0
        · subst he
          have HSQ2 : Hid (seqOf formatFs 0 5 d = seqOf formatFs (k + 1) (5 - (k + 1)) dx) := hid (by rw [HSQ.out, seqOf_ok (by rw [HFF.out]), HFF.out, show 5 - (k + 1) = 4 - k by omega])
          go_wp2_with fail
          exact ⟨⟨k + 1, dx, by omega, by go_num, HWI.out, by omega, HSQ2.out, H2.out⟩, by simp [intOf]; omega⟩
        · have hne : (ex != 0) = true := by simpa using he
          have HSQ2 : Hid (seqOf formatFs 0 5 d = (ex, dx)) := hid (by rw [HSQ.out, seqOf_no (by rw [HFF.out]; exact he), HFF.out])
          clear he
          go_wp2
          go_ret
          rw [HE.out, HSQ2.out]
          exact ⟨rfl, H2.out⟩
      · obtain rfl : k = 2 := by omega
        have hfl := HST.out.rdev_flush i (set_get HI.out) (by omega)
        have hwl := flush_loose dk
        have HFF : Hid (formatFs 2 dk = dk.flush) := hid rfl
        unfold ptr at hfl
        rw [set_twice] at hfl
        rw [HIK.out] at hwl
        generalize dk.flush = x at hfl hwl HFF
        obtain ⟨e1, d1⟩ := x
        dsimp only at hfl hwl
        have HFL := hid hfl; have HI1 := hid hwl.2
        have hl1 := hwl.1
        clear hfl hwl
        go_wp2_with fail
        refine HFL.out.mono ?_
        rintro e w2 ⟨rfl, h2⟩
        have H2 := hid h2
        clear h2
        by_cases he : e1 = 0
        · subst he
          have HSQ2 : Hid (seqOf formatFs 0 5 d = seqOf formatFs 3 2 d1) := hid (by rw [HSQ.out]; show seqOf formatFs 2 3 dk = _; rw [seqOf_ok (by rw [HFF.out]), HFF.out])
          clear HSQ HFF
          go_wp2_with fail
          refine (rarea_any 1 n (by omega) (by omega) hlen w2).mono ?_
          rintro e w3 ⟨rfl, hb3⟩
          have hbk := (H2.out.below hb3).rlog_blank i (set_get HI.out) (fromOf n 1 : Nat) (fromOf n 1 + halfOf n : Nat) (1 : Nat) (by omega)
          have hbl := blank_loose d1 (fromOf n 1 : Nat) (fromOf n 1 + halfOf n : Nat) (1 : Nat)
          have HFF : Hid (formatFs 3 d1 = blankOf d1 (fromOf n 1 : Nat) (fromOf n 1 + halfOf n : Nat) (1 : Nat)) := hid (by show blankD d1 1 = _; unfold blankD; rw [HI1.out])
          unfold ptr at hbk
          rw [set_twice] at hbk
          rw [HI1.out] at hbl
          generalize blankOf d1 (fromOf n 1 : Nat) (fromOf n 1 + halfOf n : Nat) (1 : Nat) = x at hbk hbl HFF
          obtain ⟨e2, d2⟩ := x
          dsimp only at hbk hbl
          have HBK := hid hbk; have HI2 := hid hbl.2
          have hl2 := hbl.1
          clear hbk hbl hb3
          go_wp2_with fail
          refine HBK.out.mono ?_
          rintro e w4 ⟨rfl, h4⟩
          have H4 := hid h4
          clear h4
          by_cases he2 : e2 = 0
          · subst he2
            have HSQ3 : Hid (seqOf formatFs 0 5 d = seqOf formatFs 4 1 d2) := hid (by rw [HSQ2.out, seqOf_ok (by rw [HFF.out]), HFF.out])
            clear HSQ2 HFF
            go_wp2_with fail
            refine (rsuper_any 1 n (by omega) (by omega) w4).mono ?_
            rintro e w5 ⟨v, rfl, ho, hb5⟩
            obtain ⟨bo, c, rfl, _, hs, hfr⟩ := own_fresh ho
            have hw := H4.out.rdev_writeF hb5 i (set_get HI.out) 1 bo 64 c (supSec 1 n) (supSec_len 1 n).symm hs hfr (by omega)
            have hwl := write_loose d2 1 (supSec 1 n)
            have HFF : Hid (formatFs 4 d2 = andD (d2.write 1 (supSec 1 n)) Dev.flush) := hid (by show countsD d2 1 = _; unfold countsD; rw [HI2.out]; rfl)
            unfold ptr at hw
            rw [set_twice] at hw
            generalize d2.write 1 (supSec 1 n) = x at hw hwl HFF
            obtain ⟨e3, d3⟩ := x
            dsimp only at hw hwl
            have HW := hid hw
            have hl3 := hwl.1
            clear hw hwl ho hs hfr hb5
            go_wp2_with fail
            refine HW.out.mono ?_
            rintro e w6 ⟨rfl, h6⟩
            have H6 := hid h6
            clear h6
            by_cases he3 : e3 = 0
            · subst he3
              have hfl := H6.out.rdev_flush i (set_get HI.out) (by omega)
              have HSQ4 : Hid (seqOf formatFs 0 5 d = d3.flush) := hid (by
                rw [HSQ3.out]
                have : formatFs 4 d2 = d3.flush := by rw [HFF.out]; rfl
                by_cases hz : (formatFs 4 d2).1 = 0
                · rw [seqOf_ok hz, this]
                  rw [this] at hz
                  exact Prod.ext hz.symm rfl
                · rw [seqOf_no hz, this])
              unfold ptr at hfl
              rw [set_twice] at hfl
              have HFL := hid hfl
              clear hfl
              go_wp2_with fail
              refine HFL.out.mono ?_
              rintro e w7 ⟨rfl, h7⟩
              have H7 := hid h7
              clear h7
              go_wp2
              go_ret
              rw [HE.out, HSQ4.out]
              exact ⟨rfl, H7.out⟩
            · have hne : (e3 == 0) = false := by simpa using he3
              have HSQ4 : Hid (seqOf formatFs 0 5 d = (e3, d3)) := hid (by
                have h0 : formatFs 4 d2 = (e3, d3) := by rw [HFF.out]; exact if_neg he3
                rw [HSQ3.out, seqOf_no (by rw [h0]; exact he3), h0])
              clear he3
              go_wp2
              go_ret
              rw [HE.out, HSQ4.out]
              exact ⟨rfl, H6.out⟩
          · have hne : (e2 == 0) = false := by simpa using he2
            have HSQ3 : Hid (seqOf formatFs 0 5 d = (e2, d2)) := hid (by rw [HSQ2.out, seqOf_no (by rw [HFF.out]; exact he2), HFF.out])
            clear he2
            go_wp2
            go_ret
            rw [HE.out, HSQ3.out]
            exact ⟨rfl, H4.out⟩
        · have hne : (e1 == 0) = false := by simpa using he
          have HSQ2 : Hid (seqOf formatFs 0 5 d = (e1, d1)) := hid (by rw [HSQ.out]; show seqOf formatFs 2 3 dk = _; rw [seqOf_no (by rw [HFF.out]; exact he), HFF.out])
          clear he
          go_wp2
          go_ret
          rw [HE.out, HSQ2.out]
          exact ⟨rfl, H2.out⟩
end Go.Proofs.YtlondopgibcikaaGreat
