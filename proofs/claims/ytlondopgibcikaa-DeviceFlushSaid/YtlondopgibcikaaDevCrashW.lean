/- DeviceCrash: plain law and walk. -/
import Derived.Test.YtlondopgibcikaaRows
import Derived.Test.YtlondopgibcikaaHeap
import Derived.Test.YtlondopgibcikaaKit
import Derived.Test.YtlondopgibcikaaCrcPartsW
import Derived.Test.YtlondopgibcikaaDev
import Derived.Test.YtlondopgibcikaaDevW
import Derived.Test.YtlondopgibcikaaDevC
import Derived.Test.YtlondopgibcikaaLaw05
import Derived.Test.YtlondopgibcikaaDevKnown
import Derived.WalkKit
import Derived.WalkSpells
import Derived.WalkLawsBesides
import Derived.Deep.RegionHeld3
namespace Go.Proofs.Ytlondopgibcikaa
open Go.RowKit Ent

theorem has_yes {n k : Nat} (h : k < n) : has n (k : Int) = true := by unfold has; simp; omega
theorem write_plain (d : Dev) (k : Nat) (b : List UInt8) (hf : d.fuse = none) (ho : d.out = false) (hk : k < d.img.length) (hb : b.length = 64) : d.write k b = (0, { d with loose := d.loose ++ [(k, b)] }) := by
  have ht : d.through = (true, d) := by unfold Dev.through; rw [hf]
  unfold Dev.write
  rw [ho, has_yes hk, ht]; simp [hb, ho]
theorem put_plain (d : Dev) (k : Nat) (x : UInt8) (hf : d.fuse = none) (ho : d.out = false) (hk : k < d.img.length) : putB d k x = true ∧ putD d k x = { d with loose := d.loose ++ [(k, rep 64 x)] } := by
  unfold putB putD
  rw [write_plain d k (rep 64 x) hf ho hk (by simp)]; simp
theorem rep_take (a b : Nat) (x : UInt8) : (rep a x).take b = rep (min b a) x := by unfold rep; rw [List.take_replicate]
theorem rep_drop (a b : Nat) (x : UInt8) : (rep a x).drop b = rep (a - b) x := by unfold rep; rw [List.drop_replicate]
/-- k sectors written with one byte -/
def sw (x : UInt8) (k : Nat) : List (Nat × List UInt8) := (List.range k).map fun j => (j, rep 64 x)
theorem sw_succ (x : UInt8) (k : Nat) : sw x (k + 1) = sw x k ++ [(k, rep 64 x)] := by simp [sw, List.range_succ]
theorem sw_len (x : UInt8) (k : Nat) : (sw x k).length = k := by simp [sw]
theorem sw_laid (x : UInt8) (img : List (List UInt8)) (k : Nat) : ∀ j, (laidOver img (sw x k))[j]? = if j < k ∧ j < img.length then some (rep 64 x) else img[j]? := by
  induction k with
  | zero => intro j; simp [sw, laidOver]
  | succ k ih =>
    intro j
    rw [sw_succ, laid_snoc, List.getElem?_set]
    by_cases h : k = j
    · subst h
      rw [if_pos rfl, laid_len]
      by_cases hk : k < img.length
      · rw [if_pos hk, if_pos ⟨by omega, hk⟩]
      · rw [if_neg hk, if_neg (by omega), List.getElem?_eq_none (by omega)]
    · rw [if_neg h, ih j]
      by_cases hj : j < k ∧ j < img.length
      · rw [if_pos hj, if_pos (by omega)]
      · rw [if_neg hj, if_neg (by omega)]
theorem sw_all (x : UInt8) (img : List (List UInt8)) : laidOver img (sw x img.length) = List.replicate img.length (rep 64 x) := by
  apply List.ext_getElem?
  intro j
  rw [sw_laid, List.getElem?_replicate]
  by_cases h : j < img.length
  · rw [if_pos ⟨h, h⟩, if_pos h]
  · rw [if_neg (by omega), if_neg h, List.getElem?_eq_none (by omega)]
/-- the writes since -/
def wl (ats : List Nat) (k : Nat) : List (Nat × List UInt8) := (List.range k).map fun j => (ats.getD j 0, rep 64 (UInt8.ofNat (j + 1)))
theorem wl_succ (ats : List Nat) (k : Nat) : wl ats (k + 1) = wl ats k ++ [(ats.getD k 0, rep 64 (UInt8.ofNat (k + 1)))] := by simp [wl, List.range_succ]
theorem wl_len (ats : List Nat) (k : Nat) : (wl ats k).length = k := by simp [wl]
structure Since (keep : List Bool) (ats : List Nat) (n k : Nat) (W : List UInt8) (last : Int) : Prop where
  len : W.length = n
  im : laidOver (List.replicate n (rep 64 200)) (keptOf keep 0 (wl ats k)) = W.map (rep 64)
  la : (last = -1 ∧ lastOf keep 0 (wl ats k) = none) ∨ ∃ j : Nat, j < k ∧ last = (j : Int) ∧ lastOf keep 0 (wl ats k) = some (ats.getD j 0, rep 64 (UInt8.ofNat (j + 1)))
theorem Since.start (keep : List Bool) (ats : List Nat) (n : Nat) : Since keep ats n 0 (rep n 200) (-1) :=
  ⟨by simp, by simp [wl, keptOf, laidOver, rep], .inl ⟨rfl, by simp [wl, lastOf]⟩⟩
theorem Since.kept {keep : List Bool} {ats : List Nat} {n k : Nat} {W : List UInt8} {last : Int} (h : Since keep ats n k W last) (hk : keep[k]? = some true) : Since keep ats n (k + 1) (W.set (ats.getD k 0) (UInt8.ofNat (k + 1))) last := by
  have hl : 0 + (wl ats k).length = k := by rw [wl_len]; omega
  refine ⟨by simp [h.len], ?_, ?_⟩
  · rw [wl_succ, kept_snoc, hl, if_pos hk, laid_snoc, h.im, List.map_set]
  · rw [wl_succ, last_snoc, hl, if_pos hk]
    exact h.la.imp id fun ⟨j, h1, h2, h3⟩ => ⟨j, by omega, h2, h3⟩
theorem Since.lost {keep : List Bool} {ats : List Nat} {n k : Nat} {W : List UInt8} {last : Int} (h : Since keep ats n k W last) (hk : ¬ keep[k]? = some true) : Since keep ats n (k + 1) W (k : Int) := by
  have hl : 0 + (wl ats k).length = k := by rw [wl_len]; omega
  refine ⟨h.len, ?_, ?_⟩
  · rw [wl_succ, kept_snoc, hl, if_neg hk, List.append_nil, h.im]
  · rw [wl_succ, last_snoc, hl, if_neg hk]
    exact .inr ⟨k, by omega, rfl, rfl⟩
def dS (n : Nat) (l : List (Nat × List UInt8)) : Dev := { img := List.replicate n (rep 64 200), loose := l, fuse := none, out := false }
/-- what it falls to -/
def fallen (keep : List Bool) (ats : List Nat) (n m t : Nat) : Dev := ((dS n (wl ats m)).crash keep t).2
theorem fall_ok (keep : List Bool) (ats : List Nat) (n m t : Nat) (ht : t < 64) : ((dS n (wl ats m)).crash keep t).1 = 0 ∧ (fallen keep ats n m t).loose = [] ∧ (fallen keep ats n m t).out = false ∧
    (fallen keep ats n m t).img = tornIn (laidOver (List.replicate n (rep 64 200)) (keptOf keep 0 (wl ats m))) (lastOf keep 0 (wl ats m)) t := by
  unfold fallen Dev.crash
  rw [if_neg (by omega)]
  exact ⟨rfl, rfl, rfl, rfl⟩
/-- each sector: a front of the last one that was not kept, and what was kept -/
theorem fall_sec {keep : List Bool} {ats : List Nat} {n m t : Nat} {W : List UInt8} {last : Int} (h : Since keep ats n m W last) (ht : t < 64) {i : Nat} (hi : i < n) {y : UInt8} (hy : W[i]? = some y) (x : UInt8) (front : Nat)
    (hx : x = UInt8.ofNat (last + 1).toNat)
    (hfr : front = if 0 ≤ last ∧ ats.getD last.toNat 0 = i then t else 0) :
    readB (fallen keep ats n m t) i x front y = true ∧ imageB (fallen keep ats n m t) i x front y = true := by
  obtain ⟨_, h2, h3, h4⟩ := fall_ok keep ats n m t ht
  rw [h.im] at h4
  have hlen : (fallen keep ats n m t).img.length = n := by
    rw [h4]; unfold tornIn; split <;> simp [h.len]
  have hsec : (fallen keep ats n m t).img[i]? = some (rep front x ++ rep (64 - front) y) := by
    rw [h4]
    rcases h.la with ⟨hl, hn⟩ | ⟨j, hj, hl, hn⟩
    · rw [hn]
      rw [if_neg (by omega)] at hfr
      subst hfr
      simp [tornIn, hy, rep]
    · rw [hn]
      subst hl
      have e1 : ((j : Int) + 1).toNat = j + 1 := by omega
      rw [e1] at hx
      simp only [tornIn, List.getElem?_set]
      by_cases hat : ats.getD j 0 = i
      · rw [if_pos ⟨by omega, by simpa using hat⟩] at hfr
        rw [if_pos hat, if_pos (by rw [hat]; simp [h.len]; exact hi), hat]
        subst hfr
        have e2 : (W.map (rep 64)).getD i [] = rep 64 y := by simp [List.getD, hy]
        rw [e2, ← hx]
        congr 1
        congr 1
        · rw [rep_take, show min front 64 = front by omega]
        · rw [rep_drop]
      · rw [if_neg (fun h => hat (by have := h.2; rwa [Int.toNat_natCast] at this))] at hfr
        subst hfr
        rw [if_neg hat]
        simp [hy, rep]
  have hnow : (fallen keep ats n m t).now = (fallen keep ats n m t).img := by unfold Dev.now; rw [h2]; rfl
  have e : secOf (fallen keep ats n m t).img i = (rep front x ++ rep (64 - front) y, 0) := by
    unfold secOf
    rw [hlen, has_yes hi]
    simp [hsec]
  unfold readB imageB Dev.read Dev.image
  rw [h3, hnow, e]
  simp [same_self]
theorem bv_set (l : List UInt8) (i : Nat) (x : UInt8) : (bv l).set i (.int .u8 (x.toNat : Int)) = bv (l.set i x) := by simp [bv, List.map_set]
/-- numbers that may be read -/
def IL (w : World) (ao : Option Addr) (l : List Int) : Prop := l = [] ∨ ∃ b o, ao = some ⟨b, o, none⟩ ∧ w.rangeAt b o (l.map (Value.int .i64))
theorem IL.below {w w' : World} {ao : Option Addr} {l : List Int} (h : IL w ao l) (hb : Below w.heap.size w w') : IL w' ao l := by
  rcases h with h | ⟨b, o, rfl, h⟩
  · exact .inl h
  · exact .inr ⟨b, o, rfl, (Keep.ofBelow (F := fun _ => False) hb).range h id⟩
theorem IL.at {w : World} {ao : Option Addr} {l : List Int} (h : IL w ao l) {k : Nat} {x : Int} (hx : l[k]? = some x) : ∃ b o, ao = some ⟨b, o, none⟩ ∧ w.cell? ⟨b, o + k, none⟩ = some (.int .i64 x) := by
  rcases h with rfl | ⟨b, o, rfl, h⟩
  · simp at hx
  · exact ⟨b, o, rfl, h k _ (by simp [hx])⟩
theorem BL.at {w : World} {ao : Option Addr} {l : List Bool} (h : BL w ao l) {k : Nat} {x : Bool} (hx : l[k]? = some x) : ∃ b o, ao = some ⟨b, o, none⟩ ∧ w.cell? ⟨b, o + k, none⟩ = some (.bool x) := by
  rcases h with rfl | ⟨b, o, rfl, h⟩
  · simp at hx
  · exact ⟨b, o, rfl, h k _ (by rw [bbv_get, hx]; rfl)⟩
def d1 (n k : Nat) : Dev := { Dev.new n with loose := sw 200 k }
theorem d1_flush (n : Nat) : (d1 n n).flush = (0, dS n []) := by
  have h1 : (d1 n n).now = List.replicate n (rep 64 200) := by
    have := sw_all 200 (Dev.new n).img
    rw [show (Dev.new n).img.length = n by simp [Dev.new]] at this
    exact this
  unfold Dev.flush
  rw [h1]
  rfl
set_option maxRecDepth 100000 in
set_option maxHeartbeats 2000000 in
theorem deviceCrash_walk (x : Int) (so : Option Addr) (sm sc : Nat) (since : List Int) (ko : Option Addr) (kn kc : Nat) (keep : List Bool) (torn : Int) (w : World)
    (hx : -9223372036854775808 ≤ x ∧ x ≤ 9223372036854775807) (htn : -9223372036854775808 ≤ torn ∧ torn ≤ 9223372036854775807) (hsm : sm = since.length) (hsmx : sm ≤ 9223372036854775807) (hkn : kn = keep.length) (hknx : kn ≤ 9223372036854775807) (hsi : IL w so since) (hke : BL w ko keep)
    (hsr : ∀ s ∈ since, -9223372036854775808 ≤ s ∧ s ≤ 9223372036854775807) :
    Calls Try.prog 8 #[.int .i64 x, .slice so sm sc, .slice ko kn kc, .int .i64 torn] w fun e w' => e = .returned (.bool true) ∧ Below w.heap.size w w' := by
  have HSM := hid hsm; have HKN := hid hkn
  clear hsm hkn
  obtain ⟨p, hp, ep⟩ := pick_nat x 8 (by omega)
  obtain ⟨t, ht, et⟩ := pick_nat torn 64 (by omega)
  have EP := hid ep; have ET := hid et
  obtain ⟨n, hn⟩ : ∃ n : Nat, n = p + 1 := ⟨_, rfl⟩
  have EN : Hid (1 + (p : Int) = (n : Int)) := hid (by omega)
  have hn1 : 1 ≤ n := by omega
  have hn8 : n ≤ 8 := by omega
  obtain ⟨ats, hats⟩ : ∃ ats : List Nat, ats = since.map (fun s => (s % (n : Int)).toNat) := ⟨_, rfl⟩
  have HATS := hid hats
  clear ep et hn hats
  by_cases hbs : 30 < sm ∨ 40 < kn
  · go_enter Try.func8, Try.ntmps8
    go_wp2_with fail
    refine (known5_any w).mono ?_
    rintro e w1 ⟨rfl, hb1⟩
    have HB := hid hb1
    clear hb1
    go_wp2_with fail
    refine (pick_any x 8 (by omega) (by omega) hx.1 hx.2 w1).mono ?_
    rintro e w' ⟨rfl, rfl⟩
    rw [show x % 8 = (p : Int) from EP.out]
    go_wp2_with fail
    refine (pick_any torn 64 (by omega) (by omega) htn.1 htn.2 w1).mono ?_
    rintro e w' ⟨rfl, rfl⟩
    rw [show torn % 64 = (t : Int) from ET.out]
    go_wp2_with fail
    rw [EN.out]
    refine (dv_new n hn1 (by omega) w1).mono ?_
    rintro e w2 ⟨a, rfl, hd⟩
    have HB := hid (th HB.out hd.b)
    clear hd
    unfold ptr
    by_cases h30 : 30 < sm
    · go_wp2
      go_ret
      exact ⟨rfl, HB.out⟩
    · have h40 : 40 < kn := by omega
      go_wp2
      go_ret
      exact ⟨rfl, HB.out⟩
  have hs30 : sm ≤ 30 := by omega
  have hk40 : kn ≤ 40 := by omega
  clear hbs
  go_enter Try.func8, Try.ntmps8
  go_wp2_with fail
  refine (known5_any w).mono ?_
  rintro e w1 ⟨rfl, hb1⟩
  have HB := hid hb1
  have HSI := hid (hsi.below hb1)
  have HKE := hid (hke.below hb1)
  clear hb1
  go_wp2_with fail
  refine (pick_any x 8 (by omega) (by omega) hx.1 hx.2 w1).mono ?_
  rintro e w' ⟨rfl, rfl⟩
  rw [show x % 8 = (p : Int) from EP.out]
  go_wp2_with fail
  refine (pick_any torn 64 (by omega) (by omega) htn.1 htn.2 w1).mono ?_
  rintro e w' ⟨rfl, rfl⟩
  rw [show torn % 64 = (t : Int) from ET.out]
  go_wp2_with fail
  rw [EN.out]
  refine (dv_new n hn1 (by omega) w1).mono ?_
  rintro e w2 ⟨a, rfl, hd⟩
  have HD : Hid (DV w1.heap.size w1 w2 a (d1 n 0)) := hid hd
  clear hd
  unfold ptr
  go_wp2_with fail
  go_loopw [12] (fun i wr => ∃ k : Nat, k ≤ n ∧ i = .int .i64 k ∧ DV w1.heap.size w1 wr a (d1 n k)) (fun i _ => n - (intOf i).toNat)
  case atStart => exact ⟨0, Nat.zero_le _, rfl, HD.out⟩
  case round =>
    obtain ⟨k, hk, rfl, hd⟩ := hrel
    have HD := hid hd
    clear hd
    by_cases hlt : k < n
    · have hpp := put_plain (d1 n k) k 200 rfl rfl (by simpa [d1, Dev.new] using hlt)
      have HPP := hid hpp
      clear hpp
      go_wp2_with fail
      refine (dv_puts k 200 wr HD.out (by simp [d1, sw_len]; omega)).mono ?_
      rintro e w3 ⟨rfl, hd3⟩
      have HD3 : Hid (DV w1.heap.size w1 w3 a (d1 n (k + 1))) := by
        have := HPP.out.2
        rw [this] at hd3
        show DV _ _ _ _ _
        unfold d1
        rw [sw_succ]; exact hd3
      clear hd3
      rw [HPP.out.1]
      go_wp2
      go_roundw
      case rel => exact ⟨k + 1, by omega, by go_num, HD3.out⟩
      case measure => simp [intOf]; omega
    · have hk8 : n = k := by omega
      subst hk8
      go_wp2_with fail
      refine (dv_flush wr HD.out).mono ?_
      rintro e w3 ⟨rfl, hd3⟩
      rw [d1_flush] at hd3 ⊢
      have HD3 := hid hd3
      clear hd3
      go_wp2_with fail
      refine (full_any 200 n (by omega) w3).mono ?_
      rintro e w4 ⟨rfl, hm4, hb4⟩
      obtain ⟨hB3, hb3, F0, hp0, hF0⟩ := HD3.out
      have HST := hid (And.intro (hp0.below hb4) (And.intro (fun j (hj : F0 j) => (⟨(hF0 j hj).1, Nat.lt_of_lt_of_le (hF0 j hj).2 hb4.size⟩ : w1.heap.size ≤ j ∧ j < w4.heap.size)) (And.intro (fun h => by have := (hF0 _ h).2; omega : ¬ F0 w3.heap.size) (And.intro hm4 (hb3.trans (hb4.mono hB3))))))
      have HG : Hid (w1.heap.size ≤ w3.heap.size) := hid hB3
      clear hB3 hb3 hp0 hF0 hm4 hb4
      go_wp2_with fail
      go_loopw [14, 15] (fun last i wr => ∃ (m : Nat) (W : List UInt8) (lst : Int) (F : Nat → Prop), m ≤ sm ∧ i = .int .i64 m ∧ last = .int .i64 lst ∧ Since keep ats n m W lst ∧ PDev wr a F (dS n (wl ats m)) ∧ (∀ j, F j → w1.heap.size ≤ j ∧ j < wr.heap.size) ∧ ¬ F w3.heap.size ∧ Blk wr w3.heap.size 5 (bv W) ∧ Below w1.heap.size w1 wr) (fun _ i _ => sm - (intOf i).toNat)
      case atStart => exact ⟨0, rep n 200, -1, F0, Nat.zero_le _, rfl, rfl, Since.start keep ats n, HST.out.1, HST.out.2.1, HST.out.2.2.1, HST.out.2.2.2.1, HST.out.2.2.2.2⟩
      case round =>
        obtain ⟨m, W, lst, F, hm, rfl, rfl, hs, hp, hF, hng, hmm, hb⟩ := hrel
        have HS := hid hs; have HP := hid hp; have HF := hid hF; have HNG := hid hng; have HM := hid hmm; have HB2 := hid hb
        clear hs hp hF hng hmm hb
        by_cases hlm : m < sm
        · obtain ⟨x2, hx2⟩ : ∃ x2, since[m]? = some x2 := ⟨_, List.getElem?_eq_getElem (by rw [← HSM.out]; exact hlm)⟩
          obtain ⟨sb, sof, rfl, hcs⟩ := (HSI.out.below HB2.out).at hx2
          have HXR := hid (hsr x2 (List.mem_of_getElem? hx2))
          obtain ⟨q, hq⟩ : ∃ q : Nat, q = ats.getD m 0 := ⟨_, rfl⟩
          have hqv : q = (x2 % (n : Int)).toNat := by rw [hq, HATS.out]; simp [List.getD, hx2]
          have hx0 := Int.emod_nonneg x2 (show (n : Int) ≠ 0 by omega)
          have hxn := Int.emod_lt_of_pos x2 (show (0 : Int) < n by omega)
          have HQ : Hid (x2 % (n : Int) = (q : Int)) := hid (by omega)
          have hqn : q < n := by omega
          have HQA := hid hq
          have HPP := hid (put_plain (dS n (wl ats m)) q (UInt8.ofNat (m + 1)) rfl rfl (by simpa [dS] using hqn))
          obtain ⟨y, hy⟩ : ∃ y, W[q]? = some y := ⟨_, List.getElem?_eq_getElem (by rw [HS.out.len]; exact hqn)⟩
          have HY := hid hy
          have HCV : Hid (((m : Int) + 1) = ((UInt8.ofNat (m + 1)).toNat : Int)) := hid (by simp; omega)
          clear hq hqv hx0 hxn hx2 hy
          rcases hkq : keep[m]? with _ | qb
          · have HB : Hid (¬ keep[m]? = some true) := by intro h; rw [hkq] at h; cases h
            have hge : kn ≤ m := by rw [HKN.out]; exact List.getElem?_eq_none_iff.1 hkq
            clear hkq
            go_wp2_with fail
            refine (pick_any x2 n (by omega) (by omega) HXR.out.1 HXR.out.2 wr).mono ?_
            rintro e w' ⟨rfl, rfl⟩
            rw [HQ.out]
            go_wp2_with fail
            rw [HCV.out]
            refine (puts_any q (UInt8.ofNat (m + 1)) wr HP.out (fun k hk => (HF.out k hk).2) (by simp [dS, wl_len]; omega)).mono ?_
            rintro e w5 ⟨rfl, hp5, hk5⟩
            rw [HPP.out.1]
            rw [HPP.out.2] at hp5
            have HP5 : Hid (PDev w5 a (grow F wr w5) (dS n (wl ats (m + 1)))) := hid (by rw [wl_succ, ← HQA.out]; exact hp5)
            have HK5 := hid hk5
            have HM5 := hid (HM.out.keep hk5 HNG.out)
            have HB5 : Hid (Below w1.heap.size w1 w5) := HB2.out.trans (hk5.belowB HB2.out.size fun k hkB hF => by have := (HF.out k hF).1; omega)
            have HF5 : Hid (∀ j, grow F wr w5 j → w1.heap.size ≤ j ∧ j < w5.heap.size) := fun j hj => by
              rcases hj with h | h
              · exact ⟨(HF.out j h).1, Nat.lt_of_lt_of_le (HF.out j h).2 HK5.out.size⟩
              · exact ⟨Nat.le_trans HB2.out.size h.1, h.2⟩
            have HNG5 : Hid (¬ grow F wr w5 w3.heap.size) := fun h => by
              rcases h with h | h
              · exact HNG.out h
              · have := HM.out.lt; omega
            clear hp5 hk5
            go_wp2
            go_roundw
            case rel => exact ⟨m + 1, W, m, grow F wr w5, by omega, by go_num, rfl, HS.out.lost HB.out, HP5.out, HF5.out, HNG5.out, HM5.out, HB5.out⟩
            case measure => simp [intOf]; omega
          · have hlk : m < kn := by rw [HKN.out]; exact (List.getElem?_eq_some_iff.1 hkq).1
            obtain ⟨kb, kof, rfl, hck0⟩ := HKE.out.at hkq
            have HCK := hid hck0
            clear hck0
            cases qb
            · have HB : Hid (¬ keep[m]? = some true) := by intro h; rw [hkq] at h; cases h
              clear hkq
              go_wp2_with fail
              refine (pick_any x2 n (by omega) (by omega) HXR.out.1 HXR.out.2 wr).mono ?_
              rintro e w' ⟨rfl, rfl⟩
              rw [HQ.out]
              go_wp2_with fail
              rw [HCV.out]
              refine (puts_any q (UInt8.ofNat (m + 1)) wr HP.out (fun k hk => (HF.out k hk).2) (by simp [dS, wl_len]; omega)).mono ?_
              rintro e w5 ⟨rfl, hp5, hk5⟩
              rw [HPP.out.1]
              rw [HPP.out.2] at hp5
              have HP5 : Hid (PDev w5 a (grow F wr w5) (dS n (wl ats (m + 1)))) := hid (by rw [wl_succ, ← HQA.out]; exact hp5)
              have HK5 := hid hk5
              have HM5 := hid (HM.out.keep hk5 HNG.out)
              have HB5 : Hid (Below w1.heap.size w1 w5) := HB2.out.trans (hk5.belowB HB2.out.size fun k hkB hF => by have := (HF.out k hF).1; omega)
              have HF5 : Hid (∀ j, grow F wr w5 j → w1.heap.size ≤ j ∧ j < w5.heap.size) := fun j hj => by
                rcases hj with h | h
                · exact ⟨(HF.out j h).1, Nat.lt_of_lt_of_le (HF.out j h).2 HK5.out.size⟩
                · exact ⟨Nat.le_trans HB2.out.size h.1, h.2⟩
              have HNG5 : Hid (¬ grow F wr w5 w3.heap.size) := fun h => by
                rcases h with h | h
                · exact HNG.out h
                · have := HM.out.lt; omega
              clear hp5 hk5
              have hck : w5.cell? ⟨kb, kof + m, none⟩ = some (.bool false) := by rw [HB5.out.cell (World.block_lt_of_cell? w1 _ HCK.out)]; exact HCK.out
              go_wp2
              go_roundw
              case rel => exact ⟨m + 1, W, m, grow F wr w5, by omega, by go_num, rfl, HS.out.lost HB.out, HP5.out, HF5.out, HNG5.out, HM5.out, HB5.out⟩
              case measure => simp [intOf]; omega
            · have HB := hid hkq
              clear hkq
              go_wp2_with fail
              refine (pick_any x2 n (by omega) (by omega) HXR.out.1 HXR.out.2 wr).mono ?_
              rintro e w' ⟨rfl, rfl⟩
              rw [HQ.out]
              go_wp2_with fail
              rw [HCV.out]
              refine (puts_any q (UInt8.ofNat (m + 1)) wr HP.out (fun k hk => (HF.out k hk).2) (by simp [dS, wl_len]; omega)).mono ?_
              rintro e w5 ⟨rfl, hp5, hk5⟩
              rw [HPP.out.1]
              rw [HPP.out.2] at hp5
              have HP5 : Hid (PDev w5 a (grow F wr w5) (dS n (wl ats (m + 1)))) := hid (by rw [wl_succ, ← HQA.out]; exact hp5)
              have HK5 := hid hk5
              have HM5 := hid (HM.out.keep hk5 HNG.out)
              have HB5 : Hid (Below w1.heap.size w1 w5) := HB2.out.trans (hk5.belowB HB2.out.size fun k hkB hF => by have := (HF.out k hF).1; omega)
              have HF5 : Hid (∀ j, grow F wr w5 j → w1.heap.size ≤ j ∧ j < w5.heap.size) := fun j hj => by
                rcases hj with h | h
                · exact ⟨(HF.out j h).1, Nat.lt_of_lt_of_le (HF.out j h).2 HK5.out.size⟩
                · exact ⟨Nat.le_trans HB2.out.size h.1, h.2⟩
              have HNG5 : Hid (¬ grow F wr w5 w3.heap.size) := fun h => by
                rcases h with h | h
                · exact HNG.out h
                · have := HM.out.lt; omega
              clear hp5 hk5
              have hck : w5.cell? ⟨kb, kof + m, none⟩ = some (.bool true) := by rw [HB5.out.cell (World.block_lt_of_cell? w1 _ HCK.out)]; exact HCK.out
              have hcw : w5.cell? ⟨w3.heap.size, q, none⟩ = some (.int .u8 (y.toNat : Int)) := HM5.out.cell (by rw [bv_get, HY.out]; rfl)
              have hfw := HM5.out.free q
              go_wp2
              go_roundw
              case rel =>
                have hkg : Keep (fun k => k = w3.heap.size) w5 (w5.setCell ⟨w3.heap.size, q, none⟩ (.int .u8 ((UInt8.ofNat (m + 1)).toNat : Int))) := (Keep.refl (fun k => k = w3.heap.size) w5).setCell (p := ⟨w3.heap.size, q, none⟩) rfl _
                have hm6 := HM5.out.set q (.int .u8 ((UInt8.ofNat (m + 1)).toNat : Int))
                rw [bv_set, HQA.out] at hm6
                rw [← HCV.out] at hkg hm6
                refine ⟨m + 1, W.set (ats.getD m 0) (UInt8.ofNat (m + 1)), lst, grow F wr w5, by omega, by go_num, rfl, HS.out.kept HB.out, HP5.out.keep hkg (fun k hk e => HNG5.out (by rw [← e]; exact hk)), ?_, HNG5.out, ?_, HB5.out.setCell HG.out _⟩
                · simpa using HF5.out
                · rw [← HQA.out] at hm6 ⊢; exact hm6
              case measure => simp [intOf]; omega
        · have hk9 : sm = m := by omega
          subst hk9
          have hfo := fall_ok keep ats n sm t ht
          have HFO := hid hfo
          clear hfo
          go_wp2_with fail
          refine (lift_loose wr HP.out).mono ?_
          rintro e w' ⟨rfl, rfl⟩
          rw [show (dS n (wl ats sm)).loose.length = sm from wl_len _ _]
          go_wp2_with fail
          refine (lift_crash ko kn kc keep HKN.out t w' (HKE.out.below HB2.out) (fun hne y hy hF => by
            rcases HKE.out with h | ⟨b, o, h, hr⟩
            · exact hne h
            · rw [h] at hy; cases hy
              obtain ⟨b0, hb0⟩ : ∃ b0, keep[0]? = some b0 := ⟨_, List.getElem?_eq_getElem (List.length_pos_iff.2 hne)⟩
              have := World.block_lt_of_cell? w1 _ (hr 0 _ (by rw [bbv_get, hb0]; rfl))
              have h2 := (HF.out _ hF).1
              simp at this h2; omega) (by omega) (by show (wl ats sm).length ≤ _; rw [wl_len]; omega) HP.out).mono ?_
          rintro e w6 ⟨rfl, hp6, hk6⟩
          rw [HFO.out.1]
          have HP6 : Hid (PDev w6 a F (fallen keep ats n sm t)) := hid hp6
          have HM6 := hid (HM.out.keep hk6 HNG.out)
          have HB6 : Hid (Below w1.heap.size w1 w6) := HB2.out.trans (hk6.belowB HB2.out.size fun k hkB hF => by have := (HF.out k hF).1; omega)
          clear hp6 hk6
          go_wp2_with fail
          refine (lift_loose w6 HP6.out).mono ?_
          rintro e w' ⟨rfl, rfl⟩
          rw [HFO.out.2.1]
          go_wp2_with fail
          refine (lift_out w' HP6.out).mono ?_
          rintro e w' ⟨rfl, rfl⟩
          rw [HFO.out.2.2.1]
          go_wp2_with fail
          go_loopw [17] (fun i wr => ∃ k : Nat, k ≤ n ∧ i = .int .i64 k ∧ Below w'.heap.size w' wr) (fun i _ => n - (intOf i).toNat)
          case atStart => exact ⟨0, Nat.zero_le _, rfl, Below.refl _ _⟩
          case round =>
            obtain ⟨k, hk, rfl, hb7⟩ := hrel
            have HB7 := hid hb7
            have HP7 := hid (HP6.out.below hb7)
            have HM7 := hid (HM6.out.below hb7 HM6.out.lt)
            have HSI7 := hid (HSI.out.below (HB6.out.trans (hb7.mono HB6.out.size)))
            clear hb7
            by_cases hlt : k < n
            · obtain ⟨y, hy⟩ : ∃ y, W[k]? = some y := ⟨_, List.getElem?_eq_getElem (by rw [HS.out.len]; exact hlt)⟩
              have hcw : wr.cell? ⟨w3.heap.size, k, none⟩ = some (.int .u8 (y.toNat : Int)) := HM7.out.cell (by rw [bv_get, hy]; rfl)
              have HY := hid hy
              clear hy
              rcases HS.out.la with ⟨hl, _⟩ | ⟨j, hj, hl, _⟩
              · have HOK := hid (fall_sec HS.out ht hlt HY.out 0 0 (by rw [hl]; rfl) (by rw [hl]; rfl))
                subst hl
                go_wp2_with fail
                refine (reads_any k 0 0 (by omega) y wr HP7.out).mono ?_
                rintro e w8 ⟨rfl, hb8⟩
                rw [HOK.out.1]
                have HB8 := hid (HB7.out.trans (hb8.mono HB7.out.size))
                have HP8 := hid (HP7.out.below hb8)
                have hcw8 : w8.cell? ⟨w3.heap.size, k, none⟩ = some (.int .u8 (y.toNat : Int)) := by rw [hb8.cell (World.block_lt_of_cell? wr _ hcw)]; exact hcw
                clear hb8
                go_wp2_with fail
                refine (images_any k 0 0 (by omega) y w8 HP8.out).mono ?_
                rintro e w9 ⟨rfl, hb9⟩
                rw [HOK.out.2]
                have HB9 := hid (HB8.out.trans (hb9.mono HB8.out.size))
                clear hb9
                go_wp2
                go_roundw
                case rel => exact ⟨k + 1, by omega, by go_num, HB9.out⟩
                case measure => simp [intOf]; omega
              · obtain ⟨x2, hx2⟩ : ∃ x2, since[j]? = some x2 := ⟨_, List.getElem?_eq_getElem (by rw [← HSM.out]; exact hj)⟩
                obtain ⟨sb, sof, rfl, hcs⟩ := HSI7.out.at hx2
                have HXR := hid (hsr x2 (List.mem_of_getElem? hx2))
                obtain ⟨q, hq⟩ : ∃ q : Nat, q = ats.getD j 0 := ⟨_, rfl⟩
                have hqv : q = (x2 % (n : Int)).toNat := by rw [hq, HATS.out]; simp [List.getD, hx2]
                have hx0 := Int.emod_nonneg x2 (show (n : Int) ≠ 0 by omega)
                have HQ : Hid (x2 % (n : Int) = (q : Int)) := hid (by omega)
                have HCV : Hid (((j : Int) + 1) = ((UInt8.ofNat (j + 1)).toNat : Int)) := hid (by simp; omega)
                have HQA := hid hq
                have HL := hid hl
                clear hq hqv hx0 hx2
                by_cases hqk : q = k
                · have HOK := hid (fall_sec HS.out ht hlt HY.out (UInt8.ofNat (j + 1)) t (by rw [HL.out]; congr 1) (by rw [HL.out, Int.toNat_natCast, ← HQA.out, if_pos ⟨by omega, hqk⟩]))
                  subst hl
                  go_wp2_with fail
                  refine (pick_any x2 n (by omega) (by omega) HXR.out.1 HXR.out.2 wr).mono ?_
                  rintro e w' ⟨rfl, rfl⟩
                  rw [HQ.out]
                  go_wp2_with fail
                  rw [HCV.out]
                  refine (reads_any k (UInt8.ofNat (j + 1)) t (by omega) y wr HP7.out).mono ?_
                  rintro e w8 ⟨rfl, hb8⟩
                  rw [HOK.out.1]
                  have HB8 := hid (HB7.out.trans (hb8.mono HB7.out.size))
                  have HP8 := hid (HP7.out.below hb8)
                  have hcw8 : w8.cell? ⟨w3.heap.size, k, none⟩ = some (.int .u8 (y.toNat : Int)) := by rw [hb8.cell (World.block_lt_of_cell? wr _ hcw)]; exact hcw
                  clear hb8
                  go_wp2_with fail
                  rw [HCV.out]
                  refine (images_any k (UInt8.ofNat (j + 1)) t (by omega) y w8 HP8.out).mono ?_
                  rintro e w9 ⟨rfl, hb9⟩
                  rw [HOK.out.2]
                  have HB9 := hid (HB8.out.trans (hb9.mono HB8.out.size))
                  clear hb9
                  go_wp2
                  go_roundw
                  case rel => exact ⟨k + 1, by omega, by go_num, HB9.out⟩
                  case measure => simp [intOf]; omega
                · have HOK := hid (fall_sec HS.out ht hlt HY.out (UInt8.ofNat (j + 1)) 0 (by rw [HL.out]; congr 1) (by rw [HL.out, Int.toNat_natCast, ← HQA.out, if_neg (fun h => hqk h.2)]))
                  subst hl
                  go_wp2_with fail
                  refine (pick_any x2 n (by omega) (by omega) HXR.out.1 HXR.out.2 wr).mono ?_
                  rintro e w' ⟨rfl, rfl⟩
                  rw [HQ.out]
                  go_wp2_with fail
                  rw [HCV.out]
                  refine (reads_any k (UInt8.ofNat (j + 1)) 0 (by omega) y wr HP7.out).mono ?_
                  rintro e w8 ⟨rfl, hb8⟩
                  rw [HOK.out.1]
                  have HB8 := hid (HB7.out.trans (hb8.mono HB7.out.size))
                  have HP8 := hid (HP7.out.below hb8)
                  have hcw8 : w8.cell? ⟨w3.heap.size, k, none⟩ = some (.int .u8 (y.toNat : Int)) := by rw [hb8.cell (World.block_lt_of_cell? wr _ hcw)]; exact hcw
                  clear hb8
                  go_wp2_with fail
                  rw [HCV.out]
                  refine (images_any k (UInt8.ofNat (j + 1)) 0 (by omega) y w8 HP8.out).mono ?_
                  rintro e w9 ⟨rfl, hb9⟩
                  rw [HOK.out.2]
                  have HB9 := hid (HB8.out.trans (hb9.mono HB8.out.size))
                  clear hb9
                  go_wp2
                  go_roundw
                  case rel => exact ⟨k + 1, by omega, by go_num, HB9.out⟩
                  case measure => simp [intOf]; omega
            · have hk9 : n = k := by omega
              go_wp2
              go_ret
              exact ⟨rfl, th HB.out (HB6.out.trans (HB7.out.mono HB6.out.size))⟩
end Go.Proofs.Ytlondopgibcikaa
