/- The walk of CrcDamage. -/
import Derived.Test.YtlondopgibcikaaRows
import Derived.Test.YtlondopgibcikaaPlainCrc
import Derived.Test.YtlondopgibcikaaBits
import Derived.Test.YtlondopgibcikaaHeap
import Derived.Test.YtlondopgibcikaaCrcW
import Derived.Test.YtlondopgibcikaaKit
import Derived.Test.YtlondopgibcikaaCrcV
import Derived.Test.YtlondopgibcikaaRef1
import Derived.Test.YtlondopgibcikaaLaw01
import Derived.Test.YtlondopgibcikaaCrcJ
import Derived.Test.YtlondopgibcikaaCrcKnownW
import Derived.Test.YtlondopgibcikaaCrcPartsW
import Derived.WalkKit
import Derived.WalkSpells
import Derived.WalkLawsBesides
import Derived.Deep.RegionHeld3
import Derived.ChangeKeysEq
namespace Go.Proofs.Ytlondopgibcikaa
open Go.RowKit Ent

/-- k of the four bytes from m on turned -/
def dm (l : List UInt8) (m : Nat) (sp : List UInt8) (k : Nat) : List UInt8 := l.mapIdx fun i x => if m ≤ i ∧ i < m + k then x ^^^ sp.getD (i - m) 0 else x
theorem dm_len (l : List UInt8) (m : Nat) (sp : List UInt8) (k : Nat) : (dm l m sp k).length = l.length := by simp [dm]
theorem dm_get (l : List UInt8) (m : Nat) (sp : List UInt8) (k j : Nat) : (dm l m sp k)[j]? = l[j]?.map fun x => if m ≤ j ∧ j < m + k then x ^^^ sp.getD (j - m) 0 else x := by
  simp [dm]
theorem dm_zero (l : List UInt8) (m : Nat) (sp : List UInt8) : dm l m sp 0 = l := by
  apply List.ext_getElem?; intro j; rw [dm_get]
  rw [show (fun x : UInt8 => if m ≤ j ∧ j < m + 0 then x ^^^ sp.getD (j - m) 0 else x) = id from funext fun x => by rw [if_neg (by omega)]; rfl]
  simp
theorem split4 (l : List UInt8) (m : Nat) (h : m + 4 ≤ l.length) : ∃ P a b c d Q, l = P ++ [a, b, c, d] ++ Q ∧ P.length = m := by
  refine ⟨l.take m, l[m], l[m+1], l[m+2], l[m+3], l.drop (m + 4), ?_, by simp; omega⟩
  have h1 : l = l.take m ++ l.drop m := (List.take_append_drop m l).symm
  have h2 : l.drop m = [l[m], l[m+1], l[m+2], l[m+3]] ++ l.drop (m + 4) := by
    rw [List.drop_eq_getElem_cons (by omega), List.drop_eq_getElem_cons (by omega), List.drop_eq_getElem_cons (by omega), List.drop_eq_getElem_cons (by omega)]; rfl
  rw [List.append_assoc, ← h2, ← h1]
theorem dm_split (P Q : List UInt8) (a b c d s0 s1 s2 s3 : UInt8) : dm (P ++ [a, b, c, d] ++ Q) P.length [s0, s1, s2, s3] 4 = P ++ [a ^^^ s0, b ^^^ s1, c ^^^ s2, d ^^^ s3] ++ Q := by
  apply List.ext_getElem?; intro j; rw [dm_get]
  by_cases h1 : j < P.length
  · rw [List.append_assoc, List.append_assoc, List.getElem?_append_left h1, List.getElem?_append_left h1]
    rw [show (fun x : UInt8 => if P.length ≤ j ∧ j < P.length + 4 then x ^^^ [s0, s1, s2, s3].getD (j - P.length) 0 else x) = id from funext fun x => by rw [if_neg (by omega)]; rfl]
    simp
  · rw [List.append_assoc, List.append_assoc, List.getElem?_append_right (Nat.le_of_not_lt h1), List.getElem?_append_right (Nat.le_of_not_lt h1)]
    obtain ⟨i, hi⟩ : ∃ i, i = j - P.length := ⟨_, rfl⟩
    have hj : j = P.length + i := by omega
    subst hj
    rw [← hi]
    match i with
    | 0 => simp
    | 1 => simp
    | 2 => simp
    | 3 => simp
    | i + 4 =>
      rw [show (fun x : UInt8 => if P.length ≤ P.length + (i + 4) ∧ P.length + (i + 4) < P.length + 4 then x ^^^ [s0, s1, s2, s3].getD (i + 4) 0 else x) = id from funext fun x => by rw [if_neg (by omega)]; rfl]
      simp
theorem xor_self0 {a s : UInt8} (h : a = a ^^^ s) : s = 0 := by
  have := congrArg (fun x => a ^^^ x) h
  simp only [UInt8.xor_self, ← UInt8.xor_assoc, UInt8.zero_xor] at this
  exact this.symm
theorem damaged (l : List UInt8) (m : Nat) (s0 s1 s2 s3 : UInt8) (h : m + 4 ≤ (csealed l).length) (hs : ¬ (s0 = 0 ∧ s1 = 0 ∧ s2 = 0 ∧ s3 = 0)) : cOpen (dm (csealed l) m [s0, s1, s2, s3] 4) = ([], 5) := by
  have hL : (dm (csealed l) m [s0, s1, s2, s3] 4).length = (csealed l).length := dm_len _ _ _ _
  unfold cOpen
  rw [if_neg (by omega), if_neg ?_]
  intro hc
  have hc2 := (csealed_iff _ _ (by simp; omega)).1 hc.symm
  rw [List.take_append_drop] at hc2
  have hc3 : regs (csealed l) (~~~ 0) = stps 32 (~~~ 0) := by
    have := (csealed_iff l (ctail (csum l)) rfl).1 rfl
    exact this
  obtain ⟨P, a, b, c, d, Q, e, rfl⟩ := split4 _ _ h
  rw [e, dm_split] at hc2
  rw [e] at hc3
  obtain ⟨h0, h1, h2, h3⟩ := damage P Q _ _ _ _ _ _ _ _ _ (hc3.trans hc2.symm)
  exact hs ⟨xor_self0 h0, xor_self0 h1, xor_self0 h2, xor_self0 h3⟩
theorem rangeAt_dm {w : World} {g o m k : Nat} {l sp : List UInt8} {x : UInt8} (h : w.rangeAt g o (bv (dm l m sp k))) (hx : l[m + k]? = some x) :
    (w.setCell ⟨g, o + (m + k), none⟩ (.int .u8 ((x ^^^ sp.getD k 0).toNat : Int))).rangeAt g o (bv (dm l m sp (k + 1))) := by
  intro j v hv
  rw [bv_get, dm_get] at hv
  have hcur : ∀ i y, (dm l m sp k)[i]? = some y → w.cell? ⟨g, o + i, none⟩ = some (.int .u8 (y.toNat : Int)) := fun i y hy => rangeAt_byte h hy
  by_cases hj : j = m + k
  · subst hj
    rw [hx] at hv
    simp only [Option.map_some, Option.some.injEq] at hv
    rw [if_pos (by omega), show m + k - m = k by omega] at hv
    rw [← hv]
    exact World.cell?_setCell_same _ _ _ (hcur (m + k) _ (by rw [dm_get, hx]; rfl))
  · rw [World.cell?_setCell_other _ _ _ _ (by intro e; injection e; omega)]
    have e : (if m ≤ j ∧ j < m + (k + 1) then True else False) = (if m ≤ j ∧ j < m + k then True else False) := by
      by_cases h1 : m ≤ j ∧ j < m + k
      · rw [if_pos h1, if_pos (by omega)]
      · rw [if_neg h1, if_neg (by omega)]
    cases hy : l[j]? with
    | none => rw [hy] at hv; simp at hv
    | some y =>
      rw [hy] at hv
      simp only [Option.map_some, Option.some.injEq] at hv
      rw [← hv]
      refine hcur j _ ?_
      rw [dm_get, hy]
      simp only [Option.map_some, Option.some.injEq]
      by_cases h1 : m ≤ j ∧ j < m + k
      · rw [if_pos h1, if_pos (by omega)]
      · rw [if_neg h1, if_neg (by omega)]
theorem a4_info : (Try.prog.info? 39).map (·.size) = some 4 := by kernel_rfl
theorem eq_a4 (a b c d e f g h : Int) (w : World) : (Op.equalIn 10000 39 (.agg #[.int .u8 a, .int .u8 b, .int .u8 c, .int .u8 d]) (.agg #[.int .u8 e, .int .u8 f, .int .u8 g, .int .u8 h])).run Try.prog w = .ok (a == e && (b == f && (c == g && d == h))) w := by
  obtain ⟨i, hi, _, hz, _⟩ := info_u8
  have c5 : Try.prog.cellsOf 5 = 1 := by kernel_rfl
  have u5 := Try.underlying5
  rw [show (10000 : Nat) = 9999 + 1 from rfl, run_equalIn_array w 9999 _ _ Try.underlying39 hi, c5]
  simp only [show List.range 4 = [0, 1, 2, 3] from rfl, Op.eqItems]
  go_simp
  by_cases h1 : a = e <;> by_cases h2 : b = f <;> by_cases h3 : c = g <;> by_cases h4 : d = h <;> simp [h1, h2, h3, h4]
theorem open_csealed (l : List UInt8) : cOpen (csealed l) = (l, 0) := by
  have hl : (csealed l).length = l.length + 4 := by simp [csealed, ctail_length]
  have h1 : (csealed l).take ((csealed l).length - 4) = l := by rw [hl]; simp [csealed]
  have h2 : (csealed l).drop ((csealed l).length - 4) = ctail (csum l) := by rw [hl]; simp [csealed]
  unfold cOpen
  rw [if_neg (by omega), if_pos (by rw [h1, h2]), h1]
theorem b4_get (s0 s1 s2 s3 : UInt8) (k : Nat) (h : k < 4) : (#[.int .u8 s0.toNat, .int .u8 s1.toNat, .int .u8 s2.toNat, .int .u8 s3.toNat] : Array Value)[k]? = some (.int .u8 (([s0, s1, s2, s3].getD k 0).toNat : Int)) := by
  match k, h with
  | 0, _ => rfl
  | 1, _ => rfl
  | 2, _ => rfl
  | 3, _ => rfl
set_option maxRecDepth 100000 in
set_option maxHeartbeats 1000000 in
theorem crcDamage_walk (ao : Option Addr) (n cap : Nat) (l : List UInt8) (x : Int) (s0 s1 s2 s3 : UInt8) (hn : n = l.length) (hcap : n ≤ cap) (hmx : n ≤ 9223372036854775807) (w : World) (hl : SB w ao cap l)
    (hc1 : -9223372036854775808 ≤ x) (hc2 : x ≤ 9223372036854775807) :
    Calls Try.prog 6 #[.slice ao n cap, .int .i64 x, .agg #[.int .u8 s0.toNat, .int .u8 s1.toNat, .int .u8 s2.toNat, .int .u8 s3.toNat]] w fun e w' => e = .returned (.bool true) ∧ Below w.heap.size w w' := by
  subst hn
  have HC := hid hcap
  obtain ⟨m, hm, em⟩ := pick_nat x (l.length + 1) (by omega)
  have EM := hid em
  clear em hcap
  have HX := hid (alloc_new w (.cells #[.int .u8 s0.toNat, .int .u8 s1.toNat, .int .u8 s2.toNat, .int .u8 s3.toNat] 39 (0, 0)))
  have HB := hid (fresh_alloc w (.cells #[.int .u8 s0.toNat, .int .u8 s1.toNat, .int .u8 s2.toNat, .int .u8 s3.toNat] 39 (0, 0)))
  have eqa := eq_a4
  go_enter Try.func6, Try.ntmps6
  go_wp2_with fail
  refine (known1_any _).mono ?_
  rintro e w1 ⟨rfl, hb1⟩
  have HB := hid (th HB.out hb1)
  have HX := hid ((hb1.block _ (lt_blk HX.out)).trans HX.out)
  clear hb1
  by_cases hbig : 300 < l.length
  · go_wp2
    go_ret
    exact ⟨rfl, HB.out⟩
  have hn3 : l.length ≤ 300 := by omega
  clear hbig
  go_wp2_with fail
  refine (seal_any ao _ cap l rfl (by omega) _ (hl.below HB.out)).mono ?_
  rintro e w2 ⟨v, rfl, ho, hb2⟩
  have HO := hid (own_all ho)
  clear ho
  have HB1 := HB
  have HX1 := hid (lt_blk HX.out)
  have HB := hid (th HB.out hb2)
  have HX := hid ((hb2.block _ (lt_blk HX.out)).trans HX.out)
  clear hb2
  obtain ⟨a2, c2, rfl, hv0, hcap0, hs0, hw0, hg0⟩ := HO.out
  have hv2 := hid hv0
  have hs2 := hid hs0
  have hw2 := hid hw0
  have hg2 := hid hg0
  have hcap2 := hid hcap0
  clear HO hv0 hs0 hw0 hg0 hcap0
  go_wp2_with fail
  refine (opens1_any a2 ao _ _ c2 cap (csealed l) l 0 hv2.out (by omega) hcap2.out rfl _ hs2.out (hl.below HB.out) (open_csealed l)).mono ?_
  rintro e w3 ⟨rfl, hb3⟩
  have HB2 := HB
  have HX2 := hid (lt_blk HX.out)
  have HB := hid (th HB.out hb3)
  have HX := hid ((hb3.block _ (lt_blk HX.out)).trans HX.out)
  have hs2 := hid (hs2.out.below hb3)
  have hw2 := hid (hw2.out.below hb3)
  clear hb3
  have HBz := HB
  by_cases hz : s0 = 0 ∧ s1 = 0 ∧ s2 = 0 ∧ s3 = 0
  · obtain ⟨rfl, rfl, rfl, rfl⟩ := hz
    go_wp2_with (refine wpList_load_row rfl 39 (.tmp 5) rfl _ rfl _ _ _ _ HX.out Try.underlying39 rfl a4_info ?_)
    go_ret
    exact ⟨rfl, HBz.out⟩
  · have hzb : ((s0.toNat : Int) == 0 && ((s1.toNat : Int) == 0 && ((s2.toNat : Int) == 0 && (s3.toNat : Int) == 0))) = false := by
      rw [Bool.eq_false_iff]
      intro h
      simp at h
      exact hz ⟨UInt8.toNat_inj.1 h.1, UInt8.toNat_inj.1 h.2.1, UInt8.toNat_inj.1 h.2.2.1, UInt8.toNat_inj.1 h.2.2.2⟩
    have hz := hid hz
    go_wp2_with (refine wpList_load_row rfl 39 (.tmp 5) rfl _ rfl _ _ _ _ HX.out Try.underlying39 rfl a4_info ?_)
    clear hzb
    refine (pick_any x _ (by omega) (by omega) hc1 hc2 w3).mono ?_
    rintro e w' ⟨rfl, rfl⟩
    rw [show x % ((l.length : Int) + 4 - 3) = (m : Int) from by rw [show (l.length : Int) + 4 - 3 = ((l.length + 1 : Nat) : Int) by omega]; exact EM.out]
    obtain ⟨g, o, rfl, hrg, hfr⟩ : ∃ g o, a2 = some ⟨g, o, none⟩ ∧ Hid (w3.rangeAt g o (bv (csealed l))) ∧ Hid (∀ j, j < l.length + 4 → w3.frozen? ⟨g, o + j, none⟩ = false) := by
      rcases hs2.out with ⟨rfl, _, h0⟩ | ⟨a, rfl, h0⟩ | ⟨g, o, rfl, hr⟩
      · have := congrArg List.length h0; have := hv2.out; simp_all
      · have := congrArg List.length h0; have := hv2.out; simp_all
      · refine ⟨g, o, rfl, hr, fun j hj => ?_⟩
        rcases hw2.out with h | ⟨b, o', he, hc⟩
        · omega
        · injection he with he; injection he with h1 h2; subst h1; subst h2; exact (hc j hj).2
    have hgb : Hid (w1.heap.size ≤ g ∧ g < w2.heap.size) := hg2.out ⟨g, o, none⟩ rfl
    clear hs2 hw2 hg2
    have hne : g ≠ w.heap.size := by have := hgb.out; have := HX1.out; omega
    have hne := hid hne
    have hge : Hid (w.heap.size ≤ g) := by have h1 := hgb.out; have h2 := HX1.out; show w.heap.size ≤ g; omega
    go_wp2_with fail
    go_loopw [9] (fun i wr => ∃ k : Nat, k ≤ 4 ∧ i = .int .i64 k ∧ Below w.heap.size w wr ∧ wr.heap[w.heap.size]? = some (.cells #[.int .u8 s0.toNat, .int .u8 s1.toNat, .int .u8 s2.toNat, .int .u8 s3.toNat] 39 (0, 0)) ∧ wr.rangeAt g o (bv (dm (csealed l) m [s0, s1, s2, s3] k)) ∧ ∀ j, j < l.length + 4 → wr.frozen? ⟨g, o + j, none⟩ = false) (fun i _ => 4 - (intOf i).toNat)
    case atStart => exact ⟨0, by omega, rfl, HB.out, HX.out, by rw [dm_zero]; exact hrg.out, hfr.out⟩
    case round =>
      obtain ⟨k, hk, rfl, hB, hX, hR, hF⟩ := hrel
      have HH := hid (And.intro hB (And.intro hX (And.intro hR hF)))
      clear hB hX hR hF
      by_cases hlt : k < 4
      · obtain ⟨y, hy⟩ : ∃ y, (csealed l)[m + k]? = some y := ⟨_, List.getElem?_eq_getElem (by have := hv2.out; omega)⟩
        have hdy : (dm (csealed l) m [s0, s1, s2, s3] k)[m + k]? = some y := by rw [dm_get, hy]; simp
        have hc1' : wr.cell? ⟨g, o + (m + k), none⟩ = some (.int .u8 (y.toNat : Int)) := rangeAt_byte HH.out.2.2.1 hdy
        have hf1 := HH.out.2.2.2 (m + k) (by omega)
        have hc2' := cell_blk HH.out.2.1 (b4_get s0 s1 s2 s3 k hlt)
        have HY := hid hy
        clear hy hdy
        generalize hs : ([s0, s1, s2, s3].getD k 0) = s at hc2'
        have HS := hid hs
        clear hs
        have hm3 : m + k < l.length + 4 := by omega
        have hx8 := xor8 y s
        go_wp2_with fail
        go_region
        go_wp2
        go_roundw
        case rel =>
          obtain ⟨hB, hX, hR, hF⟩ := HH.out
          refine ⟨k + 1, by omega, by go_num, (hB.setCell hge.out _).drew, set_other hX _ (by have := hne.out; simp; omega), ?_, fun j hj => by simpa using hF j hj⟩
          have := rangeAt_dm (o := o) hR HY.out
          rw [HS.out, UInt8.toNat_xor] at this
          exact this
        case measure => simp [intOf]; omega
      · have hk4 : k = 4 := by omega
        subst hk4
        go_wp2_with fail
        refine (opens1_any (some ⟨g, o, none⟩) none _ 0 c2 0 (dm (csealed l) m [s0, s1, s2, s3] 4) [] 5 (by rw [dm_len]; exact hv2.out) (by omega) hcap2.out rfl _ (.inr (.inr ⟨g, o, rfl, HH.out.2.2.1⟩)) (SB.nil _) (damaged l m s0 s1 s2 s3 (by have := hv2.out; omega) hz.out)).mono ?_
        rintro e w4 ⟨rfl, hb4⟩
        have HB := hid (th HH.out.1 hb4)
        clear hb4
        go_wp2
        go_ret
        exact ⟨rfl, HB.out⟩
end Go.Proofs.Ytlondopgibcikaa
