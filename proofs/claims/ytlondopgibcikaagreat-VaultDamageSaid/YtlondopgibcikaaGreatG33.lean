/- The kit's LongLists. Layer 7's acts: how they lie in memory; Long, first; lists copied. Layer 7's lists: copied, kept; assets chosen. The document's vault (entrepotref07): the vault as an asset. -/
import Derived.Test.YtlondopgibcikaaGreatRows
import Derived.Test.YtlondopgibcikaaGreatG01
import Derived.Test.YtlondopgibcikaaGreatG02
import Derived.Test.YtlondopgibcikaaGreatG03
import Derived.Test.YtlondopgibcikaaGreatG04
import Derived.Test.YtlondopgibcikaaGreatG05
import Derived.Test.YtlondopgibcikaaGreatG06
import Derived.Test.YtlondopgibcikaaGreatG07
import Derived.Test.YtlondopgibcikaaGreatG08
import Derived.Test.YtlondopgibcikaaGreatG09
import Derived.Test.YtlondopgibcikaaGreatG10
import Derived.Test.YtlondopgibcikaaGreatG13
import Derived.Test.YtlondopgibcikaaGreatG14
import Derived.Test.YtlondopgibcikaaGreatG15
import Derived.Test.YtlondopgibcikaaGreatG16
import Derived.Test.YtlondopgibcikaaGreatG17
import Derived.Test.YtlondopgibcikaaGreatG18
import Derived.Test.YtlondopgibcikaaGreatG21
import Derived.Test.YtlondopgibcikaaGreatG22
import Derived.Test.YtlondopgibcikaaGreatG23
import Derived.Test.YtlondopgibcikaaGreatG24
import Derived.Test.YtlondopgibcikaaGreatG26
import Derived.Test.YtlondopgibcikaaGreatG27
import Derived.Test.YtlondopgibcikaaGreatG28
import Derived.Test.YtlondopgibcikaaGreatG29
import Derived.Test.YtlondopgibcikaaGreatG31
import Derived.Test.YtlondopgibcikaaGreatG32
import Derived.WalkKit
import Derived.WalkSpells
import Derived.WalkLawsBesides
import Derived.Deep.RegionHeld3
import Derived.Deep.QuietTactic
import Derived.BigQuiet
import Derived.Maps.AppendAt
namespace Go.Proofs.YtlondopgibcikaaGreat
open Go.RowKit Ent
def longL (L : List (List UInt8)) (n m : Nat) : Bool := decide (n < L.length) || L.any fun l => decide (m < l.length)
theorem longL_no {L : List (List UInt8)} {n m : Nat} (h : longL L n m = false) : L.length ≤ n ∧ ∀ l ∈ L, l.length ≤ m := by
  simp [longL] at h
  exact ⟨h.1, h.2⟩
theorem longL_hit {L : List (List UInt8)} {n m k : Nat} {l : List UInt8} (h : L[k]? = some l) (hl : m < l.length) : longL L n m = true := by
  have : l ∈ L := List.mem_of_getElem? h
  simp only [longL, Bool.or_eq_true, List.any_eq_true, decide_eq_true_eq]
  exact .inr ⟨l, this, hl⟩
theorem longL_end {L : List (List UInt8)} {n m k : Nat} (hk : L.length ≤ k ∨ n < k) (h : ∀ i l, i < k → L[i]? = some l → l.length ≤ m) : longL L n m = decide (n < L.length) := by
  by_cases hn : n < L.length
  · simp [longL, hn]
  · have : (L.any fun l => decide (m < l.length)) = false := by
      rw [List.any_eq_false]
      intro l hl
      obtain ⟨i, hi⟩ := List.mem_iff_getElem?.1 hl
      have := (List.getElem?_eq_some_iff.1 hi).1
      have := h i l (by omega) hi
      simp; omega
    rw [longL, this, Bool.or_false]
set_option maxRecDepth 100000 in
set_option maxHeartbeats 400000 in
theorem longLists_any (ao : Option Addr) (q c : Nat) (L : List (List UInt8)) (n m : Nat) (hq : q = L.length) (hn : n ≤ 1048576) (hqb : q ≤ 9223372036854775807) (w : World) (hL : LR w ao L) :
    Calls Tryz.prog 19 #[.slice ao q c, .int .i64 n, .int .i64 m] w fun e w' => e = .returned (.bool (longL L n m)) ∧ w' = w := by
  have HQ := hid hq; have HL := hid hL
  clear hq hL
  go_enter Tryz.func19, Tryz.ntmps19
  go_wp2_with fail
  go_loopw [7] (fun i wr => ∃ k : Nat, k ≤ n + 1 ∧ k ≤ q ∧ i = .int .i64 k ∧ wr = w ∧ ∀ i l, i < k → L[i]? = some l → l.length ≤ m) (fun i _ => n + 1 - (intOf i).toNat)
  case atStart => exact ⟨0, by omega, by omega, rfl, rfl, fun i l h => by omega⟩
  case round =>
    obtain ⟨k, hk, hkq, rfl, rfl, hA⟩ := hrel
    have HA := hid hA
    clear hA
    by_cases h1 : k < q
    · by_cases h2 : k ≤ n
      · obtain ⟨l, hl⟩ : ∃ l, L[k]? = some l := ⟨_, List.getElem?_eq_getElem (by rw [← HQ.out]; exact h1)⟩
        obtain ⟨b1, o1, lo1, cap1, rfl, cx, hcap, hs1⟩ := HL.out.at hl
        have HLL := hid hl
        obtain ⟨u, hu⟩ : ∃ u, l.length = u := ⟨_, rfl⟩
        have HU := hid hu
        rw [hu] at cx
        clear hl hs1 hcap hu
        by_cases h3 : m < u
        · go_wp2
          go_ret
          exact ⟨by rw [longL_hit HLL.out (by rw [HU.out]; exact h3)]; rfl, rfl⟩
        · go_wp2
          go_roundw
          case rel => exact ⟨k + 1, by omega, by omega, by go_num, by trivial, fun i x hi hx => by
            by_cases hik : i = k
            · subst hik; rw [HLL.out] at hx; injection hx with hx; subst hx; rw [HU.out]; omega
            · exact HA.out i x (by omega) hx⟩
          case measure => simp [intOf]; omega
      · have HE : Hid (longL L n m = decide (n < q)) := hid (by rw [longL_end (.inr (show n < k by omega)) HA.out, ← HQ.out])
        have z : decide (n < q) = true := by simp; omega
        go_wp2
        go_ret
        exact ⟨by rw [HE.out, z]; rfl, rfl⟩
    · have hkq2 : k = q := by omega
      subst hkq2
      have HE : Hid (longL L n m = decide (n < k)) := hid (by rw [longL_end (.inl (by rw [← HQ.out]; exact Nat.le_refl _)) HA.out, ← HQ.out])
      by_cases h5 : n < k
      · go_wp2
        go_ret
        exact ⟨by rw [HE.out]; simp [h5], rfl⟩
      · go_wp2
        go_ret
        exact ⟨by rw [HE.out]; simp [h5], rfl⟩
end Go.Proofs.YtlondopgibcikaaGreat
namespace Go.Proofs.YtlondopgibcikaaGreat
open Go.RowKit Ent
structure Act7 where
  kind : Int
  n : Int
  lo : Option Addr
  lc : Nat
  L : List (List UInt8)
  ko : Option Addr
  kc : Nat
  keep : List Bool
def Act7.cells (a : Act7) : List Value := [.int .i64 a.kind, .int .i64 a.n, .slice a.lo a.L.length a.lc, .slice a.ko a.keep.length a.kc]
structure Act7.fits (w : World) (a : Act7) : Prop where
  k1 : -9223372036854775808 ≤ a.kind ∧ a.kind ≤ 9223372036854775807
  n1 : -9223372036854775808 ≤ a.n ∧ a.n ≤ 9223372036854775807
  lr : LR w a.lo a.L
  ll : a.L.length ≤ 9223372036854775807
  bl : BL w a.ko a.keep
  kl : a.keep.length ≤ 9223372036854775807
theorem Act7.fits.below {w w' : World} {a : Act7} (h : a.fits w) (hb : Below w.heap.size w w') : a.fits w' := ⟨h.k1, h.n1, h.lr.below hb, h.ll, h.bl.below hb, h.kl⟩
/-- acts that may be read -/
def AL7 (w : World) (ao : Option Addr) (l : List Act7) : Prop := l = [] ∨ ∃ b o, ao = some ⟨b, o, none⟩ ∧ ∀ i a, l[i]? = some a → a.fits w ∧ ∀ j v, a.cells[j]? = some v → w.cell? ⟨b, o + i * 4 + j, none⟩ = some v
theorem AL7.below {w w' : World} {ao : Option Addr} {l : List Act7} (h : AL7 w ao l) (hb : Below w.heap.size w w') : AL7 w' ao l := by
  rcases h with h | ⟨b, o, rfl, h⟩
  · exact .inl h
  · refine .inr ⟨b, o, rfl, fun i a ha => ⟨(h i a ha).1.below hb, fun j v hv => ?_⟩⟩
    have hc := (h i a ha).2 j v hv
    rw [hb.cell (World.block_lt_of_cell? w _ hc)]; exact hc
theorem AL7.at {w : World} {ao : Option Addr} {l : List Act7} (h : AL7 w ao l) {i : Nat} {a : Act7} (ha : l[i]? = some a) : ∃ b o, ao = some ⟨b, o, none⟩ ∧ a.fits w ∧ ∀ j v, a.cells[j]? = some v → w.cell? ⟨b, o + i * 4 + j, none⟩ = some v := by
  rcases h with rfl | ⟨b, o, rfl, h⟩
  · simp at ha
  · exact ⟨b, o, rfl, h i a ha⟩
/-- what is read lies in blocks that are there -/
theorem LR.lrf {w : World} {lo : Option Addr} {L : List (List UInt8)} (h : LR w lo L) : LRF w (fun k => k < w.heap.size) lo L := by
  rcases h with h | ⟨b, o, h1, h2⟩
  · exact .inl h
  · rcases L with _ | ⟨l, L⟩
    · exact .inl rfl
    · refine .inr ⟨b, o, h1, ?_, fun k m hm => ?_⟩
      · obtain ⟨ro, rc, c1, _⟩ := h2 0 l rfl
        exact World.block_lt_of_cell? _ _ c1
      · obtain ⟨ro, rc, c1, c2, c3⟩ := h2 k m hm
        exact ⟨ro, rc, c1, c2, c3, fun hne x hx => sb_lt c3 hne x hx⟩
def bad7 (a : Act7) : Bool := longL a.L 8 200 || decide (60 < a.keep.length)
def long7 (l : List Act7) : Bool := (l.take 21).any bad7 || decide (20 < l.length)
theorem long7_no {l : List Act7} (h : long7 l = false) : l.length ≤ 20 ∧ ∀ a ∈ l, (a.L.length ≤ 8 ∧ ∀ r ∈ a.L, r.length ≤ 200) ∧ a.keep.length ≤ 60 := by
  unfold long7 at h
  rw [Bool.or_eq_false_iff, decide_eq_false_iff_not, List.any_eq_false] at h
  obtain ⟨h1, h2⟩ := h
  refine ⟨by omega, fun a ha => ?_⟩
  have := h1 a (by rw [List.take_of_length_le (by omega)]; exact ha)
  unfold bad7 at this
  rw [Bool.or_eq_true, not_or] at this
  have h3 : longL a.L 8 200 = false := by simpa using this.1
  exact ⟨longL_no h3, by simpa using this.2⟩
set_option maxRecDepth 100000 in
set_option maxHeartbeats 400000 in
theorem long7_any (ao : Option Addr) (n c : Nat) (l : List Act7) (hn : n = l.length) (hb : n ≤ 9223372036854775807) (w : World) (hl : AL7 w ao l) :
    Calls Tryz.prog 5 #[.slice ao n c] w fun e w' => e = .returned (.bool (long7 l)) ∧ w' = w := by
  subst hn
  have HL := hid hl
  clear hl
  go_enter Tryz.func5, Tryz.ntmps5
  go_wp2_with fail
  go_loop [3] (fun i => ∃ k : Nat, k ≤ l.length ∧ k ≤ 21 ∧ i = .int .i64 k ∧ (l.take k).any bad7 = false) (fun i => 21 - (intOf i).toNat)
  case atStart => exact ⟨0, Nat.zero_le _, by omega, rfl, by simp⟩
  case round =>
    obtain ⟨k, hk, hk61, rfl, hany⟩ := hrel
    have HA := hid hany
    clear hany
    by_cases hlt : k < l.length ∧ k < 21
    · obtain ⟨hl1, hl2⟩ := hlt
      obtain ⟨x, hx⟩ : ∃ x, l[k]? = some x := ⟨_, List.getElem?_eq_getElem hl1⟩
      obtain ⟨b, o, rfl, hf, hc⟩ := HL.out.at hx
      have c2 := hc 2 _ rfl
      have c3 := hc 3 _ rfl
      have hll := hf.ll
      have hkl := hf.kl
      have HLR := hid hf.lr
      have HT := hid (any_take_succ bad7 l k hx)
      have HBAD : Hid (bad7 x = true → long7 l = true) := hid (fun h => by
        unfold long7
        have h1 : (l.take 21).any bad7 = true := by
          rw [List.any_eq_true]
          have h2 := HT.out
          rw [HA.out, Bool.false_or, h, List.any_eq_true] at h2
          obtain ⟨y, hy, hp⟩ := h2
          exact ⟨y, (List.take_subset_take_left l (by omega)) hy, hp⟩
        rw [h1]; rfl)
      clear hc hx hf
      go_wp2_with fail
      refine (longLists_any x.lo x.L.length x.lc x.L 8 200 rfl (by omega) hll w HLR.out).mono ?_
      rintro e w' ⟨rfl, hw'⟩
      subst w'
      obtain ⟨q, hq⟩ : ∃ q, longL x.L 8 200 = q := ⟨_, rfl⟩
      have HQ := hid hq
      rw [hq]
      clear hq
      rcases q with _ | _
      · by_cases h40 : 60 < x.keep.length
        · have HR : Hid (long7 l = true) := hid (HBAD.out (by simp [bad7, h40]))
          go_wp2
          go_ret
          exact ⟨by rw [HR.out]; rfl, rfl⟩
        · have HNB : Hid (bad7 x = false) := hid (by simp [bad7, HQ.out]; omega)
          go_wp2
          go_round
          case rel => exact ⟨k + 1, by omega, by omega, by go_num, by rw [HT.out, HA.out, HNB.out]; rfl⟩
          case measure => simp [intOf]; omega
      · have HR : Hid (long7 l = true) := hid (HBAD.out (by simp [bad7, HQ.out]))
        go_wp2
        go_ret
        exact ⟨by rw [HR.out]; rfl, rfl⟩
    · have HR : Hid (long7 l = decide (20 < l.length)) := hid (by
        unfold long7
        have : l.take 21 = l.take k := by
          by_cases h1 : k < 21
          · rw [List.take_of_length_le (by omega), List.take_of_length_le (by omega)]
          · rw [show k = 21 by omega]
        rw [this, HA.out, Bool.false_or])
      by_cases h1 : k < l.length
      · have h2 : ¬ k < 21 := fun h => hlt ⟨h1, h⟩
        clear hlt
        go_wp2
        go_ret
        exact ⟨by rw [HR.out]; congr 1; simp; omega, rfl⟩
      · clear hlt
        go_wp2
        go_ret
        exact ⟨by rw [HR.out]; congr 1; simp; omega, rfl⟩
/-- the first of an act's records -/
def firstR (a : Act7) : List UInt8 := a.L.headD []
end Go.Proofs.YtlondopgibcikaaGreat
namespace Go.Proofs.YtlondopgibcikaaGreat
open Go.RowKit Ent
/-- some of the assets, in any order -/
theorem St.sel {B : Nat} {w0 w : World} {As As' : List Asset} (h : St B w0 w As) (js : List Nat) (hnd : js.Nodup) (hlen : As'.length = js.length) (hjs : ∀ (k j : Nat), js[k]? = some j → ∃ A, As[j]? = some A ∧ As'[k]? = some A) : St B w0 w As' := by
  obtain ⟨Fs, hl, ho, hd⟩ := h.own
  have hF : ∀ (k j : Nat), js[k]? = some j → ∃ F, Fs[j]? = some F := fun k j hk => by
    obtain ⟨A, h1, _⟩ := hjs k j hk
    exact ⟨_, List.getElem?_eq_getElem (by rw [hl]; exact (List.getElem?_eq_some_iff.1 h1).1)⟩
  have key : ∀ (k : Nat) (G : Nat → Prop), (js.map fun j => Fs.getD j (fun _ => False))[k]? = some G → ∃ j, js[k]? = some j ∧ Fs[j]? = some G := fun k G hG => by
    rw [List.getElem?_map] at hG
    rcases hj : js[k]? with _ | j
    · rw [hj] at hG; cases hG
    · obtain ⟨F, hF⟩ := hF k j hj
      rw [hj] at hG
      simp only [Option.map_some, Option.some.injEq] at hG
      refine ⟨j, rfl, ?_⟩
      rw [← hG, List.getD_eq_getElem?_getD, hF]; rfl
  refine ⟨h.bl, h.be, js.map fun j => Fs.getD j (fun _ => False), by simp [hlen], fun i C G hC hG => ?_, fun i j G H hij hG hH => ?_⟩
  · obtain ⟨j, hj, hf⟩ := key i G hG
    obtain ⟨A, h1, h2⟩ := hjs i j hj
    rw [h2] at hC; injection hC with hC; subst hC
    exact ho j _ G h1 hf
  · obtain ⟨m, hm, hf⟩ := key i G hG
    obtain ⟨n, hn, hf2⟩ := key j H hH
    refine hd m n G H (fun e => hij ?_) hf hf2
    rw [← e] at hn
    exact (List.getElem?_inj (List.getElem?_eq_some_iff.1 hm).1 hnd).1 (hm.trans hn.symm)
section
variable {B : Nat} {w0 w w1 : World} {As : List Asset}
end
set_option maxRecDepth 100000 in
set_option maxHeartbeats 1000000 in
theorem copyLists_any (lo : Option Addr) (n c : Nat) (L : List (List UInt8)) (hn : n = L.length) (hb : n ≤ 1073741824) (hl : ∀ l ∈ L, l.length ≤ 1073741824) (w : World) (hL : LR w lo L) :
    Calls Tryz.prog 23 #[.slice lo n c] w fun e w' => ∃ v, e = .returned v ∧ FreshL w.heap.size w' v L ∧ Below w.heap.size w w' := by
  have HN := hid hn; have HL := hid hL; have HLL := hid hl
  clear hn hL hl
  go_enter Tryz.func23, Tryz.ntmps23
  go_wp2_with fail
  go_loopw [3, 4] (fun v2 i wr => ∃ (vo : Value) (k : Nat) (vs : List Value) (Fb : Nat → Prop), vo = v2 ∧ k ≤ n ∧ i = .int .i64 k ∧ ScanI w.heap.size w wr vo (.slice none 0 0) (L.take k) [] vs Fb) (fun _ i _ => n - (intOf i).toNat)
  case atStart => exact ⟨_, 0, [], _, rfl, Nat.zero_le _, rfl, ScanI.start w⟩
  case round =>
    obtain ⟨vo, k, vs, Fb, rfl, hk, rfl, hI⟩ := hrel
    have HI := hid hI
    clear hI
    by_cases hlt : k < n
    · obtain ⟨l, hll⟩ : ∃ l, L[k]? = some l := ⟨_, List.getElem?_eq_getElem (by rw [← HN.out]; exact hlt)⟩
      obtain ⟨b1, o1, lo1, cap1, rfl, cx, hcap, hs1⟩ := (HL.out.below HI.out.be).at hll
      have hlb := HLL.out l (List.mem_of_getElem? hll)
      have HT : Hid (L.take (k + 1) = L.take k ++ [l]) := hid (by rw [List.take_add_one, hll]; rfl)
      have HTL : Hid ((L.take k).length = k) := hid (by simp; rw [← HN.out]; omega)
      obtain ⟨u, hu⟩ : ∃ u, l.length = u := ⟨_, rfl⟩
      have HC := hid (copy_any lo1 l.length cap1 l rfl (by omega) wr hs1)
      rw [hu] at cx hlb HC
      have HU := hid hu
      clear hll hcap hs1 hu
      go_wp2_with fail
      refine HC.out.mono ?_
      rintro e w4 ⟨v, rfl, ho, _, hb4⟩
      have HI4 := hid (HI.out.took (by rw [HU.out]; exact ho) hb4)
      obtain ⟨a4, c4, rfl⟩ := own_slice ho
      clear ho hb4
      go_wp2_with (refine wpl_appendR rowL rfl (.tmp 11) (.tmp 17) rfl w.heap.size vo _ vs rfl (HI4.out.below (fresh_alloc w4 _)).oo w4.heap.size rfl [.slice a4 u c4] (alloc_new w4 _) rfl (by intro u hu; simp at hu; subst hu; rfl) (by rw [HTL.out]; omega) (HI4.out.below (fresh_alloc w4 _)).bl ?_; intro v7 w7 ho7 hg7 hw7; have HI7 := hid ((HI4.out.below (fresh_alloc w4 (.cells #[.slice a4 u c4] 44))).told ho7 hg7 hw7); clear ho7 hg7 hw7)
      go_roundw
      case rel => exact ⟨v7, k + 1, _, _, rfl, by omega, by go_num, by rw [HT.out]; exact HI7.out⟩
      case measure => simp [intOf]; omega
    · obtain rfl : k = n := by omega
      have HE : Hid (L.take k = L) := hid (List.take_of_length_le (by rw [← HN.out]; exact Nat.le_refl _))
      go_wp2
      go_ret
      exact ⟨vo, rfl, by have := HI.out.fresh; rw [HE.out] at this; exact this, HI.out.be⟩
end Go.Proofs.YtlondopgibcikaaGreat
namespace Go.Proofs.YtlondopgibcikaaGreat
open Go.RowKit Ent
/-- the document's vault over its device -/
def rvA (v a : Nat) (s : VS) : Asset := fun w F => ∃ vl G, Blk w v 77 (vCells a s.gen s.next vl s.br) ∧ F v ∧ listA vl s.L w G ∧ ¬ G v ∧ ∀ k, G k → F k
theorem good_rvA (v a : Nat) (s : VS) : Good (rvA v a s) := ⟨fun ⟨vl, G, hb, hv, hl, hn, hG⟩ hk hF => ⟨vl, G, hb.keep hk (hF _ hv), hv, (good_listA vl s.L).keep hl hk (fun k hk' => hF _ (hG k hk')), hn, hG⟩⟩
theorem St.rvault {B : Nat} {w0 w : World} {As : List Asset} (h : St B w0 w As) (j : Nat) {v a : Nat} {s : VS} (hj : As[j]? = some (rvA v a s)) : ∃ vl, Blk w v 77 (vCells a s.gen s.next vl s.br) := by
  obtain ⟨F, ⟨vl, G, hb, _⟩, _⟩ := h.open j hj
  exact ⟨vl, hb⟩
/-- fields of it are set -/
theorem St.rvSet {B : Nat} {w0 w w' : World} {As : List Asset} (h : St B w0 w As) (j : Nat) {v a : Nat} {s s' : VS} (hj : As[j]? = some (rvA v a s)) (hk : Keep (fun k => k = v) w w') (hL : s'.L = s.L)
    (hv : ∀ vl, Blk w v 77 (vCells a s.gen s.next vl s.br) → Blk w' v 77 (vCells a s'.gen s'.next vl s'.br)) : St B w0 w' (As.set j (rvA v a s')) := by
  obtain ⟨F, ⟨vl, G, hbl, hvF, hl, hn, hG⟩, hF, _, hcl⟩ := h.open j hj
  refine hcl w' _ F (hk.mono fun k _ e => by rw [e]; exact hvF) (good_rvA _ _ _) ⟨vl, G, hv vl hbl, hvF, ?_, hn, hG⟩ (fun k hk' => .inl hk')
  rw [hL]
  exact (good_listA vl s.L).keep hl hk (fun k h1 e => hn (by rw [← e]; exact h1))
/-- and its records -/
theorem St.rvTurn {B : Nat} {w0 w w5 w' : World} {As : List Asset} (h : St B w0 w As) (j : Nat) {v a : Nat} {s s' : VS} (hj : As[j]? = some (rvA v a s)) (hb : Below w.heap.size w w5) (hk : Keep (fun k => k = v) w5 w') {r : Value} (hv : Blk w' v 77 (vCells a s'.gen s'.next r s'.br)) {M : Nat} (hM : w.heap.size ≤ M) (hf : FreshL M w5 r s'.L) : St B w0 w' (As.set j (rvA v a s')) := by
  obtain ⟨F, ⟨vl, G, hbl, hvF, hl, hn, hG⟩, hF, _, hcl⟩ := h.open j hj
  have hvlt : v < w.heap.size := (hF v hvF).2
  have hsz := hk.size
  refine hcl w' _ (fun k => k = v ∨ (M ≤ k ∧ k < w5.heap.size)) ((Keep.ofBelow hb).trans (hk.mono fun k _ e => by rw [e]; exact hvF)) (good_rvA _ _ _) ⟨r, fun k => M ≤ k ∧ k < w5.heap.size, hv, .inl rfl, (good_listA r s'.L).keep hf.listA hk (fun k h1 h2 => by omega), fun h1 => by omega, fun k h1 => .inr h1⟩ (fun k hk' => ?_)
  rcases hk' with rfl | hk'
  · exact .inl hvF
  · exact .inr ⟨by omega, by omega⟩
/-- move -/
def rmoveV (d : Dev) (s : VS) (L : List (List UInt8)) : Int × Dev × VS :=
  if fitsOf s.gen d.img.length L ≠ 0 then (fitsOf s.gen d.img.length L, d, s) else movedV d s L
/-- a list that is read beside the assets i and j -/
def LentI2 (B : Nat) (w0 : World) (As : List Asset) (i j : Nat) (lo : Option Addr) (L : List (List UInt8)) : Prop := LRF w0 (fun k => k < B) lo L ∨ ∃ (m : Nat) (A : Asset), i ≠ m ∧ j ≠ m ∧ As[m]? = some A ∧ ∀ w F, A w F → LRF w F lo L
theorem LentI2.one {B : Nat} {w0 : World} {As : List Asset} {i j : Nat} {lo : Option Addr} {L : List (List UInt8)} (h : LentI2 B w0 As i j lo L) : LentI B w0 As i lo L := by
  rcases h with h | ⟨m, A, h1, _, h3, h4⟩
  · exact .inl h
  · exact .inr ⟨m, A, h1, h3, h4⟩
theorem LentI2.to {B : Nat} {w0 : World} {As Bs : List Asset} {i j : Nat} {lo : Option Addr} {L : List (List UInt8)} (h : LentI2 B w0 As i j lo L) (hh : ∀ m A, i ≠ m → j ≠ m → As[m]? = some A → Bs[m]? = some A) : LentI B w0 Bs i lo L := by
  rcases h with h | ⟨m, A, h1, h2, h3, h4⟩
  · exact .inl h
  · exact .inr ⟨m, A, h1, hh m A h1 h2 h3, h4⟩
theorem seqOf_last {S : Type} {fs : Nat → S → Int × S} {k : Nat} {s : S} : seqOf fs k 1 s = fs k s := by
  show (if (fs k s).1 = 0 then (0, (fs k s).2) else fs k s) = fs k s
  split
  · rename_i h; exact Prod.ext h.symm rfl
  · rfl
end Go.Proofs.YtlondopgibcikaaGreat
