/- Layer 7's acts: how they lie in memory; Long, first; lists copied. Layer 7's lists: copied, kept; assets chosen. Layer 7's kept, first. -/
import Derived.Test.YtlondopgibcikaaRows
import Derived.Test.YtlondopgibcikaaGBase
import Derived.Test.YtlondopgibcikaaGDevice
import Derived.Test.YtlondopgibcikaaGRefDev
import Derived.Test.YtlondopgibcikaaGLogA
import Derived.Test.YtlondopgibcikaaGLogC
import Derived.Test.YtlondopgibcikaaGRefLog
import Derived.Test.YtlondopgibcikaaGVaultA
import Derived.Test.YtlondopgibcikaaGVaultC
import Derived.Test.YtlondopgibcikaaGVaultE
import Derived.WalkKit
import Derived.WalkSpells
import Derived.WalkLawsBesides
import Derived.Maps.AppendAt
namespace Go.Proofs.Ytlondopgibcikaa
open Go.RowKit Ent
structure Act7 where
  kind : Int
  n : Int
  lo : Option Addr
  lc : Nat
  L : List (List UInt8)
  ko : Option Addr
  kc : Nat
  keep : List Bool
def Act7.cells (a : Act7) : List Value := [.int .i64 a.kind, .int .i64 a.n, .slice a.lo a.L.length a.lc, .slice a.ko a.keep.length a.kc]
structure Act7.fits (w : World) (a : Act7) : Prop where
  k1 : -9223372036854775808 ≤ a.kind ∧ a.kind ≤ 9223372036854775807
  n1 : -9223372036854775808 ≤ a.n ∧ a.n ≤ 9223372036854775807
  lr : LR w a.lo a.L
  ll : a.L.length ≤ 9223372036854775807
  bl : BL w a.ko a.keep
  kl : a.keep.length ≤ 9223372036854775807
theorem Act7.fits.below {w w' : World} {a : Act7} (h : a.fits w) (hb : Below w.heap.size w w') : a.fits w' := ⟨h.k1, h.n1, h.lr.below hb, h.ll, h.bl.below hb, h.kl⟩
/-- acts that may be read -/
def AL7 (w : World) (ao : Option Addr) (l : List Act7) : Prop := l = [] ∨ ∃ b o, ao = some ⟨b, o, none⟩ ∧ ∀ i a, l[i]? = some a → a.fits w ∧ ∀ j v, a.cells[j]? = some v → w.cell? ⟨b, o + i * 4 + j, none⟩ = some v
theorem AL7.below {w w' : World} {ao : Option Addr} {l : List Act7} (h : AL7 w ao l) (hb : Below w.heap.size w w') : AL7 w' ao l := by
  rcases h with h | ⟨b, o, rfl, h⟩
  · exact .inl h
  · refine .inr ⟨b, o, rfl, fun i a ha => ⟨(h i a ha).1.below hb, fun j v hv => ?_⟩⟩
    have hc := (h i a ha).2 j v hv
    rw [hb.cell (World.block_lt_of_cell? w _ hc)]; exact hc
theorem AL7.at {w : World} {ao : Option Addr} {l : List Act7} (h : AL7 w ao l) {i : Nat} {a : Act7} (ha : l[i]? = some a) : ∃ b o, ao = some ⟨b, o, none⟩ ∧ a.fits w ∧ ∀ j v, a.cells[j]? = some v → w.cell? ⟨b, o + i * 4 + j, none⟩ = some v := by
  rcases h with rfl | ⟨b, o, rfl, h⟩
  · simp at ha
  · exact ⟨b, o, rfl, h i a ha⟩
/-- what is read lies in blocks that are there -/
theorem LR.lrf {w : World} {lo : Option Addr} {L : List (List UInt8)} (h : LR w lo L) : LRF w (fun k => k < w.heap.size) lo L := by
  rcases h with h | ⟨b, o, h1, h2⟩
  · exact .inl h
  · rcases L with _ | ⟨l, L⟩
    · exact .inl rfl
    · refine .inr ⟨b, o, h1, ?_, fun k m hm => ?_⟩
      · obtain ⟨ro, rc, c1, _⟩ := h2 0 l rfl
        exact World.block_lt_of_cell? _ _ c1
      · obtain ⟨ro, rc, c1, c2, c3⟩ := h2 k m hm
        exact ⟨ro, rc, c1, c2, c3, fun hne x hx => sb_lt c3 hne x hx⟩
def bad7 (a : Act7) : Bool := longL a.L 8 200 || decide (60 < a.keep.length)
def long7 (l : List Act7) : Bool := (l.take 21).any bad7 || decide (20 < l.length)
theorem long7_no {l : List Act7} (h : long7 l = false) : l.length ≤ 20 ∧ ∀ a ∈ l, (a.L.length ≤ 8 ∧ ∀ r ∈ a.L, r.length ≤ 200) ∧ a.keep.length ≤ 60 := by
  unfold long7 at h
  rw [Bool.or_eq_false_iff, decide_eq_false_iff_not, List.any_eq_false] at h
  obtain ⟨h1, h2⟩ := h
  refine ⟨by omega, fun a ha => ?_⟩
  have := h1 a (by rw [List.take_of_length_le (by omega)]; exact ha)
  unfold bad7 at this
  rw [Bool.or_eq_true, not_or] at this
  have h3 : longL a.L 8 200 = false := by simpa using this.1
  exact ⟨longL_no h3, by simpa using this.2⟩
set_option maxRecDepth 100000 in
set_option maxHeartbeats 400000 in
theorem long7_any (ao : Option Addr) (n c : Nat) (l : List Act7) (hn : n = l.length) (hb : n ≤ 9223372036854775807) (w : World) (hl : AL7 w ao l) :
    Calls Try.prog 97 #[.slice ao n c] w fun e w' => e = .returned (.bool (long7 l)) ∧ w' = w := by
  subst hn
  have HL := hid hl
  clear hl
  go_enter Try.func97, Try.ntmps97
  go_wp2_with fail
  go_loop [3] (fun i => ∃ k : Nat, k ≤ l.length ∧ k ≤ 21 ∧ i = .int .i64 k ∧ (l.take k).any bad7 = false) (fun i => 21 - (intOf i).toNat)
  case atStart => exact ⟨0, Nat.zero_le _, by omega, rfl, by simp⟩
  case round =>
    obtain ⟨k, hk, hk61, rfl, hany⟩ := hrel
    have HA := hid hany
    clear hany
    by_cases hlt : k < l.length ∧ k < 21
    · obtain ⟨hl1, hl2⟩ := hlt
      obtain ⟨x, hx⟩ : ∃ x, l[k]? = some x := ⟨_, List.getElem?_eq_getElem hl1⟩
      obtain ⟨b, o, rfl, hf, hc⟩ := HL.out.at hx
      have c2 := hc 2 _ rfl
      have c3 := hc 3 _ rfl
      have hll := hf.ll
      have hkl := hf.kl
      have HLR := hid hf.lr
      have HT := hid (any_take_succ bad7 l k hx)
      have HBAD : Hid (bad7 x = true → long7 l = true) := hid (fun h => by
        unfold long7
        have h1 : (l.take 21).any bad7 = true := by
          rw [List.any_eq_true]
          have h2 := HT.out
          rw [HA.out, Bool.false_or, h, List.any_eq_true] at h2
          obtain ⟨y, hy, hp⟩ := h2
          exact ⟨y, (List.take_subset_take_left l (by omega)) hy, hp⟩
        rw [h1]; rfl)
      clear hc hx hf
      go_wp2_with fail
      refine (longLists_any x.lo x.L.length x.lc x.L 8 200 rfl (by omega) hll w HLR.out).mono ?_
      rintro e w' ⟨rfl, hw'⟩
      subst w'
      obtain ⟨q, hq⟩ : ∃ q, longL x.L 8 200 = q := ⟨_, rfl⟩
      have HQ := hid hq
      rw [hq]
      clear hq
      rcases q with _ | _
      · by_cases h40 : 60 < x.keep.length
        · have HR : Hid (long7 l = true) := hid (HBAD.out (by simp [bad7, h40]))
          go_wp2
          go_ret
          exact ⟨by rw [HR.out]; rfl, rfl⟩
        · have HNB : Hid (bad7 x = false) := hid (by simp [bad7, HQ.out]; omega)
          go_wp2
          go_round
          case rel => exact ⟨k + 1, by omega, by omega, by go_num, by rw [HT.out, HA.out, HNB.out]; rfl⟩
          case measure => simp [intOf]; omega
      · have HR : Hid (long7 l = true) := hid (HBAD.out (by simp [bad7, HQ.out]))
        go_wp2
        go_ret
        exact ⟨by rw [HR.out]; rfl, rfl⟩
    · have HR : Hid (long7 l = decide (20 < l.length)) := hid (by
        unfold long7
        have : l.take 21 = l.take k := by
          by_cases h1 : k < 21
          · rw [List.take_of_length_le (by omega), List.take_of_length_le (by omega)]
          · rw [show k = 21 by omega]
        rw [this, HA.out, Bool.false_or])
      by_cases h1 : k < l.length
      · have h2 : ¬ k < 21 := fun h => hlt ⟨h1, h⟩
        clear hlt
        go_wp2
        go_ret
        exact ⟨by rw [HR.out]; congr 1; simp; omega, rfl⟩
      · clear hlt
        go_wp2
        go_ret
        exact ⟨by rw [HR.out]; congr 1; simp; omega, rfl⟩
/-- the first of an act's records -/
def firstR (a : Act7) : List UInt8 := a.L.headD []
set_option maxRecDepth 100000 in
theorem first7_any (a : Act7) (w : World) (h : a.fits w) :
    Calls Try.prog 99 #[.agg a.cells.toArray] w fun e w' => ∃ ro rc, e = .returned (.slice ro (firstR a).length rc) ∧ (firstR a).length ≤ rc ∧ SB w ro rc (firstR a) ∧ Below w.heap.size w w' := by
  obtain ⟨kind, n, lo, lc, L, ko, kc, keep⟩ := a
  have hlr := h.lr
  simp only at hlr
  unfold Act7.cells
  simp only
  obtain ⟨m, hm⟩ : ∃ m, L.length = m := ⟨_, rfl⟩
  rw [hm]
  obtain ⟨w1, hw1⟩ : ∃ w1, w.alloc (.cells #[.int .i64 kind, .int .i64 n, .slice lo m lc, .slice ko keep.length kc] 120) = w1 := ⟨_, rfl⟩
  have HBX : Hid (Blk w1 w.heap.size 120 [.int .i64 kind, .int .i64 n, .slice lo m lc, .slice ko keep.length kc]) := hid (by rw [← hw1]; exact alloc_new w _)
  have HB1 : Hid (Below w.heap.size w w1) := hid (by rw [← hw1]; exact fresh_alloc w _)
  have HW1 := hid hw1
  have c2 := HBX.out.cell (j := 2) rfl
  clear hw1 h
  rcases L with _ | ⟨r, L⟩
  · clear hlr
    obtain rfl : m = 0 := hm.symm
    clear hm
    go_enter Try.func99, Try.ntmps99
    go_upto_region 1 with fail
    rw [HW1.out]
    go_wp2
    go_ret
    exact ⟨none, 0, rfl, Nat.le_refl _, SB.nil _, HB1.out⟩
  · rcases hlr with h0 | ⟨b, o, rfl, h0⟩
    · cases h0
    · obtain ⟨ro, rc, cr, hrc, hs⟩ := h0 0 r rfl
      have cr1 := (HB1.out.cell (World.block_lt_of_cell? _ _ cr)).trans cr
      rw [Nat.add_zero] at cr1
      have HS := hid hs; have HRC := hid hrc
      have hpos : 0 < m := by rw [← hm]; simp
      have qz : ((m : Int) == 0) = false := by rw [beq_eq_false_iff_ne]; omega
      clear h0 cr hs hrc hm
      go_enter Try.func99, Try.ntmps99
      go_upto_region 1 with fail
      rw [HW1.out]
      go_wp2
      go_ret
      exact ⟨ro, rc, rfl, HRC.out, HS.out, HB1.out⟩
end Go.Proofs.Ytlondopgibcikaa
namespace Go.Proofs.Ytlondopgibcikaa
open Go.RowKit Ent
/-- some of the assets, in any order -/
theorem St.sel {B : Nat} {w0 w : World} {As As' : List Asset} (h : St B w0 w As) (js : List Nat) (hnd : js.Nodup) (hlen : As'.length = js.length) (hjs : ∀ (k j : Nat), js[k]? = some j → ∃ A, As[j]? = some A ∧ As'[k]? = some A) : St B w0 w As' := by
  obtain ⟨Fs, hl, ho, hd⟩ := h.own
  have hF : ∀ (k j : Nat), js[k]? = some j → ∃ F, Fs[j]? = some F := fun k j hk => by
    obtain ⟨A, h1, _⟩ := hjs k j hk
    exact ⟨_, List.getElem?_eq_getElem (by rw [hl]; exact (List.getElem?_eq_some_iff.1 h1).1)⟩
  have key : ∀ (k : Nat) (G : Nat → Prop), (js.map fun j => Fs.getD j (fun _ => False))[k]? = some G → ∃ j, js[k]? = some j ∧ Fs[j]? = some G := fun k G hG => by
    rw [List.getElem?_map] at hG
    rcases hj : js[k]? with _ | j
    · rw [hj] at hG; cases hG
    · obtain ⟨F, hF⟩ := hF k j hj
      rw [hj] at hG
      simp only [Option.map_some, Option.some.injEq] at hG
      refine ⟨j, rfl, ?_⟩
      rw [← hG, List.getD_eq_getElem?_getD, hF]; rfl
  refine ⟨h.bl, h.be, js.map fun j => Fs.getD j (fun _ => False), by simp [hlen], fun i C G hC hG => ?_, fun i j G H hij hG hH => ?_⟩
  · obtain ⟨j, hj, hf⟩ := key i G hG
    obtain ⟨A, h1, h2⟩ := hjs i j hj
    rw [h2] at hC; injection hC with hC; subst hC
    exact ho j _ G h1 hf
  · obtain ⟨m, hm, hf⟩ := key i G hG
    obtain ⟨n, hn, hf2⟩ := key j H hH
    refine hd m n G H (fun e => hij ?_) hf hf2
    rw [← e] at hn
    exact (List.getElem?_inj (List.getElem?_eq_some_iff.1 hm).1 hnd).1 (hm.trans hn.symm)
/-- lists that are only read: each old, or of its own -/
def roA (B : Nat) (w0 : World) (v : Value) (L : List (List UInt8)) : Asset := fun w F => ∃ lo c, v = .slice lo L.length c ∧ (L = [] ∨ ∃ b o, lo = some ⟨b, o, none⟩ ∧ F b ∧ ∀ (k : Nat) (l : List UInt8), L[k]? = some l → ∃ ro rc, w.cell? ⟨b, o + k, none⟩ = some (.slice ro l.length rc) ∧ l.length ≤ rc ∧ ((SB w ro rc l ∧ (l ≠ [] → ∀ x, ro = some x → F x.block)) ∨ (SB w0 ro rc l ∧ (l ≠ [] → ∀ x, ro = some x → x.block < B))))
theorem good_roA (B : Nat) (w0 : World) (v : Value) (L : List (List UInt8)) : Good (roA B w0 v L) := ⟨fun ⟨lo, c, hv, h⟩ hk hG => by
  refine ⟨lo, c, hv, ?_⟩
  rcases h with h | ⟨b, o, h1, h2, h3⟩
  · exact .inl h
  · refine .inr ⟨b, o, h1, h2, fun k l hl => ?_⟩
    obtain ⟨ro, rc, c1, c2, c3⟩ := h3 k l hl
    refine ⟨ro, rc, (hk.cell (World.block_lt_of_cell? _ _ c1) (hG _ h2)).trans c1, c2, ?_⟩
    rcases c3 with ⟨c3, c4⟩ | c3
    · exact .inl ⟨sb_keepE c3 hk (fun hne x hx => hG _ (c4 hne x hx)), c4⟩
    · exact .inr c3⟩
section
variable {B : Nat} {w0 w w1 : World} {As : List Asset}
theorem St.ro_lr (h : St B w0 w As) (j : Nat) {v : Value} {L : List (List UInt8)} (hj : As[j]? = some (roA B w0 v L)) : ∃ lo c, v = .slice lo L.length c ∧ LR w lo L := by
  obtain ⟨F, ⟨lo, c, hv, hl⟩, _⟩ := h.open j hj
  refine ⟨lo, c, hv, ?_⟩
  rcases hl with hl | ⟨b, o, h1, h2, h3⟩
  · exact .inl hl
  · refine .inr ⟨b, o, h1, fun k l hk => ?_⟩
    obtain ⟨ro, rc, c1, c2, c3⟩ := h3 k l hk
    refine ⟨ro, rc, c1, c2, ?_⟩
    rcases c3 with c3 | ⟨c3, c4⟩
    · exact c3.1
    · exact sb_keepE c3 (keepB h.be) (fun hne x hx hF => by have := c4 hne x hx; omega)
theorem roA_of_fresh {v : Value} {L : List (List UInt8)} {b : Nat} (h : FreshL b w v L) : roA B w0 v L w (fun k => b ≤ k ∧ k < w.heap.size) := by
  obtain ⟨lo, c, hv, hl⟩ := listA_lst h.listA
  refine ⟨lo, c, hv, ?_⟩
  rcases hl with hl | ⟨b, o, h1, h2, h3⟩
  · exact .inl hl
  · refine .inr ⟨b, o, h1, h2, fun k l hk => ?_⟩
    obtain ⟨ro, rc, c1, c2, c3, c4⟩ := h3 k l hk
    exact ⟨ro, rc, c1, c2, .inl ⟨c3, c4⟩⟩
theorem St.addRo (h : St B w0 w As) (hb : Below w.heap.size w w1) {v : Value} {L : List (List UInt8)} (hl : FreshL w.heap.size w1 v L) : St B w0 w1 (As ++ [roA B w0 v L]) :=
  h.add hb (good_roA _ _ _ _) (roA_of_fresh hl) (fun _ hk => hk)
theorem St.addNil (h : St B w0 w As) : St B w0 w (As ++ [roA B w0 (.slice none 0 0) []]) :=
  h.add (Below.refl _ _) (F := fun _ => False) (good_roA _ _ _ _) ⟨none, 0, rfl, .inl rfl⟩ (fun _ hk => hk.elim)
/-- new lists, and one more, which is old -/
theorem St.addRo1 (h : St B w0 w As) {w5 w6 w7 : World} {v v' : Value} {L : List (List UInt8)} {r : List UInt8} {ro : Option Addr} {rc : Nat} {vs : List Value} {Fb : Nat → Prop} (hb : Below w.heap.size w w5) (ho : w5.ownsRow w.heap.size 22 1 v L.length vs) (hr : RowSW w5 Fb vs L) (hfb : ∀ k, Fb k → w.heap.size ≤ k ∧ k < w5.heap.size) (hno : ∀ k, v.ownBlock = some k → ¬ Fb k)
    (hb6 : Below w5.heap.size w5 w6) (hs : SB w0 ro rc r) (hrc : r.length ≤ rc) (hold : r ≠ [] → ∀ x, ro = some x → x.block < B) (ho7 : w7.ownsRow w.heap.size 22 1 v' (L.length + 1) (vs ++ [.slice ro r.length rc])) (hg : w6.grownBy w7 v.ownBlock) : St B w0 w7 (As ++ [roA B w0 v' (L ++ [r])]) := by
  have hk : Keep (fun k => v.ownBlock = some k) w5 w7 := (Keep.ofBelow (F := fun k => v.ownBlock = some k) hb6).grown hg (fun k hk _ => hk)
  have hbe : Below w.heap.size w w7 := ((hb.trans (hb6.mono hb.size)).grown hg (by have := hb.size; have := hb6.size; omega) (owns_ge ho))
  have hs7 := hg.size; have hs6 := hb6.size
  have hr7 := hr.keep hk (fun k h1 h2 => hno k h2 h1)
  refine h.add hbe (good_roA _ _ _ _) (F := fun k => w.heap.size ≤ k ∧ k < w7.heap.size) ?_ (fun _ hk => hk)
  rcases ho7.2 with ⟨_, h0⟩ | ⟨g, c, cur, hv', hg', hh, hc, hm, hs', ht⟩
  · omega
  · refine ⟨_, c, by rw [List.length_append]; exact hv', .inr ⟨g, 0, rfl, ho7.lt g (by rw [hv']; rfl), fun k l hl => ?_⟩⟩
    have hcell : ∀ (u : Value), (vs ++ [Value.slice ro r.length rc])[k]? = some u → w7.cell? ⟨g, 0 + k, none⟩ = some u := fun u hu => by
      rw [Nat.zero_add, cell_of_row w7 g k cur _ _ hh]
      rw [← ht, List.getElem?_take] at hu
      split at hu
      · simpa using hu
      · cases hu
    by_cases hkl : k < L.length
    · rw [List.getElem?_append_left hkl] at hl
      obtain ⟨u, hu⟩ : ∃ u, vs[k]? = some u := ⟨_, List.getElem?_eq_getElem (by rw [hr.1]; exact hkl)⟩
      obtain ⟨so, sc, e1, e2, e3, _, e5⟩ := hr7.2 k u l hu hl
      refine ⟨so, sc, ?_, e2, .inl ⟨e3, fun _ x hx => ?_⟩⟩
      · rw [← e1]; exact hcell u (by rw [List.getElem?_append_left (by rw [hr.1]; exact hkl)]; exact hu)
      · have := hfb _ (e5 x hx); exact ⟨this.1, by omega⟩
    · have hk' : k = L.length := by
        have := (List.getElem?_eq_some_iff.1 hl).1
        simp at this; omega
      subst hk'
      rw [List.getElem?_append_right (Nat.le_refl _), Nat.sub_self] at hl
      injection hl with hl; subst hl
      exact ⟨ro, rc, hcell _ (by rw [List.getElem?_append_right (by rw [hr.1]; exact Nat.le_refl _), hr.1, Nat.sub_self]; rfl), hrc, .inr ⟨hs, hold⟩⟩
end
set_option maxRecDepth 100000 in
set_option maxHeartbeats 1000000 in
theorem copyLists_any (lo : Option Addr) (n c : Nat) (L : List (List UInt8)) (hn : n = L.length) (hb : n ≤ 1073741824) (hl : ∀ l ∈ L, l.length ≤ 1073741824) (w : World) (hL : LR w lo L) :
    Calls Try.prog 98 #[.slice lo n c] w fun e w' => ∃ v, e = .returned v ∧ FreshL w.heap.size w' v L ∧ Below w.heap.size w w' := by
  have HN := hid hn; have HL := hid hL; have HLL := hid hl
  clear hn hL hl
  go_enter Try.func98, Try.ntmps98
  go_wp2_with fail
  go_loopw [3, 4] (fun v2 i wr => ∃ (vo : Value) (k : Nat) (vs : List Value) (Fb : Nat → Prop), vo = v2 ∧ k ≤ n ∧ i = .int .i64 k ∧ ScanI w.heap.size w wr vo (.slice none 0 0) (L.take k) [] vs Fb) (fun _ i _ => n - (intOf i).toNat)
  case atStart => exact ⟨_, 0, [], _, rfl, Nat.zero_le _, rfl, ScanI.start w⟩
  case round =>
    obtain ⟨vo, k, vs, Fb, rfl, hk, rfl, hI⟩ := hrel
    have HI := hid hI
    clear hI
    by_cases hlt : k < n
    · obtain ⟨l, hll⟩ : ∃ l, L[k]? = some l := ⟨_, List.getElem?_eq_getElem (by rw [← HN.out]; exact hlt)⟩
      obtain ⟨b1, o1, lo1, cap1, rfl, cx, hcap, hs1⟩ := (HL.out.below HI.out.be).at hll
      have hlb := HLL.out l (List.mem_of_getElem? hll)
      have HT : Hid (L.take (k + 1) = L.take k ++ [l]) := hid (by rw [List.take_add_one, hll]; rfl)
      have HTL : Hid ((L.take k).length = k) := hid (by simp; rw [← HN.out]; omega)
      obtain ⟨u, hu⟩ : ∃ u, l.length = u := ⟨_, rfl⟩
      have HC := hid (copy_any lo1 l.length cap1 l rfl (by omega) wr hs1)
      rw [hu] at cx hlb HC
      have HU := hid hu
      clear hll hcap hs1 hu
      go_wp2_with fail
      refine HC.out.mono ?_
      rintro e w4 ⟨v, rfl, ho, _, hb4⟩
      have HI4 := hid (HI.out.took (by rw [HU.out]; exact ho) hb4)
      obtain ⟨a4, c4, rfl⟩ := own_slice ho
      clear ho hb4
      go_wp2_with (refine wpl_appendR rowL rfl (.tmp 11) (.tmp 17) rfl w.heap.size vo _ vs rfl (HI4.out.below (fresh_alloc w4 _)).oo w4.heap.size rfl [.slice a4 u c4] (alloc_new w4 _) rfl (by intro u hu; simp at hu; subst hu; rfl) (by rw [HTL.out]; omega) (HI4.out.below (fresh_alloc w4 _)).bl ?_; intro v7 w7 ho7 hg7 hw7; have HI7 := hid ((HI4.out.below (fresh_alloc w4 (.cells #[.slice a4 u c4] 22))).told ho7 hg7 hw7); clear ho7 hg7 hw7)
      go_roundw
      case rel => exact ⟨v7, k + 1, _, _, rfl, by omega, by go_num, by rw [HT.out]; exact HI7.out⟩
      case measure => simp [intOf]; omega
    · obtain rfl : k = n := by omega
      have HE : Hid (L.take k = L) := hid (List.take_of_length_le (by rw [← HN.out]; exact Nat.le_refl _))
      go_wp2
      go_ret
      exact ⟨vo, rfl, by have := HI.out.fresh; rw [HE.out] at this; exact this, HI.out.be⟩
end Go.Proofs.Ytlondopgibcikaa
namespace Go.Proofs.Ytlondopgibcikaa
open Go.RowKit Ent
set_option maxRecDepth 100000 in
theorem wpl_layNo {ops : Array Oper} {rest : List Oper} {o : Oper} {a : Act} {w : World} {Q : Exit → Act → World → Prop} (hgd : o.guard = none) (ho : o.op = .buildSlice 79 0 #[])
    (h : ∀ w', Below w.heap.size w w' → Blk w' w.heap.size 22 [] → wpList Try.prog ops Q rest (a.put o.dst (.slice (some ⟨w.heap.size, 0, none⟩) 0 0)) w') : wpList Try.prog ops Q (o :: rest) a w := by
  have hr : (Instr.buildSlice 79 0 #[]).run Try.prog w = .ok (.slice (some ⟨w.heap.size, 0, none⟩) 0 0) (w.alloc (.cells #[] 22)) := by
    obtain ⟨i, hi, hz, hsz, _⟩ := rowL.inf
    simp [Instr.buildSlice, run_underlying rowL.un, sizeOf, typeInfo, hi, newRow, Instr.fill]
    exact congrArg (fun c => w.alloc (.cells c 22)) (Array.eq_empty_of_size_eq_zero (by simp))
  refine wpList_plain hgd fun _ hK => ?_
  unfold Oper.wp execOp
  simp only [ho, List.map_toArray, List.map_nil, Sem.run_bind, hr, Result.andThen_ok]
  exact hK _ _ (h _ (fresh_alloc w _) (alloc_new w _))
set_option maxRecDepth 100000 in
/-- lists appended to none, but not to nil -/
theorem wpl_appendLs {ops : Array Oper} {rest : List Oper} {o : Oper} {a : Act} {w : World} {Q : Exit → Act → World → Prop} (hgd : o.guard = none) (y x : Operand)
    (ho : o.op = .call { callee := .builtin .append, args := #[y, x], argTypes := #[79, 79] }) (B B2 g : Nat) (hs : a.eval y = .slice (some ⟨g, 0, none⟩) 0 0) (hg : Blk w g 22 []) (hgB : B ≤ g) (hgB2 : g < B2) (v : Value) (L : List (List UInt8)) (hx : a.eval x = v) (hf : FreshL B2 w v L) (hL : L.length ≤ 1073741824) (hB : B2 ≤ w.heap.size)
    (h : ∀ w' g' c', FreshL B w' (.slice (some ⟨g', 0, none⟩) L.length c') L → (∀ w0, Below B w0 w → Below B w0 w') → w.heap.size ≤ w'.heap.size → wpList Try.prog ops Q rest (a.put o.dst (.slice (some ⟨g', 0, none⟩) L.length c')) w') : wpList Try.prog ops Q (o :: rest) a w := by
  refine wpList_plain hgd fun _ hK => ?_
  have hown : w.ownsRow B 22 1 (.slice (some ⟨g, 0, none⟩) 0 0) 0 [] := ⟨rfl, .inr ⟨g, 0, #[], rfl, hgB, hg, Nat.le_refl _, by simp [maxLen], rfl, rfl⟩⟩
  obtain ⟨vs, Fb, hso, hsr, hsf, hsn⟩ := hf
  obtain ⟨i, hi, hz, hsz, hby⟩ := rowL.inf
  rcases hso.2 with ⟨rfl, h0⟩ | ⟨g2, c2, cur, rfl, hg2, hh2, hc2, hm2, hs2, ht2⟩
  · have hL0 : L = [] := List.eq_nil_of_length_eq_zero h0
    subst hL0
    have hr := run_append_owned_none (P := Try.prog) w B 79 o.type 22 i 1 rowL.un hi _ 0 [] hown
    unfold Oper.wp execOp
    simp only [ho, resolve, invoke, builtin, Sem.run_bind, Sem.run_pure, Result.andThen_ok, List.map_toArray, List.map_cons, List.map_nil, hs, hx, hr]
    refine hK _ _ (h w g 0 ⟨[], fun _ => False, hown, RowSW.nil _ _, fun _ h => h.elim, fun _ _ => id⟩ (fun _ h => h) (Nat.le_refl _))
  · have hcell : ∀ (j : Nat) (u : Value), vs[j]? = some u → w.cell? ((⟨g2, 0, none⟩ : Addr).add j) = some u := fun j u hu => by
      rw [Addr.add_mid, Nat.zero_add, cell_of_row w g2 j cur _ _ hh2]
      rw [← ht2, List.getElem?_take] at hu
      split at hu
      · simpa using hu
      · cases hu
    have hone : ∀ u ∈ vs, u.oneCell' = true := fun u hu => by
      obtain ⟨k, hk⟩ := List.getElem?_of_mem hu
      obtain ⟨l, hl⟩ : ∃ l, L[k]? = some l := ⟨_, List.getElem?_eq_getElem (by rw [← hsr.1]; exact (List.getElem?_eq_some_iff.1 hk).1)⟩
      obtain ⟨ao, cap, rfl, _⟩ := hsr.2 k u l hk hl
      rfl
    obtain ⟨v', w', hr, ho', hg', hne, hw'⟩ := run_append_own_at (P := Try.prog) w B 79 o.type 22 i (.slice none 0 0) 1 24 rowL.un hi hz hsz hby rowL.zs rowL.s0 _ 0 [] hown ⟨g2, 0, none⟩ L.length c2 vs (by rw [hsr.1]; omega) hcell hone (by simp [maxLen]; omega) (by omega) (by omega)
    have hnn : v' ≠ .slice none 0 0 := fun e => by have := (hne.1 e).1; cases this
    rw [Nat.zero_add, List.nil_append] at ho'
    have hgb : w.grownBy w' (some g) := hg'
    have hk : Keep (fun k => k = g) w w' := (Keep.refl _ w).grown hgb (fun k hk _ => by injection hk with hk; exact hk.symm)
    rcases ho'.2 with ⟨e, _⟩ | ⟨g', c', cur', rfl, _⟩
    · exact absurd e hnn
    · unfold Oper.wp execOp
      simp only [ho, resolve, invoke, builtin, Sem.run_bind, Sem.run_pure, Result.andThen_ok, List.map_toArray, List.map_cons, List.map_nil, hs, hx, hr]
      refine hK _ _ (h w' g' c' ⟨vs, Fb, ho', hsr.keep hk (fun k h1 h2 => by have := hsf k h1; omega), fun k hk' => ?_, fun k hk' => ?_⟩ (fun w0 h0 => ?_) hk.size)
      · have h1 := hsf k hk'; have h2 := hk.size; exact ⟨by omega, by omega⟩
      · intro hfb
        have h1 := hsf k hfb
        rcases hw' with e | e
        · rw [e] at hk'
          have : g = k := by injection hk'
          omega
        · rw [e] at hk'; injection hk' with hk'; omega
      · exact h0.grown hgb (by omega) (fun k hk' => by injection hk' with hk'; omega)
theorem sameL_refl (L : List (List UInt8)) : sameL L L = true := by simp [sameL]
set_option maxRecDepth 100000 in
set_option maxHeartbeats 1000000 in
theorem kept7_any (lo fo oo : Option Addr) (ln lc fn fc on oc : Nat) (l firm other : List (List UInt8)) (under : Bool) (hln : ln = l.length) (hfn : fn = firm.length) (hon : on = other.length) (hlb : ln ≤ 1000000) (hfb : fn ≤ 1000000) (hob : on ≤ 1000000) (hl2 : ∀ r ∈ l, r.length ≤ 1073741824) (w : World) (hL : LR w lo l) (hF : LR w fo firm) (hO : LR w oo other) (hc : l = firm ∨ under = true ∧ l = other) :
    Calls Try.prog 100 #[.slice lo ln lc, .slice fo fn fc, .slice oo on oc, .bool under] w fun e w' => ∃ g c, e = .returned (.slice (some ⟨g, 0, none⟩) ln c) ∧ FreshL w.heap.size w' (.slice (some ⟨g, 0, none⟩) ln c) l ∧ Below w.heap.size w w' := by
  have H1 := hid hL; have H2 := hid hF; have H3 := hid hO; have HN1 := hid hln; have HN2 := hid hfn; have HN3 := hid hon; have HL2 := hid hl2
  have tail : Hid (∀ (w5 : World), Below w.heap.size w w5 → LR w5 lo l) := hid (fun w5 hb => hL.below hb)
  clear hL hF hO hln hfn hon hl2
  by_cases h1 : l = firm
  · have q1 : Hid (sameL l firm = true) := hid (by rw [h1]; exact sameL_refl _)
    clear h1 hc
    go_enter Try.func100, Try.ntmps100
    go_wp2_with fail
    refine (sameLists_any lo fo ln fn lc fc l firm HN1.out HN2.out (by omega) (by omega) w H1.out H2.out).mono ?_
    rintro e w2 ⟨rfl, hb2⟩
    rw [q1.out]
    have HB2 := hid hb2
    clear hb2
    go_wp2_with (refine wpl_layNo rfl rfl ?_; intro w3 hb3 hg3; have HB3 := hid (HB2.out.trans (hb3.mono HB2.out.size)); have HG3 := hid hg3; have HLT3 : Hid (w2.heap.size < w3.heap.size) := hid hg3.lt; clear hb3 hg3)
    refine (copyLists_any lo ln lc l HN1.out (by omega) HL2.out w3 (tail.out w3 HB3.out)).mono ?_
    rintro e w4 ⟨v4, rfl, hf4, hb4⟩
    have HF4 := hid hf4; have HB4 := hid (HB3.out.trans (hb4.mono HB3.out.size)); have HG4 := hid (HG3.out.below hb4 HG3.out.lt)
    have HS4 : Hid (w3.heap.size ≤ w4.heap.size) := hid hb4.size
    clear hf4 hb4
    go_wp2_with (refine wpl_appendLs rfl (.tmp 20) (.tmp 22) rfl w.heap.size w3.heap.size w2.heap.size rfl HG4.out HB2.out.size HLT3.out v4 l rfl HF4.out (by rw [← HN1.out]; omega) HS4.out ?_; intro w5 g5 c5 hf5 hb5 hs5; rw [← HN1.out] at hf5 ⊢; have HF5 := hid hf5; have HB5 := hid (hb5 w HB4.out); clear hf5 hb5 hs5)
    go_ret
    exact ⟨g5, c5, rfl, HF5.out, HB5.out⟩
  · have q1 : Hid (sameL l firm = false) := hid (by simp [sameL, h1])
    have hu : under = true ∧ l = other := by rcases hc with h | h; exact absurd h h1; exact h
    obtain ⟨rfl, ho⟩ := hu
    have q2 : Hid (sameL l other = true) := hid (by rw [ho]; exact sameL_refl _)
    clear h1 hc ho
    go_enter Try.func100, Try.ntmps100
    go_wp2_with fail
    refine (sameLists_any lo fo ln fn lc fc l firm HN1.out HN2.out (by omega) (by omega) w H1.out H2.out).mono ?_
    rintro e w1 ⟨rfl, hb1⟩
    rw [q1.out]
    have HB1 := hid hb1
    clear hb1
    go_wp2_with fail
    refine (sameLists_any lo oo ln on lc oc l other HN1.out HN3.out (by omega) (by omega) w1 (H1.out.below HB1.out) (H3.out.below HB1.out)).mono ?_
    rintro e w2 ⟨rfl, hb2⟩
    rw [q2.out]
    have HB2 := hid (HB1.out.trans (hb2.mono HB1.out.size))
    clear hb2
    go_wp2_with (refine wpl_layNo rfl rfl ?_; intro w3 hb3 hg3; have HB3 := hid (HB2.out.trans (hb3.mono HB2.out.size)); have HG3 := hid hg3; have HLT3 : Hid (w2.heap.size < w3.heap.size) := hid hg3.lt; clear hb3 hg3)
    refine (copyLists_any lo ln lc l HN1.out (by omega) HL2.out w3 (tail.out w3 HB3.out)).mono ?_
    rintro e w4 ⟨v4, rfl, hf4, hb4⟩
    have HF4 := hid hf4; have HB4 := hid (HB3.out.trans (hb4.mono HB3.out.size)); have HG4 := hid (HG3.out.below hb4 HG3.out.lt)
    have HS4 : Hid (w3.heap.size ≤ w4.heap.size) := hid hb4.size
    clear hf4 hb4
    go_wp2_with (refine wpl_appendLs rfl (.tmp 20) (.tmp 22) rfl w.heap.size w3.heap.size w2.heap.size rfl HG4.out HB2.out.size HLT3.out v4 l rfl HF4.out (by rw [← HN1.out]; omega) HS4.out ?_; intro w5 g5 c5 hf5 hb5 hs5; rw [← HN1.out] at hf5 ⊢; have HF5 := hid hf5; have HB5 := hid (hb5 w HB4.out); clear hf5 hb5 hs5)
    go_ret
    exact ⟨g5, c5, rfl, HF5.out, HB5.out⟩
/-- the slice that is an act's first record -/
def FirstAt (w : World) (a : Act7) (ro : Option Addr) (rc : Nat) : Prop := (a.L = [] ∧ ro = none ∧ rc = 0) ∨ ∃ b o, a.lo = some ⟨b, o, none⟩ ∧ a.L ≠ [] ∧ w.cell? ⟨b, o, none⟩ = some (.slice ro (firstR a).length rc)
theorem FirstAt.below {w w' : World} {a : Act7} {ro : Option Addr} {rc : Nat} (h : FirstAt w a ro rc) (hb : Below w.heap.size w w') : FirstAt w' a ro rc := by
  rcases h with h | ⟨b, o, h1, h2, h3⟩
  · exact .inl h
  · exact .inr ⟨b, o, h1, h2, (hb.cell (World.block_lt_of_cell? _ _ h3)).trans h3⟩
theorem Act7.fits.first {w : World} {a : Act7} (h : a.fits w) : ∃ ro rc, FirstAt w a ro rc ∧ (firstR a).length ≤ rc ∧ SB w ro rc (firstR a) ∧ (firstR a ≠ [] → ∀ x, ro = some x → x.block < w.heap.size) := by
  obtain ⟨kind, n, lo, lc, L, ko, kc, keep⟩ := a
  have hlr := h.lr
  simp only at hlr
  rcases L with _ | ⟨r, L⟩
  · exact ⟨none, 0, .inl ⟨rfl, rfl, rfl⟩, Nat.le_refl _, SB.nil _, fun h => absurd rfl h⟩
  · rcases hlr with h0 | ⟨b, o, rfl, h0⟩
    · cases h0
    · obtain ⟨ro, rc, cr, hrc, hs⟩ := h0 0 r rfl
      exact ⟨ro, rc, .inr ⟨b, o, rfl, by simp, cr⟩, hrc, hs, fun hne x hx => sb_lt hs hne x hx⟩
set_option maxRecDepth 100000 in
theorem first7_at (a : Act7) (ro : Option Addr) (rc : Nat) (w : World) (h : FirstAt w a ro rc) :
    Calls Try.prog 99 #[.agg a.cells.toArray] w fun e w' => e = .returned (.slice ro (firstR a).length rc) ∧ Below w.heap.size w w' := by
  obtain ⟨kind, n, lo, lc, L, ko, kc, keep⟩ := a
  unfold Act7.cells
  simp only
  obtain ⟨m, hm⟩ : ∃ m, L.length = m := ⟨_, rfl⟩
  rw [hm]
  obtain ⟨w1, hw1⟩ : ∃ w1, w.alloc (.cells #[.int .i64 kind, .int .i64 n, .slice lo m lc, .slice ko keep.length kc] 120) = w1 := ⟨_, rfl⟩
  have HBX : Hid (Blk w1 w.heap.size 120 [.int .i64 kind, .int .i64 n, .slice lo m lc, .slice ko keep.length kc]) := hid (by rw [← hw1]; exact alloc_new w _)
  have HB1 : Hid (Below w.heap.size w w1) := hid (by rw [← hw1]; exact fresh_alloc w _)
  have HW1 := hid hw1
  have c2 := HBX.out.cell (j := 2) rfl
  clear hw1
  rcases h with ⟨h0, rfl, rfl⟩ | ⟨b, o, h1, h2, h3⟩
  · simp only at h0
    subst h0
    obtain rfl : m = 0 := hm.symm
    clear hm
    go_enter Try.func99, Try.ntmps99
    go_upto_region 1 with fail
    rw [HW1.out]
    go_wp2
    go_ret
    exact ⟨rfl, HB1.out⟩
  · simp only at h1 h2
    subst h1
    obtain ⟨q, hq⟩ : ∃ q, (firstR ⟨kind, n, some ⟨b, o, none⟩, lc, L, ko, kc, keep⟩).length = q := ⟨_, rfl⟩
    rw [hq] at h3 ⊢
    have cr1 := (HB1.out.cell (World.block_lt_of_cell? _ _ h3)).trans h3
    have hpos : 0 < m := by rw [← hm]; exact List.length_pos_iff.2 h2
    have qz : ((m : Int) == 0) = false := by rw [beq_eq_false_iff_ne]; omega
    clear h3 h2 hq hm
    go_enter Try.func99, Try.ntmps99
    go_upto_region 1 with fail
    rw [HW1.out]
    go_wp2
    go_ret
    exact ⟨rfl, HB1.out⟩
end Go.Proofs.Ytlondopgibcikaa
