/- Law 7: VaultScript. What came in, opened: bytes, bools, acts. What came in, opened: lists of bytes. What came in, opened: acts of layer 7. -/
import Derived.Test.YtlondopgibcikaaGreatRows
import Derived.Test.YtlondopgibcikaaGreatG01
import Derived.Test.YtlondopgibcikaaGreatG02
import Derived.Test.YtlondopgibcikaaGreatG06
import Derived.Test.YtlondopgibcikaaGreatG07
import Derived.Test.YtlondopgibcikaaGreatG08
import Derived.Test.YtlondopgibcikaaGreatG09
import Derived.Test.YtlondopgibcikaaGreatG10
import Derived.Test.YtlondopgibcikaaGreatG13
import Derived.Test.YtlondopgibcikaaGreatG16
import Derived.Test.YtlondopgibcikaaGreatG17
import Derived.Test.YtlondopgibcikaaGreatG18
import Derived.Test.YtlondopgibcikaaGreatG19
import Derived.Test.YtlondopgibcikaaGreatG21
import Derived.Test.YtlondopgibcikaaGreatG23
import Derived.Test.YtlondopgibcikaaGreatG24
import Derived.Test.YtlondopgibcikaaGreatG25
import Derived.Test.YtlondopgibcikaaGreatG26
import Derived.Test.YtlondopgibcikaaGreatG27
import Derived.Test.YtlondopgibcikaaGreatG28
import Derived.Test.YtlondopgibcikaaGreatG29
import Derived.Test.YtlondopgibcikaaGreatG30
import Derived.Test.YtlondopgibcikaaGreatG31
import Derived.Test.YtlondopgibcikaaGreatG32
import Derived.Test.YtlondopgibcikaaGreatG33
import Derived.Test.YtlondopgibcikaaGreatG34
import Derived.Test.YtlondopgibcikaaGreatG35
import Derived.Test.YtlondopgibcikaaGreatG36
import Derived.Test.YtlondopgibcikaaGreatG37
import Derived.Test.YtlondopgibcikaaGreatG38
import Derived.Test.YtlondopgibcikaaGreatG39
import Derived.Test.YtlondopgibcikaaGreatG40
import Derived.Test.YtlondopgibcikaaGreatG41
import Derived.WalkMore
import Derived.WalkKit
import Derived.WalkSpells
import Derived.WalkLawsBesides
import Derived.Deep.RegionHeld3
import Derived.Deep.QuietTactic
import Derived.BigQuiet
import Derived.OpenShut
import Derived.Below
import Derived.Deep.Grids
namespace Go.Proofs.YtlondopgibcikaaGreat
open Go.RowKit Ent
/-- the act of a format -/
def act5_ : Act7 := ⟨5, 0, none, 0, [], none, 0, []⟩
theorem act5_fits (w : World) : act5_.fits w := ⟨by decide, by decide, .inl rfl, by decide, .inl rfl, by decide⟩
set_option maxRecDepth 100000 in
set_option maxHeartbeats 4000000 in
theorem vaultScript_walk (x : Int) (hx : -9223372036854775808 ≤ x ∧ x ≤ 9223372036854775807) (ao : Option Addr) (len cap : Nat) (l : List Act7) (hlen : len = l.length) (hm : len ≤ 9223372036854775807) (w : World) (hl : AL7 w ao l) :
    Calls Tryz.prog 3 #[.int .i64 x, .slice ao len cap] w fun e w' => e = .returned (.bool true) ∧ Below w.heap.size w w' := by
  have HL := hid hl; have HLEN := hid hlen
  obtain ⟨p, hp, ep⟩ : ∃ p : Nat, p < 40 ∧ x % 40 = (p : Int) := pick_nat x 40 (by omega)
  have EP := hid ep
  clear hl hlen ep
  go_enter Tryz.func3, Tryz.ntmps3
  go_wp2_with fail
  refine (long7_any ao len cap l HLEN.out hm w HL.out).mono ?_
  rintro e w' ⟨rfl, hw'⟩
  subst w'
  rcases hlong : long7 l with _ | _
  rotate_left
  · clear hlong
    go_wp2_with fail
    refine (awake7_any w).mono ?_
    rintro e w1 ⟨rfl, hb⟩
    have HB := hid hb
    clear hb
    go_wp2
    go_ret
    exact ⟨rfl, HB.out⟩
  have hno := hid (long7_no hlong)
  clear hlong
  have hlen20 : len ≤ 20 := by rw [HLEN.out]; exact hno.out.1
  go_wp2_with fail
  refine (pick_any x 40 (by omega) (by omega) hx.1 hx.2 w).mono ?_
  rintro e w' ⟨rfl, hw'⟩
  subst w'
  rw [EP.out]
  obtain ⟨N, hN⟩ : ∃ N, 1 + p = N := ⟨_, rfl⟩
  have qN : IntKind.i64.wrap (1 + (p : Int)) = (N : Int) := by rw [IntWalk.i64_in _ (by omega)]; omega
  have hN1 : 1 ≤ N := by omega
  have hN40 : N ≤ 40 := by omega
  clear hN
  go_wp2_with fail
  refine ((St.start w).dev_new N (by omega) (by omega)).mono ?_
  rintro e w2 ⟨a, rfl, h2⟩
  have H2 : Hid (St w.heap.size w w2 [dev a (Dev.new N)]) := hid h2
  clear h2
  unfold ptr
  go_wp2_with fail
  refine (H2.out.rdev_new N (by omega) (by omega)).mono ?_
  rintro e w3 ⟨c, rfl, h3⟩
  have H3 : Hid (St w.heap.size w w3 [dev a (Dev.new N), rdev c (Dev.new N)]) := hid h3
  clear h3
  unfold ptr
  obtain ⟨pp, hpp⟩ : ∃ pp, w3.heap.size = pp := ⟨_, rfl⟩
  obtain ⟨wp, hwp⟩ : ∃ wp, w3.alloc (.cells #[ptr a, .pointer none, ptr c, .pointer none] 37) = wp := ⟨_, rfl⟩
  have hs : St w.heap.size w wp (pairL a c pp (Dev.new N) (.pointer none) (.pointer none)) := by rw [← hwp, ← hpp]; exact H3.out.box _ _
  have HWP := hid hwp; have HPP := hid hpp
  have hrm := room_new (N := N)
  have HACT : Hid (Calls Tryz.prog 10 #[ptr pp, .agg #[.int .i64 5, .int .i64 0, .slice none 0 0, .slice none 0 0]] wp fun e w' => e = .returned (.bool true) ∧ Scn w.heap.size w w' a c pp (act7 (Dev.new N) none act5_).1 (act7 (Dev.new N) none act5_).2 ∧ (act5_.kind = 3 → ((Dev.new N).crash act5_.keep act5_.n).2.ok) ∧ (act5_.kind = 5 → (formatD (Dev.new N)).2.ok)) := hid (acted7_any (o := none) hs act5_ (act5_fits w) (by decide) (by decide) (by decide) (by rw [hrm.n]; omega) (Nat.le_trans (hrm.low (by omega)) (by omega)) (fun s hs => by cases hs))
  have HOK0 := hid (hs.ok 0 rfl)
  clear hpp hwp hs hrm
  unfold ptr at HWP HACT
  go_upto_region 9 with fail
  rw [HPP.out, HWP.out]
  go_wp2_with fail
  refine HACT.out.mono ?_
  rintro e w5 ⟨rfl, h5, hk3, hk5⟩
  have hr5 := room_act7 room_new (by omega : N ≤ 60) HOK0.out act5_ (by decide) (by decide) hk3 hk5
  generalize act7 (Dev.new N) none act5_ = x5 at h5 hr5
  obtain ⟨d5, o5⟩ := x5
  have H5 := hid h5; have HR5 := hid hr5
  clear h5 hr5 hk3 hk5
  go_wp2_with fail
  refine (stands_any H5.out (by rw [HR5.out.n]; omega) (HR5.out.fit (by omega) (by omega))).mono ?_
  rintro e w6 ⟨rfl, h6⟩
  have H6 := hid h6
  clear h6
  go_wp2_with fail
  go_loopw [10] (fun i wr => ∃ (k : Nat) (d : Dev) (o : Option VS), k ≤ len ∧ i = .int .i64 k ∧ Scn w.heap.size w wr a c pp d o ∧ Room7 N (2 * k + 2) d o) (fun i _ => len - (intOf i).toNat)
  case atStart => exact ⟨0, d5, o5, Nat.zero_le _, rfl, H6.out, HR5.out⟩
  case round =>
    obtain ⟨k, d, o, hk, rfl, hst, hrm⟩ := hrel
    have HS := hid hst; have HRM := hid hrm
    clear hst hrm
    by_cases hlt : k < len
    · obtain ⟨A, hA⟩ : ∃ A, l[k]? = some A := ⟨_, List.getElem?_eq_getElem (by rw [← HLEN.out]; exact hlt)⟩
      obtain ⟨lb, lo_, rfl, hft, hcells⟩ := HL.out.at hA
      obtain ⟨⟨hA8, hA200⟩, hA60⟩ := hno.out.2 A (List.mem_of_getElem? hA)
      have key : ∀ (j : Nat) (u : Value), A.cells[j]? = some u → wr.cell? ⟨lb, lo_ + k * 4 + j, none⟩ = some u := fun j u hu => (HS.out.grew.cell (World.block_lt_of_cell? _ _ (hcells j u hu))).trans (hcells j u hu)
      have cl0 := key 0 _ rfl
      have cl1 := key 1 _ rfl
      have cl2 := key 2 _ rfl
      have cl3 := key 3 _ rfl
      rw [Nat.add_zero] at cl0
      have HOK := hid HS.out.ok
      have hact := acted7_any HS.out A hft hA8 hA200 hA60 (by rw [HRM.out.n]; omega) (Nat.le_trans (HRM.out.low (by omega)) (by omega)) (HRM.out.fit (by omega) (by omega))
      have HRA : Hid ((A.kind = 3 → (d.crash A.keep A.n).2.ok) → (A.kind = 5 → (formatD d).2.ok) → Room7 N (2 * k + 2 + 2) (act7 d o A).1 (act7 d o A).2) := hid (room_act7 HRM.out (by omega) HOK.out A hA8 hA200)
      have HACT := hid hact
      clear hact hA hft hcells key hA8 hA200 hA60
      unfold Act7.cells ptr at HACT
      obtain ⟨m2, hm2⟩ : ∃ m2, A.L.length = m2 := ⟨_, rfl⟩
      obtain ⟨m3, hm3⟩ : ∃ m3, A.keep.length = m3 := ⟨_, rfl⟩
      rw [hm2] at cl2 HACT
      rw [hm3] at cl3 HACT
      clear hm2 hm3
      go_wp2_with fail
      refine HACT.out.mono ?_
      rintro e w7 ⟨rfl, h7, hk3, hk5⟩
      have hr7 := HRA.out hk3 hk5
      generalize act7 d o A = x7 at h7 hr7
      obtain ⟨d7, o7⟩ := x7
      have H7 := hid h7; have HR7 := hid hr7
      clear h7 hr7 hk3 hk5
      go_wp2_with fail
      refine (stands_any H7.out (by rw [HR7.out.n]; omega) (HR7.out.fit (by omega) (by omega))).mono ?_
      rintro e w8 ⟨rfl, h8⟩
      have H8 := hid h8
      clear h8
      go_wp2
      go_roundw
      case rel => exact ⟨k + 1, d7, o7, by omega, by go_num, H8.out, HR7.out⟩
      case measure => simp [intOf]; omega
    · go_wp2_with fail
      refine (awake7_any wr).mono ?_
      rintro e w7 ⟨rfl, hb⟩
      have HB := hid hb
      clear hb
      go_wp2
      go_ret
      exact ⟨rfl, HS.out.grew.trans (HB.out.mono HS.out.bl)⟩
end Go.Proofs.YtlondopgibcikaaGreat
namespace Go.Proofs.YtlondopgibcikaaGreat
open Go.RowKit Go.ChangeShapes Go.WideShapes Ent
section
variable {H : Type} {enc : TypeId × Value → H} {w : World} {base : Nat} {held : Bool} {fuel : Nat} {cs : List Value} {x : DataW H × List MemPlace}
theorem open_bl (h : DataW.trod enc Tryz.prog w base (fun _ => true) held fuel 40 cs = some x) :
    ∃ (ko : Option Addr) (kc : Nat) (l : List Bool), cs = [.slice ko l.length kc] ∧ l.length ≤ 9223372036854775807 ∧ BL w ko l := by
  rcases Go.Deep.open_bools Tryz.underlying40 Tryz.underlying4 (by kernel_rfl) h with ⟨hcs, _⟩ | ⟨ad, len, cap, B, hcs, _, hl, hm, _, hcell⟩
  · exact ⟨none, 0, [], hcs, by simp, .inl rfl⟩
  · refine ⟨some ad, cap, (List.range len).map B, by simpa using hcs, by unfold maxLen at hm; simp; omega, ?_⟩
    by_cases h0 : len = 0
    · subst h0; exact .inl rfl
    · obtain ⟨b, o, sp⟩ := ad
      have hc0 := hcell 0 (by omega)
      have hsp : sp = none := by simpa [Addr.add] using World.cell?_spot hc0
      subst hsp
      refine .inr ⟨b, o, rfl, fun j v hv => ?_⟩
      rw [bbv_get] at hv
      by_cases hj : j < len
      · have := hcell j (by omega)
        rw [Addr.add_mid] at this
        rw [this]; simpa [hj] using hv
      · rw [List.getElem?_eq_none (by simp; omega)] at hv; simp at hv
theorem open_sb (h : DataW.trod enc Tryz.prog w base (fun _ => true) held fuel 44 cs = some x) :
    ∃ (ao : Option Addr) (c : Nat) (l : List UInt8), cs = [.slice ao l.length c] ∧ l.length ≤ c ∧ l.length ≤ 9223372036854775807 ∧ SB w ao c l := by
  rcases open_ints Tryz.underlying44 Tryz.underlying5 (by kernel_rfl) h with ⟨hcs, _⟩ | ⟨ad, len, cap, zs, hcs, _, hl, hm, hz, _, hcell, hwz⟩
  · exact ⟨none, 0, [], hcs, by simp, by simp, SB.nil w⟩
  · obtain ⟨l, h1, h2, h3, h4, _⟩ := row_SB (w := w) (a := some ad) (len := len) (cap := cap) (zs := zs) (.inr ⟨ad, rfl, hl, hm, by simpa using hz, hcell, hwz⟩)
    exact ⟨some ad, cap, l, by rw [← h1]; exact hcs, by omega, by omega, h4⟩
theorem int_wf {n : Int} (h : (Lit.int .i64 n).wf = true) : -9223372036854775808 ≤ n ∧ n ≤ 9223372036854775807 := by
  have h1 : IntKind.i64.min ≤ n ∧ n ≤ IntKind.i64.max := by simpa [Lit.wf] using h
  exact h1
theorem cI : Tryz.prog.cellsOf 3 = 1 := by kernel_rfl
theorem cU : Tryz.prog.cellsOf 5 = 1 := by kernel_rfl
theorem cB : Tryz.prog.cellsOf 40 = 1 := by kernel_rfl
instance : Inhabited Act5 := ⟨⟨0, 0, 0, none, 0, []⟩⟩
end
end Go.Proofs.YtlondopgibcikaaGreat
namespace Go.Proofs.YtlondopgibcikaaGreat
open Go.RowKit Go.ChangeShapes Go.WideShapes Ent
def IsLists (w : World) (ao : Option Addr) (n : Nat) : Prop := n ≤ 9223372036854775807 ∧ ∃ L : List (List UInt8), n = L.length ∧ LR w ao L ∧ ∀ l ∈ L, l.length ≤ 9223372036854775807
section
variable {H : Type} {enc : TypeId × Value → H} {w : World} {base : Nat} {held : Bool} {fuel : Nat} {x : DataW H × List MemPlace}
set_option maxRecDepth 100000 in
theorem openIsLists {a : Option Addr} {len cap : Nat} (h : DataW.trod enc Tryz.prog w base (fun _ => true) held fuel 39 (Value.slice a len cap).cells.toList = some x) : IsLists w a len := by
  rcases Go.Deep.open_slice Tryz.underlying39 h with ⟨hcs, _⟩ | ⟨ad, len', cap', m, n, D, Pl, hcs, _, hl, hm, hmm, _, hx⟩
  · simp [Value.cells] at hcs
    obtain ⟨rfl, rfl, rfl⟩ := hcs
    exact ⟨by omega, [], rfl, .inl rfl, by simp⟩
  · simp [Value.cells] at hcs
    obtain ⟨rfl, rfl, rfl⟩ := hcs
    simp only [if_true] at hmm
    subst hmm
    have hlen : len ≤ 9223372036854775807 := by unfold maxLen at hm; omega
    have each : ∀ i, i < len → ∃ q : Option Addr × Nat × List UInt8, w.cell? (ad.add i) = some (.slice q.1 q.2.2.length q.2.1) ∧ q.2.2.length ≤ q.2.1 ∧ q.2.2.length ≤ 9223372036854775807 ∧ SB w q.1 q.2.1 q.2.2 := by
      intro i hi
      obtain ⟨cs', h1, h2⟩ := hx i (by omega)
      rw [show Tryz.prog.cellsOf 44 = 1 by kernel_rfl] at h1
      obtain ⟨_, hl1, hcell⟩ := World.cells?_some h1
      obtain ⟨ko, c, l, e, h3, h4, h5⟩ := open_sb h2
      refine ⟨(ko, c, l), ?_, h3, h4, h5⟩
      have hc := hcell 0 (by omega)
      rw [Go.Deep.add_add, Nat.add_zero, Nat.mul_one] at hc
      rw [hc, e]; rfl
    obtain ⟨q, hq⟩ := Go.Deep.choose_lt each
    refine ⟨hlen, (List.range len).map fun i => (q i).2.2, by simp, ?_, ?_⟩
    · by_cases h0 : len = 0
      · subst h0; exact .inl rfl
      · obtain ⟨b, o, sp⟩ := ad
        have hc0 := (hq 0 (by omega)).1
        have hsp : sp = none := by simpa [Addr.add] using World.cell?_spot hc0
        subst hsp
        refine .inr ⟨b, o, rfl, fun i l hl => ?_⟩
        have hi : i < len := by have := (List.getElem?_eq_some_iff.1 hl).1; simpa using this
        have : l = (q i).2.2 := by simpa [hi] using hl.symm
        subst this
        obtain ⟨h1, h2, _, h4⟩ := hq i hi
        rw [Addr.add_mid] at h1
        exact ⟨_, _, h1, h2, h4⟩
    · intro l hl
      simp only [List.mem_map, List.mem_range] at hl
      obtain ⟨i, hi, rfl⟩ := hl
      exact (hq i hi).2.2.1
end
end Go.Proofs.YtlondopgibcikaaGreat
namespace Go.Proofs.YtlondopgibcikaaGreat
open Go.RowKit Go.ChangeShapes Go.WideShapes Ent
theorem cL : Tryz.prog.cellsOf 39 = 1 := by kernel_rfl
instance : Inhabited Act7 := ⟨⟨0, 0, none, 0, [], none, 0, []⟩⟩
def IsActs7 (w : World) (ao : Option Addr) (n : Nat) : Prop := n ≤ 9223372036854775807 ∧ ∃ l : List Act7, n = l.length ∧ AL7 w ao l
section
variable {H : Type} {enc : TypeId × Value → H} {w : World} {base : Nat} {held : Bool} {fuel : Nat} {x : DataW H × List MemPlace} {cs : List Value}
theorem open_ll (h : DataW.trod enc Tryz.prog w base (fun _ => true) held fuel 39 cs = some x) :
    ∃ (ao : Option Addr) (c : Nat) (L : List (List UInt8)), cs = [.slice ao L.length c] ∧ L.length ≤ 9223372036854775807 ∧ LR w ao L := by
  rcases Go.Deep.open_slice Tryz.underlying39 h with ⟨hcs, _⟩ | ⟨ad, len, cap, m, n, D, Pl, hcs, _, hl, hm, hmm, _, hx⟩
  · exact ⟨none, 0, [], hcs, by simp, .inl rfl⟩
  · have h2 : DataW.trod enc Tryz.prog w base (fun _ => true) held fuel 39 (Value.slice (some ad) len cap).cells.toList = some x := by rw [hcs] at h; exact h
    obtain ⟨h3, L, h4, h5, _⟩ := openIsLists h2
    exact ⟨some ad, cap, L, by rw [hcs, h4], by omega, h5⟩
set_option maxRecDepth 100000 in
theorem openIsActs7 {a : Option Addr} {len cap : Nat} (h : DataW.trod enc Tryz.prog w base (fun _ => true) held fuel 22 (Value.slice a len cap).cells.toList = some x) : IsActs7 w a len := by
  rcases Go.Deep.open_slice Tryz.underlying22 h with ⟨hcs, _⟩ | ⟨ad, len', cap', m, n, D, Pl, hcs, _, hl, hm, hmm, _, hx⟩
  · simp [Value.cells] at hcs
    obtain ⟨rfl, rfl, rfl⟩ := hcs
    exact ⟨by omega, [], rfl, .inl rfl⟩
  · simp [Value.cells] at hcs
    obtain ⟨rfl, rfl, rfl⟩ := hcs
    simp only [if_true] at hmm
    subst hmm
    have hlen : len ≤ 9223372036854775807 := by unfold maxLen at hm; omega
    have each : ∀ i, i < len → ∃ q : Act7, q.fits w ∧ ∀ j v, q.cells[j]? = some v → w.cell? (ad.add (i * 4 + j)) = some v := by
      intro i hi
      obtain ⟨cs', h1, h2⟩ := hx i (by omega)
      rw [show Tryz.prog.cellsOf 42 = 4 by kernel_rfl] at h1
      obtain ⟨_, hl4, hcell⟩ := World.cells?_some h1
      obtain ⟨xs, k, hk, hxy, _, hxl, hf⟩ := DataW.trod_struct Tryz.underlying42 h2
      match xs, hxl, cs', hl4 with
      | [y0, y1, y2, y3], _, [v0, v1, v2, v3], _ =>
        have g0 : DataW.trod enc Tryz.prog w base (fun _ => true) held k 3 [v0] = some y0 := by have := hf 0 _ rfl; simpa [cI, cU, cB, cL] using this
        have g1 : DataW.trod enc Tryz.prog w base (fun _ => true) held k 3 [v1] = some y1 := by have := hf 1 _ rfl; simpa [cI, cU, cB, cL] using this
        have g2 : DataW.trod enc Tryz.prog w base (fun _ => true) held k 39 [v2] = some y2 := by have := hf 2 _ rfl; simpa [cI, cU, cB, cL] using this
        have g3 : DataW.trod enc Tryz.prog w base (fun _ => true) held k 40 [v3] = some y3 := by have := hf 3 _ rfl; simpa [cI, cU, cB, cL] using this
        obtain ⟨n0, e0, _, w0⟩ := DataW.trod_int Tryz.underlying3 g0
        obtain ⟨n1, e1, _, w1⟩ := DataW.trod_int Tryz.underlying3 g1
        obtain ⟨lo, lc, L, e2, hll, hlr⟩ := open_ll g2
        obtain ⟨ko, kc, kl, e3, hkl, hbl⟩ := open_bl g3
        simp at e0 e1 e2 e3
        subst e0; subst e1; subst e2; subst e3
        refine ⟨⟨n0, n1, lo, lc, L, ko, kc, kl⟩, ⟨int_wf w0, int_wf w1, hlr, hll, hbl, hkl⟩, fun j v hj => ?_⟩
        have hj4 : j < 4 := by have := (List.getElem?_eq_some_iff.1 hj).1; simpa [Act7.cells] using this
        have hc := hcell j hj4
        rw [Go.Deep.add_add] at hc
        rw [hc]; exact hj
    obtain ⟨q, hq⟩ := Go.Deep.choose_lt each
    refine ⟨hlen, (List.range len).map q, by simp, ?_⟩
    by_cases h0 : len = 0
    · subst h0; exact .inl rfl
    · obtain ⟨b, o, sp⟩ := ad
      have hc0 := (hq 0 (by omega)).2 0 _ rfl
      have hsp : sp = none := by simpa [Addr.add] using World.cell?_spot hc0
      subst hsp
      refine .inr ⟨b, o, rfl, fun i act ha => ?_⟩
      have hi : i < len := by have := (List.getElem?_eq_some_iff.1 ha).1; simpa using this
      have : act = q i := by simpa [hi] using ha.symm
      subst this
      refine ⟨(hq i hi).1, fun j v hv => ?_⟩
      have := (hq i hi).2 j v hv
      rw [Addr.add_mid] at this
      rw [Nat.add_assoc]; exact this
end
end Go.Proofs.YtlondopgibcikaaGreat
