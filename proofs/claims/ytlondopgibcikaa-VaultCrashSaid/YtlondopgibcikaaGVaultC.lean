/- A vault in memory: none, ready, told, Gen. The vault's fits, Free, Records. (Printed by wip/vltk.py.) The vault's Records. (Printed by wip/vltk.py.) A vault as one asset; what its moves calls. (Printed by wip/vltl.py.) The vault's moves. (Printed by wip/vltm.py.) The vault's Replace. (Printed by wip/vltn.py.) -/
import Derived.Test.YtlondopgibcikaaRows
import Derived.Test.YtlondopgibcikaaGBase
import Derived.Test.YtlondopgibcikaaGDevice
import Derived.Test.YtlondopgibcikaaGRefDev
import Derived.Test.YtlondopgibcikaaGLogA
import Derived.Test.YtlondopgibcikaaGLogC
import Derived.Test.YtlondopgibcikaaGRefLog
import Derived.Test.YtlondopgibcikaaGVaultA
import Derived.WalkKit
import Derived.WalkSpells
import Derived.WalkLawsBesides
import Derived.Deep.RegionHeld3
import Derived.Deep.QuietTactic
import Derived.BigQuiet
namespace Go.Proofs.Ytlondopgibcikaa
open Go.RowKit Ent
/-- a vault's cells -/
def vCells (a gen : Nat) (next : Int) (vl : Value) (br : Bool) : List Value := [ptr a, .int .i64 gen, .int .i64 next, vl, .bool br]
/-- records of its own -/
def listA (v : Value) (L : List (List UInt8)) : Asset := fun w F => ∃ vs Fb, w.ownsRow 0 22 1 v L.length vs ∧ RowSW w Fb vs L ∧ (∀ k, Fb k → F k) ∧ ∀ k, v.ownBlock = some k → F k ∧ ¬ Fb k
theorem good_listA (v : Value) (L : List (List UInt8)) : Good (listA v L) := ⟨fun ⟨vs, Fb, ho, hr, hf, hv⟩ hk hG => ⟨vs, Fb, owns_keep ho hk (fun k hk' => hG _ (hv k hk').1), hr.keep hk (fun k hk' => hG _ (hf k hk')), hf, hv⟩⟩
theorem FreshL.listA {B : Nat} {w : World} {v : Value} {L : List (List UInt8)} (h : FreshL B w v L) : Ytlondopgibcikaa.listA v L w (fun k => B ≤ k ∧ k < w.heap.size) := by
  obtain ⟨vs, Fb, h1, h2, h3, h4⟩ := h
  exact ⟨vs, Fb, owns_mono h1 (Nat.zero_le _), h2, h3, fun k hk => ⟨h1.lt k hk, h4 k hk⟩⟩
theorem St.addList {B : Nat} {w0 w w1 : World} {As : List Asset} (h : St B w0 w As) (hb : Below w.heap.size w w1) {v : Value} {L : List (List UInt8)} (hl : FreshL w.heap.size w1 v L) : St B w0 w1 (As ++ [listA v L]) :=
  h.add hb (good_listA _ _) hl.listA (fun _ hk => hk)
/-- lists of bytes that are read, in blocks of F -/
def LRF (w : World) (F : Nat → Prop) (lo : Option Addr) (L : List (List UInt8)) : Prop := L = [] ∨ ∃ b o, lo = some ⟨b, o, none⟩ ∧ F b ∧ ∀ (k : Nat) (l : List UInt8), L[k]? = some l → ∃ ro rc, w.cell? ⟨b, o + k, none⟩ = some (.slice ro l.length rc) ∧ l.length ≤ rc ∧ SB w ro rc l ∧ (l ≠ [] → ∀ x, ro = some x → F x.block)
theorem LRF.keep {w w' : World} {F G : Nat → Prop} {lo : Option Addr} {L : List (List UInt8)} (h : LRF w F lo L) (hk : Keep G w w') (hG : ∀ k, F k → ¬ G k) : LRF w' F lo L := by
  rcases h with h | ⟨b, o, h1, h2, h3⟩
  · exact .inl h
  · refine .inr ⟨b, o, h1, h2, fun k l hl => ?_⟩
    obtain ⟨ro, rc, c1, c2, c3, c4⟩ := h3 k l hl
    exact ⟨ro, rc, (hk.cell (World.block_lt_of_cell? w _ c1) (hG _ h2)).trans c1, c2, sb_keepE c3 hk (fun hne x hx => hG _ (c4 hne x hx)), c4⟩
theorem keepB {B : Nat} {w0 w : World} (h : Below B w0 w) : Keep (fun k => B ≤ k) w0 w := ⟨h.os, h.tape, h.output, h.size, fun k _ hn => h.block k (by omega)⟩
theorem LRF.lr {w : World} {F : Nat → Prop} {lo : Option Addr} {L : List (List UInt8)} (h : LRF w F lo L) : LR w lo L := by
  rcases h with h | ⟨b, o, h1, h2, h3⟩
  · exact .inl h
  · exact .inr ⟨b, o, h1, fun k l hl => by obtain ⟨ro, rc, c1, c2, c3, _⟩ := h3 k l hl; exact ⟨ro, rc, c1, c2, c3⟩⟩
def lstA (lo : Option Addr) (L : List (List UInt8)) : Asset := fun w F => LRF w F lo L
theorem good_lstA (lo : Option Addr) (L : List (List UInt8)) : Good (lstA lo L) := ⟨fun h hk hG => LRF.keep h hk hG⟩
theorem lrf_of_row {w : World} {F : Nat → Prop} {v : Value} {L : List (List UInt8)} {vs : List Value} {Fb : Nat → Prop} (ho : w.ownsRow 0 22 1 v L.length vs) (hr : RowSW w Fb vs L) (hf : ∀ k, Fb k → F k) (hv : ∀ k, v.ownBlock = some k → F k) : ∃ lo c, v = .slice lo L.length c ∧ LRF w F lo L := by
  rcases ho.2 with ⟨h1, h0⟩ | ⟨g, c, cur, hv', hg, hh, hc, hm, hs, ht⟩
  · exact ⟨none, 0, by rw [h0]; exact h1, .inl (List.eq_nil_of_length_eq_zero h0)⟩
  · refine ⟨_, c, hv', .inr ⟨g, 0, rfl, hv g (by rw [hv']; rfl), fun k l hl => ?_⟩⟩
    obtain ⟨u, hu, ro, rc, e1, e2, e3, _, e5⟩ := (show ∃ u, vs[k]? = some u ∧ SW w Fb u l from by
      obtain ⟨u, hu⟩ : ∃ u, vs[k]? = some u := ⟨_, List.getElem?_eq_getElem (by rw [hr.1]; exact (List.getElem?_eq_some_iff.1 hl).1)⟩
      exact ⟨u, hu, hr.2 k u l hu hl⟩)
    refine ⟨ro, rc, ?_, e2, e3, fun _ x hx => hf _ (e5 x hx)⟩
    rw [Nat.zero_add, cell_of_row w g k cur _ _ hh, ← e1]
    rw [← ht, List.getElem?_take] at hu
    split at hu
    · simpa using hu
    · cases hu
theorem listA_lst {w : World} {F : Nat → Prop} {v : Value} {L : List (List UInt8)} (h : listA v L w F) : ∃ lo c, v = .slice lo L.length c ∧ LRF w F lo L := by
  obtain ⟨vs, Fb, ho, hr, hf, hv⟩ := h
  exact lrf_of_row ho hr hf (fun k hk => (hv k hk).1)
/-- lists that are lent: old ones, or another asset's -/
def LentI (B : Nat) (w0 : World) (As : List Asset) (i : Nat) (lo : Option Addr) (L : List (List UInt8)) : Prop := LRF w0 (fun k => k < B) lo L ∨ ∃ (j : Nat) (A : Asset), i ≠ j ∧ As[j]? = some A ∧ ∀ w F, A w F → LRF w F lo L
section
variable {B : Nat} {w0 w w1 : World} {As X : List Asset} {a : Nat} {d : Dev} {lo : Option Addr} {L : List (List UInt8)}
theorem LentI.app {i : Nat} (h : LentI B w0 As i lo L) : LentI B w0 (As ++ X) i lo L := by
  rcases h with h | ⟨j, A, h1, h2, h3⟩
  · exact .inl h
  · exact .inr ⟨j, A, h1, get_pre h2, h3⟩
theorem LentI.set {i : Nat} (C : Asset) (h : LentI B w0 As i lo L) : LentI B w0 (As.set i C) i lo L := by
  rcases h with h | ⟨j, A, h1, h2, h3⟩
  · exact .inl h
  · exact .inr ⟨j, A, h1, by rw [List.getElem?_set_ne h1]; exact h2, h3⟩
theorem LentI.setPost {i : Nat} (k : Nat) (C : Asset) (h : LentI B w0 As i lo L) : LentI B w0 ((As ++ X).set (As.length + k) C) i lo L := by
  rcases h with h | ⟨j, A, h1, h2, h3⟩
  · exact .inl h
  · refine .inr ⟨j, A, h1, ?_, h3⟩
    have := (List.getElem?_eq_some_iff.1 h2).1
    rw [List.getElem?_set_ne (by omega)]; exact get_pre h2
theorem LentI.lrf {i : Nat} (h : LentI B w0 As i lo L) (hs : St B w0 w As) : ∃ F, LRF w F lo L := by
  rcases h with h | ⟨j, A, h1, h2, h3⟩
  · exact ⟨_, h.keep (keepB hs.be) (fun k hk hF => by omega)⟩
  · obtain ⟨F, hA, _⟩ := hs.open j h2
    exact ⟨F, h3 _ _ hA⟩
/-- one of them is written into the log -/
theorem St.log_writeL (h : St B w0 w As) (i : Nat) (hi : As[i]? = some (dev a d)) (hl : LentI B w0 As i lo L) (f t g at_ : Int) (k : Nat) (rec : List UInt8) (hk : L[k]? = some rec) (hrm : rec.length ≤ 9223372036854775807) (hlo : d.loose.length ≤ 1073000000) (ha1 : -9223372036854775808 ≤ at_ ∧ at_ ≤ 9223372036854775807) :
    ∃ b o ro rc, lo = some ⟨b, o, none⟩ ∧ w.cell? ⟨b, o + k, none⟩ = some (.slice ro rec.length rc) ∧ ∀ w1, Below w.heap.size w w1 →
    Calls Try.prog 64 #[ptr a, .agg #[.int .i64 f, .int .i64 t, .int .i64 g], .int .i64 at_, .slice ro rec.length rc] w1 fun e w' => e = .returned (.tuple #[.int .i64 (logWrite d f t g at_ rec).1.1, .int .i64 (logWrite d f t g at_ rec).1.2]) ∧ St B w0 w' (As.set i (dev a (logWrite d f t g at_ rec).2)) := by
  rcases hl with hl | ⟨j, A, hij, hj, hLA⟩
  · have hl2 := hl.keep (keepB h.be) (fun k hk hF => by omega)
    rcases hl2 with hl2 | ⟨b, o, h1, h2, h3⟩
    · rw [hl2] at hk; simp at hk
    · obtain ⟨ro, rc, c1, c2, c3, c4⟩ := h3 k rec hk
      refine ⟨b, o, ro, rc, h1, c1, fun w1 hb => ?_⟩
      exact h.log_write2 hb i hi f t g at_ ro rec.length rc rec rfl c2 hrm (c3.below hb) (fun hne x hx => .inl (c4 hne x hx)) hlo ha1
  · obtain ⟨F, hA, hF, ho, _⟩ := h.open i hi
    obtain ⟨G, hG, hGB, hFG⟩ := ho j _ hij hj
    rcases hLA _ _ hG with hl2 | ⟨b, o, h1, h2, h3⟩
    · rw [hl2] at hk; simp at hk
    · obtain ⟨ro, rc, c1, c2, c3, c4⟩ := h3 k rec hk
      refine ⟨b, o, ro, rc, h1, c1, fun w1 hb => ?_⟩
      obtain ⟨F', hA', hF', ho', hcl'⟩ := (h.below hb).open i hi
      obtain ⟨G', hG', hGB', hFG'⟩ := ho' j _ hij hj
      rcases hLA _ _ hG' with hl3 | ⟨b', o', h1', h2', h3'⟩
      · rw [hl3] at hk; simp at hk
      · obtain ⟨ro', rc', c1', c2', c3', c4'⟩ := h3' k rec hk
        have e1 : b = b' ∧ o = o' := by rw [h1] at h1'; injection h1' with e; injection e with e1 e2; exact ⟨e1, e2⟩
        obtain ⟨rfl, rfl⟩ := e1
        have e2 : w1.cell? ⟨b, o + k, none⟩ = some (.slice ro rec.length rc) := (hb.cell (World.block_lt_of_cell? w _ c1)).trans c1
        rw [e2] at c1'
        injection c1' with c1'
        injection c1' with e3 _ e4
        subst e3; subst e4
        refine (logWrite_any f t g at_ ro rec.length rc rec rfl c2 hrm w1 c3' (fun hne x hx hf => hFG' _ hf (c4' hne x hx)) hA' (fun k hk => (hF' k hk).2) hlo ha1).mono ?_
        rintro e w' ⟨he, hp, hk⟩
        exact ⟨he, hcl' w' _ _ hk (good_dev _ _) hp (fun _ h => h)⟩
end
set_option maxRecDepth 100000 in
theorem vnone_any (v a gen : Nat) (next : Int) (vl : Value) (br : Bool) (w : World) (h : Blk w v 105 (vCells a gen next vl br)) :
    Calls Try.prog 130 #[ptr v] w fun e w' => e = .returned (.bool false) ∧ w' = w := by
  have c0 := h.cell (j := 0) rfl
  unfold ptr at c0 ⊢
  go_enter Try.func130, Try.ntmps130
  go_wp2
  go_ret
  exact ⟨rfl, rfl⟩
set_option maxRecDepth 100000 in
theorem vready_any (v a gen : Nat) (next : Int) (vl : Value) (br : Bool) (w : World) (h : Blk w v 105 (vCells a gen next vl br)) :
    Calls Try.prog 121 #[ptr v] w fun e w' => e = .returned (.int .i64 (if br then 23 else 0)) ∧ w' = w := by
  have c4 := h.cell (j := 4) rfl
  have H := hid h
  clear h
  unfold ptr
  go_enter Try.func121, Try.ntmps121
  go_wp2_with fail
  refine (vnone_any v a gen next vl br w H.out).mono ?_
  rintro e w' ⟨rfl, hw'⟩
  subst w'
  cases br
  · go_wp2
    go_ret
    exact ⟨rfl, rfl⟩
  · go_wp2
    go_ret
    exact ⟨rfl, rfl⟩
set_option maxRecDepth 100000 in
theorem vgen_any (v a gen : Nat) (next : Int) (vl : Value) (br : Bool) (w : World) (h : Blk w v 105 (vCells a gen next vl br)) :
    Calls Try.prog 90 #[ptr v] w fun e w' => e = .returned (.int .i64 gen) ∧ w' = w := by
  have c1 := h.cell (j := 1) rfl
  have H := hid h
  clear h
  unfold ptr
  go_enter Try.func90, Try.ntmps90
  go_wp2_with fail
  refine (vnone_any v a gen next vl br w H.out).mono ?_
  rintro e w' ⟨rfl, hw'⟩
  subst w'
  go_wp2
  go_ret
  exact ⟨rfl, rfl⟩
set_option maxRecDepth 100000 in
theorem vtold_any (v a gen : Nat) (next c : Int) (vl : Value) (br : Bool) (w : World) (h : Blk w v 105 (vCells a gen next vl br)) :
    Calls Try.prog 124 #[ptr v, .int .i64 c] w fun e w' => e = .returned (.int .i64 c) ∧ Blk w' v 105 (vCells a gen next vl (br || decide (c ≠ 0))) ∧ Keep (fun k => k = v) w w' := by
  have c4 := h.cell (j := 4) rfl
  have f4 := h.free 4
  have H := hid h
  clear h
  unfold ptr
  cases br
  · by_cases hc : c = 0
    · subst hc
      have HS := hid (H.out.set 4 (.bool false))
      go_enter Try.func124, Try.ntmps124
      go_wp2
      go_ret
      exact ⟨rfl, HS.out, (Keep.refl (fun k => k = v) _).setCell (p := ⟨v, 4, none⟩) rfl _⟩
    · have hne : (c != 0) = true := by simpa using hc
      have HS := hid (H.out.set 4 (.bool true))
      have HC := hid hc
      clear hc
      go_enter Try.func124, Try.ntmps124
      go_wp2
      go_ret
      exact ⟨rfl, by rw [decide_eq_true HC.out]; exact HS.out, (Keep.refl (fun k => k = v) _).setCell (p := ⟨v, 4, none⟩) rfl _⟩
  · have HS := hid (H.out.set 4 (.bool true))
    go_enter Try.func124, Try.ntmps124
    go_wp2
    go_ret
    exact ⟨rfl, HS.out, (Keep.refl (fun k => k = v) _).setCell (p := ⟨v, 4, none⟩) rfl _⟩
end Go.Proofs.Ytlondopgibcikaa
namespace Go.Proofs.Ytlondopgibcikaa
open Go.RowKit Ent
/-- why records find no room -/
def longOne (L : List (List UInt8)) : Bool := L.any fun l => decide (1048576 < l.length)
def fitsOf (gen n : Nat) (L : List (List UInt8)) : Int := if gen = 2147483647 then 10 else if longOne L then 4 else if halfOf n < needsOf L then 10 else 0
theorem needOf_le1 (n : Nat) : needOf n ≤ n + 1 := by unfold needOf; split <;> omega
theorem needsOf_take {L : List (List UInt8)} {k : Nat} {l : List UInt8} (h : L[k]? = some l) : needsOf (L.take (k + 1)) = needsOf (L.take k) + needOf l.length := by
  rw [List.take_add_one, h, Option.toList_some, needsOf_snoc]
theorem long_mem {L : List (List UInt8)} {k : Nat} {l : List UInt8} (h : L[k]? = some l) (hl : 1048576 < l.length) : longOne L = true := by
  unfold longOne
  rw [List.any_eq_true]
  exact ⟨l, List.mem_of_getElem? h, by simpa using hl⟩
theorem long_not {L : List (List UInt8)} (h : ∀ (k : Nat) (l : List UInt8), L[k]? = some l → l.length ≤ 1048576) : longOne L = false := by
  unfold longOne
  rw [List.any_eq_false]
  intro l hl
  obtain ⟨k, hk⟩ := List.getElem?_of_mem hl
  have := h k l hk
  simp; omega
set_option maxRecDepth 100000 in
set_option maxHeartbeats 2000000 in
theorem vfits_any {B : Nat} {w0 w : World} {As : List Asset} {a : Nat} {d : Dev} (h : St B w0 w As) (i : Nat) (hi : As[i]? = some (dev a d)) (v gen : Nat) (next : Int) (vl : Value) (br : Bool) (hv : Blk w v 105 (vCells a gen next vl br)) (lo : Option Addr) (len c : Nat) (L : List (List UInt8)) (hL : LR w lo L) (hlen : len = L.length) (hl1 : len ≤ 1000) (hg : gen ≤ 2147483648) (hl2 : ∀ l ∈ L, l.length ≤ 1073741824) (hn2 : 2 ≤ d.img.length) :
    Calls Try.prog 128 #[ptr v, .slice lo len c] w fun e w' => e = .returned (.int .i64 (fitsOf gen d.img.length L)) ∧ Below w.heap.size w w' := by
  have c0 := hv.cell (j := 0) rfl
  have c1 := hv.cell (j := 1) rfl
  have hok := (h.ok i hi).len
  unfold ptr at c0
  obtain ⟨n, hnn⟩ : ∃ n, d.img.length = n := ⟨_, rfl⟩
  obtain ⟨fr, hfr⟩ : ∃ fr, fromOf n gen = fr := ⟨_, rfl⟩
  obtain ⟨hf, hhf⟩ : ∃ hf, halfOf n = hf := ⟨_, rfl⟩
  obtain ⟨tw, hto⟩ : ∃ tw, fr + hf = tw := ⟨_, rfl⟩
  have HN := hid hnn; have HFR := hid hfr; have HHF := hid hhf; have HTO := hid hto
  have hfb : hf ≤ 65536 := by rw [← hhf]; unfold halfOf; omega
  have hfrb : fr ≤ 131072 := by
    have := fromOf_le n gen (by omega)
    rw [hfr] at this; omega
  rw [hnn] at hok ⊢
  have H := hid h; have HI := hid hi; have HL := hid hL; have HLEN := hid hlen; have HL2 := hid hl2
  clear h hi hv hL hlen hl2 hnn hfr hhf
  unfold ptr
  by_cases hg0 : gen = 2147483647
  · subst hg0
    have hgb : (((2147483647 : Nat) : Int) == 2147483647) = true := rfl
    have HE : Hid (fitsOf 2147483647 n L = 10) := hid (by unfold fitsOf; rw [if_pos rfl])
    go_enter Try.func128, Try.ntmps128
    go_wp2
    go_ret
    exact ⟨by rw [HE.out]; rfl, Below.refl _ _⟩
  · have HG0 := hid hg0
    have hgb : ((gen : Int) == 2147483647) = false := by rw [beq_eq_false_iff_ne]; omega
    clear hg0
    go_enter Try.func128, Try.ntmps128
    go_wp2_with fail
    go_loopw [5, 16] (fun v5 i wr => ∃ (k nd : Nat), k ≤ len ∧ i = .int .i64 k ∧ v5 = .int .i64 nd ∧ nd = needsOf (L.take k) ∧ nd ≤ k * 1048577 ∧ (∀ (j : Nat) (l : List UInt8), j < k → L[j]? = some l → l.length ≤ 1048576) ∧ wr = w) (fun _ i _ => len - (intOf i).toNat)
    case atStart => exact ⟨0, 0, Nat.zero_le _, rfl, rfl, rfl, by omega, fun j l hj => absurd hj (by omega), rfl⟩
    case round =>
      obtain ⟨k, nd, hk, rfl, rfl, hnd, hndb, hsm, hwr⟩ := hrel
      subst wr
      have HND := hid hnd; have HSM := hid hsm
      clear hnd hsm
      by_cases hlt : k < len
      · obtain ⟨l, hll⟩ : ∃ l, L[k]? = some l := ⟨_, List.getElem?_eq_getElem (by rw [← HLEN.out]; exact hlt)⟩
        obtain ⟨b1, o1, lo1, cap1, rfl, cx, hcap, hs1⟩ := HL.out.at hll
        have hlb := HL2.out l (List.mem_of_getElem? hll)
        obtain ⟨u, hu⟩ : ∃ u, l.length = u := ⟨_, rfl⟩
        have HLL := hid hll
        rw [hu] at cx hlb
        have HU := hid hu
        clear hcap hs1 hll hu
        by_cases hbig : 1048576 < u
        · have qd : decide ((1048576 : Int) < (u : Int)) = true := decide_eq_true (by omega)
          have HE : Hid (fitsOf gen n L = 4) := hid (by unfold fitsOf; rw [if_neg HG0.out, long_mem HLL.out (by rw [HU.out]; exact hbig)]; rfl)
          go_wp2
          go_ret
          exact ⟨by rw [HE.out]; rfl, Below.refl _ _⟩
        · have qd : decide ((1048576 : Int) < (u : Int)) = false := decide_eq_false (by omega)
          have hnl := needOf_le1 u
          obtain ⟨m, hm⟩ : ∃ m, needOf u = m := ⟨_, rfl⟩
          have HM := hid hm
          rw [hm] at hnl
          clear hm
          obtain ⟨s, hs⟩ : ∃ s : Nat, nd + m = s := ⟨_, rfl⟩
          have qw : IntKind.i64.wrap ((nd : Int) + (m : Int)) = (s : Int) := by rw [IntWalk.i64_in _ (by omega)]; omega
          go_wp2_with fail
          refine (need_any u (by omega) w).mono ?_
          rintro e w' ⟨rfl, hw'⟩
          subst w'
          rw [HM.out]
          go_wp2_with fail
          go_roundw
          case rel => exact ⟨k + 1, s, by omega, by go_num, by trivial, by rw [needsOf_take HLL.out, ← HND.out, HU.out, HM.out, hs], by omega, fun j l' hj hjl => by
            by_cases hj2 : j < k
            · exact HSM.out j l' hj2 hjl
            · obtain rfl : j = k := by omega
              rw [HLL.out] at hjl; injection hjl with hjl; rw [← hjl, HU.out]; omega, by trivial⟩
          case measure => simp [intOf]; omega
      · obtain rfl : k = len := by omega
        have HNL : Hid (longOne L = false) := hid (long_not fun j l' hjl => HSM.out j l' (by rw [HLEN.out]; exact (List.getElem?_eq_some_iff.1 hjl).1) hjl)
        have HND : Hid (needsOf L = nd) := hid (by rw [HND.out, List.take_of_length_le (by rw [HLEN.out]; exact Nat.le_refl _)])
        go_upto_region 11 with fail
        have HB : Hid (Below w.heap.size w w.drew) := hid (Below.refl _ _).drew
        have hS00 : w.cell? ⟨v, 0, none⟩ = some (.pointer (some ⟨a, 0, none⟩)) ∧ w.cell? ⟨v, 1, none⟩ = some (.int .i64 gen) := ⟨c0, c1⟩
        refine wp_region_held_drew (S := fun w' => w'.cell? ⟨v, 0, none⟩ = some (.pointer (some ⟨a, 0, none⟩)) ∧ w'.cell? ⟨v, 1, none⟩ = some (.int .i64 gen)) (by kernel_rfl) hS00 (fun hS => ?_)
        refine wpAnyH_take (i := 0) (v := ?v0x1z) (by simp only [List.getElem?_toArray, List.getElem?_cons_zero]; exact rfl) (by kernel_rfl) (by kernel_rfl) (by kernel_rfl) (by exact fun _ _ _ h => h) (Or.inl ⟨by rfl, ?y0x1z⟩) hS ?r0x1z
        case y0x1z => (intro w' hSw; (try dsimp only at hSw); go_simp; (try with_reducible rfl))
        simp only [Act.put, List.setIfInBounds_toArray, List.set_cons_zero, List.set_cons_succ]
        refine wpAnyH_take (i := 1) (v := ?v1x2z) (by simp only [List.getElem?_toArray, List.getElem?_cons_zero, List.getElem?_cons_succ]; exact rfl) (by kernel_rfl) (by kernel_rfl) (by kernel_rfl) (by exact fun _ _ _ h => h) (Or.inl ⟨by rfl, ?y1x2z⟩) hS ?r1x2z
        case y1x2z => (intro w' hSw; (try dsimp only at hSw); go_simp; (try with_reducible rfl))
        simp only [Act.put, List.setIfInBounds_toArray, List.set_cons_zero, List.set_cons_succ]
        refine wpAnyH_take (i := 2) (v := ?v2x3z) (by simp only [List.getElem?_toArray, List.getElem?_cons_zero, List.getElem?_cons_succ]; exact rfl) (by kernel_rfl) (by kernel_rfl) (by kernel_rfl) (by exact fun _ _ _ h => h) (Or.inl ⟨by rfl, ?y2x3z⟩) hS ?r2x3z
        case y2x3z => (intro w' hSw; (try dsimp only at hSw); go_simp; (try with_reducible rfl))
        simp only [Act.put, List.setIfInBounds_toArray, List.set_cons_zero, List.set_cons_succ]
        refine wpAnyH_take (i := 3) (v := ?v3x4z) (by simp only [List.getElem?_toArray, List.getElem?_cons_zero, List.getElem?_cons_succ]; exact rfl) (by kernel_rfl) (by kernel_rfl) (by kernel_rfl) (by exact fun _ _ _ h => h) (Or.inl ⟨by rfl, ?y3x4z⟩) hS ?r3x4z
        case y3x4z => (intro w' hSw; (try dsimp only at hSw); go_simp; (try with_reducible rfl))
        simp only [Act.put, List.setIfInBounds_toArray, List.set_cons_zero, List.set_cons_succ]
        refine wpAnyH_take (i := 4) (v := ?v4x5z) (by simp only [List.getElem?_toArray, List.getElem?_cons_zero, List.getElem?_cons_succ]; exact rfl) (by kernel_rfl) (by kernel_rfl) (by kernel_rfl) (by exact fun _ _ _ h => h) (Or.inl ⟨by rfl, ?y4x5z⟩) hS ?r4x5z
        case y4x5z => (intro w' hSw; (try dsimp only at hSw); go_simp; (try with_reducible rfl))
        simp only [Act.put, List.setIfInBounds_toArray, List.set_cons_zero, List.set_cons_succ]
        refine wpAnyH_take (i := 5) (v := ?v5x6z) (by simp only [List.getElem?_toArray, List.getElem?_cons_zero, List.getElem?_cons_succ]; exact rfl) (by kernel_rfl) (by kernel_rfl) (by kernel_rfl) (by exact fun _ _ _ h => h) (Or.inl ⟨by rfl, ?y5x6z⟩) hS ?r5x6z
        case y5x6z => (intro w' hSw; (try dsimp only at hSw); go_simp; (try with_reducible rfl))
        simp only [Act.put, List.setIfInBounds_toArray, List.set_cons_zero, List.set_cons_succ]
        refine wpAnyH_take (i := 6) (v := ?v6x7z) (by simp only [List.getElem?_toArray, List.getElem?_cons_zero, List.getElem?_cons_succ]; exact rfl) (by kernel_rfl) (by kernel_rfl) (by kernel_rfl) (by exact fun _ _ _ h => h) (Or.inl ⟨by rfl, ?y6x7z⟩) hS ?r6x7z
        case y6x7z => (intro w' hSw; (try dsimp only at hSw); go_simp; (try with_reducible rfl))
        simp only [Act.put, List.setIfInBounds_toArray, List.set_cons_zero, List.set_cons_succ]
        refine wpAnyH_take (i := 7) (v := ?v7x8z) (by simp only [List.getElem?_toArray, List.getElem?_cons_zero, List.getElem?_cons_succ]; exact rfl) (by kernel_rfl) (by kernel_rfl) (by kernel_rfl) (by exact fun _ _ _ h => h) (Or.inl ⟨by rfl, ?y7x8z⟩) hS ?r7x8z
        case y7x8z => (intro w' hSw; (try dsimp only at hSw); go_simp; (try with_reducible rfl))
        simp only [Act.put, List.setIfInBounds_toArray, List.set_cons_zero, List.set_cons_succ]
        refine wpAnyH_ready (rs := [8, 9]) (by kernel_rfl) (by simp) ?_
        refine AllReadyH.cons (by simp only [List.getElem?_toArray, List.getElem?_cons_zero, List.getElem?_cons_succ]; exact rfl) (fun K hK => ?_) (AllReadyH.cons (by simp only [List.getElem?_toArray, List.getElem?_cons_zero, List.getElem?_cons_succ]; exact rfl) (fun K hK => ?_) AllReadyH.nil)
        · go_simp
          first | refine (H.out.v_area HB.out i HI.out gen hg hn2).mono ?_ | (have HB := hid HB.out.drew; have HZ := hid HZ.out.drew; refine (H.out.v_area HB.out i HI.out gen hg hn2).mono ?_)
          rintro e w5 ⟨rfl, hb5⟩
          rw [HN.out, HFR.out, HHF.out, HTO.out]
          have hS5 : w5.cell? ⟨v, 0, none⟩ = some (.pointer (some ⟨a, 0, none⟩)) ∧ w5.cell? ⟨v, 1, none⟩ = some (.int .i64 gen) := ⟨(hb5.cell (World.block_lt_of_cell? _ _ hS.1)).trans hS.1, (hb5.cell (World.block_lt_of_cell? _ _ hS.2)).trans hS.2⟩
          have HB := hid (th HB.out hb5)
          try have HZ := hid (HZ.out.below hb5 HZ.out.lt)
          clear hb5
          refine hK.out _ _ ?k8x9z (fun hS => ?s8x9z)
          case k8x9z => exact hS5
          clear hK K
          try simp only [Act.put, List.setIfInBounds_toArray, List.set_cons_zero, List.set_cons_succ]
          refine wpAnyH_ready (rs := [9]) (by kernel_rfl) (by simp) ?_
          refine AllReadyH.cons (by simp only [List.getElem?_toArray, List.getElem?_cons_zero, List.getElem?_cons_succ]; exact rfl) (fun K hK => ?_) AllReadyH.nil
          go_simp
          try (refine if_wanted (by first | rfl | kernel_rfl) ?_; go_simp)
          first | generalize hbE : w5.heap.size = bh | generalize hbE : w.heap.size = bh
          generalize hw4 : World.alloc _ _ = w4
          have hbh : w.heap.size ≤ bh := by rw [← hbE]; first | exact HB.out.size | exact Nat.le_refl _
          have hz : Blk w4 bh 76 [.int .i64 0, .int .i64 0, .int .i64 0] := by rw [← hw4, ← hbE]; exact alloc_new _ _
          have hS4 : w4.cell? ⟨v, 0, none⟩ = some (.pointer (some ⟨a, 0, none⟩)) ∧ w4.cell? ⟨v, 1, none⟩ = some (.int .i64 gen) := by rw [← hw4]; exact ⟨alc hS.1 _, alc hS.2 _⟩
          have HB : Hid (Below w.heap.size w w4) := hid (by rw [← hw4]; first | exact HB.out.alloc HB.out.size _ | exact ((Below.refl _ _).alloc (Nat.le_refl _) _))
          have HZ := hid hz
          clear hz hw4 hbE
          refine hK.out _ _ ?k9x10z (fun hS => ?s9x10z)
          case k9x10z => exact hS4
          clear hK K
          try simp only [Act.put, List.setIfInBounds_toArray, List.set_cons_zero, List.set_cons_succ]
          refine wpAnyH_ready (rs := [10]) (by kernel_rfl) (by simp) ?_
          refine AllReadyH.cons (by simp only [List.getElem?_toArray, List.getElem?_cons_zero, List.getElem?_cons_succ]; exact rfl) (fun K hK => ?_) AllReadyH.nil
          refine wp_store_row 76 (.tmp 8) (.tmp 37) rfl bh [.int .i64 (fr : Nat), .int .i64 (tw : Nat), .int .i64 (gen : Nat)].toArray rfl rfl _ _ HZ.out (by kernel_rfl) rfl (by simp [Value.oneCell']) ?_
          have HB5 := hid (below_setRow' HB.out hbh [.int .i64 (fr : Nat), .int .i64 (tw : Nat), .int .i64 (gen : Nat)].toArray)
          have HZ5 := hid (setRow_heap _ _ _ [.int .i64 (fr : Nat), .int .i64 (tw : Nat), .int .i64 (gen : Nat)].toArray _ _ HZ.out)
          have hS5 := And.intro ((HB5.out.cell (World.block_lt_of_cell? _ _ hS00.1)).trans hS00.1) ((HB5.out.cell (World.block_lt_of_cell? _ _ hS00.2)).trans hS00.2)
          refine hK.out _ _ ?k10x11z (fun hS => ?s10x11z)
          case k10x11z => exact hS5
          clear hK K
          try simp only [Act.put]
          refine wpAnyH_done (by kernel_rfl) ?_ _
          generalize hws : World.setRow _ _ _ = ws at HB5 HZ5 hS5 ⊢
          clear hS hws
          have HZ5 : Hid (Blk ws bh 76 [.int .i64 (fr : Nat), .int .i64 (tw : Nat), .int .i64 (gen : Nat)]) := HZ5
          have z0 := HZ5.out.cell (j := 0) rfl
          have z1 := HZ5.out.cell (j := 1) rfl
          have qs : IntKind.i64.wrap ((tw : Int) - (fr : Int)) = (hf : Int) := by rw [IntWalk.i64_in _ (by omega)]; omega
          by_cases hbig : hf < nd
          · have qd : decide ((hf : Int) < (nd : Int)) = true := decide_eq_true (by omega)
            have HE : Hid (fitsOf gen n L = 10) := hid (by unfold fitsOf; rw [if_neg HG0.out, HNL.out, HHF.out, HND.out, if_pos hbig]; rfl)
            go_wp2
            go_ret
            exact ⟨by rw [HE.out]; rfl, HB5.out⟩
          · have qd : decide ((hf : Int) < (nd : Int)) = false := decide_eq_false (by omega)
            have HE : Hid (fitsOf gen n L = 0) := hid (by unfold fitsOf; rw [if_neg HG0.out, HNL.out, HHF.out, HND.out, if_neg hbig]; rfl)
            go_wp2
            go_ret
            exact ⟨by rw [HE.out]; rfl, HB5.out⟩
        · go_simp
          try (refine if_wanted (by first | rfl | kernel_rfl) ?_; go_simp)
          first | generalize hbE : w5.heap.size = bh | generalize hbE : w.heap.size = bh
          generalize hw4 : World.alloc _ _ = w4
          have hbh : w.heap.size ≤ bh := by rw [← hbE]; first | exact HB.out.size | exact Nat.le_refl _
          have hz : Blk w4 bh 76 [.int .i64 0, .int .i64 0, .int .i64 0] := by rw [← hw4, ← hbE]; exact alloc_new _ _
          have hS4 : w4.cell? ⟨v, 0, none⟩ = some (.pointer (some ⟨a, 0, none⟩)) ∧ w4.cell? ⟨v, 1, none⟩ = some (.int .i64 gen) := by rw [← hw4]; exact ⟨alc hS.1 _, alc hS.2 _⟩
          have HB : Hid (Below w.heap.size w w4) := hid (by rw [← hw4]; first | exact HB.out.alloc HB.out.size _ | exact ((Below.refl _ _).alloc (Nat.le_refl _) _))
          have HZ := hid hz
          clear hz hw4 hbE
          refine hK.out _ _ ?k9x12z (fun hS => ?s9x12z)
          case k9x12z => exact hS4
          clear hK K
          try simp only [Act.put, List.setIfInBounds_toArray, List.set_cons_zero, List.set_cons_succ]
          refine wpAnyH_ready (rs := [8]) (by kernel_rfl) (by simp) ?_
          refine AllReadyH.cons (by simp only [List.getElem?_toArray, List.getElem?_cons_zero, List.getElem?_cons_succ]; exact rfl) (fun K hK => ?_) AllReadyH.nil
          go_simp
          first | refine (H.out.v_area HB.out i HI.out gen hg hn2).mono ?_ | (have HB := hid HB.out.drew; have HZ := hid HZ.out.drew; refine (H.out.v_area HB.out i HI.out gen hg hn2).mono ?_)
          rintro e w5 ⟨rfl, hb5⟩
          rw [HN.out, HFR.out, HHF.out, HTO.out]
          have hS5 : w5.cell? ⟨v, 0, none⟩ = some (.pointer (some ⟨a, 0, none⟩)) ∧ w5.cell? ⟨v, 1, none⟩ = some (.int .i64 gen) := ⟨(hb5.cell (World.block_lt_of_cell? _ _ hS.1)).trans hS.1, (hb5.cell (World.block_lt_of_cell? _ _ hS.2)).trans hS.2⟩
          have HB := hid (th HB.out hb5)
          try have HZ := hid (HZ.out.below hb5 HZ.out.lt)
          clear hb5
          refine hK.out _ _ ?k8x13z (fun hS => ?s8x13z)
          case k8x13z => exact hS5
          clear hK K
          try simp only [Act.put, List.setIfInBounds_toArray, List.set_cons_zero, List.set_cons_succ]
          refine wpAnyH_ready (rs := [10]) (by kernel_rfl) (by simp) ?_
          refine AllReadyH.cons (by simp only [List.getElem?_toArray, List.getElem?_cons_zero, List.getElem?_cons_succ]; exact rfl) (fun K hK => ?_) AllReadyH.nil
          refine wp_store_row 76 (.tmp 8) (.tmp 37) rfl bh [.int .i64 (fr : Nat), .int .i64 (tw : Nat), .int .i64 (gen : Nat)].toArray rfl rfl _ _ HZ.out (by kernel_rfl) rfl (by simp [Value.oneCell']) ?_
          have HB5 := hid (below_setRow' HB.out hbh [.int .i64 (fr : Nat), .int .i64 (tw : Nat), .int .i64 (gen : Nat)].toArray)
          have HZ5 := hid (setRow_heap _ _ _ [.int .i64 (fr : Nat), .int .i64 (tw : Nat), .int .i64 (gen : Nat)].toArray _ _ HZ.out)
          have hS5 := And.intro ((HB5.out.cell (World.block_lt_of_cell? _ _ hS00.1)).trans hS00.1) ((HB5.out.cell (World.block_lt_of_cell? _ _ hS00.2)).trans hS00.2)
          refine hK.out _ _ ?k10x14z (fun hS => ?s10x14z)
          case k10x14z => exact hS5
          clear hK K
          try simp only [Act.put]
          refine wpAnyH_done (by kernel_rfl) ?_ _
          generalize hws : World.setRow _ _ _ = ws at HB5 HZ5 hS5 ⊢
          clear hS hws
          have HZ5 : Hid (Blk ws bh 76 [.int .i64 (fr : Nat), .int .i64 (tw : Nat), .int .i64 (gen : Nat)]) := HZ5
          have z0 := HZ5.out.cell (j := 0) rfl
          have z1 := HZ5.out.cell (j := 1) rfl
          have qs : IntKind.i64.wrap ((tw : Int) - (fr : Int)) = (hf : Int) := by rw [IntWalk.i64_in _ (by omega)]; omega
          by_cases hbig : hf < nd
          · have qd : decide ((hf : Int) < (nd : Int)) = true := decide_eq_true (by omega)
            have HE : Hid (fitsOf gen n L = 10) := hid (by unfold fitsOf; rw [if_neg HG0.out, HNL.out, HHF.out, HND.out, if_pos hbig]; rfl)
            go_wp2
            go_ret
            exact ⟨by rw [HE.out]; rfl, HB5.out⟩
          · have qd : decide ((hf : Int) < (nd : Int)) = false := decide_eq_false (by omega)
            have HE : Hid (fitsOf gen n L = 0) := hid (by unfold fitsOf; rw [if_neg HG0.out, HNL.out, HHF.out, HND.out, if_neg hbig]; rfl)
            go_wp2
            go_ret
            exact ⟨by rw [HE.out]; rfl, HB5.out⟩
/-- how many sectors are left -/
def freeOf (n : Nat) (next : Int) : Int := halfOf n - next
set_option maxRecDepth 100000 in
set_option maxHeartbeats 2000000 in
theorem vfree_any {B : Nat} {w0 w : World} {As : List Asset} {a : Nat} {d : Dev} (h : St B w0 w As) (i : Nat) (hi : As[i]? = some (dev a d)) (v gen : Nat) (next : Int) (vl : Value) (br : Bool) (hv : Blk w v 105 (vCells a gen next vl br)) (hg : gen ≤ 2147483648) (hn2 : 2 ≤ d.img.length) (hnx : 0 ≤ next ∧ next ≤ 131072) :
    Calls Try.prog 91 #[ptr v] w fun e w' => e = .returned (.int .i64 (freeOf d.img.length next)) ∧ Below w.heap.size w w' := by
  have c0 := hv.cell (j := 0) rfl
  have c1 := hv.cell (j := 1) rfl
  have c2 := hv.cell (j := 2) rfl
  have hok := (h.ok i hi).len
  have HV := hid hv
  unfold ptr at c0
  obtain ⟨n, hnn⟩ : ∃ n, d.img.length = n := ⟨_, rfl⟩
  obtain ⟨fr, hfr⟩ : ∃ fr, fromOf n gen = fr := ⟨_, rfl⟩
  obtain ⟨hf, hhf⟩ : ∃ hf, halfOf n = hf := ⟨_, rfl⟩
  obtain ⟨tw, hto⟩ : ∃ tw, fr + hf = tw := ⟨_, rfl⟩
  have HN := hid hnn; have HFR := hid hfr; have HHF := hid hhf; have HTO := hid hto
  have hfb : hf ≤ 65536 := by rw [← hhf]; unfold halfOf; omega
  have hfrb : fr ≤ 131072 := by
    have := fromOf_le n gen (by omega)
    rw [hfr] at this; omega
  rw [hnn] at hok ⊢
  have H := hid h; have HI := hid hi
  have qs : IntKind.i64.wrap ((tw : Int) - (fr : Int)) = (hf : Int) := by rw [IntWalk.i64_in _ (by omega)]; omega
  have qt : IntKind.i64.wrap ((hf : Int) - next) = (hf : Int) - next := IntWalk.i64_in _ (by omega)
  unfold freeOf
  rw [hhf]
  clear h hi hv hnn hfr hhf
  unfold ptr
  go_enter Try.func91, Try.ntmps91
  go_wp2_with fail
  refine (vnone_any v a gen next vl br w HV.out).mono ?_
  rintro e w' ⟨rfl, hw'⟩
  subst w'
  go_upto_region 3 with fail
  have HB : Hid (Below w.heap.size w w.drew) := hid (Below.refl _ _).drew
  have hS00 : w.cell? ⟨v, 0, none⟩ = some (.pointer (some ⟨a, 0, none⟩)) ∧ w.cell? ⟨v, 1, none⟩ = some (.int .i64 gen) ∧ w.cell? ⟨v, 2, none⟩ = some (.int .i64 next) := ⟨c0, c1, c2⟩
  refine wp_region_held_drew (S := fun w' => w'.cell? ⟨v, 0, none⟩ = some (.pointer (some ⟨a, 0, none⟩)) ∧ w'.cell? ⟨v, 1, none⟩ = some (.int .i64 gen) ∧ w'.cell? ⟨v, 2, none⟩ = some (.int .i64 next)) (by kernel_rfl) hS00 (fun hS => ?_)
  refine wpAnyH_take (i := 0) (v := ?v0x1z) (by simp only [List.getElem?_toArray, List.getElem?_cons_zero]; exact rfl) (by kernel_rfl) (by kernel_rfl) (by kernel_rfl) (by exact fun _ _ _ h => h) (Or.inl ⟨by rfl, ?y0x1z⟩) hS ?r0x1z
  case y0x1z => (intro w' hSw; (try dsimp only at hSw); go_simp; (try with_reducible rfl))
  simp only [Act.put, List.setIfInBounds_toArray, List.set_cons_zero, List.set_cons_succ]
  refine wpAnyH_take (i := 1) (v := ?v1x2z) (by simp only [List.getElem?_toArray, List.getElem?_cons_zero, List.getElem?_cons_succ]; exact rfl) (by kernel_rfl) (by kernel_rfl) (by kernel_rfl) (by exact fun _ _ _ h => h) (Or.inl ⟨by rfl, ?y1x2z⟩) hS ?r1x2z
  case y1x2z => (intro w' hSw; (try dsimp only at hSw); go_simp; (try with_reducible rfl))
  simp only [Act.put, List.setIfInBounds_toArray, List.set_cons_zero, List.set_cons_succ]
  refine wpAnyH_take (i := 2) (v := ?v2x3z) (by simp only [List.getElem?_toArray, List.getElem?_cons_zero, List.getElem?_cons_succ]; exact rfl) (by kernel_rfl) (by kernel_rfl) (by kernel_rfl) (by exact fun _ _ _ h => h) (Or.inl ⟨by rfl, ?y2x3z⟩) hS ?r2x3z
  case y2x3z => (intro w' hSw; (try dsimp only at hSw); go_simp; (try with_reducible rfl))
  simp only [Act.put, List.setIfInBounds_toArray, List.set_cons_zero, List.set_cons_succ]
  refine wpAnyH_take (i := 3) (v := ?v3x4z) (by simp only [List.getElem?_toArray, List.getElem?_cons_zero, List.getElem?_cons_succ]; exact rfl) (by kernel_rfl) (by kernel_rfl) (by kernel_rfl) (by exact fun _ _ _ h => h) (Or.inl ⟨by rfl, ?y3x4z⟩) hS ?r3x4z
  case y3x4z => (intro w' hSw; (try dsimp only at hSw); go_simp; (try with_reducible rfl))
  simp only [Act.put, List.setIfInBounds_toArray, List.set_cons_zero, List.set_cons_succ]
  refine wpAnyH_take (i := 4) (v := ?v4x5z) (by simp only [List.getElem?_toArray, List.getElem?_cons_zero, List.getElem?_cons_succ]; exact rfl) (by kernel_rfl) (by kernel_rfl) (by kernel_rfl) (by exact fun _ _ _ h => h) (Or.inl ⟨by rfl, ?y4x5z⟩) hS ?r4x5z
  case y4x5z => (intro w' hSw; (try dsimp only at hSw); go_simp; (try with_reducible rfl))
  simp only [Act.put, List.setIfInBounds_toArray, List.set_cons_zero, List.set_cons_succ]
  refine wpAnyH_take (i := 5) (v := ?v5x6z) (by simp only [List.getElem?_toArray, List.getElem?_cons_zero, List.getElem?_cons_succ]; exact rfl) (by kernel_rfl) (by kernel_rfl) (by kernel_rfl) (by exact fun _ _ _ h => h) (Or.inl ⟨by rfl, ?y5x6z⟩) hS ?r5x6z
  case y5x6z => (intro w' hSw; (try dsimp only at hSw); go_simp; (try with_reducible rfl))
  simp only [Act.put, List.setIfInBounds_toArray, List.set_cons_zero, List.set_cons_succ]
  refine wpAnyH_take (i := 6) (v := ?v6x7z) (by simp only [List.getElem?_toArray, List.getElem?_cons_zero, List.getElem?_cons_succ]; exact rfl) (by kernel_rfl) (by kernel_rfl) (by kernel_rfl) (by exact fun _ _ _ h => h) (Or.inl ⟨by rfl, ?y6x7z⟩) hS ?r6x7z
  case y6x7z => (intro w' hSw; (try dsimp only at hSw); go_simp; (try with_reducible rfl))
  simp only [Act.put, List.setIfInBounds_toArray, List.set_cons_zero, List.set_cons_succ]
  refine wpAnyH_take (i := 7) (v := ?v7x8z) (by simp only [List.getElem?_toArray, List.getElem?_cons_zero, List.getElem?_cons_succ]; exact rfl) (by kernel_rfl) (by kernel_rfl) (by kernel_rfl) (by exact fun _ _ _ h => h) (Or.inl ⟨by rfl, ?y7x8z⟩) hS ?r7x8z
  case y7x8z => (intro w' hSw; (try dsimp only at hSw); go_simp; (try with_reducible rfl))
  simp only [Act.put, List.setIfInBounds_toArray, List.set_cons_zero, List.set_cons_succ]
  refine wpAnyH_ready (rs := [8, 9]) (by kernel_rfl) (by simp) ?_
  refine AllReadyH.cons (by simp only [List.getElem?_toArray, List.getElem?_cons_zero, List.getElem?_cons_succ]; exact rfl) (fun K hK => ?_) (AllReadyH.cons (by simp only [List.getElem?_toArray, List.getElem?_cons_zero, List.getElem?_cons_succ]; exact rfl) (fun K hK => ?_) AllReadyH.nil)
  · go_simp
    first | refine (H.out.v_area HB.out i HI.out gen hg hn2).mono ?_ | (have HB := hid HB.out.drew; have HZ := hid HZ.out.drew; refine (H.out.v_area HB.out i HI.out gen hg hn2).mono ?_)
    rintro e w5 ⟨rfl, hb5⟩
    rw [HN.out, HFR.out, HHF.out, HTO.out]
    have hS5 : w5.cell? ⟨v, 0, none⟩ = some (.pointer (some ⟨a, 0, none⟩)) ∧ w5.cell? ⟨v, 1, none⟩ = some (.int .i64 gen) ∧ w5.cell? ⟨v, 2, none⟩ = some (.int .i64 next) := ⟨(hb5.cell (World.block_lt_of_cell? _ _ hS.1)).trans hS.1, (hb5.cell (World.block_lt_of_cell? _ _ hS.2.1)).trans hS.2.1, (hb5.cell (World.block_lt_of_cell? _ _ hS.2.2)).trans hS.2.2⟩
    have HB := hid (th HB.out hb5)
    try have HZ := hid (HZ.out.below hb5 HZ.out.lt)
    clear hb5
    refine hK.out _ _ ?k8x9z (fun hS => ?s8x9z)
    case k8x9z => exact hS5
    clear hK K
    try simp only [Act.put, List.setIfInBounds_toArray, List.set_cons_zero, List.set_cons_succ]
    refine wpAnyH_ready (rs := [9]) (by kernel_rfl) (by simp) ?_
    refine AllReadyH.cons (by simp only [List.getElem?_toArray, List.getElem?_cons_zero, List.getElem?_cons_succ]; exact rfl) (fun K hK => ?_) AllReadyH.nil
    go_simp
    try (refine if_wanted (by first | rfl | kernel_rfl) ?_; go_simp)
    first | generalize hbE : w5.heap.size = bh | generalize hbE : w.heap.size = bh
    generalize hw4 : World.alloc _ _ = w4
    have hbh : w.heap.size ≤ bh := by rw [← hbE]; first | exact HB.out.size | exact Nat.le_refl _
    have hz : Blk w4 bh 76 [.int .i64 0, .int .i64 0, .int .i64 0] := by rw [← hw4, ← hbE]; exact alloc_new _ _
    have hS4 : w4.cell? ⟨v, 0, none⟩ = some (.pointer (some ⟨a, 0, none⟩)) ∧ w4.cell? ⟨v, 1, none⟩ = some (.int .i64 gen) ∧ w4.cell? ⟨v, 2, none⟩ = some (.int .i64 next) := by rw [← hw4]; exact ⟨alc hS.1 _, alc hS.2.1 _, alc hS.2.2 _⟩
    have HB : Hid (Below w.heap.size w w4) := hid (by rw [← hw4]; first | exact HB.out.alloc HB.out.size _ | exact ((Below.refl _ _).alloc (Nat.le_refl _) _))
    have HZ := hid hz
    clear hz hw4 hbE
    refine hK.out _ _ ?k9x10z (fun hS => ?s9x10z)
    case k9x10z => exact hS4
    clear hK K
    try simp only [Act.put, List.setIfInBounds_toArray, List.set_cons_zero, List.set_cons_succ]
    refine wpAnyH_ready (rs := [10]) (by kernel_rfl) (by simp) ?_
    refine AllReadyH.cons (by simp only [List.getElem?_toArray, List.getElem?_cons_zero, List.getElem?_cons_succ]; exact rfl) (fun K hK => ?_) AllReadyH.nil
    refine wp_store_row 76 (.tmp 3) (.tmp 14) rfl bh [.int .i64 (fr : Nat), .int .i64 (tw : Nat), .int .i64 (gen : Nat)].toArray rfl rfl _ _ HZ.out (by kernel_rfl) rfl (by simp [Value.oneCell']) ?_
    have HB5 := hid (below_setRow' HB.out hbh [.int .i64 (fr : Nat), .int .i64 (tw : Nat), .int .i64 (gen : Nat)].toArray)
    have HZ5 := hid (setRow_heap _ _ _ [.int .i64 (fr : Nat), .int .i64 (tw : Nat), .int .i64 (gen : Nat)].toArray _ _ HZ.out)
    have hS5 := And.intro ((HB5.out.cell (World.block_lt_of_cell? _ _ hS00.1)).trans hS00.1) (And.intro ((HB5.out.cell (World.block_lt_of_cell? _ _ hS00.2.1)).trans hS00.2.1) ((HB5.out.cell (World.block_lt_of_cell? _ _ hS00.2.2)).trans hS00.2.2))
    refine hK.out _ _ ?k10x11z (fun hS => ?s10x11z)
    case k10x11z => exact hS5
    clear hK K
    try simp only [Act.put]
    refine wpAnyH_done (by kernel_rfl) ?_ _
    generalize hws : World.setRow _ _ _ = ws at HB5 HZ5 hS5 ⊢
    clear hS hws
    have HZ5 : Hid (Blk ws bh 76 [.int .i64 (fr : Nat), .int .i64 (tw : Nat), .int .i64 (gen : Nat)]) := HZ5
    have z0 := HZ5.out.cell (j := 0) rfl
    have z1 := HZ5.out.cell (j := 1) rfl
    have z2 := hS5.2.2
    go_upto_region 4 with fail
    go_quiet (fail)
    have HB6 := hid (below_drewN HB5.out nq)
    clear HZ5 hS5 HB5
    go_wp2
    go_ret
    exact ⟨rfl, HB6.out⟩
  · go_simp
    try (refine if_wanted (by first | rfl | kernel_rfl) ?_; go_simp)
    first | generalize hbE : w5.heap.size = bh | generalize hbE : w.heap.size = bh
    generalize hw4 : World.alloc _ _ = w4
    have hbh : w.heap.size ≤ bh := by rw [← hbE]; first | exact HB.out.size | exact Nat.le_refl _
    have hz : Blk w4 bh 76 [.int .i64 0, .int .i64 0, .int .i64 0] := by rw [← hw4, ← hbE]; exact alloc_new _ _
    have hS4 : w4.cell? ⟨v, 0, none⟩ = some (.pointer (some ⟨a, 0, none⟩)) ∧ w4.cell? ⟨v, 1, none⟩ = some (.int .i64 gen) ∧ w4.cell? ⟨v, 2, none⟩ = some (.int .i64 next) := by rw [← hw4]; exact ⟨alc hS.1 _, alc hS.2.1 _, alc hS.2.2 _⟩
    have HB : Hid (Below w.heap.size w w4) := hid (by rw [← hw4]; first | exact HB.out.alloc HB.out.size _ | exact ((Below.refl _ _).alloc (Nat.le_refl _) _))
    have HZ := hid hz
    clear hz hw4 hbE
    refine hK.out _ _ ?k9x12z (fun hS => ?s9x12z)
    case k9x12z => exact hS4
    clear hK K
    try simp only [Act.put, List.setIfInBounds_toArray, List.set_cons_zero, List.set_cons_succ]
    refine wpAnyH_ready (rs := [8]) (by kernel_rfl) (by simp) ?_
    refine AllReadyH.cons (by simp only [List.getElem?_toArray, List.getElem?_cons_zero, List.getElem?_cons_succ]; exact rfl) (fun K hK => ?_) AllReadyH.nil
    go_simp
    first | refine (H.out.v_area HB.out i HI.out gen hg hn2).mono ?_ | (have HB := hid HB.out.drew; have HZ := hid HZ.out.drew; refine (H.out.v_area HB.out i HI.out gen hg hn2).mono ?_)
    rintro e w5 ⟨rfl, hb5⟩
    rw [HN.out, HFR.out, HHF.out, HTO.out]
    have hS5 : w5.cell? ⟨v, 0, none⟩ = some (.pointer (some ⟨a, 0, none⟩)) ∧ w5.cell? ⟨v, 1, none⟩ = some (.int .i64 gen) ∧ w5.cell? ⟨v, 2, none⟩ = some (.int .i64 next) := ⟨(hb5.cell (World.block_lt_of_cell? _ _ hS.1)).trans hS.1, (hb5.cell (World.block_lt_of_cell? _ _ hS.2.1)).trans hS.2.1, (hb5.cell (World.block_lt_of_cell? _ _ hS.2.2)).trans hS.2.2⟩
    have HB := hid (th HB.out hb5)
    try have HZ := hid (HZ.out.below hb5 HZ.out.lt)
    clear hb5
    refine hK.out _ _ ?k8x13z (fun hS => ?s8x13z)
    case k8x13z => exact hS5
    clear hK K
    try simp only [Act.put, List.setIfInBounds_toArray, List.set_cons_zero, List.set_cons_succ]
    refine wpAnyH_ready (rs := [10]) (by kernel_rfl) (by simp) ?_
    refine AllReadyH.cons (by simp only [List.getElem?_toArray, List.getElem?_cons_zero, List.getElem?_cons_succ]; exact rfl) (fun K hK => ?_) AllReadyH.nil
    refine wp_store_row 76 (.tmp 3) (.tmp 14) rfl bh [.int .i64 (fr : Nat), .int .i64 (tw : Nat), .int .i64 (gen : Nat)].toArray rfl rfl _ _ HZ.out (by kernel_rfl) rfl (by simp [Value.oneCell']) ?_
    have HB5 := hid (below_setRow' HB.out hbh [.int .i64 (fr : Nat), .int .i64 (tw : Nat), .int .i64 (gen : Nat)].toArray)
    have HZ5 := hid (setRow_heap _ _ _ [.int .i64 (fr : Nat), .int .i64 (tw : Nat), .int .i64 (gen : Nat)].toArray _ _ HZ.out)
    have hS5 := And.intro ((HB5.out.cell (World.block_lt_of_cell? _ _ hS00.1)).trans hS00.1) (And.intro ((HB5.out.cell (World.block_lt_of_cell? _ _ hS00.2.1)).trans hS00.2.1) ((HB5.out.cell (World.block_lt_of_cell? _ _ hS00.2.2)).trans hS00.2.2))
    refine hK.out _ _ ?k10x14z (fun hS => ?s10x14z)
    case k10x14z => exact hS5
    clear hK K
    try simp only [Act.put]
    refine wpAnyH_done (by kernel_rfl) ?_ _
    generalize hws : World.setRow _ _ _ = ws at HB5 HZ5 hS5 ⊢
    clear hS hws
    have HZ5 : Hid (Blk ws bh 76 [.int .i64 (fr : Nat), .int .i64 (tw : Nat), .int .i64 (gen : Nat)]) := HZ5
    have z0 := HZ5.out.cell (j := 0) rfl
    have z1 := HZ5.out.cell (j := 1) rfl
    have z2 := hS5.2.2
    go_upto_region 4 with fail
    go_quiet (fail)
    have HB6 := hid (below_drewN HB5.out nq)
    clear HZ5 hS5 HB5
    go_wp2
    go_ret
    exact ⟨rfl, HB6.out⟩
end Go.Proofs.Ytlondopgibcikaa
namespace Go.Proofs.Ytlondopgibcikaa
open Go.RowKit Ent
set_option maxRecDepth 100000 in
set_option maxHeartbeats 1000000 in
theorem vrecords_any (v a gen : Nat) (next : Int) (lo : Option Addr) (len c : Nat) (br : Bool) (L : List (List UInt8)) (w : World) (h : Blk w v 105 (vCells a gen next (.slice lo len c) br)) (hL : LR w lo L) (hlen : len = L.length) (hl1 : len ≤ 1073741824) (hl2 : ∀ l ∈ L, l.length ≤ 1073741824) :
    Calls Try.prog 89 #[ptr v] w fun e w' => ∃ r, e = .returned r ∧ FreshL w.heap.size w' r L ∧ Below w.heap.size w w' := by
  have c3 := h.cell (j := 3) rfl
  have H := hid h; have HC := hid (vcopied_any lo len c L hlen hl1 hl2 w hL)
  clear h hL hl2 hlen hl1
  unfold ptr
  go_enter Try.func89, Try.ntmps89
  go_wp2_with fail
  refine (vnone_any v a gen next _ br w H.out).mono ?_
  rintro e w' ⟨rfl, hw'⟩
  subst w'
  go_wp2_with fail
  refine HC.out.mono ?_
  rintro e w2 ⟨r, rfl, hf, hb⟩
  have HF := hid hf; have HB := hid hb
  clear hf hb
  go_wp2
  go_ret
  exact ⟨_, rfl, HF.out, HB.out⟩
end Go.Proofs.Ytlondopgibcikaa
namespace Go.Proofs.Ytlondopgibcikaa
open Go.RowKit Ent
/-- a vault in memory, its records with it -/
def vaultA (v a gen : Nat) (next : Int) (br : Bool) (L : List (List UInt8)) : Asset := fun w F => ∃ vl G, Blk w v 105 (vCells a gen next vl br) ∧ F v ∧ listA vl L w G ∧ ¬ G v ∧ ∀ k, G k → F k
theorem good_vaultA (v a gen : Nat) (next : Int) (br : Bool) (L : List (List UInt8)) : Good (vaultA v a gen next br L) := ⟨fun ⟨vl, G, hb, hv, hl, hn, hG⟩ hk hF => ⟨vl, G, hb.keep hk (hF _ hv), hv, (good_listA vl L).keep hl hk (fun k h => hF _ (hG k h)), hn, hG⟩⟩
theorem St.vault {B : Nat} {w0 w : World} {As : List Asset} (h : St B w0 w As) (j : Nat) {v a gen : Nat} {next : Int} {br : Bool} {L : List (List UInt8)} (hj : As[j]? = some (vaultA v a gen next br L)) : ∃ vl, Blk w v 105 (vCells a gen next vl br) := by
  obtain ⟨F, ⟨vl, G, hb, _⟩, _⟩ := h.open j hj
  exact ⟨vl, hb⟩
/-- records are written one behind the other -/
def recsD (f t g : Int) : List (List UInt8) → Int → Dev → Int × Dev × Int
  | [], p, d => (0, d, p)
  | r :: L, p, d => if (logWrite d f t g p r).1.2 = 0 then recsD f t g L (logWrite d f t g p r).1.1 (logWrite d f t g p r).2 else ((logWrite d f t g p r).1.2, (logWrite d f t g p r).2, p)
theorem logWrite_next {d : Dev} {f t g p : Int} {r : List UInt8} (h : (logWrite d f t g p r).1.2 = 0) : 0 ≤ p ∧ (logWrite d f t g p r).1.1 = p + needOf r.length ∧ p + needOf r.length ≤ t - f ∧ 0 ≤ f ∧ t ≤ d.img.length := by
  unfold logWrite at h ⊢
  split at h
  · rename_i h1; exact absurd h h1
  · rename_i h1
    have hc := check_ok h1
    rw [if_neg h1]
    split at h
    · simp at h
    · rename_i h2
      rw [if_neg h2]
      split at h
      · simp at h
      · rename_i h3
        rw [if_neg h3]
        split at h
        · simp at h
        · rename_i h4
          rw [if_neg h4]
          split at h
          · rename_i h5; exact absurd h h5
          · rename_i h5
            rw [if_neg h5]
            exact ⟨by omega, rfl, by omega, hc.1, hc.2.2.1⟩
theorem recsD_loose (f t g : Int) : ∀ (L : List (List UInt8)) (p : Int) (d : Dev), (recsD f t g L p d).2.1.loose.length ≤ d.loose.length + L.length * d.img.length ∧ (recsD f t g L p d).2.1.img.length = d.img.length
  | [], p, d => ⟨by simp [recsD], rfl⟩
  | r :: L, p, d => by
    have h1 := lwrite_loose d f t g p r
    unfold recsD
    split
    · have h2 := recsD_loose f t g L (logWrite d f t g p r).1.1 (logWrite d f t g p r).2
      rw [h1.2] at h2
      refine ⟨?_, h2.2⟩
      rw [List.length_cons, Nat.succ_mul]; omega
    · refine ⟨?_, h1.2⟩
      rw [List.length_cons, Nat.succ_mul]
      show (logWrite d f t g p r).2.loose.length ≤ _
      omega
/-- what moves holds beside the rest -/
def mvX (bv bl bg bt ba v : Nat) (lo : Option Addr) (len c gen : Nat) (p : Int) (f t : Nat) (Y : List Asset) : List Asset :=
  [blkA bv 103 [ptr v], blkA bl 79 [.slice lo len c], blkA bg 3 [.int .i64 gen], blkA bt 3 [.int .i64 p], blkA ba 76 [.int .i64 f, .int .i64 t, .int .i64 gen]] ++ Y
theorem set_mid {As X : List Asset} {i : Nat} {A C : Asset} (hi : As[i]? = some A) : (As.set i C ++ X)[i]? = some C := get_pre (set_get hi)
theorem set_beside {As X : List Asset} {i j : Nat} {C D : Asset} (hj : As[j]? = some D) (hij : i ≠ j) : (As.set i C ++ X)[j]? = some D := get_pre (by rw [List.getElem?_set_ne hij]; exact hj)
theorem set_post {As X : List Asset} {i : Nat} {C : Asset} (k : Nat) {D : Asset} (hk : X[k]? = some D) : (As.set i C ++ X)[As.length + k]? = some D := by
  have := get_post (As := As.set i C) k hk
  rwa [List.length_set] at this
theorem set_twice' {As X : List Asset} {i : Nat} {A C D : Asset} (hi : As[i]? = some A) : (As.set i C ++ X).set i D = As.set i D ++ X := by
  rw [set_pre (set_get hi), set_twice]
theorem set_postTurn {As X : List Asset} {i : Nat} {C : Asset} (k : Nat) {D : Asset} : (As.set i C ++ X).set (As.length + k) D = As.set i C ++ X.set k D := by
  rw [List.set_append_right _ _ (by rw [List.length_set]; omega), List.length_set, Nat.add_sub_cancel_left]
set_option maxRecDepth 100000 in
set_option maxHeartbeats 1000000 in
theorem vmoves2 {B : Nat} {w0 w : World} {As : List Asset} {a : Nat} {d : Dev} (i : Nat) (hi : As[i]? = some (dev a d)) (j v gen : Nat) (next : Int) (br : Bool) (Lv : List (List UInt8)) (hj : As[j]? = some (vaultA v a gen next br Lv)) (hij : i ≠ j) (bv bl bg bt ba : Nat) (lo : Option Addr) (len c gen' : Nat) (f t : Nat) (Y : List Asset) (p : Int) (s : Dev) (h : St B w0 w (As.set i (dev a s) ++ mvX bv bl bg bt ba v lo len c gen' p f t Y)) (hlo : s.loose.length ≤ 1073000000) :
    Calls Try.prog 152 #[ptr bv, ptr ba] w fun e w' => e = .returned (.int .i64 (blankOf s (f : Nat) (t : Nat) (gen' : Nat)).1) ∧ St B w0 w' (As.set i (dev a (blankOf s (f : Nat) (t : Nat) (gen' : Nat)).2) ++ mvX bv bl bg bt ba v lo len c gen' p f t Y) := by
  obtain ⟨vl, hvb⟩ := h.vault j (set_beside hj hij)
  have cv := hvb.cell (j := 0) rfl
  have cb := (h.blk (As.length + 0) (set_post 0 rfl)).cell (j := 0) rfl
  have hba := h.blk (As.length + 4) (set_post 4 rfl)
  have ca0 := hba.cell (j := 0) rfl
  have ca1 := hba.cell (j := 1) rfl
  have ca2 := hba.cell (j := 2) rfl
  have cg := (h.blk (As.length + 2) (set_post 2 rfl)).cell (j := 0) rfl
  unfold ptr at cb cv
  have H := hid h; have HI := hid hi; have HJ := hid hj
  clear h hi hj hvb hba cg
  unfold ptr
  go_enter Try.func152, Try.ntmps152
  go_upto_region 1 with fail
  refine wp_region_held_drew (S := fun w' => w'.cell? ⟨bv, 0, none⟩ = some (.pointer (some ⟨v, 0, none⟩)) ∧ w'.cell? ⟨v, 0, none⟩ = some (.pointer (some ⟨a, 0, none⟩)) ∧ w'.cell? ⟨ba, 0, none⟩ = some (.int .i64 (f : Nat)) ∧ w'.cell? ⟨ba, 1, none⟩ = some (.int .i64 (t : Nat)) ∧ w'.cell? ⟨ba, 2, none⟩ = some (.int .i64 (gen' : Nat))) (by kernel_rfl) ⟨cb, cv, ca0, ca1, ca2⟩ (fun hS => ?_)
  refine wpAnyH_take (i := 0) (v := ?v0x1z) (by simp only [List.getElem?_toArray, List.getElem?_cons_zero]; exact rfl) (by kernel_rfl) (by kernel_rfl) (by kernel_rfl) (by exact fun _ _ _ h => h) (Or.inl ⟨by rfl, ?y0x1z⟩) hS ?r0x1z
  case y0x1z => (intro w' hSw; (try dsimp only at hSw); go_simp; (try with_reducible rfl))
  simp only [Act.put, List.setIfInBounds_toArray, List.set_cons_zero, List.set_cons_succ]
  refine wpAnyH_take (i := 1) (v := ?v1x2z) (by simp only [List.getElem?_toArray, List.getElem?_cons_zero, List.getElem?_cons_succ]; exact rfl) (by kernel_rfl) (by kernel_rfl) (by kernel_rfl) (by exact fun _ _ _ h => h) (Or.inl ⟨by rfl, ?y1x2z⟩) hS ?r1x2z
  case y1x2z => (intro w' hSw; (try dsimp only at hSw); go_simp; (try with_reducible rfl))
  simp only [Act.put, List.setIfInBounds_toArray, List.set_cons_zero, List.set_cons_succ]
  refine wpAnyH_take (i := 2) (v := ?v2x3z) (by simp only [List.getElem?_toArray, List.getElem?_cons_zero, List.getElem?_cons_succ]; exact rfl) (by kernel_rfl) (by kernel_rfl) (by kernel_rfl) (by exact fun _ _ _ h => h) (Or.inl ⟨by rfl, ?y2x3z⟩) hS ?r2x3z
  case y2x3z => (intro w' hSw; (try dsimp only at hSw); go_simp; (try with_reducible rfl))
  simp only [Act.put, List.setIfInBounds_toArray, List.set_cons_zero, List.set_cons_succ]
  refine wpAnyH_take (i := 3) (v := ?v3x4z) (by simp only [List.getElem?_toArray, List.getElem?_cons_zero, List.getElem?_cons_succ]; exact rfl) (by kernel_rfl) (by kernel_rfl) (by kernel_rfl) (by exact fun _ _ _ h => h) (Or.inl ⟨by rfl, ?y3x4z⟩) hS ?r3x4z
  case y3x4z => (intro w' hSw; (try dsimp only at hSw); go_simp; (try with_reducible rfl))
  simp only [Act.put, List.setIfInBounds_toArray, List.set_cons_zero, List.set_cons_succ]
  refine wpAnyH_take (i := 4) (v := ?v4x5z) (by simp only [List.getElem?_toArray, List.getElem?_cons_zero, List.getElem?_cons_succ]; exact rfl) (by kernel_rfl) (by kernel_rfl) (by kernel_rfl) (by exact fun _ _ _ h => h) (Or.inl ⟨by rfl, ?y4x5z⟩) hS ?r4x5z
  case y4x5z => (intro w' hSw; (try dsimp only at hSw); go_simp; (try with_reducible rfl))
  simp only [Act.put, List.setIfInBounds_toArray, List.set_cons_zero, List.set_cons_succ]
  refine wpAnyH_ready (rs := [5]) (by kernel_rfl) (by simp) ?_
  refine AllReadyH.cons (by simp only [List.getElem?_toArray, List.getElem?_cons_zero, List.getElem?_cons_succ]; exact rfl) (fun K hK => ?_) AllReadyH.nil
  go_simp
  refine ((H.out.below (Below.refl _ _).drew).log_blank i (set_mid HI.out) (f : Nat) (t : Nat) (gen' : Nat) (by omega)).mono ?_
  rintro e w7 ⟨rfl, h7⟩
  rw [set_twice' HI.out] at h7
  have H7 := hid h7
  obtain ⟨vl', hvb'⟩ := H7.out.vault j (set_beside HJ.out hij)
  have hb0 := hvb'.cell (j := 0) rfl
  have hb1 := (H7.out.blk (As.length + 0) (set_post 0 rfl)).cell (j := 0) rfl
  have hb2 := H7.out.blk (As.length + 4) (set_post 4 rfl)
  unfold ptr at hb0 hb1
  have hS7 := And.intro hb1 (And.intro hb0 (And.intro (hb2.cell (j := 0) rfl) (And.intro (hb2.cell (j := 1) rfl) (hb2.cell (j := 2) rfl))))
  clear h7 hvb' hb0 hb1 hb2
  refine hK.out _ _ ?k5x6z (fun hS => ?s5x6z)
  case k5x6z => exact hS7
  clear hK K
  try simp only [Act.put, List.setIfInBounds_toArray, List.set_cons_zero, List.set_cons_succ]
  refine wpAnyH_take (i := 6) (v := ?v6x7z) (by simp only [List.getElem?_toArray, List.getElem?_cons_zero, List.getElem?_cons_succ]; exact rfl) (by kernel_rfl) (by kernel_rfl) (by kernel_rfl) (by exact fun _ _ _ h => h) (Or.inl ⟨by rfl, ?y6x7z⟩) hS ?r6x7z
  case y6x7z => (intro w' hSw; (try dsimp only at hSw); go_simp; (try with_reducible rfl))
  simp only [Act.put, List.setIfInBounds_toArray, List.set_cons_zero, List.set_cons_succ]
  refine wpAnyH_done (by kernel_rfl) ?_ _
  go_wp2
  go_ret
  exact ⟨rfl, H7.out⟩
theorem St.v_counts {B : Nat} {w0 w : World} {As : List Asset} {a : Nat} {d : Dev} (h : St B w0 w As) (i : Nat) (hi : As[i]? = some (dev a d)) (gen : Nat) (hg : gen ≤ 2147483648) (hlo : d.loose.length ≤ 1073741824) :
    Calls Try.prog 144 #[ptr a, .int .i64 gen] w fun e w' => e = .returned (.int .i64 (countsD d gen).1) ∧ St B w0 w' (As.set i (dev a (countsD d gen).2)) := vcounts_any h i hi gen hg hlo
set_option maxRecDepth 100000 in
set_option maxHeartbeats 1000000 in
theorem vmoves3 {B : Nat} {w0 w : World} {As : List Asset} {a : Nat} {d : Dev} (i : Nat) (hi : As[i]? = some (dev a d)) (j v gen : Nat) (next : Int) (br : Bool) (Lv : List (List UInt8)) (hj : As[j]? = some (vaultA v a gen next br Lv)) (hij : i ≠ j) (bv bl bg bt ba : Nat) (lo : Option Addr) (len c gen' : Nat) (f t : Nat) (Y : List Asset) (hg : gen' ≤ 2147483648) (p : Int) (s : Dev) (h : St B w0 w (As.set i (dev a s) ++ mvX bv bl bg bt ba v lo len c gen' p f t Y)) (hlo : s.loose.length ≤ 1073000000) :
    Calls Try.prog 153 #[ptr bv, ptr bg] w fun e w' => e = .returned (.int .i64 (countsD s gen').1) ∧ St B w0 w' (As.set i (dev a (countsD s gen').2) ++ mvX bv bl bg bt ba v lo len c gen' p f t Y) := by
  obtain ⟨vl, hvb⟩ := h.vault j (set_beside hj hij)
  have cv := hvb.cell (j := 0) rfl
  have cb := (h.blk (As.length + 0) (set_post 0 rfl)).cell (j := 0) rfl
  have hba := h.blk (As.length + 4) (set_post 4 rfl)
  have ca0 := hba.cell (j := 0) rfl
  have ca1 := hba.cell (j := 1) rfl
  have ca2 := hba.cell (j := 2) rfl
  have cg := (h.blk (As.length + 2) (set_post 2 rfl)).cell (j := 0) rfl
  unfold ptr at cb cv
  have H := hid h; have HI := hid hi; have HJ := hid hj
  clear h hi hj hvb hba ca0 ca1 ca2
  unfold ptr
  go_enter Try.func153, Try.ntmps153
  go_upto_region 1 with fail
  refine wp_region_held_drew (S := fun w' => w'.cell? ⟨bv, 0, none⟩ = some (.pointer (some ⟨v, 0, none⟩)) ∧ w'.cell? ⟨v, 0, none⟩ = some (.pointer (some ⟨a, 0, none⟩)) ∧ w'.cell? ⟨bg, 0, none⟩ = some (.int .i64 (gen' : Nat))) (by kernel_rfl) ⟨cb, cv, cg⟩ (fun hS => ?_)
  refine wpAnyH_take (i := 0) (v := ?v0x1z) (by simp only [List.getElem?_toArray, List.getElem?_cons_zero]; exact rfl) (by kernel_rfl) (by kernel_rfl) (by kernel_rfl) (by exact fun _ _ _ h => h) (Or.inl ⟨by rfl, ?y0x1z⟩) hS ?r0x1z
  case y0x1z => (intro w' hSw; (try dsimp only at hSw); go_simp; (try with_reducible rfl))
  simp only [Act.put, List.setIfInBounds_toArray, List.set_cons_zero, List.set_cons_succ]
  refine wpAnyH_take (i := 1) (v := ?v1x2z) (by simp only [List.getElem?_toArray, List.getElem?_cons_zero, List.getElem?_cons_succ]; exact rfl) (by kernel_rfl) (by kernel_rfl) (by kernel_rfl) (by exact fun _ _ _ h => h) (Or.inl ⟨by rfl, ?y1x2z⟩) hS ?r1x2z
  case y1x2z => (intro w' hSw; (try dsimp only at hSw); go_simp; (try with_reducible rfl))
  simp only [Act.put, List.setIfInBounds_toArray, List.set_cons_zero, List.set_cons_succ]
  refine wpAnyH_take (i := 2) (v := ?v2x3z) (by simp only [List.getElem?_toArray, List.getElem?_cons_zero, List.getElem?_cons_succ]; exact rfl) (by kernel_rfl) (by kernel_rfl) (by kernel_rfl) (by exact fun _ _ _ h => h) (Or.inl ⟨by rfl, ?y2x3z⟩) hS ?r2x3z
  case y2x3z => (intro w' hSw; (try dsimp only at hSw); go_simp; (try with_reducible rfl))
  simp only [Act.put, List.setIfInBounds_toArray, List.set_cons_zero, List.set_cons_succ]
  refine wpAnyH_take (i := 3) (v := ?v3x4z) (by simp only [List.getElem?_toArray, List.getElem?_cons_zero, List.getElem?_cons_succ]; exact rfl) (by kernel_rfl) (by kernel_rfl) (by kernel_rfl) (by exact fun _ _ _ h => h) (Or.inl ⟨by rfl, ?y3x4z⟩) hS ?r3x4z
  case y3x4z => (intro w' hSw; (try dsimp only at hSw); go_simp; (try with_reducible rfl))
  simp only [Act.put, List.setIfInBounds_toArray, List.set_cons_zero, List.set_cons_succ]
  refine wpAnyH_take (i := 4) (v := ?v4x5z) (by simp only [List.getElem?_toArray, List.getElem?_cons_zero, List.getElem?_cons_succ]; exact rfl) (by kernel_rfl) (by kernel_rfl) (by kernel_rfl) (by exact fun _ _ _ h => h) (Or.inl ⟨by rfl, ?y4x5z⟩) hS ?r4x5z
  case y4x5z => (intro w' hSw; (try dsimp only at hSw); go_simp; (try with_reducible rfl))
  simp only [Act.put, List.setIfInBounds_toArray, List.set_cons_zero, List.set_cons_succ]
  refine wpAnyH_ready (rs := [5]) (by kernel_rfl) (by simp) ?_
  refine AllReadyH.cons (by simp only [List.getElem?_toArray, List.getElem?_cons_zero, List.getElem?_cons_succ]; exact rfl) (fun K hK => ?_) AllReadyH.nil
  go_simp
  refine ((H.out.below (Below.refl _ _).drew).v_counts i (set_mid HI.out) gen' hg (by omega)).mono ?_
  rintro e w7 ⟨rfl, h7⟩
  rw [set_twice' HI.out] at h7
  have H7 := hid h7
  obtain ⟨vl', hvb'⟩ := H7.out.vault j (set_beside HJ.out hij)
  have hb0 := hvb'.cell (j := 0) rfl
  have hb1 := (H7.out.blk (As.length + 0) (set_post 0 rfl)).cell (j := 0) rfl
  have hb2 := H7.out.blk (As.length + 2) (set_post 2 rfl)
  unfold ptr at hb0 hb1
  have hS7 := And.intro hb1 (And.intro hb0 (hb2.cell (j := 0) rfl))
  clear h7 hvb' hb0 hb1 hb2
  refine hK.out _ _ ?k5x6z (fun hS => ?s5x6z)
  case k5x6z => exact hS7
  clear hK K
  try simp only [Act.put, List.setIfInBounds_toArray, List.set_cons_zero, List.set_cons_succ]
  refine wpAnyH_take (i := 6) (v := ?v6x7z) (by simp only [List.getElem?_toArray, List.getElem?_cons_zero, List.getElem?_cons_succ]; exact rfl) (by kernel_rfl) (by kernel_rfl) (by kernel_rfl) (by exact fun _ _ _ h => h) (Or.inl ⟨by rfl, ?y6x7z⟩) hS ?r6x7z
  case y6x7z => (intro w' hSw; (try dsimp only at hSw); go_simp; (try with_reducible rfl))
  simp only [Act.put, List.setIfInBounds_toArray, List.set_cons_zero, List.set_cons_succ]
  refine wpAnyH_done (by kernel_rfl) ?_ _
  go_wp2
  go_ret
  exact ⟨rfl, H7.out⟩
set_option maxRecDepth 100000 in
set_option maxHeartbeats 2000000 in
theorem vmoves1 {B : Nat} {w0 w : World} {As : List Asset} {a : Nat} {d : Dev} (i : Nat) (hi : As[i]? = some (dev a d)) (j v gen : Nat) (next : Int) (br : Bool) (Lv : List (List UInt8)) (hj : As[j]? = some (vaultA v a gen next br Lv)) (hij : i ≠ j) (bv bl bg bt ba : Nat) (lo : Option Addr) (len c gen' : Nat) (f t : Nat) (Y : List Asset) (p0 : Int) (hp0 : 0 ≤ p0 ∧ p0 ≤ 65536) (L : List (List UInt8)) (hlen : len = L.length) (hl1 : len ≤ 1000) (hL : LentI B w0 As i lo L) (hl2 : ∀ l ∈ L, l.length ≤ 1073741824) (s : Dev) (h : St B w0 w (As.set i (dev a s) ++ mvX bv bl bg bt ba v lo len c gen' p0 f t Y)) (hlo : s.loose.length ≤ 500000000) :
    Calls Try.prog 151 #[ptr bl, ptr bv, ptr ba, ptr bt] w fun e w' => e = .returned (.int .i64 (recsD (f : Nat) (t : Nat) (gen' : Nat) L p0 s).1) ∧ St B w0 w' (As.set i (dev a (recsD (f : Nat) (t : Nat) (gen' : Nat) L p0 s).2.1) ++ mvX bv bl bg bt ba v lo len c gen' (recsD (f : Nat) (t : Nat) (gen' : Nat) L p0 s).2.2 f t Y) := by
  have cl := (h.blk (As.length + 1) (set_post 1 rfl)).cell (j := 0) rfl
  have hok := (h.ok i (set_mid hi)).len
  have H := hid h; have HI := hid hi; have HJ := hid hj; have HL := hid hL; have HLEN := hid hlen; have HL2 := hid hl2
  obtain ⟨n, hn⟩ : ∃ n, s.img.length = n := ⟨_, rfl⟩
  have HN := hid hn
  rw [hn] at hok
  clear h hi hj hL hlen hl2 hn
  unfold ptr
  go_enter Try.func151, Try.ntmps151
  go_wp2_with fail
  go_loopw [11] (fun x wr => ∃ (k : Nat) (p : Int) (dk : Dev), k ≤ len ∧ x = .int .i64 k ∧ (0 ≤ p ∧ p ≤ 65536) ∧ dk.loose.length ≤ s.loose.length + k * n ∧ dk.img.length = n ∧ recsD (f : Nat) (t : Nat) (gen' : Nat) L p0 s = recsD (f : Nat) (t : Nat) (gen' : Nat) (L.drop k) p dk ∧ St B w0 wr (As.set i (dev a dk) ++ mvX bv bl bg bt ba v lo len c gen' p f t Y)) (fun x _ => len - (intOf x).toNat)
  case atStart => exact ⟨0, p0, s, Nat.zero_le _, rfl, hp0, by omega, HN.out, rfl, H.out⟩
  case round =>
    obtain ⟨k, p, dk, hk, rfl, hp, hlk, hik, hrec, hs⟩ := hrel
    have HREC := hid hrec; have H := hid hs
    clear hrec hs
    have hkn : k * n ≤ 1000 * 65536 := Nat.mul_le_mul (by omega) hok
    by_cases hlt : k < len
    · obtain ⟨r, hr⟩ : ∃ r, L[k]? = some r := ⟨_, List.getElem?_eq_getElem (by rw [← HLEN.out]; exact hlt)⟩
      have hrm := HL2.out r (List.mem_of_getElem? hr)
      obtain ⟨b, o, ro, rc, rfl, cr, hw⟩ := H.out.log_writeL i (set_mid HI.out) (HL.out.set (dev a dk)).app (f : Nat) (t : Nat) (gen' : Nat) p k r hr (by omega) (by omega) (by omega)
      have HR := hid hr; have HW := hid hw
      have hdrop : L.drop k = r :: L.drop (k + 1) := by
        have hkl : k < L.length := (List.getElem?_eq_some_iff.1 hr).1
        rw [List.drop_eq_getElem_cons hkl, (List.getElem?_eq_some_iff.1 hr).2]
      have HD := hid hdrop
      clear hr hw hdrop
      obtain ⟨q, hq⟩ : ∃ q, r.length = q := ⟨_, rfl⟩
      rw [hq] at cr hrm HW
      clear hq
      obtain ⟨vl, hvb⟩ := H.out.vault j (set_beside HJ.out hij)
      have cv := hvb.cell (j := 0) rfl
      have cb := (H.out.blk (As.length + 0) (set_post 0 rfl)).cell (j := 0) rfl
      have hba := H.out.blk (As.length + 4) (set_post 4 rfl)
      have ca0 := hba.cell (j := 0) rfl
      have ca1 := hba.cell (j := 1) rfl
      have ca2 := hba.cell (j := 2) rfl
      have ct := (H.out.blk (As.length + 3) (set_post 3 rfl)).cell (j := 0) rfl
      unfold ptr at cb cv
      clear hvb hba
      go_upto_region 4 with fail
      refine wp_region_held_drew (S := fun w' => w'.cell? ⟨bv, 0, none⟩ = some (.pointer (some ⟨v, 0, none⟩)) ∧ w'.cell? ⟨v, 0, none⟩ = some (.pointer (some ⟨a, 0, none⟩)) ∧ w'.cell? ⟨ba, 0, none⟩ = some (.int .i64 (f : Nat)) ∧ w'.cell? ⟨ba, 1, none⟩ = some (.int .i64 (t : Nat)) ∧ w'.cell? ⟨ba, 2, none⟩ = some (.int .i64 (gen' : Nat)) ∧ w'.cell? ⟨bt, 0, none⟩ = some (.int .i64 p)) (by kernel_rfl) ⟨cb, cv, ca0, ca1, ca2, ct⟩ (fun hS => ?_)
      refine wpAnyH_take (i := 0) (v := ?v0x1z) (by simp only [List.getElem?_toArray, List.getElem?_cons_zero]; exact rfl) (by kernel_rfl) (by kernel_rfl) (by kernel_rfl) (by exact fun _ _ _ h => h) (Or.inl ⟨by rfl, ?y0x1z⟩) hS ?r0x1z
      case y0x1z => (intro w' hSw; (try dsimp only at hSw); go_simp; (try with_reducible rfl))
      simp only [Act.put, List.setIfInBounds_toArray, List.set_cons_zero, List.set_cons_succ]
      refine wpAnyH_take (i := 1) (v := ?v1x2z) (by simp only [List.getElem?_toArray, List.getElem?_cons_zero, List.getElem?_cons_succ]; exact rfl) (by kernel_rfl) (by kernel_rfl) (by kernel_rfl) (by exact fun _ _ _ h => h) (Or.inl ⟨by rfl, ?y1x2z⟩) hS ?r1x2z
      case y1x2z => (intro w' hSw; (try dsimp only at hSw); go_simp; (try with_reducible rfl))
      simp only [Act.put, List.setIfInBounds_toArray, List.set_cons_zero, List.set_cons_succ]
      refine wpAnyH_take (i := 2) (v := ?v2x3z) (by simp only [List.getElem?_toArray, List.getElem?_cons_zero, List.getElem?_cons_succ]; exact rfl) (by kernel_rfl) (by kernel_rfl) (by kernel_rfl) (by exact fun _ _ _ h => h) (Or.inl ⟨by rfl, ?y2x3z⟩) hS ?r2x3z
      case y2x3z => (intro w' hSw; (try dsimp only at hSw); go_simp; (try with_reducible rfl))
      simp only [Act.put, List.setIfInBounds_toArray, List.set_cons_zero, List.set_cons_succ]
      refine wpAnyH_take (i := 3) (v := ?v3x4z) (by simp only [List.getElem?_toArray, List.getElem?_cons_zero, List.getElem?_cons_succ]; exact rfl) (by kernel_rfl) (by kernel_rfl) (by kernel_rfl) (by exact fun _ _ _ h => h) (Or.inl ⟨by rfl, ?y3x4z⟩) hS ?r3x4z
      case y3x4z => (intro w' hSw; (try dsimp only at hSw); go_simp; (try with_reducible rfl))
      simp only [Act.put, List.setIfInBounds_toArray, List.set_cons_zero, List.set_cons_succ]
      refine wpAnyH_take (i := 4) (v := ?v4x5z) (by simp only [List.getElem?_toArray, List.getElem?_cons_zero, List.getElem?_cons_succ]; exact rfl) (by kernel_rfl) (by kernel_rfl) (by kernel_rfl) (by exact fun _ _ _ h => h) (Or.inl ⟨by rfl, ?y4x5z⟩) hS ?r4x5z
      case y4x5z => (intro w' hSw; (try dsimp only at hSw); go_simp; (try with_reducible rfl))
      simp only [Act.put, List.setIfInBounds_toArray, List.set_cons_zero, List.set_cons_succ]
      refine wpAnyH_take (i := 5) (v := ?v5x6z) (by simp only [List.getElem?_toArray, List.getElem?_cons_zero, List.getElem?_cons_succ]; exact rfl) (by kernel_rfl) (by kernel_rfl) (by kernel_rfl) (by exact fun _ _ _ h => h) (Or.inl ⟨by rfl, ?y5x6z⟩) hS ?r5x6z
      case y5x6z => (intro w' hSw; (try dsimp only at hSw); go_simp; (try with_reducible rfl))
      simp only [Act.put, List.setIfInBounds_toArray, List.set_cons_zero, List.set_cons_succ]
      refine wpAnyH_take (i := 6) (v := ?v6x7z) (by simp only [List.getElem?_toArray, List.getElem?_cons_zero, List.getElem?_cons_succ]; exact rfl) (by kernel_rfl) (by kernel_rfl) (by kernel_rfl) (by exact fun _ _ _ h => h) (Or.inl ⟨by rfl, ?y6x7z⟩) hS ?r6x7z
      case y6x7z => (intro w' hSw; (try dsimp only at hSw); go_simp; (try with_reducible rfl))
      simp only [Act.put, List.setIfInBounds_toArray, List.set_cons_zero, List.set_cons_succ]
      refine wpAnyH_ready (rs := [7]) (by kernel_rfl) (by simp) ?_
      refine AllReadyH.cons (by simp only [List.getElem?_toArray, List.getElem?_cons_zero, List.getElem?_cons_succ]; exact rfl) (fun K hK => ?_) AllReadyH.nil
      go_simp
      refine (HW.out _ (Below.refl _ _).drew).mono ?_
      rintro e w7 ⟨rfl, h7⟩
      rw [set_twice' HI.out] at h7
      have H7 := hid h7
      obtain ⟨vl', hvb'⟩ := H7.out.vault j (set_beside HJ.out hij)
      have hb0 := hvb'.cell (j := 0) rfl
      have hb1 := (H7.out.blk (As.length + 0) (set_post 0 rfl)).cell (j := 0) rfl
      have hb2 := H7.out.blk (As.length + 4) (set_post 4 rfl)
      unfold ptr at hb0 hb1
      have hS7 := And.intro hb1 (And.intro hb0 (And.intro (hb2.cell (j := 0) rfl) (And.intro (hb2.cell (j := 1) rfl) (And.intro (hb2.cell (j := 2) rfl) ((H7.out.blk (As.length + 3) (set_post 3 rfl)).cell (j := 0) rfl)))))
      clear h7 hvb' hb0 hb1 hb2
      refine hK.out _ _ ?k7x8z (fun hS => ?s7x8z)
      case k7x8z => exact hS7
      clear hK K
      try simp only [Act.put, List.setIfInBounds_toArray, List.set_cons_zero, List.set_cons_succ]
      refine wpAnyH_take (i := 8) (v := ?v8x9z) (by simp only [List.getElem?_toArray, List.getElem?_cons_zero, List.getElem?_cons_succ]; exact rfl) (by kernel_rfl) (by kernel_rfl) (by kernel_rfl) (by exact fun _ _ _ h => h) (Or.inl ⟨by rfl, ?y8x9z⟩) hS ?r8x9z
      case y8x9z => (intro w' hSw; (try dsimp only at hSw); go_simp; (try with_reducible rfl))
      simp only [Act.put, List.setIfInBounds_toArray, List.set_cons_zero, List.set_cons_succ]
      refine wpAnyH_take (i := 9) (v := ?v9x10z) (by simp only [List.getElem?_toArray, List.getElem?_cons_zero, List.getElem?_cons_succ]; exact rfl) (by kernel_rfl) (by kernel_rfl) (by kernel_rfl) (by exact fun _ _ _ h => h) (Or.inl ⟨by rfl, ?y9x10z⟩) hS ?r9x10z
      case y9x10z => (intro w' hSw; (try dsimp only at hSw); go_simp; (try with_reducible rfl))
      simp only [Act.put, List.setIfInBounds_toArray, List.set_cons_zero, List.set_cons_succ]
      refine wpAnyH_take (i := 10) (v := ?v10x11z) (by simp only [List.getElem?_toArray, List.getElem?_cons_zero, List.getElem?_cons_succ]; exact rfl) (by kernel_rfl) (by kernel_rfl) (by kernel_rfl) (by exact fun _ _ _ h => h) (Or.inl ⟨by rfl, ?y10x11z⟩) hS ?r10x11z
      case y10x11z => (intro w' hSw; (try dsimp only at hSw); go_simp; (try with_reducible rfl))
      simp only [Act.put, List.setIfInBounds_toArray, List.set_cons_zero, List.set_cons_succ]
      refine wpAnyH_take (i := 11) (v := ?v11x12z) (by simp only [List.getElem?_toArray, List.getElem?_cons_zero, List.getElem?_cons_succ]; exact rfl) (by kernel_rfl) (by kernel_rfl) (by kernel_rfl) (by exact fun _ _ _ h => h) (Or.inl ⟨by rfl, ?y11x12z⟩) hS ?r11x12z
      case y11x12z => (intro w' hSw; (try dsimp only at hSw); go_simp; (try with_reducible rfl))
      simp only [Act.put, List.setIfInBounds_toArray, List.set_cons_zero, List.set_cons_succ]
      refine wpAnyH_take (i := 12) (v := ?v12x13z) (by simp only [List.getElem?_toArray, List.getElem?_cons_zero, List.getElem?_cons_succ]; exact rfl) (by kernel_rfl) (by kernel_rfl) (by kernel_rfl) (by exact fun _ _ _ h => h) (Or.inl ⟨by rfl, ?y12x13z⟩) hS ?r12x13z
      case y12x13z => (intro w' hSw; (try dsimp only at hSw); go_simp; (try with_reducible rfl))
      simp only [Act.put, List.setIfInBounds_toArray, List.set_cons_zero, List.set_cons_succ]
      refine wpAnyH_done (by kernel_rfl) ?_ _
      generalize hx : logWrite dk (f : Nat) (t : Nat) (gen' : Nat) p r = x at H7
      obtain ⟨⟨nx, ex⟩, dx⟩ := x
      have HX := hid hx
      clear hx hS hS7
      dsimp only at H7 ⊢
      by_cases hex : ex = 0
      · subst hex
        have hnx := logWrite_next (d := dk) (f := (f : Nat)) (t := (t : Nat)) (g := (gen' : Nat)) (p := p) (r := r) (by rw [HX.out])
        rw [HX.out] at hnx
        have hlx := lwrite_loose dk (f : Nat) (t : Nat) (gen' : Nat) p r
        rw [HX.out] at hlx
        dsimp only at hnx hlx
        have hsm : (k + 1) * n = k * n + n := Nat.succ_mul k n
        have hnb : 0 ≤ nx ∧ nx ≤ 65536 := by omega
        have hlb : dx.loose.length ≤ s.loose.length + (k + 1) * n := by omega
        have hib : Hid (dx.img.length = n) := hid (by omega)
        have HR2 : Hid (recsD (f : Nat) (t : Nat) (gen' : Nat) L p0 s = recsD (f : Nat) (t : Nat) (gen' : Nat) (L.drop (k + 1)) nx dx) := hid (by rw [HREC.out, HD.out, recsD, HX.out, if_pos rfl])
        clear hnx hlx hsm
        have ct := (H7.out.blk (As.length + 3) (set_post 3 rfl)).cell (j := 0) rfl
        have ft := (H7.out.blk (As.length + 3) (set_post 3 rfl)).free 0
        go_wp2_with fail
        have h8 := H7.out.blkTurn (As.length + 3) (set_post 3 rfl) ((Keep.refl (fun k => k = bt) w7).setCell (p := ⟨bt, 0, none⟩) rfl (.int .i64 nx)) ((H7.out.blk (As.length + 3) (set_post 3 rfl)).set 0 (.int .i64 nx))
        rw [set_postTurn] at h8
        have H8 : Hid (St B w0 (w7.setCell ⟨bt, 0, none⟩ (.int .i64 nx)) (As.set i (dev a dx) ++ mvX bv bl bg bt ba v (some ⟨b, o, none⟩) len c gen' nx f t Y)) := hid h8
        clear h8 ct ft
        go_roundw
        case rel => exact ⟨k + 1, nx, dx, by omega, by go_num, hnb, hlb, hib.out, HR2.out, H8.out⟩
        case measure => simp [intOf]; omega
      · have hne : (ex != 0) = true := by simpa using hex
        have hnz := hid hex
        clear hex
        have HR2 : Hid (recsD (f : Nat) (t : Nat) (gen' : Nat) L p0 s = (ex, dx, p)) := hid (by rw [HREC.out, HD.out, recsD, HX.out, if_neg hnz.out])
        go_wp2
        go_ret
        rw [HR2.out]
        exact ⟨rfl, H7.out⟩
    · obtain rfl : k = len := by omega
      have HR2 : Hid (recsD (f : Nat) (t : Nat) (gen' : Nat) L p0 s = (0, dk, p)) := hid (by rw [HREC.out, List.drop_of_length_le (by rw [HLEN.out]; exact Nat.le_refl _), recsD])
      go_wp2
      go_ret
      rw [HR2.out]
      exact ⟨rfl, H.out⟩
end Go.Proofs.Ytlondopgibcikaa
namespace Go.Proofs.Ytlondopgibcikaa
open Go.RowKit Ent
/-- what moves does, one behind the other -/
def movesFs (f t gen : Nat) (L : List (List UInt8)) (k : Nat) (s : Dev × Int) : Int × (Dev × Int) :=
  if k = 0 then ((blankOf s.1 (f : Nat) (t : Nat) (gen : Nat)).1, ((blankOf s.1 (f : Nat) (t : Nat) (gen : Nat)).2, s.2))
  else if k = 1 then recsD (f : Nat) (t : Nat) (gen : Nat) L s.2 s.1
  else if k = 2 then (s.1.flush.1, (s.1.flush.2, s.2))
  else ((countsD s.1 gen).1, ((countsD s.1 gen).2, s.2))
def movesD (d : Dev) (gen : Nat) (L : List (List UInt8)) : Int × (Dev × Int) := seqOf (movesFs (fromOf d.img.length gen) (fromOf d.img.length gen + halfOf d.img.length) gen L) 0 4 (d, 0)
theorem movesFs_loose (f t gen : Nat) (L : List (List UInt8)) (k : Nat) (s : Dev × Int) : (movesFs f t gen L k s).2.1.loose.length ≤ s.1.loose.length + (L.length + 1) * s.1.img.length + 1 ∧ (movesFs f t gen L k s).2.1.img.length = s.1.img.length := by
  have hm : (L.length + 1) * s.1.img.length = L.length * s.1.img.length + s.1.img.length := Nat.succ_mul _ _
  unfold movesFs
  split
  · have := blank_loose s.1 (f : Nat) (t : Nat) (gen : Nat); exact ⟨by show _ ≤ _; simp only; omega, this.2⟩
  · split
    · have := recsD_loose (f : Nat) (t : Nat) (gen : Nat) L s.2 s.1; exact ⟨by omega, this.2⟩
    · split
      · have := flush_loose s.1; exact ⟨by simp only; omega, this.2⟩
      · have := counts_loose s.1 gen; exact ⟨by simp only; omega, this.2⟩
theorem seqOf_loose {S : Type} (fs : Nat → S → Int × S) (m : S → Nat) (g : S → Nat) (K : Nat) (h : ∀ k s, m (fs k s).2 ≤ m s + K ∧ g (fs k s).2 = g s) : ∀ (n k : Nat) (s : S), m (seqOf fs k n s).2 ≤ m s + n * K ∧ g (seqOf fs k n s).2 = g s
  | 0, k, s => ⟨by simp [seqOf], rfl⟩
  | n + 1, k, s => by
    have h1 := h k s
    have h2 := seqOf_loose fs m g K h n (k + 1) (fs k s).2
    have h3 : (n + 1) * K = n * K + K := Nat.succ_mul n K
    unfold seqOf
    simp only
    split
    · exact ⟨by omega, by rw [h2.2, h1.2]⟩
    · exact ⟨by omega, h1.2⟩
theorem enter_m1 (xs : Array Value) (w : World) : (callFunc 151 xs).run Try.prog w = .ok (.enter 151 xs) w := by kernel_rfl
theorem enter_m2 (xs : Array Value) (w : World) : (callFunc 152 xs).run Try.prog w = .ok (.enter 152 xs) w := by kernel_rfl
theorem enter_m3 (xs : Array Value) (w : World) : (callFunc 153 xs).run Try.prog w = .ok (.enter 153 xs) w := by kernel_rfl
def mvIds (k : Nat) : FuncId := if k = 0 then 152 else if k = 1 then 151 else if k = 2 then 41 else 153
theorem vmoves_all {B : Nat} {w0 w : World} {As : List Asset} {a : Nat} {d : Dev} (i : Nat) (hi : As[i]? = some (dev a d)) (j v gen : Nat) (next : Int) (br : Bool) (Lv : List (List UInt8)) (hj : As[j]? = some (vaultA v a gen next br Lv)) (hij : i ≠ j) (bv bl bg bt ba g : Nat) (lo : Option Addr) (len c gen' : Nat) (f t : Nat) (L : List (List UInt8)) (hlen : len = L.length) (hl1 : len ≤ 1000) (hL : LentI B w0 As i lo L) (hl2 : ∀ l ∈ L, l.length ≤ 1073741824) (hg : gen' ≤ 2147483648)
    (h : St B w0 w (As.set i (dev a d) ++ mvX bv bl bg bt ba v lo len c gen' 0 f t [blkA g 46 [.func (.func 152) #[] #[ptr bv, ptr ba], .func (.func 151) #[] #[ptr bl, ptr bv, ptr ba, ptr bt], .func (.func 41) #[ptr a] #[], .func (.func 153) #[] #[ptr bv, ptr bg]]])) (hlo : d.loose.length ≤ 100000000) :
    Calls Try.prog 125 #[.slice (some ⟨g, 0, none⟩) 4 4] w fun e w' => e = .returned (.int .i64 (seqOf (movesFs f t gen' L) 0 4 (d, 0)).1) ∧ St B w0 w' (As.set i (dev a (seqOf (movesFs f t gen' L) 0 4 (d, 0)).2.1) ++ mvX bv bl bg bt ba v lo len c gen' (seqOf (movesFs f t gen' L) 0 4 (d, 0)).2.2 f t [blkA g 46 [.func (.func 152) #[] #[ptr bv, ptr ba], .func (.func 151) #[] #[ptr bl, ptr bv, ptr ba, ptr bt], .func (.func 41) #[ptr a] #[], .func (.func 153) #[] #[ptr bv, ptr bg]]]) := by
  have hok := (h.ok i (set_mid hi)).len
  have hK : (L.length + 1) * d.img.length + 1 ≤ 65700000 := by
    have : (L.length + 1) * d.img.length ≤ 1001 * 65536 := Nat.mul_le_mul (by omega) hok
    omega
  refine vall_seq (S := Dev × Int) (fun s w => St B w0 w (As.set i (dev a s.1) ++ mvX bv bl bg bt ba v lo len c gen' s.2 f t [blkA g 46 [.func (.func 152) #[] #[ptr bv, ptr ba], .func (.func 151) #[] #[ptr bl, ptr bv, ptr ba, ptr bt], .func (.func 41) #[ptr a] #[], .func (.func 153) #[] #[ptr bv, ptr bg]]])) (fun k s => (k < 2 → s.2 = 0) ∧ s.1.loose.length ≤ d.loose.length + k * 65700000 ∧ s.1.img.length = d.img.length) (movesFs f t gen' L) g 4 (by omega) mvIds (fun k => if k = 2 then #[ptr a] else #[]) (fun k => if k = 0 then #[ptr bv, ptr ba] else if k = 1 then #[ptr bl, ptr bv, ptr ba, ptr bt] else if k = 2 then #[] else #[ptr bv, ptr bg]) ?_ ?_ ?_ w (d, 0) h ⟨fun _ => rfl, by simp only; omega, rfl⟩
  · intro k s w' hk hs
    have := hs.blk (As.length + 5) (set_post 5 rfl)
    rcases (by omega : k = 0 ∨ k = 1 ∨ k = 2 ∨ k = 3) with rfl | rfl | rfl | rfl
    · exact this.cell (j := 0) rfl
    · exact this.cell (j := 1) rfl
    · exact this.cell (j := 2) rfl
    · exact this.cell (j := 3) rfl
  · intro k s w' hk hq hs
    have hl := movesFs_loose f t gen' L k s
    rw [hq.2.2] at hl
    have hlo' : s.1.loose.length ≤ 500000000 := by have := hq.2.1; omega
    have hq2 : (movesFs f t gen' L k s).2.1.loose.length ≤ d.loose.length + (k + 1) * 65700000 ∧ (movesFs f t gen' L k s).2.1.img.length = d.img.length := ⟨by have := hq.2.1; omega, hl.2⟩
    obtain ⟨s1, s2⟩ := s
    rcases (by omega : k = 0 ∨ k = 1 ∨ k = 2 ∨ k = 3) with rfl | rfl | rfl | rfl
    · refine (vmoves2 i hi j v gen next br Lv hj hij bv bl bg bt ba lo len c gen' f t _ s2 s1 hs (by dsimp only at hlo'; omega)).mono ?_
      rintro e w2 ⟨rfl, h2⟩
      exact ⟨rfl, h2, fun _ => ⟨fun _ => hq.1 (by omega), hq2⟩⟩
    · obtain rfl := hq.1 (by omega)
      refine (vmoves1 i hi j v gen next br Lv hj hij bv bl bg bt ba lo len c gen' f t _ 0 (by omega) L hlen hl1 hL hl2 s1 hs hlo').mono ?_
      rintro e w2 ⟨rfl, h2⟩
      exact ⟨rfl, h2, fun _ => ⟨fun h => by omega, hq2⟩⟩
    · refine (hs.dev_flush i (set_mid hi)).mono ?_
      rintro e w2 ⟨rfl, h2⟩
      rw [set_twice' hi] at h2
      exact ⟨rfl, h2, fun _ => ⟨fun h => by omega, hq2⟩⟩
    · refine (vmoves3 i hi j v gen next br Lv hj hij bv bl bg bt ba lo len c gen' f t _ hg s2 s1 hs (by dsimp only at hlo'; omega)).mono ?_
      rintro e w2 ⟨rfl, h2⟩
      exact ⟨rfl, h2, fun _ => ⟨fun h => by omega, hq2⟩⟩
  · intro k hk xs w'
    rcases (by omega : k = 0 ∨ k = 1 ∨ k = 2 ∨ k = 3) with rfl | rfl | rfl | rfl
    · exact enter_m2 xs w'
    · exact enter_m1 xs w'
    · exact enter_flush xs w'
    · exact enter_m3 xs w'
/-- one asset or the other, as it went well or not -/
def asIf (c : Int) (A C : Asset) : Asset := if c = 0 then A else C
theorem asIf_zero (A C : Asset) : asIf 0 A C = A := if_pos rfl
theorem asIf_ne {c : Int} (h : ¬ c = 0) (A C : Asset) : asIf c A C = C := if_neg h
theorem St.apartV {B : Nat} {w0 w : World} {As : List Asset} (h : St B w0 w As) {j k v a gen : Nat} {next : Int} {br : Bool} {L : List (List UInt8)} {g : Nat} {T : TypeId} {vs : List Value} (hj : As[j]? = some (vaultA v a gen next br L)) (hk : As[k]? = some (blkA g T vs)) (hjk : j ≠ k) : g ≠ v := by
  obtain ⟨F, ⟨vl, G, hb, hv, _⟩, _, ho, _⟩ := h.open j hj
  obtain ⟨H, hH, _, hd⟩ := ho k _ hjk hk
  intro e
  rw [← e] at hv
  exact hd g hv hH.2
/-- a vault's cells are written anew, its records are new -/
theorem St.vaultTurn {B : Nat} {w0 w w5 w' : World} {As : List Asset} (h : St B w0 w As) (j : Nat) {v a gen : Nat} {next : Int} {br : Bool} {Lv : List (List UInt8)} (hj : As[j]? = some (vaultA v a gen next br Lv)) (hb : Below w.heap.size w w5) (hk : Keep (fun k => k = v) w5 w') {a' gen' : Nat} {next' : Int} {br' : Bool} {r : Value} {L : List (List UInt8)} (hv : Blk w' v 105 (vCells a' gen' next' r br')) {M : Nat} (hM : w.heap.size ≤ M) (hf : FreshL M w5 r L) : St B w0 w' (As.set j (vaultA v a' gen' next' br' L)) := by
  obtain ⟨F, ⟨vl, G, hbl, hvF, hl, hn, hG⟩, hF, _, hcl⟩ := h.open j hj
  have hvlt : v < w.heap.size := (hF v hvF).2
  have hsz := hk.size
  refine hcl w' _ (fun k => k = v ∨ (M ≤ k ∧ k < w5.heap.size)) ((Keep.ofBelow hb).trans (hk.mono fun k _ e => by rw [e]; exact hvF)) (good_vaultA _ _ _ _ _ _) ⟨r, fun k => M ≤ k ∧ k < w5.heap.size, hv, .inl rfl, (good_listA r L).keep hf.listA hk (fun k h1 h2 => by omega), fun h1 => by omega, fun k h1 => .inr h1⟩ (fun k hk' => ?_)
  rcases hk' with rfl | hk'
  · exact .inl hvF
  · exact .inr ⟨by omega, by omega⟩
theorem St.addFor {B : Nat} {w0 w w1 : World} {As X : List Asset} (h : St B w0 w (As ++ X)) (hb : Below w.heap.size w w1) {g : Nat} {T : TypeId} {vs : List Value} (hg : Blk w1 g T vs) (h0 : w.heap.size ≤ g) : St B w0 w1 (As ++ (X ++ [blkA g T vs])) := h.addBlk' hb hg h0
set_option maxRecDepth 100000 in
set_option maxHeartbeats 2000000 in
theorem vmoves_any {B : Nat} {w0 w : World} {As : List Asset} {a : Nat} {d : Dev} (h : St B w0 w As) (i : Nat) (hi : As[i]? = some (dev a d)) (j v gen : Nat) (next : Int) (br : Bool) (Lv : List (List UInt8)) (hj : As[j]? = some (vaultA v a gen next br Lv)) (hij : i ≠ j) (lo : Option Addr) (len c : Nat) (L : List (List UInt8)) (hlen : len = L.length) (hl1 : len ≤ 1000) (hL : LentI B w0 As i lo L) (hl2 : ∀ l ∈ L, l.length ≤ 1073741824) (hg : gen < 2147483648) (hn2 : 2 ≤ d.img.length) (hlo : d.loose.length ≤ 100000000) :
    Calls Try.prog 129 #[ptr v, .slice lo len c] w fun e w' => e = .returned (.int .i64 (movesD d (gen + 1) L).1) ∧ St B w0 w' ((As.set i (dev a (movesD d (gen + 1) L).2.1)).set j (asIf (movesD d (gen + 1) L).1 (vaultA v a (gen + 1) (movesD d (gen + 1) L).2.2 br L) (vaultA v a gen next br Lv))) := by
  have hok := (h.ok i hi).len
  obtain ⟨gn, hgn⟩ : ∃ gn, gen + 1 = gn := ⟨_, rfl⟩
  obtain ⟨n, hnn⟩ : ∃ n, d.img.length = n := ⟨_, rfl⟩
  obtain ⟨fr, hfr⟩ : ∃ fr, fromOf n gn = fr := ⟨_, rfl⟩
  obtain ⟨hf, hhf⟩ : ∃ hf, halfOf n = hf := ⟨_, rfl⟩
  obtain ⟨tw, hto⟩ : ∃ tw, fr + hf = tw := ⟨_, rfl⟩
  have HN := hid hnn; have HFR := hid hfr; have HHF := hid hhf; have HTO := hid hto
  have HM : Hid (seqOf (movesFs fr tw gn L) 0 4 (d, 0) = movesD d (gen + 1) L) := hid (by unfold movesD; rw [hgn, hnn, hfr, hhf, hto])
  clear hnn hfr hhf hto
  have HGN := hid hgn
  have hg2 : gn ≤ 2147483648 := by omega
  obtain ⟨bv, hbv⟩ : ∃ bv, w.heap.size = bv := ⟨_, rfl⟩
  obtain ⟨w1, hw1⟩ : ∃ w1, w.alloc (.cells #[ptr v] 103) = w1 := ⟨_, rfl⟩
  have h1 : St B w0 w1 (As ++ [blkA bv 103 [ptr v]]) := by rw [← hw1, ← hbv]; exact h.box _ _
  obtain ⟨bl, hbl⟩ : ∃ bl, w1.heap.size = bl := ⟨_, rfl⟩
  obtain ⟨w2, hw2⟩ : ∃ w2, w1.alloc (.cells #[.slice lo len c] 79) = w2 := ⟨_, rfl⟩
  have h2 : St B w0 w2 (As ++ [blkA bv 103 [ptr v], blkA bl 79 [.slice lo len c]]) := by
    rw [← hw2, ← hbl]; exact h1.addBlk' (fresh_alloc w1 _) (alloc_new w1 _) (Nat.le_refl _)
  obtain ⟨bg, hbg⟩ : ∃ bg, w2.heap.size = bg := ⟨_, rfl⟩
  obtain ⟨w3, hw3⟩ : ∃ w3, w2.alloc (.cells #[.int .i64 (gn : Nat)] 3) = w3 := ⟨_, rfl⟩
  obtain ⟨bt, hbt⟩ : ∃ bt, w3.heap.size = bt := ⟨_, rfl⟩
  obtain ⟨wm, hw4⟩ : ∃ wm, w3.alloc (.cells #[.int .i64 0] 3) = wm := ⟨_, rfl⟩
  have h3 : St B w0 w3 (As ++ [blkA bv 103 [ptr v], blkA bl 79 [.slice lo len c], blkA bg 3 [.int .i64 (gn : Nat)]]) := by
    rw [← hw3, ← hbg]; exact h2.addBlk' (fresh_alloc w2 _) (alloc_new w2 _) (Nat.le_refl _)
  have h4 : St B w0 wm (As ++ [blkA bv 103 [ptr v], blkA bl 79 [.slice lo len c], blkA bg 3 [.int .i64 (gn : Nat)], blkA bt 3 [.int .i64 0]]) := by
    rw [← hw4, ← hbt]; exact h3.addBlk' (fresh_alloc w3 _) (alloc_new w3 _) (Nat.le_refl _)
  have H1 := hid h1; have H2 := hid h2; have H4 := hid h4
  have HI := hid hi; have HJ := hid hj
  have HW1 := hid hw1; have HW2 := hid hw2; have HW3 := hid hw3; have HW4 := hid hw4
  have HBV := hid hbv; have HBG := hid hbg
  have HBL : Hid (bv + 1 = bl) := hid (by rw [← hbl, ← hw1, ← hbv]; exact (World.size_alloc _ _).symm)
  have HBT : Hid (bg + 1 = bt) := hid (by rw [← hbt, ← hw3, ← hbg]; exact (World.size_alloc _ _).symm)
  obtain ⟨vl, hvb⟩ := h2.vault j (get_pre hj)
  have c1 := hvb.cell (j := 1) rfl
  have cb := (h2.blk (As.length + 0) (get_post 0 rfl)).cell (j := 0) rfl
  have qg : IntKind.i64.wrap ((gen : Int) + 1) = (gn : Int) := by rw [IntWalk.i64_in _ (by omega)]; omega
  have HLEN := hid hlen
  have H0 := hid h
  clear h h1 h2 h3 h4 hi hj hw1 hw2 hw3 hw4 hbv hbl hbg hbt hvb hlen hgn
  unfold ptr at cb HW1 ⊢
  go_enter Try.func129, Try.ntmps129
  go_upto_region 1 with fail
  rw [HW1.out, HBV.out, HW2.out, HBL.out]
  go_upto_region 2 with fail
  rw [HBG.out, HBT.out, HW3.out, HW4.out]
  obtain ⟨vl, hvb⟩ := H4.out.vault j (get_pre HJ.out)
  have c0 := hvb.cell (j := 0) rfl
  have cb := (H4.out.blk (As.length + 0) (get_post 0 rfl)).cell (j := 0) rfl
  have cg := (H4.out.blk (As.length + 2) (get_post 2 rfl)).cell (j := 0) rfl
  unfold ptr at c0 cb
  have HI2 : Hid ((As ++ [blkA bv 103 [ptr v], blkA bl 79 [.slice lo len c], blkA bg 3 [.int .i64 (gn : Nat)], blkA bt 3 [.int .i64 0]])[i]? = some (dev a d)) := hid (get_pre HI.out)
  clear hvb
  have HB : Hid (Below wm.heap.size wm wm.drew) := hid (Below.refl _ _).drew
  have hS00 : wm.cell? ⟨bv, 0, none⟩ = some (.pointer (some ⟨v, 0, none⟩)) ∧ wm.cell? ⟨v, 0, none⟩ = some (.pointer (some ⟨a, 0, none⟩)) ∧ wm.cell? ⟨bg, 0, none⟩ = some (.int .i64 (gn : Nat)) := ⟨cb, c0, cg⟩
  refine wp_region_held_drew (S := fun w' => w'.cell? ⟨bv, 0, none⟩ = some (.pointer (some ⟨v, 0, none⟩)) ∧ w'.cell? ⟨v, 0, none⟩ = some (.pointer (some ⟨a, 0, none⟩)) ∧ w'.cell? ⟨bg, 0, none⟩ = some (.int .i64 (gn : Nat))) (by kernel_rfl) hS00 (fun hS => ?_)
  refine wpAnyH_take (i := 0) (v := ?v0x1z) (by simp only [List.getElem?_toArray, List.getElem?_cons_zero]; exact rfl) (by kernel_rfl) (by kernel_rfl) (by kernel_rfl) (by exact fun _ _ _ h => h) (Or.inl ⟨by rfl, ?y0x1z⟩) hS ?r0x1z
  case y0x1z => (intro w' hSw; (try dsimp only at hSw); go_simp; (try with_reducible rfl))
  simp only [Act.put, List.setIfInBounds_toArray, List.set_cons_zero, List.set_cons_succ]
  refine wpAnyH_take (i := 1) (v := ?v1x2z) (by simp only [List.getElem?_toArray, List.getElem?_cons_zero, List.getElem?_cons_succ]; exact rfl) (by kernel_rfl) (by kernel_rfl) (by kernel_rfl) (by exact fun _ _ _ h => h) (Or.inl ⟨by rfl, ?y1x2z⟩) hS ?r1x2z
  case y1x2z => (intro w' hSw; (try dsimp only at hSw); go_simp; (try with_reducible rfl))
  simp only [Act.put, List.setIfInBounds_toArray, List.set_cons_zero, List.set_cons_succ]
  refine wpAnyH_take (i := 2) (v := ?v2x3z) (by simp only [List.getElem?_toArray, List.getElem?_cons_zero, List.getElem?_cons_succ]; exact rfl) (by kernel_rfl) (by kernel_rfl) (by kernel_rfl) (by exact fun _ _ _ h => h) (Or.inl ⟨by rfl, ?y2x3z⟩) hS ?r2x3z
  case y2x3z => (intro w' hSw; (try dsimp only at hSw); go_simp; (try with_reducible rfl))
  simp only [Act.put, List.setIfInBounds_toArray, List.set_cons_zero, List.set_cons_succ]
  refine wpAnyH_take (i := 3) (v := ?v3x4z) (by simp only [List.getElem?_toArray, List.getElem?_cons_zero, List.getElem?_cons_succ]; exact rfl) (by kernel_rfl) (by kernel_rfl) (by kernel_rfl) (by exact fun _ _ _ h => h) (Or.inl ⟨by rfl, ?y3x4z⟩) hS ?r3x4z
  case y3x4z => (intro w' hSw; (try dsimp only at hSw); go_simp; (try with_reducible rfl))
  simp only [Act.put, List.setIfInBounds_toArray, List.set_cons_zero, List.set_cons_succ]
  refine wpAnyH_take (i := 4) (v := ?v4x5z) (by simp only [List.getElem?_toArray, List.getElem?_cons_zero, List.getElem?_cons_succ]; exact rfl) (by kernel_rfl) (by kernel_rfl) (by kernel_rfl) (by exact fun _ _ _ h => h) (Or.inl ⟨by rfl, ?y4x5z⟩) hS ?r4x5z
  case y4x5z => (intro w' hSw; (try dsimp only at hSw); go_simp; (try with_reducible rfl))
  simp only [Act.put, List.setIfInBounds_toArray, List.set_cons_zero, List.set_cons_succ]
  refine wpAnyH_ready (rs := [5, 6]) (by kernel_rfl) (by simp) ?_
  refine AllReadyH.cons (by simp only [List.getElem?_toArray, List.getElem?_cons_zero, List.getElem?_cons_succ]; exact rfl) (fun K hK => ?_) (AllReadyH.cons (by simp only [List.getElem?_toArray, List.getElem?_cons_zero, List.getElem?_cons_succ]; exact rfl) (fun K hK => ?_) AllReadyH.nil)
  · go_simp
    first | refine (H4.out.v_area HB.out i HI2.out gn hg2 hn2).mono ?_ | (have HB := hid HB.out.drew; have HZ := hid HZ.out.drew; refine (H4.out.v_area HB.out i HI2.out gn hg2 hn2).mono ?_)
    rintro e w5 ⟨rfl, hb5⟩
    rw [HN.out, HFR.out, HHF.out, HTO.out]
    have hS5 : w5.cell? ⟨bv, 0, none⟩ = some (.pointer (some ⟨v, 0, none⟩)) ∧ w5.cell? ⟨v, 0, none⟩ = some (.pointer (some ⟨a, 0, none⟩)) ∧ w5.cell? ⟨bg, 0, none⟩ = some (.int .i64 (gn : Nat)) := ⟨(hb5.cell (World.block_lt_of_cell? _ _ hS.1)).trans hS.1, (hb5.cell (World.block_lt_of_cell? _ _ hS.2.1)).trans hS.2.1, (hb5.cell (World.block_lt_of_cell? _ _ hS.2.2)).trans hS.2.2⟩
    have HB := hid (th HB.out hb5)
    try have HZ := hid (HZ.out.below hb5 HZ.out.lt)
    clear hb5
    refine hK.out _ _ ?k5x6z (fun hS => ?s5x6z)
    case k5x6z => exact hS5
    clear hK K
    try simp only [Act.put, List.setIfInBounds_toArray, List.set_cons_zero, List.set_cons_succ]
    refine wpAnyH_ready (rs := [6]) (by kernel_rfl) (by simp) ?_
    refine AllReadyH.cons (by simp only [List.getElem?_toArray, List.getElem?_cons_zero, List.getElem?_cons_succ]; exact rfl) (fun K hK => ?_) AllReadyH.nil
    go_simp
    try (refine if_wanted (by first | rfl | kernel_rfl) ?_; go_simp)
    first | generalize hbE : w5.heap.size = bh | generalize hbE : wm.heap.size = bh
    generalize hw4 : World.alloc _ _ = w4
    have hbh : wm.heap.size ≤ bh := by rw [← hbE]; first | exact HB.out.size | exact Nat.le_refl _
    have hz : Blk w4 bh 76 [.int .i64 0, .int .i64 0, .int .i64 0] := by rw [← hw4, ← hbE]; exact alloc_new _ _
    have hS4 : w4.cell? ⟨bv, 0, none⟩ = some (.pointer (some ⟨v, 0, none⟩)) ∧ w4.cell? ⟨v, 0, none⟩ = some (.pointer (some ⟨a, 0, none⟩)) ∧ w4.cell? ⟨bg, 0, none⟩ = some (.int .i64 (gn : Nat)) := by rw [← hw4]; exact ⟨alc hS.1 _, alc hS.2.1 _, alc hS.2.2 _⟩
    have HB : Hid (Below wm.heap.size wm w4) := hid (by rw [← hw4]; first | exact HB.out.alloc HB.out.size _ | exact ((Below.refl _ _).alloc (Nat.le_refl _) _))
    have HZ := hid hz
    clear hz hw4 hbE
    refine hK.out _ _ ?k6x7z (fun hS => ?s6x7z)
    case k6x7z => exact hS4
    clear hK K
    try simp only [Act.put, List.setIfInBounds_toArray, List.set_cons_zero, List.set_cons_succ]
    refine wpAnyH_ready (rs := [7]) (by kernel_rfl) (by simp) ?_
    refine AllReadyH.cons (by simp only [List.getElem?_toArray, List.getElem?_cons_zero, List.getElem?_cons_succ]; exact rfl) (fun K hK => ?_) AllReadyH.nil
    refine wp_store_row 76 (.tmp 7) (.tmp 20) rfl bh [.int .i64 (fr : Nat), .int .i64 (tw : Nat), .int .i64 (gn : Nat)].toArray rfl rfl _ _ HZ.out (by kernel_rfl) rfl (by simp [Value.oneCell']) ?_
    have HB5 := hid (below_setRow' HB.out hbh [.int .i64 (fr : Nat), .int .i64 (tw : Nat), .int .i64 (gn : Nat)].toArray)
    have HZ5 := hid (setRow_heap _ _ _ [.int .i64 (fr : Nat), .int .i64 (tw : Nat), .int .i64 (gn : Nat)].toArray _ _ HZ.out)
    have hS5 := And.intro ((HB5.out.cell (World.block_lt_of_cell? _ _ hS00.1)).trans hS00.1) (And.intro ((HB5.out.cell (World.block_lt_of_cell? _ _ hS00.2.1)).trans hS00.2.1) ((HB5.out.cell (World.block_lt_of_cell? _ _ hS00.2.2)).trans hS00.2.2))
    refine hK.out _ _ ?k7x8z (fun hS => ?s7x8z)
    case k7x8z => exact hS5
    clear hK K
    try simp only [Act.put]
    refine wpAnyH_done (by kernel_rfl) ?_ _
    generalize hws : World.setRow _ _ _ = ws at HB5 HZ5 hS5 ⊢
    clear hS hws
    have HZ5 : Hid (Blk ws bh 76 [.int .i64 (fr : Nat), .int .i64 (tw : Nat), .int .i64 (gn : Nat)]) := HZ5
    have H5 := hid (H4.out.addBlk' HB5.out HZ5.out hbh)
    obtain ⟨vl, hvb⟩ := H5.out.vault j (get_pre HJ.out)
    have c0' := hvb.cell (j := 0) rfl
    have cb' := (H5.out.blk (As.length + 0) (get_post 0 rfl)).cell (j := 0) rfl
    unfold ptr at c0' cb'
    clear hvb
    go_wp2_with (refine wpl_layV rowF rfl 4 _ rfl [.func (.func 152) #[] #[ptr bv, ptr bh], .func (.func 151) #[] #[ptr bl, ptr bv, ptr bh, ptr bt], .func (.func 41) #[ptr a] #[], .func (.func 153) #[] #[ptr bv, ptr bg]] rfl (by omega) (by omega) (by simp [Value.cells]) (by simp [Act.eval, ptr]) ?_; intro w6 hb6 h6; have H6 := hid (H5.out.addBlk' hb6 h6 (Nat.le_refl _)); clear hb6 h6)
    obtain ⟨g6, hg6⟩ : ∃ g6, ws.heap.size = g6 := ⟨_, rfl⟩
    rw [hg6]
    rw [hg6] at H6
    clear hg6
    have H6 : Hid (St B w0 w6 (As.set i (dev a d) ++ mvX bv bl bg bt bh v lo len c gn 0 fr tw [blkA g6 46 [.func (.func 152) #[] #[ptr bv, ptr bh], .func (.func 151) #[] #[ptr bl, ptr bv, ptr bh, ptr bt], .func (.func 41) #[ptr a] #[], .func (.func 153) #[] #[ptr bv, ptr bg]]])) := hid (by rw [set_same HI.out]; exact H6.out)
    refine (vmoves_all i HI.out j v gen next br Lv HJ.out hij bv bl bg bt bh g6 lo len c gn fr tw L HLEN.out hl1 hL hl2 hg2 H6.out hlo).mono ?_
    rintro e w7 ⟨rfl, h7⟩
    rw [HM.out] at h7 ⊢
    clear H6 HB5 HZ5 hS5 c0' cb'
    generalize hx : movesD d (gen + 1) L = x at h7 ⊢
    obtain ⟨ec, dx, px⟩ := x
    have HX := hid hx
    have H7 := hid h7
    dsimp only at H7 ⊢
    clear h7 hx HM
    by_cases hec : ec = 0
    · subst hec
      have HCP : Hid (∀ w1, Below w7.heap.size w7 w1 → Calls Try.prog 131 #[.slice lo len c] w1 fun e w' => ∃ v, e = .returned v ∧ FreshL w1.heap.size w' v L ∧ Below w1.heap.size w1 w') := hid (fun w1 hb => by
        obtain ⟨F, hF⟩ := ((hL.set (dev a dx)).app).lrf (H7.out.below hb)
        exact vcopied_any lo len c L HLEN.out (by omega) hl2 w1 hF.lr)
      have cb7 := (H7.out.blk (As.length + 0) (set_post 0 rfl)).cell (j := 0) rfl
      have cl7 := (H7.out.blk (As.length + 1) (set_post 1 rfl)).cell (j := 0) rfl
      have cg7 := (H7.out.blk (As.length + 2) (set_post 2 rfl)).cell (j := 0) rfl
      have ct7 := (H7.out.blk (As.length + 3) (set_post 3 rfl)).cell (j := 0) rfl
      have N1 := hid (H7.out.apartV (set_beside HJ.out hij) (set_post 0 rfl) (ne_post HJ.out 0))
      have N2 := hid (H7.out.apartV (set_beside HJ.out hij) (set_post 1 rfl) (ne_post HJ.out 1))
      have N3 := hid (H7.out.apartV (set_beside HJ.out hij) (set_post 2 rfl) (ne_post HJ.out 2))
      have N4 := hid (H7.out.apartV (set_beside HJ.out hij) (set_post 3 rfl) (ne_post HJ.out 3))
      unfold ptr at cb7
      go_upto_region 6 with fail
      refine wp_region_held_drew (S := fun w' => w'.cell? ⟨bv, 0, none⟩ = some (.pointer (some ⟨v, 0, none⟩)) ∧ w'.cell? ⟨bl, 0, none⟩ = some (.slice lo len c) ∧ w'.cell? ⟨bg, 0, none⟩ = some (.int .i64 (gn : Nat)) ∧ w'.cell? ⟨bt, 0, none⟩ = some (.int .i64 px)) (by kernel_rfl) ⟨cb7, cl7, cg7, ct7⟩ (fun hS => ?_)
      refine wpAnyH_take (i := 0) (v := ?v0x1qe1) (by simp only [List.getElem?_toArray, List.getElem?_cons_zero]; exact rfl) (by kernel_rfl) (by kernel_rfl) (by kernel_rfl) (by exact fun _ _ _ h => h) (Or.inl ⟨by rfl, ?y0x1qe1⟩) hS ?r0x1qe1
      case y0x1qe1 => (intro w' hSw; (try dsimp only at hSw); go_simp; (try with_reducible rfl))
      simp only [Act.put, List.setIfInBounds_toArray, List.set_cons_zero, List.set_cons_succ]
      refine wpAnyH_take (i := 1) (v := ?v1x2qe1) (by simp only [List.getElem?_toArray, List.getElem?_cons_zero, List.getElem?_cons_succ]; exact rfl) (by kernel_rfl) (by kernel_rfl) (by kernel_rfl) (by exact fun _ _ _ h => h) (Or.inl ⟨by rfl, ?y1x2qe1⟩) hS ?r1x2qe1
      case y1x2qe1 => (intro w' hSw; (try dsimp only at hSw); go_simp; (try with_reducible rfl))
      simp only [Act.put, List.setIfInBounds_toArray, List.set_cons_zero, List.set_cons_succ]
      refine wpAnyH_take (i := 2) (v := ?v2x3qe1) (by simp only [List.getElem?_toArray, List.getElem?_cons_zero, List.getElem?_cons_succ]; exact rfl) (by kernel_rfl) (by kernel_rfl) (by kernel_rfl) (by exact fun _ _ _ h => h) (Or.inl ⟨by rfl, ?y2x3qe1⟩) hS ?r2x3qe1
      case y2x3qe1 => (intro w' hSw; (try dsimp only at hSw); go_simp; (try with_reducible rfl))
      simp only [Act.put, List.setIfInBounds_toArray, List.set_cons_zero, List.set_cons_succ]
      refine wpAnyH_take (i := 3) (v := ?v3x4qe1) (by simp only [List.getElem?_toArray, List.getElem?_cons_zero, List.getElem?_cons_succ]; exact rfl) (by kernel_rfl) (by kernel_rfl) (by kernel_rfl) (by exact fun _ _ _ h => h) (Or.inl ⟨by rfl, ?y3x4qe1⟩) hS ?r3x4qe1
      case y3x4qe1 => (intro w' hSw; (try dsimp only at hSw); go_simp; (try with_reducible rfl))
      simp only [Act.put, List.setIfInBounds_toArray, List.set_cons_zero, List.set_cons_succ]
      refine wpAnyH_take (i := 4) (v := ?v4x5qe1) (by simp only [List.getElem?_toArray, List.getElem?_cons_zero, List.getElem?_cons_succ]; exact rfl) (by kernel_rfl) (by kernel_rfl) (by kernel_rfl) (by exact fun _ _ _ h => h) (Or.inl ⟨by rfl, ?y4x5qe1⟩) hS ?r4x5qe1
      case y4x5qe1 => (intro w' hSw; (try dsimp only at hSw); go_simp; (try with_reducible rfl))
      simp only [Act.put, List.setIfInBounds_toArray, List.set_cons_zero, List.set_cons_succ]
      refine wpAnyH_take (i := 5) (v := ?v5x6qe1) (by simp only [List.getElem?_toArray, List.getElem?_cons_zero, List.getElem?_cons_succ]; exact rfl) (by kernel_rfl) (by kernel_rfl) (by kernel_rfl) (by exact fun _ _ _ h => h) (Or.inl ⟨by rfl, ?y5x6qe1⟩) hS ?r5x6qe1
      case y5x6qe1 => (intro w' hSw; (try dsimp only at hSw); go_simp; (try with_reducible rfl))
      simp only [Act.put, List.setIfInBounds_toArray, List.set_cons_zero, List.set_cons_succ]
      refine wpAnyH_ready (rs := [6]) (by kernel_rfl) (by simp) ?_
      refine AllReadyH.cons (by simp only [List.getElem?_toArray, List.getElem?_cons_zero, List.getElem?_cons_succ]; exact rfl) (fun K hK => ?_) AllReadyH.nil
      go_simp
      refine (HCP.out _ (Below.refl _ _).drew).mono ?_
      rintro e w5 ⟨r, rfl, hf, hb5⟩
      obtain ⟨ro, rc, hr, _⟩ := listA_lst hf.listA
      rw [← HLEN.out] at hr
      subst hr
      have hb5 := (Below.refl w7.heap.size w7).drew.trans hb5
      have hS5 := And.intro ((hb5.cell (World.block_lt_of_cell? _ _ hS.1)).trans hS.1) (And.intro ((hb5.cell (World.block_lt_of_cell? _ _ hS.2.1)).trans hS.2.1) (And.intro ((hb5.cell (World.block_lt_of_cell? _ _ hS.2.2.1)).trans hS.2.2.1) ((hb5.cell (World.block_lt_of_cell? _ _ hS.2.2.2)).trans hS.2.2.2)))
      obtain ⟨vl5, hv5⟩ := (H7.out.below hb5).vault j (set_beside HJ.out hij)
      have HB5 := hid hb5; have HF5 := hid hf; have HV5 := hid hv5
      have s1 := hv5.cell (j := 1) rfl
      have f1 := hv5.free 1
      clear hb5 hf hv5
      refine hK.out _ _ ?k6x7qe1 (fun hS => ?s6x7qe1)
      case k6x7qe1 => exact hS5
      clear hK K
      try simp only [Act.put, List.setIfInBounds_toArray, List.set_cons_zero, List.set_cons_succ]
      refine wpAnyH_take (i := 7) (v := ?v7x8qe1) (by simp only [List.getElem?_toArray, List.getElem?_cons_zero, List.getElem?_cons_succ]; exact rfl) (by kernel_rfl) (by kernel_rfl) (by kernel_rfl) (by exact fun _ _ _ h => h) (Or.inl ⟨by rfl, ?y7x8qe1⟩) hS ?r7x8qe1
      case y7x8qe1 => (intro w' hSw; (try dsimp only at hSw); go_simp; (try with_reducible rfl))
      simp only [Act.put, List.setIfInBounds_toArray, List.set_cons_zero, List.set_cons_succ]
      refine wpAnyH_take (i := 8) (v := ?v8x9qe1) (by simp only [List.getElem?_toArray, List.getElem?_cons_zero, List.getElem?_cons_succ]; exact rfl) (by kernel_rfl) (by kernel_rfl) (by kernel_rfl) (by exact fun _ _ _ h => h) (Or.inl ⟨by rfl, ?y8x9qe1⟩) hS ?r8x9qe1
      case y8x9qe1 => (intro w' hSw; (try dsimp only at hSw); go_simp; (try with_reducible rfl))
      simp only [Act.put, List.setIfInBounds_toArray, List.set_cons_zero, List.set_cons_succ]
      refine wpAnyH_ready (rs := [9]) (by kernel_rfl) (by simp) ?_
      refine AllReadyH.cons (by simp only [List.getElem?_toArray, List.getElem?_cons_zero, List.getElem?_cons_succ]; exact rfl) (fun K hK => ?_) AllReadyH.nil
      go_simp
      generalize hw8 : World.setCell _ _ _ = w8
      have hS8 : w8.cell? ⟨bv, 0, none⟩ = some (.pointer (some ⟨v, 0, none⟩)) ∧ w8.cell? ⟨bl, 0, none⟩ = some (.slice lo len c) ∧ w8.cell? ⟨bg, 0, none⟩ = some (.int .i64 (gn : Nat)) ∧ w8.cell? ⟨bt, 0, none⟩ = some (.int .i64 px) := by rw [← hw8]; exact And.intro ((World.cell?_setCell_other w5 _ _ _ (fun e => by injection e with e; exact N1.out e.symm)).trans hS.1) (And.intro ((World.cell?_setCell_other w5 _ _ _ (fun e => by injection e with e; exact N2.out e.symm)).trans hS.2.1) (And.intro ((World.cell?_setCell_other w5 _ _ _ (fun e => by injection e with e; exact N3.out e.symm)).trans hS.2.2.1) ((World.cell?_setCell_other w5 _ _ _ (fun e => by injection e with e; exact N4.out e.symm)).trans hS.2.2.2)))
      have HV8 : Hid (Blk w8 v 105 (vCells a gn next vl5 br)) := hid (by rw [← hw8]; exact HV5.out.set 1 _)
      have HK8 : Hid (Keep (fun k => k = v) w5 w8) := hid (by rw [← hw8]; exact (Keep.refl (fun k => k = v) w5).setCell (p := ⟨v, 1, none⟩) rfl _)
      have s2 := HV8.out.cell (j := 2) rfl
      have f2 := HV8.out.free 2
      clear hw8 s1 f1 HV5
      refine hK.out _ _ ?k9x10qe1 (fun hS => ?s9x10qe1)
      case k9x10qe1 => exact hS8
      clear hK K
      try simp only [Act.put]
      refine wpAnyH_take (i := 10) (v := ?v10x11qe1) (by simp only [List.getElem?_toArray, List.getElem?_cons_zero, List.getElem?_cons_succ]; exact rfl) (by kernel_rfl) (by kernel_rfl) (by kernel_rfl) (by exact fun _ _ _ h => h) (Or.inl ⟨by rfl, ?y10x11qe1⟩) hS ?r10x11qe1
      case y10x11qe1 => (intro w' hSw; (try dsimp only at hSw); go_simp; (try with_reducible rfl))
      simp only [Act.put, List.setIfInBounds_toArray, List.set_cons_zero, List.set_cons_succ]
      refine wpAnyH_take (i := 11) (v := ?v11x12qe1) (by simp only [List.getElem?_toArray, List.getElem?_cons_zero, List.getElem?_cons_succ]; exact rfl) (by kernel_rfl) (by kernel_rfl) (by kernel_rfl) (by exact fun _ _ _ h => h) (Or.inl ⟨by rfl, ?y11x12qe1⟩) hS ?r11x12qe1
      case y11x12qe1 => (intro w' hSw; (try dsimp only at hSw); go_simp; (try with_reducible rfl))
      simp only [Act.put, List.setIfInBounds_toArray, List.set_cons_zero, List.set_cons_succ]
      refine wpAnyH_ready (rs := [12]) (by kernel_rfl) (by simp) ?_
      refine AllReadyH.cons (by simp only [List.getElem?_toArray, List.getElem?_cons_zero, List.getElem?_cons_succ]; exact rfl) (fun K hK => ?_) AllReadyH.nil
      go_simp
      generalize hw9 : World.setCell _ _ _ = w9
      have hS9 : w9.cell? ⟨bv, 0, none⟩ = some (.pointer (some ⟨v, 0, none⟩)) ∧ w9.cell? ⟨bl, 0, none⟩ = some (.slice lo len c) ∧ w9.cell? ⟨bg, 0, none⟩ = some (.int .i64 (gn : Nat)) ∧ w9.cell? ⟨bt, 0, none⟩ = some (.int .i64 px) := by rw [← hw9]; exact And.intro ((World.cell?_setCell_other w8 _ _ _ (fun e => by injection e with e; exact N1.out e.symm)).trans hS.1) (And.intro ((World.cell?_setCell_other w8 _ _ _ (fun e => by injection e with e; exact N2.out e.symm)).trans hS.2.1) (And.intro ((World.cell?_setCell_other w8 _ _ _ (fun e => by injection e with e; exact N3.out e.symm)).trans hS.2.2.1) ((World.cell?_setCell_other w8 _ _ _ (fun e => by injection e with e; exact N4.out e.symm)).trans hS.2.2.2)))
      have HV9 : Hid (Blk w9 v 105 (vCells a gn px vl5 br)) := hid (by rw [← hw9]; exact HV8.out.set 2 _)
      have HK9 : Hid (Keep (fun k => k = v) w5 w9) := hid (by rw [← hw9]; exact HK8.out.setCell (p := ⟨v, 2, none⟩) rfl _)
      have s3 := HV9.out.cell (j := 3) rfl
      have f3 := HV9.out.free 3
      clear hw9 s2 f2 HV8 HK8
      refine hK.out _ _ ?k12x13qe1 (fun hS => ?s12x13qe1)
      case k12x13qe1 => exact hS9
      clear hK K
      try simp only [Act.put]
      refine wpAnyH_take (i := 13) (v := ?v13x14qe1) (by simp only [List.getElem?_toArray, List.getElem?_cons_zero, List.getElem?_cons_succ]; exact rfl) (by kernel_rfl) (by kernel_rfl) (by kernel_rfl) (by exact fun _ _ _ h => h) (Or.inl ⟨by rfl, ?y13x14qe1⟩) hS ?r13x14qe1
      case y13x14qe1 => (intro w' hSw; (try dsimp only at hSw); go_simp; (try with_reducible rfl))
      simp only [Act.put, List.setIfInBounds_toArray, List.set_cons_zero, List.set_cons_succ]
      refine wpAnyH_take (i := 14) (v := ?v14x15qe1) (by simp only [List.getElem?_toArray, List.getElem?_cons_zero, List.getElem?_cons_succ]; exact rfl) (by kernel_rfl) (by kernel_rfl) (by kernel_rfl) (by exact fun _ _ _ h => h) (Or.inl ⟨by rfl, ?y14x15qe1⟩) hS ?r14x15qe1
      case y14x15qe1 => (intro w' hSw; (try dsimp only at hSw); go_simp; (try with_reducible rfl))
      simp only [Act.put, List.setIfInBounds_toArray, List.set_cons_zero, List.set_cons_succ]
      refine wpAnyH_ready (rs := [15]) (by kernel_rfl) (by simp) ?_
      refine AllReadyH.cons (by simp only [List.getElem?_toArray, List.getElem?_cons_zero, List.getElem?_cons_succ]; exact rfl) (fun K hK => ?_) AllReadyH.nil
      go_simp
      generalize hw10 : World.setCell _ _ _ = w10
      have hS10 : w10.cell? ⟨bv, 0, none⟩ = some (.pointer (some ⟨v, 0, none⟩)) ∧ w10.cell? ⟨bl, 0, none⟩ = some (.slice lo len c) ∧ w10.cell? ⟨bg, 0, none⟩ = some (.int .i64 (gn : Nat)) ∧ w10.cell? ⟨bt, 0, none⟩ = some (.int .i64 px) := by rw [← hw10]; exact And.intro ((World.cell?_setCell_other w9 _ _ _ (fun e => by injection e with e; exact N1.out e.symm)).trans hS.1) (And.intro ((World.cell?_setCell_other w9 _ _ _ (fun e => by injection e with e; exact N2.out e.symm)).trans hS.2.1) (And.intro ((World.cell?_setCell_other w9 _ _ _ (fun e => by injection e with e; exact N3.out e.symm)).trans hS.2.2.1) ((World.cell?_setCell_other w9 _ _ _ (fun e => by injection e with e; exact N4.out e.symm)).trans hS.2.2.2)))
      have HV10 : Hid (Blk w10 v 105 (vCells a gn px (.slice ro len rc) br)) := hid (by rw [← hw10]; exact HV9.out.set 3 _)
      have HK10 : Hid (Keep (fun k => k = v) w5 w10) := hid (by rw [← hw10]; exact HK9.out.setCell (p := ⟨v, 3, none⟩) rfl _)
      clear hw10 s3 f3 HV9 HK9
      refine hK.out _ _ ?k15x16qe1 (fun hS => ?s15x16qe1)
      case k15x16qe1 => exact hS10
      clear hK K
      try simp only [Act.put]
      refine wpAnyH_done (by kernel_rfl) ?_ _
      clear hS hS5 hS8 hS9 hS10
      have h8 := H7.out.vaultTurn j (set_beside HJ.out hij) HB5.out HK10.out HV10.out (Nat.le_refl _) HF5.out
      have H8 := hid h8
      clear h8
      go_wp2
      go_ret
      rw [HX.out]
      refine ⟨rfl, ?_⟩
      dsimp only
      rw [asIf_zero, HGN.out]
      have h9 := H8.out
      rw [set_pre (by rw [List.getElem?_set_ne hij]; exact HJ.out)] at h9
      exact h9.drop_post
    · have HNZ := hid hec
      have hnb : (ec == 0) = false := by rw [beq_eq_false_iff_ne]; exact hec
      clear hec
      go_wp2
      go_ret
      rw [HX.out]
      refine ⟨rfl, ?_⟩
      dsimp only
      rw [asIf_ne HNZ.out, set_same (by rw [List.getElem?_set_ne hij]; exact HJ.out)]
      exact H7.out.drop_post
  · go_simp
    try (refine if_wanted (by first | rfl | kernel_rfl) ?_; go_simp)
    first | generalize hbE : w5.heap.size = bh | generalize hbE : wm.heap.size = bh
    generalize hw4 : World.alloc _ _ = w4
    have hbh : wm.heap.size ≤ bh := by rw [← hbE]; first | exact HB.out.size | exact Nat.le_refl _
    have hz : Blk w4 bh 76 [.int .i64 0, .int .i64 0, .int .i64 0] := by rw [← hw4, ← hbE]; exact alloc_new _ _
    have hS4 : w4.cell? ⟨bv, 0, none⟩ = some (.pointer (some ⟨v, 0, none⟩)) ∧ w4.cell? ⟨v, 0, none⟩ = some (.pointer (some ⟨a, 0, none⟩)) ∧ w4.cell? ⟨bg, 0, none⟩ = some (.int .i64 (gn : Nat)) := by rw [← hw4]; exact ⟨alc hS.1 _, alc hS.2.1 _, alc hS.2.2 _⟩
    have HB : Hid (Below wm.heap.size wm w4) := hid (by rw [← hw4]; first | exact HB.out.alloc HB.out.size _ | exact ((Below.refl _ _).alloc (Nat.le_refl _) _))
    have HZ := hid hz
    clear hz hw4 hbE
    refine hK.out _ _ ?k6x9z (fun hS => ?s6x9z)
    case k6x9z => exact hS4
    clear hK K
    try simp only [Act.put, List.setIfInBounds_toArray, List.set_cons_zero, List.set_cons_succ]
    refine wpAnyH_ready (rs := [5]) (by kernel_rfl) (by simp) ?_
    refine AllReadyH.cons (by simp only [List.getElem?_toArray, List.getElem?_cons_zero, List.getElem?_cons_succ]; exact rfl) (fun K hK => ?_) AllReadyH.nil
    go_simp
    first | refine (H4.out.v_area HB.out i HI2.out gn hg2 hn2).mono ?_ | (have HB := hid HB.out.drew; have HZ := hid HZ.out.drew; refine (H4.out.v_area HB.out i HI2.out gn hg2 hn2).mono ?_)
    rintro e w5 ⟨rfl, hb5⟩
    rw [HN.out, HFR.out, HHF.out, HTO.out]
    have hS5 : w5.cell? ⟨bv, 0, none⟩ = some (.pointer (some ⟨v, 0, none⟩)) ∧ w5.cell? ⟨v, 0, none⟩ = some (.pointer (some ⟨a, 0, none⟩)) ∧ w5.cell? ⟨bg, 0, none⟩ = some (.int .i64 (gn : Nat)) := ⟨(hb5.cell (World.block_lt_of_cell? _ _ hS.1)).trans hS.1, (hb5.cell (World.block_lt_of_cell? _ _ hS.2.1)).trans hS.2.1, (hb5.cell (World.block_lt_of_cell? _ _ hS.2.2)).trans hS.2.2⟩
    have HB := hid (th HB.out hb5)
    try have HZ := hid (HZ.out.below hb5 HZ.out.lt)
    clear hb5
    refine hK.out _ _ ?k5x10z (fun hS => ?s5x10z)
    case k5x10z => exact hS5
    clear hK K
    try simp only [Act.put, List.setIfInBounds_toArray, List.set_cons_zero, List.set_cons_succ]
    refine wpAnyH_ready (rs := [7]) (by kernel_rfl) (by simp) ?_
    refine AllReadyH.cons (by simp only [List.getElem?_toArray, List.getElem?_cons_zero, List.getElem?_cons_succ]; exact rfl) (fun K hK => ?_) AllReadyH.nil
    refine wp_store_row 76 (.tmp 7) (.tmp 20) rfl bh [.int .i64 (fr : Nat), .int .i64 (tw : Nat), .int .i64 (gn : Nat)].toArray rfl rfl _ _ HZ.out (by kernel_rfl) rfl (by simp [Value.oneCell']) ?_
    have HB5 := hid (below_setRow' HB.out hbh [.int .i64 (fr : Nat), .int .i64 (tw : Nat), .int .i64 (gn : Nat)].toArray)
    have HZ5 := hid (setRow_heap _ _ _ [.int .i64 (fr : Nat), .int .i64 (tw : Nat), .int .i64 (gn : Nat)].toArray _ _ HZ.out)
    have hS5 := And.intro ((HB5.out.cell (World.block_lt_of_cell? _ _ hS00.1)).trans hS00.1) (And.intro ((HB5.out.cell (World.block_lt_of_cell? _ _ hS00.2.1)).trans hS00.2.1) ((HB5.out.cell (World.block_lt_of_cell? _ _ hS00.2.2)).trans hS00.2.2))
    refine hK.out _ _ ?k7x11z (fun hS => ?s7x11z)
    case k7x11z => exact hS5
    clear hK K
    try simp only [Act.put]
    refine wpAnyH_done (by kernel_rfl) ?_ _
    generalize hws : World.setRow _ _ _ = ws at HB5 HZ5 hS5 ⊢
    clear hS hws
    have HZ5 : Hid (Blk ws bh 76 [.int .i64 (fr : Nat), .int .i64 (tw : Nat), .int .i64 (gn : Nat)]) := HZ5
    have H5 := hid (H4.out.addBlk' HB5.out HZ5.out hbh)
    obtain ⟨vl, hvb⟩ := H5.out.vault j (get_pre HJ.out)
    have c0' := hvb.cell (j := 0) rfl
    have cb' := (H5.out.blk (As.length + 0) (get_post 0 rfl)).cell (j := 0) rfl
    unfold ptr at c0' cb'
    clear hvb
    go_wp2_with (refine wpl_layV rowF rfl 4 _ rfl [.func (.func 152) #[] #[ptr bv, ptr bh], .func (.func 151) #[] #[ptr bl, ptr bv, ptr bh, ptr bt], .func (.func 41) #[ptr a] #[], .func (.func 153) #[] #[ptr bv, ptr bg]] rfl (by omega) (by omega) (by simp [Value.cells]) (by simp [Act.eval, ptr]) ?_; intro w6 hb6 h6; have H6 := hid (H5.out.addBlk' hb6 h6 (Nat.le_refl _)); clear hb6 h6)
    obtain ⟨g6, hg6⟩ : ∃ g6, ws.heap.size = g6 := ⟨_, rfl⟩
    rw [hg6]
    rw [hg6] at H6
    clear hg6
    have H6 : Hid (St B w0 w6 (As.set i (dev a d) ++ mvX bv bl bg bt bh v lo len c gn 0 fr tw [blkA g6 46 [.func (.func 152) #[] #[ptr bv, ptr bh], .func (.func 151) #[] #[ptr bl, ptr bv, ptr bh, ptr bt], .func (.func 41) #[ptr a] #[], .func (.func 153) #[] #[ptr bv, ptr bg]]])) := hid (by rw [set_same HI.out]; exact H6.out)
    refine (vmoves_all i HI.out j v gen next br Lv HJ.out hij bv bl bg bt bh g6 lo len c gn fr tw L HLEN.out hl1 hL hl2 hg2 H6.out hlo).mono ?_
    rintro e w7 ⟨rfl, h7⟩
    rw [HM.out] at h7 ⊢
    clear H6 HB5 HZ5 hS5 c0' cb'
    generalize hx : movesD d (gen + 1) L = x at h7 ⊢
    obtain ⟨ec, dx, px⟩ := x
    have HX := hid hx
    have H7 := hid h7
    dsimp only at H7 ⊢
    clear h7 hx HM
    by_cases hec : ec = 0
    · subst hec
      have HCP : Hid (∀ w1, Below w7.heap.size w7 w1 → Calls Try.prog 131 #[.slice lo len c] w1 fun e w' => ∃ v, e = .returned v ∧ FreshL w1.heap.size w' v L ∧ Below w1.heap.size w1 w') := hid (fun w1 hb => by
        obtain ⟨F, hF⟩ := ((hL.set (dev a dx)).app).lrf (H7.out.below hb)
        exact vcopied_any lo len c L HLEN.out (by omega) hl2 w1 hF.lr)
      have cb7 := (H7.out.blk (As.length + 0) (set_post 0 rfl)).cell (j := 0) rfl
      have cl7 := (H7.out.blk (As.length + 1) (set_post 1 rfl)).cell (j := 0) rfl
      have cg7 := (H7.out.blk (As.length + 2) (set_post 2 rfl)).cell (j := 0) rfl
      have ct7 := (H7.out.blk (As.length + 3) (set_post 3 rfl)).cell (j := 0) rfl
      have N1 := hid (H7.out.apartV (set_beside HJ.out hij) (set_post 0 rfl) (ne_post HJ.out 0))
      have N2 := hid (H7.out.apartV (set_beside HJ.out hij) (set_post 1 rfl) (ne_post HJ.out 1))
      have N3 := hid (H7.out.apartV (set_beside HJ.out hij) (set_post 2 rfl) (ne_post HJ.out 2))
      have N4 := hid (H7.out.apartV (set_beside HJ.out hij) (set_post 3 rfl) (ne_post HJ.out 3))
      unfold ptr at cb7
      go_upto_region 6 with fail
      refine wp_region_held_drew (S := fun w' => w'.cell? ⟨bv, 0, none⟩ = some (.pointer (some ⟨v, 0, none⟩)) ∧ w'.cell? ⟨bl, 0, none⟩ = some (.slice lo len c) ∧ w'.cell? ⟨bg, 0, none⟩ = some (.int .i64 (gn : Nat)) ∧ w'.cell? ⟨bt, 0, none⟩ = some (.int .i64 px)) (by kernel_rfl) ⟨cb7, cl7, cg7, ct7⟩ (fun hS => ?_)
      refine wpAnyH_take (i := 0) (v := ?v0x1qe2) (by simp only [List.getElem?_toArray, List.getElem?_cons_zero]; exact rfl) (by kernel_rfl) (by kernel_rfl) (by kernel_rfl) (by exact fun _ _ _ h => h) (Or.inl ⟨by rfl, ?y0x1qe2⟩) hS ?r0x1qe2
      case y0x1qe2 => (intro w' hSw; (try dsimp only at hSw); go_simp; (try with_reducible rfl))
      simp only [Act.put, List.setIfInBounds_toArray, List.set_cons_zero, List.set_cons_succ]
      refine wpAnyH_take (i := 1) (v := ?v1x2qe2) (by simp only [List.getElem?_toArray, List.getElem?_cons_zero, List.getElem?_cons_succ]; exact rfl) (by kernel_rfl) (by kernel_rfl) (by kernel_rfl) (by exact fun _ _ _ h => h) (Or.inl ⟨by rfl, ?y1x2qe2⟩) hS ?r1x2qe2
      case y1x2qe2 => (intro w' hSw; (try dsimp only at hSw); go_simp; (try with_reducible rfl))
      simp only [Act.put, List.setIfInBounds_toArray, List.set_cons_zero, List.set_cons_succ]
      refine wpAnyH_take (i := 2) (v := ?v2x3qe2) (by simp only [List.getElem?_toArray, List.getElem?_cons_zero, List.getElem?_cons_succ]; exact rfl) (by kernel_rfl) (by kernel_rfl) (by kernel_rfl) (by exact fun _ _ _ h => h) (Or.inl ⟨by rfl, ?y2x3qe2⟩) hS ?r2x3qe2
      case y2x3qe2 => (intro w' hSw; (try dsimp only at hSw); go_simp; (try with_reducible rfl))
      simp only [Act.put, List.setIfInBounds_toArray, List.set_cons_zero, List.set_cons_succ]
      refine wpAnyH_take (i := 3) (v := ?v3x4qe2) (by simp only [List.getElem?_toArray, List.getElem?_cons_zero, List.getElem?_cons_succ]; exact rfl) (by kernel_rfl) (by kernel_rfl) (by kernel_rfl) (by exact fun _ _ _ h => h) (Or.inl ⟨by rfl, ?y3x4qe2⟩) hS ?r3x4qe2
      case y3x4qe2 => (intro w' hSw; (try dsimp only at hSw); go_simp; (try with_reducible rfl))
      simp only [Act.put, List.setIfInBounds_toArray, List.set_cons_zero, List.set_cons_succ]
      refine wpAnyH_take (i := 4) (v := ?v4x5qe2) (by simp only [List.getElem?_toArray, List.getElem?_cons_zero, List.getElem?_cons_succ]; exact rfl) (by kernel_rfl) (by kernel_rfl) (by kernel_rfl) (by exact fun _ _ _ h => h) (Or.inl ⟨by rfl, ?y4x5qe2⟩) hS ?r4x5qe2
      case y4x5qe2 => (intro w' hSw; (try dsimp only at hSw); go_simp; (try with_reducible rfl))
      simp only [Act.put, List.setIfInBounds_toArray, List.set_cons_zero, List.set_cons_succ]
      refine wpAnyH_take (i := 5) (v := ?v5x6qe2) (by simp only [List.getElem?_toArray, List.getElem?_cons_zero, List.getElem?_cons_succ]; exact rfl) (by kernel_rfl) (by kernel_rfl) (by kernel_rfl) (by exact fun _ _ _ h => h) (Or.inl ⟨by rfl, ?y5x6qe2⟩) hS ?r5x6qe2
      case y5x6qe2 => (intro w' hSw; (try dsimp only at hSw); go_simp; (try with_reducible rfl))
      simp only [Act.put, List.setIfInBounds_toArray, List.set_cons_zero, List.set_cons_succ]
      refine wpAnyH_ready (rs := [6]) (by kernel_rfl) (by simp) ?_
      refine AllReadyH.cons (by simp only [List.getElem?_toArray, List.getElem?_cons_zero, List.getElem?_cons_succ]; exact rfl) (fun K hK => ?_) AllReadyH.nil
      go_simp
      refine (HCP.out _ (Below.refl _ _).drew).mono ?_
      rintro e w5 ⟨r, rfl, hf, hb5⟩
      obtain ⟨ro, rc, hr, _⟩ := listA_lst hf.listA
      rw [← HLEN.out] at hr
      subst hr
      have hb5 := (Below.refl w7.heap.size w7).drew.trans hb5
      have hS5 := And.intro ((hb5.cell (World.block_lt_of_cell? _ _ hS.1)).trans hS.1) (And.intro ((hb5.cell (World.block_lt_of_cell? _ _ hS.2.1)).trans hS.2.1) (And.intro ((hb5.cell (World.block_lt_of_cell? _ _ hS.2.2.1)).trans hS.2.2.1) ((hb5.cell (World.block_lt_of_cell? _ _ hS.2.2.2)).trans hS.2.2.2)))
      obtain ⟨vl5, hv5⟩ := (H7.out.below hb5).vault j (set_beside HJ.out hij)
      have HB5 := hid hb5; have HF5 := hid hf; have HV5 := hid hv5
      have s1 := hv5.cell (j := 1) rfl
      have f1 := hv5.free 1
      clear hb5 hf hv5
      refine hK.out _ _ ?k6x7qe2 (fun hS => ?s6x7qe2)
      case k6x7qe2 => exact hS5
      clear hK K
      try simp only [Act.put, List.setIfInBounds_toArray, List.set_cons_zero, List.set_cons_succ]
      refine wpAnyH_take (i := 7) (v := ?v7x8qe2) (by simp only [List.getElem?_toArray, List.getElem?_cons_zero, List.getElem?_cons_succ]; exact rfl) (by kernel_rfl) (by kernel_rfl) (by kernel_rfl) (by exact fun _ _ _ h => h) (Or.inl ⟨by rfl, ?y7x8qe2⟩) hS ?r7x8qe2
      case y7x8qe2 => (intro w' hSw; (try dsimp only at hSw); go_simp; (try with_reducible rfl))
      simp only [Act.put, List.setIfInBounds_toArray, List.set_cons_zero, List.set_cons_succ]
      refine wpAnyH_take (i := 8) (v := ?v8x9qe2) (by simp only [List.getElem?_toArray, List.getElem?_cons_zero, List.getElem?_cons_succ]; exact rfl) (by kernel_rfl) (by kernel_rfl) (by kernel_rfl) (by exact fun _ _ _ h => h) (Or.inl ⟨by rfl, ?y8x9qe2⟩) hS ?r8x9qe2
      case y8x9qe2 => (intro w' hSw; (try dsimp only at hSw); go_simp; (try with_reducible rfl))
      simp only [Act.put, List.setIfInBounds_toArray, List.set_cons_zero, List.set_cons_succ]
      refine wpAnyH_ready (rs := [9]) (by kernel_rfl) (by simp) ?_
      refine AllReadyH.cons (by simp only [List.getElem?_toArray, List.getElem?_cons_zero, List.getElem?_cons_succ]; exact rfl) (fun K hK => ?_) AllReadyH.nil
      go_simp
      generalize hw8 : World.setCell _ _ _ = w8
      have hS8 : w8.cell? ⟨bv, 0, none⟩ = some (.pointer (some ⟨v, 0, none⟩)) ∧ w8.cell? ⟨bl, 0, none⟩ = some (.slice lo len c) ∧ w8.cell? ⟨bg, 0, none⟩ = some (.int .i64 (gn : Nat)) ∧ w8.cell? ⟨bt, 0, none⟩ = some (.int .i64 px) := by rw [← hw8]; exact And.intro ((World.cell?_setCell_other w5 _ _ _ (fun e => by injection e with e; exact N1.out e.symm)).trans hS.1) (And.intro ((World.cell?_setCell_other w5 _ _ _ (fun e => by injection e with e; exact N2.out e.symm)).trans hS.2.1) (And.intro ((World.cell?_setCell_other w5 _ _ _ (fun e => by injection e with e; exact N3.out e.symm)).trans hS.2.2.1) ((World.cell?_setCell_other w5 _ _ _ (fun e => by injection e with e; exact N4.out e.symm)).trans hS.2.2.2)))
      have HV8 : Hid (Blk w8 v 105 (vCells a gn next vl5 br)) := hid (by rw [← hw8]; exact HV5.out.set 1 _)
      have HK8 : Hid (Keep (fun k => k = v) w5 w8) := hid (by rw [← hw8]; exact (Keep.refl (fun k => k = v) w5).setCell (p := ⟨v, 1, none⟩) rfl _)
      have s2 := HV8.out.cell (j := 2) rfl
      have f2 := HV8.out.free 2
      clear hw8 s1 f1 HV5
      refine hK.out _ _ ?k9x10qe2 (fun hS => ?s9x10qe2)
      case k9x10qe2 => exact hS8
      clear hK K
      try simp only [Act.put]
      refine wpAnyH_take (i := 10) (v := ?v10x11qe2) (by simp only [List.getElem?_toArray, List.getElem?_cons_zero, List.getElem?_cons_succ]; exact rfl) (by kernel_rfl) (by kernel_rfl) (by kernel_rfl) (by exact fun _ _ _ h => h) (Or.inl ⟨by rfl, ?y10x11qe2⟩) hS ?r10x11qe2
      case y10x11qe2 => (intro w' hSw; (try dsimp only at hSw); go_simp; (try with_reducible rfl))
      simp only [Act.put, List.setIfInBounds_toArray, List.set_cons_zero, List.set_cons_succ]
      refine wpAnyH_take (i := 11) (v := ?v11x12qe2) (by simp only [List.getElem?_toArray, List.getElem?_cons_zero, List.getElem?_cons_succ]; exact rfl) (by kernel_rfl) (by kernel_rfl) (by kernel_rfl) (by exact fun _ _ _ h => h) (Or.inl ⟨by rfl, ?y11x12qe2⟩) hS ?r11x12qe2
      case y11x12qe2 => (intro w' hSw; (try dsimp only at hSw); go_simp; (try with_reducible rfl))
      simp only [Act.put, List.setIfInBounds_toArray, List.set_cons_zero, List.set_cons_succ]
      refine wpAnyH_ready (rs := [12]) (by kernel_rfl) (by simp) ?_
      refine AllReadyH.cons (by simp only [List.getElem?_toArray, List.getElem?_cons_zero, List.getElem?_cons_succ]; exact rfl) (fun K hK => ?_) AllReadyH.nil
      go_simp
      generalize hw9 : World.setCell _ _ _ = w9
      have hS9 : w9.cell? ⟨bv, 0, none⟩ = some (.pointer (some ⟨v, 0, none⟩)) ∧ w9.cell? ⟨bl, 0, none⟩ = some (.slice lo len c) ∧ w9.cell? ⟨bg, 0, none⟩ = some (.int .i64 (gn : Nat)) ∧ w9.cell? ⟨bt, 0, none⟩ = some (.int .i64 px) := by rw [← hw9]; exact And.intro ((World.cell?_setCell_other w8 _ _ _ (fun e => by injection e with e; exact N1.out e.symm)).trans hS.1) (And.intro ((World.cell?_setCell_other w8 _ _ _ (fun e => by injection e with e; exact N2.out e.symm)).trans hS.2.1) (And.intro ((World.cell?_setCell_other w8 _ _ _ (fun e => by injection e with e; exact N3.out e.symm)).trans hS.2.2.1) ((World.cell?_setCell_other w8 _ _ _ (fun e => by injection e with e; exact N4.out e.symm)).trans hS.2.2.2)))
      have HV9 : Hid (Blk w9 v 105 (vCells a gn px vl5 br)) := hid (by rw [← hw9]; exact HV8.out.set 2 _)
      have HK9 : Hid (Keep (fun k => k = v) w5 w9) := hid (by rw [← hw9]; exact HK8.out.setCell (p := ⟨v, 2, none⟩) rfl _)
      have s3 := HV9.out.cell (j := 3) rfl
      have f3 := HV9.out.free 3
      clear hw9 s2 f2 HV8 HK8
      refine hK.out _ _ ?k12x13qe2 (fun hS => ?s12x13qe2)
      case k12x13qe2 => exact hS9
      clear hK K
      try simp only [Act.put]
      refine wpAnyH_take (i := 13) (v := ?v13x14qe2) (by simp only [List.getElem?_toArray, List.getElem?_cons_zero, List.getElem?_cons_succ]; exact rfl) (by kernel_rfl) (by kernel_rfl) (by kernel_rfl) (by exact fun _ _ _ h => h) (Or.inl ⟨by rfl, ?y13x14qe2⟩) hS ?r13x14qe2
      case y13x14qe2 => (intro w' hSw; (try dsimp only at hSw); go_simp; (try with_reducible rfl))
      simp only [Act.put, List.setIfInBounds_toArray, List.set_cons_zero, List.set_cons_succ]
      refine wpAnyH_take (i := 14) (v := ?v14x15qe2) (by simp only [List.getElem?_toArray, List.getElem?_cons_zero, List.getElem?_cons_succ]; exact rfl) (by kernel_rfl) (by kernel_rfl) (by kernel_rfl) (by exact fun _ _ _ h => h) (Or.inl ⟨by rfl, ?y14x15qe2⟩) hS ?r14x15qe2
      case y14x15qe2 => (intro w' hSw; (try dsimp only at hSw); go_simp; (try with_reducible rfl))
      simp only [Act.put, List.setIfInBounds_toArray, List.set_cons_zero, List.set_cons_succ]
      refine wpAnyH_ready (rs := [15]) (by kernel_rfl) (by simp) ?_
      refine AllReadyH.cons (by simp only [List.getElem?_toArray, List.getElem?_cons_zero, List.getElem?_cons_succ]; exact rfl) (fun K hK => ?_) AllReadyH.nil
      go_simp
      generalize hw10 : World.setCell _ _ _ = w10
      have hS10 : w10.cell? ⟨bv, 0, none⟩ = some (.pointer (some ⟨v, 0, none⟩)) ∧ w10.cell? ⟨bl, 0, none⟩ = some (.slice lo len c) ∧ w10.cell? ⟨bg, 0, none⟩ = some (.int .i64 (gn : Nat)) ∧ w10.cell? ⟨bt, 0, none⟩ = some (.int .i64 px) := by rw [← hw10]; exact And.intro ((World.cell?_setCell_other w9 _ _ _ (fun e => by injection e with e; exact N1.out e.symm)).trans hS.1) (And.intro ((World.cell?_setCell_other w9 _ _ _ (fun e => by injection e with e; exact N2.out e.symm)).trans hS.2.1) (And.intro ((World.cell?_setCell_other w9 _ _ _ (fun e => by injection e with e; exact N3.out e.symm)).trans hS.2.2.1) ((World.cell?_setCell_other w9 _ _ _ (fun e => by injection e with e; exact N4.out e.symm)).trans hS.2.2.2)))
      have HV10 : Hid (Blk w10 v 105 (vCells a gn px (.slice ro len rc) br)) := hid (by rw [← hw10]; exact HV9.out.set 3 _)
      have HK10 : Hid (Keep (fun k => k = v) w5 w10) := hid (by rw [← hw10]; exact HK9.out.setCell (p := ⟨v, 3, none⟩) rfl _)
      clear hw10 s3 f3 HV9 HK9
      refine hK.out _ _ ?k15x16qe2 (fun hS => ?s15x16qe2)
      case k15x16qe2 => exact hS10
      clear hK K
      try simp only [Act.put]
      refine wpAnyH_done (by kernel_rfl) ?_ _
      clear hS hS5 hS8 hS9 hS10
      have h8 := H7.out.vaultTurn j (set_beside HJ.out hij) HB5.out HK10.out HV10.out (Nat.le_refl _) HF5.out
      have H8 := hid h8
      clear h8
      go_wp2
      go_ret
      rw [HX.out]
      refine ⟨rfl, ?_⟩
      dsimp only
      rw [asIf_zero, HGN.out]
      have h9 := H8.out
      rw [set_pre (by rw [List.getElem?_set_ne hij]; exact HJ.out)] at h9
      exact h9.drop_post
    · have HNZ := hid hec
      have hnb : (ec == 0) = false := by rw [beq_eq_false_iff_ne]; exact hec
      clear hec
      go_wp2
      go_ret
      rw [HX.out]
      refine ⟨rfl, ?_⟩
      dsimp only
      rw [asIf_ne HNZ.out, set_same (by rw [List.getElem?_set_ne hij]; exact HJ.out)]
      exact H7.out.drop_post
end Go.Proofs.Ytlondopgibcikaa
namespace Go.Proofs.Ytlondopgibcikaa
open Go.RowKit Ent
/-- how a vault stands, beside its device -/
structure VS where
  gen : Nat
  next : Int
  br : Bool
  L : List (List UInt8)
def vsA (v a : Nat) (s : VS) : Asset := vaultA v a s.gen s.next s.br s.L
/-- why a vault is not ready -/
def readyOf (s : VS) : Int := if s.br then 23 else 0
/-- behind moves -/
def movedV (d : Dev) (s : VS) (L : List (List UInt8)) : Int × Dev × VS :=
  if (movesD d (s.gen + 1) L).1 = 0 then (0, (movesD d (s.gen + 1) L).2.1, ⟨s.gen + 1, (movesD d (s.gen + 1) L).2.2, s.br, L⟩) else ((movesD d (s.gen + 1) L).1, (movesD d (s.gen + 1) L).2.1, { s with br := true })
def replaceV (d : Dev) (s : VS) (L : List (List UInt8)) : Int × Dev × VS :=
  if s.br then (23, d, s) else if fitsOf s.gen d.img.length L ≠ 0 then (fitsOf s.gen d.img.length L, d, s) else movedV d s L
section
variable {B : Nat} {w0 w w1 : World} {As X : List Asset} {a : Nat} {d : Dev}
theorem St.v_told (h : St B w0 w As) (j : Nat) {v gen : Nat} {next : Int} {br : Bool} {L : List (List UInt8)} (hj : As[j]? = some (vaultA v a gen next br L)) (c : Int) :
    Calls Try.prog 124 #[ptr v, .int .i64 c] w fun e w' => e = .returned (.int .i64 c) ∧ St B w0 w' (As.set j (vaultA v a gen next (br || decide (c ≠ 0)) L)) := by
  obtain ⟨F, ⟨vl, G, hb, hv, hl, hn, hG⟩, hF, _, hcl⟩ := h.open j hj
  refine (vtold_any v a gen next c vl br w hb).mono ?_
  rintro e w' ⟨rfl, hb', hk⟩
  exact ⟨rfl, hcl w' _ F (hk.mono fun k _ e => by rw [e]; exact hv) (good_vaultA _ _ _ _ _ _) ⟨vl, G, hb', hv, (good_listA vl L).keep hl hk (fun k h1 h2 => hn (by rw [← h2]; exact h1)), hn, hG⟩ (fun _ => .inl)⟩
theorem St.v_ready (h : St B w0 w As) (j : Nat) {v : Nat} {s : VS} (hj : As[j]? = some (vsA v a s)) :
    Calls Try.prog 121 #[ptr v] w fun e w' => e = .returned (.int .i64 (readyOf s)) ∧ w' = w := by
  obtain ⟨vl, hb⟩ := h.vault j hj
  exact vready_any v a _ _ vl _ w hb
theorem St.v_fits (h : St B w0 w As) (i : Nat) (hi : As[i]? = some (dev a d)) (j : Nat) {v : Nat} {s : VS} (hj : As[j]? = some (vsA v a s)) (lo : Option Addr) (len c : Nat) (L : List (List UInt8)) (hL : LR w lo L) (hlen : len = L.length) (hl1 : len ≤ 1000) (hg : s.gen ≤ 2147483648) (hl2 : ∀ l ∈ L, l.length ≤ 1073741824) (hn2 : 2 ≤ d.img.length) :
    Calls Try.prog 128 #[ptr v, .slice lo len c] w fun e w' => e = .returned (.int .i64 (fitsOf s.gen d.img.length L)) ∧ St B w0 w' As := by
  obtain ⟨vl, hb⟩ := h.vault j hj
  refine (vfits_any h i hi v s.gen s.next vl s.br hb lo len c L hL hlen hl1 hg hl2 hn2).mono ?_
  rintro e w' ⟨rfl, hb'⟩
  exact ⟨rfl, h.below hb'⟩
end
set_option maxRecDepth 100000 in
theorem vreplace1 {B : Nat} {w0 w : World} {As : List Asset} {a : Nat} {d : Dev} (h : St B w0 w As) (i : Nat) (hi : As[i]? = some (dev a d)) (j v : Nat) (s : VS) (hj : As[j]? = some (vsA v a s)) (kv kl bv bl : Nat) (lo : Option Addr) (len c : Nat) (hkv : As[kv]? = some (blkA bv 103 [ptr v])) (hkl : As[kl]? = some (blkA bl 79 [.slice lo len c])) (L : List (List UInt8)) (hL : LR w lo L) (hlen : len = L.length) (hl1 : len ≤ 1000) (hg : s.gen ≤ 2147483648) (hl2 : ∀ l ∈ L, l.length ≤ 1073741824) (hn2 : 2 ≤ d.img.length) :
    Calls Try.prog 127 #[ptr bv, ptr bl] w fun e w' => e = .returned (.int .i64 (fitsOf s.gen d.img.length L)) ∧ St B w0 w' As := by
  have cv := (h.blk kv hkv).cell (j := 0) rfl
  have cl := (h.blk kl hkl).cell (j := 0) rfl
  have HC := hid (h.v_fits i hi j hj lo len c L hL hlen hl1 hg hl2 hn2)
  clear h hi hj hkv hkl hL hlen hl2
  unfold ptr at cv HC ⊢
  go_enter Try.func127, Try.ntmps127
  go_wp2_with fail
  refine HC.out.mono ?_
  rintro e w' ⟨rfl, h'⟩
  have H' := hid h'
  clear h'
  go_wp2
  go_ret
  exact ⟨rfl, H'.out⟩
theorem enter_r1 (xs : Array Value) (w : World) : (callFunc 127 xs).run Try.prog w = .ok (.enter 127 xs) w := by kernel_rfl
theorem enter_ready (xs : Array Value) (w : World) : (callFunc 121 xs).run Try.prog w = .ok (.enter 121 xs) w := by kernel_rfl
def firstOf (c e : Int) : Int := if c = 0 then e else c
theorem vreplace_all {B : Nat} {w0 w : World} {As : List Asset} {a : Nat} {d : Dev} (i : Nat) (hi : As[i]? = some (dev a d)) (j v : Nat) (s : VS) (hj : As[j]? = some (vsA v a s)) (bv bl g : Nat) (lo : Option Addr) (len c : Nat) (L : List (List UInt8)) (hL : LentI B w0 As i lo L) (hlen : len = L.length) (hl1 : len ≤ 1000) (hg : s.gen ≤ 2147483648) (hl2 : ∀ l ∈ L, l.length ≤ 1073741824) (hn2 : 2 ≤ d.img.length)
    (h : St B w0 w (As ++ [blkA bv 103 [ptr v], blkA bl 79 [.slice lo len c], blkA g 46 [.func (.func 121) #[ptr v] #[], .func (.func 127) #[] #[ptr bv, ptr bl]]])) :
    Calls Try.prog 125 #[.slice (some ⟨g, 0, none⟩) 2 2] w fun e w' => e = .returned (.int .i64 (firstOf (readyOf s) (fitsOf s.gen d.img.length L))) ∧ St B w0 w' (As ++ [blkA bv 103 [ptr v], blkA bl 79 [.slice lo len c], blkA g 46 [.func (.func 121) #[ptr v] #[], .func (.func 127) #[] #[ptr bv, ptr bl]]]) := by
  refine (vall_seq (S := Unit) (fun _ w => St B w0 w (As ++ [blkA bv 103 [ptr v], blkA bl 79 [.slice lo len c], blkA g 46 [.func (.func 121) #[ptr v] #[], .func (.func 127) #[] #[ptr bv, ptr bl]]])) (fun _ _ => True) (fun k _ => (if k = 0 then readyOf s else fitsOf s.gen d.img.length L, ())) g 2 (by omega) (fun k => if k = 0 then 121 else 127) (fun k => if k = 0 then #[ptr v] else #[]) (fun k => if k = 0 then #[] else #[ptr bv, ptr bl]) ?_ ?_ ?_ w () h trivial).mono ?_
  · intro k s w' hk hs
    have := hs.blk (As.length + 2) (get_post 2 rfl)
    rcases (by omega : k = 0 ∨ k = 1) with rfl | rfl
    · exact this.cell (j := 0) rfl
    · exact this.cell (j := 1) rfl
  · intro k s' w' hk _ hs
    rcases (by omega : k = 0 ∨ k = 1) with rfl | rfl
    · refine (hs.v_ready j (get_pre hj)).mono ?_
      rintro e w2 ⟨rfl, rfl⟩
      exact ⟨rfl, hs, fun _ => trivial⟩
    · obtain ⟨F, hF⟩ := (hL.app).lrf hs
      refine (vreplace1 hs i (get_pre hi) j v s (get_pre hj) (As.length + 0) (As.length + 1) bv bl lo len c (get_post 0 rfl) (get_post 1 rfl) L hF.lr hlen hl1 hg hl2 hn2).mono ?_
      rintro e w2 ⟨rfl, h2⟩
      exact ⟨rfl, h2, fun _ => trivial⟩
  · intro k hk xs w'
    rcases (by omega : k = 0 ∨ k = 1) with rfl | rfl
    · exact enter_ready xs w'
    · exact enter_r1 xs w'
  · rintro e w' ⟨rfl, h'⟩
    refine ⟨?_, h'⟩
    unfold firstOf seqOf seqOf seqOf
    simp only [if_pos]
    by_cases h0 : readyOf s = 0
    · simp only [h0, if_pos]
      by_cases h1 : fitsOf s.gen d.img.length L = 0
      · simp [h1]
      · simp [h1]
    · simp [h0]
theorem set_post2 {As X : List Asset} {i j : Nat} {C D : Asset} (k : Nat) {E : Asset} (hk : X[k]? = some E) : ((As.set i C).set j D ++ X)[As.length + k]? = some E := by
  have := get_post (As := (As.set i C).set j D) k hk
  rwa [List.length_set, List.length_set] at this
set_option maxRecDepth 100000 in
set_option maxHeartbeats 2000000 in
theorem vreplace_any {B : Nat} {w0 w : World} {As : List Asset} {a : Nat} {d : Dev} (h : St B w0 w As) (i : Nat) (hi : As[i]? = some (dev a d)) (j v : Nat) (s : VS) (hj : As[j]? = some (vsA v a s)) (hij : i ≠ j) (lo : Option Addr) (len c : Nat) (L : List (List UInt8)) (hL : LentI B w0 As i lo L) (hlen : len = L.length) (hl1 : len ≤ 1000) (hg : s.gen ≤ 2147483647) (hl2 : ∀ l ∈ L, l.length ≤ 1073741824) (hn2 : 2 ≤ d.img.length) (hlo : d.loose.length ≤ 100000000) :
    Calls Try.prog 88 #[ptr v, .slice lo len c] w fun e w' => e = .returned (.int .i64 (replaceV d s L).1) ∧ St B w0 w' ((As.set i (dev a (replaceV d s L).2.1)).set j (vsA v a (replaceV d s L).2.2)) := by
  obtain ⟨bv, hbv⟩ : ∃ bv, w.heap.size = bv := ⟨_, rfl⟩
  obtain ⟨w1, hw1⟩ : ∃ w1, w.alloc (.cells #[ptr v] 103) = w1 := ⟨_, rfl⟩
  have h1 : St B w0 w1 (As ++ [blkA bv 103 [ptr v]]) := by rw [← hw1, ← hbv]; exact h.box _ _
  obtain ⟨bl, hbl⟩ : ∃ bl, w1.heap.size = bl := ⟨_, rfl⟩
  obtain ⟨w2, hw2⟩ : ∃ w2, w1.alloc (.cells #[.slice lo len c] 79) = w2 := ⟨_, rfl⟩
  have h2 : St B w0 w2 (As ++ [blkA bv 103 [ptr v], blkA bl 79 [.slice lo len c]]) := by
    rw [← hw2, ← hbl]; exact h1.addBlk' (fresh_alloc w1 _) (alloc_new w1 _) (Nat.le_refl _)
  have H2 := hid h2
  have HI := hid hi; have HJ := hid hj; have HLEN := hid hlen
  have HW1 := hid hw1; have HW2 := hid hw2; have HBV := hid hbv
  have HBL : Hid (bv + 1 = bl) := hid (by rw [← hbl, ← hw1, ← hbv]; exact (World.size_alloc _ _).symm)
  have cb := (h2.blk (As.length + 0) (get_post 0 rfl)).cell (j := 0) rfl
  have cl := (h2.blk (As.length + 1) (get_post 1 rfl)).cell (j := 0) rfl
  clear h h1 h2 hi hj hw1 hw2 hbv hbl hlen
  unfold ptr at cb HW1 ⊢
  go_enter Try.func88, Try.ntmps88
  go_upto_region 1 with fail
  rw [HW1.out, HBV.out, HW2.out, HBL.out]
  go_wp2_with (refine wpl_layV rowF rfl 2 _ rfl [.func (.func 121) #[ptr v] #[], .func (.func 127) #[] #[ptr bv, ptr bl]] rfl (by omega) (by omega) (by simp [Value.cells]) (by simp [Act.eval, ptr]) ?_; intro w6 hb6 h6; have H6 := hid (H2.out.addBlk' hb6 h6 (Nat.le_refl _)); clear hb6 h6)
  obtain ⟨g6, hg6⟩ : ∃ g6, w2.heap.size = g6 := ⟨_, rfl⟩
  rw [hg6]
  rw [hg6] at H6
  clear hg6
  refine (vreplace_all i HI.out j v s HJ.out bv bl g6 lo len c L hL HLEN.out hl1 (by omega) hl2 hn2 H6.out).mono ?_
  rintro e w3 ⟨rfl, h3⟩
  have H3 := hid h3
  clear h3 H6
  generalize hec : firstOf (readyOf s) (fitsOf s.gen d.img.length L) = e0
  by_cases he0 : e0 = 0
  · subst he0
    have hbr : s.br = false := by
      unfold firstOf readyOf at hec
      rcases hb : s.br with _ | _
      · rfl
      · rw [hb] at hec; simp at hec
    have hft : fitsOf s.gen d.img.length L = 0 := by
      unfold firstOf readyOf at hec
      rw [hbr] at hec; simpa using hec
    have hgl : s.gen < 2147483647 := by
      unfold fitsOf at hft
      split at hft
      · simp at hft
      · omega
    have HRV : Hid (replaceV d s L = movedV d s L) := hid (by unfold replaceV; rw [hbr, if_neg (by simp), if_neg (by rw [hft]; simp)])
    have HMV : Hid (∀ w1, Below w3.heap.size w3 w1 → Calls Try.prog 129 #[ptr v, .slice lo len c] w1 fun e w' => e = .returned (.int .i64 (movesD d (s.gen + 1) L).1) ∧ St B w0 w' _) := hid (fun w1 hb => vmoves_any (H3.out.below hb) i (get_pre HI.out) j v s.gen s.next s.br s.L (get_pre HJ.out) hij lo len c L HLEN.out hl1 (hL.app) hl2 (by omega) hn2 hlo)
    have HTOLD : Hid (∀ (ec : Int) (dx : Dev) (px : Int) (w7 : World), St B w0 w7 ((As.set i (dev a dx)).set j (asIf ec (vaultA v a (s.gen + 1) px s.br L) (vaultA v a s.gen s.next s.br s.L)) ++ [blkA bv 103 [ptr v], blkA bl 79 [.slice lo len c], blkA g6 46 [.func (.func 121) #[ptr v] #[], .func (.func 127) #[] #[ptr bv, ptr bl]]]) →
        Calls Try.prog 124 #[ptr v, .int .i64 ec] w7 fun e w' => e = .returned (.int .i64 ec) ∧ St B w0 w' ((As.set i (dev a dx)).set j (asIf ec (vaultA v a (s.gen + 1) px s.br L) (vaultA v a s.gen s.next true s.L)) ++ [blkA bv 103 [ptr v], blkA bl 79 [.slice lo len c], blkA g6 46 [.func (.func 121) #[ptr v] #[], .func (.func 127) #[] #[ptr bv, ptr bl]]])) := hid (fun ec dx px w7 h7 => by
      have hjl : j < (As.set i (dev a dx)).length := by rw [List.length_set]; exact (List.getElem?_eq_some_iff.1 HJ.out).1
      by_cases hec : ec = 0
      · rw [hec, asIf_zero] at h7
        rw [hec, asIf_zero]
        refine (h7.v_told j (get_pre (List.getElem?_set_self hjl)) 0).mono ?_
        rintro e w8 ⟨rfl, h8⟩
        rw [set_pre (List.getElem?_set_self hjl), List.set_set] at h8
        exact ⟨rfl, by simpa using h8⟩
      · rw [asIf_ne hec] at h7
        rw [asIf_ne hec]
        refine (h7.v_told j (get_pre (List.getElem?_set_self hjl)) ec).mono ?_
        rintro e w8 ⟨rfl, h8⟩
        rw [set_pre (List.getElem?_set_self hjl), List.set_set] at h8
        exact ⟨rfl, by simpa [hec] using h8⟩)
    have cb3 := (H3.out.blk (As.length + 0) (get_post 0 rfl)).cell (j := 0) rfl
    have cl3 := (H3.out.blk (As.length + 1) (get_post 1 rfl)).cell (j := 0) rfl
    unfold ptr at cb3 HMV HTOLD
    clear hec hbr hft
    go_upto_region 4 with fail
    refine wp_region_held_drew (S := fun w' => w'.cell? ⟨bv, 0, none⟩ = some (.pointer (some ⟨v, 0, none⟩)) ∧ w'.cell? ⟨bl, 0, none⟩ = some (.slice lo len c)) (by kernel_rfl) ⟨cb3, cl3⟩ (fun hS => ?_)
    refine wpAnyH_take (i := 0) (v := ?v0x1z) (by simp only [List.getElem?_toArray, List.getElem?_cons_zero]; exact rfl) (by kernel_rfl) (by kernel_rfl) (by kernel_rfl) (by exact fun _ _ _ h => h) (Or.inl ⟨by rfl, ?y0x1z⟩) hS ?r0x1z
    case y0x1z => (intro w' hSw; (try dsimp only at hSw); go_simp; (try with_reducible rfl))
    simp only [Act.put, List.setIfInBounds_toArray, List.set_cons_zero, List.set_cons_succ]
    refine wpAnyH_take (i := 1) (v := ?v1x2z) (by simp only [List.getElem?_toArray, List.getElem?_cons_zero, List.getElem?_cons_succ]; exact rfl) (by kernel_rfl) (by kernel_rfl) (by kernel_rfl) (by exact fun _ _ _ h => h) (Or.inl ⟨by rfl, ?y1x2z⟩) hS ?r1x2z
    case y1x2z => (intro w' hSw; (try dsimp only at hSw); go_simp; (try with_reducible rfl))
    simp only [Act.put, List.setIfInBounds_toArray, List.set_cons_zero, List.set_cons_succ]
    refine wpAnyH_take (i := 2) (v := ?v2x3z) (by simp only [List.getElem?_toArray, List.getElem?_cons_zero, List.getElem?_cons_succ]; exact rfl) (by kernel_rfl) (by kernel_rfl) (by kernel_rfl) (by exact fun _ _ _ h => h) (Or.inl ⟨by rfl, ?y2x3z⟩) hS ?r2x3z
    case y2x3z => (intro w' hSw; (try dsimp only at hSw); go_simp; (try with_reducible rfl))
    simp only [Act.put, List.setIfInBounds_toArray, List.set_cons_zero, List.set_cons_succ]
    refine wpAnyH_ready (rs := [3]) (by kernel_rfl) (by simp) ?_
    refine AllReadyH.cons (by simp only [List.getElem?_toArray, List.getElem?_cons_zero, List.getElem?_cons_succ]; exact rfl) (fun K hK => ?_) AllReadyH.nil
    go_simp
    refine (HMV.out _ (Below.refl _ _).drew).mono ?_
    rintro e w7 ⟨rfl, h7⟩
    rw [set_pre HI.out, set_pre (by rw [List.getElem?_set_ne hij]; exact HJ.out)] at h7
    generalize hx : movesD d (s.gen + 1) L = x at h7 ⊢
    obtain ⟨ec, dx, px⟩ := x
    have HX := hid hx
    have H7 := hid h7
    dsimp only at H7 ⊢
    have hS7 := And.intro ((H7.out.blk (As.length + 0) (set_post2 0 rfl)).cell (j := 0) rfl) ((H7.out.blk (As.length + 1) (set_post2 1 rfl)).cell (j := 0) rfl)
    unfold ptr at hS7
    clear h7 hx
    refine hK.out _ _ ?k3x4z (fun hS => ?s3x4z)
    case k3x4z => exact hS7
    clear hK K
    try simp only [Act.put, List.setIfInBounds_toArray, List.set_cons_zero, List.set_cons_succ]
    refine wpAnyH_ready (rs := [4]) (by kernel_rfl) (by simp) ?_
    refine AllReadyH.cons (by simp only [List.getElem?_toArray, List.getElem?_cons_zero, List.getElem?_cons_succ]; exact rfl) (fun K hK => ?_) AllReadyH.nil
    go_simp
    refine (HTOLD.out ec dx px w7 H7.out).mono ?_
    rintro e w8 ⟨rfl, h8⟩
    have H8 := hid h8
    have hS8 := And.intro ((H8.out.blk (As.length + 0) (set_post2 0 rfl)).cell (j := 0) rfl) ((H8.out.blk (As.length + 1) (set_post2 1 rfl)).cell (j := 0) rfl)
    unfold ptr at hS8
    clear h8
    refine hK.out _ _ ?k4x5z (fun hS => ?s4x5z)
    case k4x5z => exact hS8
    clear hK K
    try simp only [Act.put, List.setIfInBounds_toArray, List.set_cons_zero, List.set_cons_succ]
    refine wpAnyH_take (i := 5) (v := ?v5x6z) (by simp only [List.getElem?_toArray, List.getElem?_cons_zero, List.getElem?_cons_succ]; exact rfl) (by kernel_rfl) (by kernel_rfl) (by kernel_rfl) (by exact fun _ _ _ h => h) (Or.inl ⟨by rfl, ?y5x6z⟩) hS ?r5x6z
    case y5x6z => (intro w' hSw; (try dsimp only at hSw); go_simp; (try with_reducible rfl))
    simp only [Act.put, List.setIfInBounds_toArray, List.set_cons_zero, List.set_cons_succ]
    refine wpAnyH_done (by kernel_rfl) ?_ _
    clear hS hS7 hS8
    go_wp2
    go_ret
    rw [HRV.out]
    unfold movedV
    rw [HX.out]
    dsimp only
    by_cases hec : ec = 0
    · rw [if_pos hec]
      have h9 := H8.out.drop_post
      rw [hec, asIf_zero] at h9
      refine ⟨by rw [hec]; rfl, ?_⟩
      unfold vsA
      simpa using h9
    · rw [if_neg hec]
      have h9 := H8.out.drop_post
      rw [asIf_ne hec] at h9
      refine ⟨rfl, ?_⟩
      unfold vsA
      simpa [hec] using h9
  · have hnb : (e0 != 0) = true := by simpa using he0
    have HRV : Hid (replaceV d s L = (e0, d, s)) := hid (by
      unfold replaceV
      unfold firstOf readyOf at hec
      rcases hb : s.br with _ | _
      · rw [hb] at hec
        rw [if_neg (by simp)]
        simp only [Bool.false_eq_true, if_false, if_true] at hec
        rw [if_pos (by rw [hec]; exact he0), hec]
      · rw [hb] at hec
        rw [if_pos rfl]
        simp at hec
        rw [hec])
    have HEC := hid he0
    clear hec he0
    go_wp2
    go_ret
    rw [HRV.out]
    refine ⟨rfl, ?_⟩
    rw [set_same HI.out, set_same HJ.out]
    exact H3.out.drop_post
end Go.Proofs.Ytlondopgibcikaa
