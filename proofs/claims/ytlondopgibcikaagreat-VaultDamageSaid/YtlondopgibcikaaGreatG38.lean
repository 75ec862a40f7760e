/- Law 7: a pair of vaults; opens. The kit's OverBytes, once more; OverLists. Layer 7's kept, first. A vault that is nil: Append, Replace. (Out of V7N.) -/
import Derived.Test.YtlondopgibcikaaGreatRows
import Derived.Test.YtlondopgibcikaaGreatG01
import Derived.Test.YtlondopgibcikaaGreatG02
import Derived.Test.YtlondopgibcikaaGreatG03
import Derived.Test.YtlondopgibcikaaGreatG04
import Derived.Test.YtlondopgibcikaaGreatG05
import Derived.Test.YtlondopgibcikaaGreatG06
import Derived.Test.YtlondopgibcikaaGreatG07
import Derived.Test.YtlondopgibcikaaGreatG08
import Derived.Test.YtlondopgibcikaaGreatG09
import Derived.Test.YtlondopgibcikaaGreatG10
import Derived.Test.YtlondopgibcikaaGreatG13
import Derived.Test.YtlondopgibcikaaGreatG14
import Derived.Test.YtlondopgibcikaaGreatG15
import Derived.Test.YtlondopgibcikaaGreatG16
import Derived.Test.YtlondopgibcikaaGreatG17
import Derived.Test.YtlondopgibcikaaGreatG18
import Derived.Test.YtlondopgibcikaaGreatG19
import Derived.Test.YtlondopgibcikaaGreatG21
import Derived.Test.YtlondopgibcikaaGreatG22
import Derived.Test.YtlondopgibcikaaGreatG23
import Derived.Test.YtlondopgibcikaaGreatG24
import Derived.Test.YtlondopgibcikaaGreatG25
import Derived.Test.YtlondopgibcikaaGreatG26
import Derived.Test.YtlondopgibcikaaGreatG27
import Derived.Test.YtlondopgibcikaaGreatG28
import Derived.Test.YtlondopgibcikaaGreatG29
import Derived.Test.YtlondopgibcikaaGreatG30
import Derived.Test.YtlondopgibcikaaGreatG31
import Derived.Test.YtlondopgibcikaaGreatG32
import Derived.Test.YtlondopgibcikaaGreatG33
import Derived.Test.YtlondopgibcikaaGreatG34
import Derived.Test.YtlondopgibcikaaGreatG35
import Derived.Test.YtlondopgibcikaaGreatG36
import Derived.Test.YtlondopgibcikaaGreatG37
import Derived.WalkKit
import Derived.WalkSpells
import Derived.WalkLawsBesides
import Derived.Deep.RegionHeld3
import Derived.Deep.QuietTactic
import Derived.BigQuiet
import Derived.Maps.AppendAt
import Derived.Laws.IdiomStrings
namespace Go.Proofs.YtlondopgibcikaaGreat
open Go.RowKit Ent
/-- the pair and its devices -/
def pairL (a c p : Nat) (d : Dev) (x y : Value) : List Asset := [dev a d, rdev c d, blkA p 37 [ptr a, x, ptr c, y]]
/-- a pair of vaults on a pair of devices, or none -/
def Scn (B : Nat) (w0 w : World) (a c p : Nat) (d : Dev) : Option VS → Prop
  | none => St B w0 w (pairL a c p d (.pointer none) (.pointer none))
  | some s => ∃ v u, St B w0 w (pairL a c p d (ptr v) (ptr u) ++ [vsA v a s, rvA u c s])
/-- .. with other things between -/
def ScnX (B : Nat) (w0 w : World) (a c p : Nat) (d : Dev) (X : List Asset) : Option VS → Prop
  | none => St B w0 w (pairL a c p d (.pointer none) (.pointer none) ++ X)
  | some s => ∃ v u, St B w0 w (pairL a c p d (ptr v) (ptr u) ++ X ++ [vsA v a s, rvA u c s])
theorem ScnX.drop {B : Nat} {w0 w : World} {a c p : Nat} {d : Dev} {A : Asset} {o : Option VS} (h : ScnX B w0 w a c p d [A] o) : Scn B w0 w a c p d o := by
  rcases o with _ | s
  · exact St.drop_post (X := [A]) (h : St _ _ _ _)
  · obtain ⟨v, u, h⟩ := h
    refine ⟨v, u, h.sel [0, 1, 2, 4, 5] (by decide) rfl fun k j hj => ?_⟩
    have hk := (List.getElem?_eq_some_iff.1 hj).1
    rcases (by simp at hk; omega : k = 0 ∨ k = 1 ∨ k = 2 ∨ k = 3 ∨ k = 4) with rfl | rfl | rfl | rfl | rfl
    all_goals (injection hj with hj; subst hj; exact ⟨_, rfl, rfl⟩)
theorem ScnX.nil {B : Nat} {w0 w : World} {a c p : Nat} {d : Dev} {o : Option VS} (h : ScnX B w0 w a c p d [] o) : Scn B w0 w a c p d o := by
  rcases o with _ | s
  · exact (h : St _ _ _ _)
  · exact h
theorem ScnX.pair {B : Nat} {w0 w : World} {a c p : Nat} {d : Dev} {X : List Asset} {o : Option VS} (h : ScnX B w0 w a c p d X o) : ∃ x y, St B w0 w (pairL a c p d x y ++ X) := by
  rcases o with _ | s
  · exact ⟨_, _, h⟩
  · obtain ⟨v, u, h⟩ := h
    exact ⟨_, _, h.drop_post⟩
theorem Scn.below {B : Nat} {w0 w w' : World} {a c p : Nat} {d : Dev} {o : Option VS} (h : Scn B w0 w a c p d o) (hb : Below w.heap.size w w') : Scn B w0 w' a c p d o := by
  rcases o with _ | s
  · exact St.below (h : St _ _ _ _) hb
  · obtain ⟨v, u, h⟩ := h
    exact ⟨v, u, h.below hb⟩
theorem Scn.pair {B : Nat} {w0 w : World} {a c p : Nat} {d : Dev} {o : Option VS} (h : Scn B w0 w a c p d o) : ∃ x y, St B w0 w (pairL a c p d x y) := by
  rcases o with _ | s
  · exact ⟨_, _, h⟩
  · obtain ⟨v, u, h⟩ := h
    exact ⟨_, _, h.drop_post⟩
theorem Scn.grew {B : Nat} {w0 w : World} {a c p : Nat} {d : Dev} {o : Option VS} (h : Scn B w0 w a c p d o) : Below B w0 w := by
  obtain ⟨x, y, h⟩ := h.pair
  exact h.be
theorem Scn.ok {B : Nat} {w0 w : World} {a c p : Nat} {d : Dev} {o : Option VS} (h : Scn B w0 w a c p d o) : d.ok := by
  obtain ⟨x, y, h⟩ := h.pair
  exact h.ok 0 rfl
theorem Scn.bl {B : Nat} {w0 w : World} {a c p : Nat} {d : Dev} {o : Option VS} (h : Scn B w0 w a c p d o) : B ≤ w.heap.size := by
  obtain ⟨x, y, h⟩ := h.pair
  exact h.bl
set_option maxRecDepth 100000 in
set_option maxHeartbeats 2000000 in
theorem opens_any {B : Nat} {w0 w : World} {a c p : Nat} {d : Dev} {x y : Value} {X : List Asset} (h : St B w0 w (pairL a c p d x y ++ X)) (hn : d.img.length ≤ 1000) (hlo : d.loose.length ≤ 100000000) :
    Calls Tryz.prog 18 #[ptr p] w fun e w' => e = .returned (.bool true) ∧ ScnX B w0 w' a c p (openD d).2.1 X (openD d).2.2 := by
  have hb := h.blk 2 rfl
  have c0 := hb.cell (j := 0) rfl
  have hvo := vopen_any h 0 rfl hn hlo
  obtain ⟨q, hq⟩ : ∃ q, openD d = q := ⟨_, rfl⟩
  rw [hq] at hvo ⊢
  obtain ⟨eo, d', o⟩ := q
  dsimp only at hvo ⊢
  have HQ := hid hq; have HO := hid hvo
  clear h hb hq hvo
  unfold ptr at c0 HO ⊢
  go_enter Tryz.func18, Tryz.ntmps18
  go_wp2_with fail
  refine HO.out.mono ?_
  rintro e w1 ⟨r, rfl, h1⟩
  rcases o with _ | s
  · obtain ⟨rfl, h1⟩ := h1
    have h1 : St B w0 w1 ([dev a d', rdev c d, blkA p 37 [ptr a, x, ptr c, y]] ++ X) := h1
    have c2 := (h1.blk 2 rfl).cell (j := 2) rfl
    have HR := hid (ropen_any h1 1 rfl hn hlo)
    clear h1 c0
    unfold ptr at c2 HR
    go_wp2_with fail
    refine HR.out.mono ?_
    rintro e w2 ⟨r2, rfl, h2⟩
    rw [HQ.out] at h2 ⊢
    obtain ⟨rfl, h2⟩ := h2
    have H2 : Hid (St B w0 w2 (pairL a c p d' x y ++ X)) := hid h2
    have hb2 : Blk w2 p 37 [ptr a, x, ptr c, y] := H2.out.blk 2 rfl
    have c1 := hb2.cell (j := 1) rfl
    have f1 := hb2.free 1
    clear h2 hb2 c2
    go_upto_region 4 with fail
    generalize hw3 : World.setCell _ _ _ = w3
    have h3 : St B w0 w3 (pairL a c p d' (.pointer none) y ++ X) := H2.out.blkTurn 2 (g := p) rfl (by rw [← hw3]; exact (Keep.refl (fun k => k = p) w2).setCell (p := ⟨p, 1, none⟩) rfl _) (by rw [← hw3]; exact (H2.out.blk 2 rfl).set 1 (.pointer none))
    have H3 := hid h3
    have hb3 : Blk w3 p 37 [ptr a, .pointer none, ptr c, y] := h3.blk 2 rfl
    have c3 := hb3.cell (j := 3) rfl
    have f3 := hb3.free 3
    clear hw3 h3 hb3 c1 f1
    go_upto_region 5 with fail
    generalize hw4 : World.setCell _ _ _ = w4
    have h4 : St B w0 w4 (pairL a c p d' (.pointer none) (.pointer none) ++ X) := H3.out.blkTurn 2 (g := p) rfl (by rw [← hw4]; exact (Keep.refl (fun k => k = p) w3).setCell (p := ⟨p, 3, none⟩) rfl _) (by rw [← hw4]; exact (H3.out.blk 2 rfl).set 3 (.pointer none))
    have H4 := hid h4
    clear hw4 h4 c3 f3
    go_wp2
    go_ret
    exact ⟨rfl, H4.out⟩
  · obtain ⟨v, rfl, h1⟩ := h1
    have h1 : St B w0 w1 ([dev a d', rdev c d, blkA p 37 [ptr a, x, ptr c, y]] ++ X ++ [vsA v a s]) := h1
    have c2 := (h1.blk 2 rfl).cell (j := 2) rfl
    have HR := hid (ropen_any h1 1 rfl hn hlo)
    clear h1 c0
    unfold ptr at c2 HR
    unfold ptr
    go_wp2_with fail
    refine HR.out.mono ?_
    rintro e w2 ⟨r2, rfl, h2⟩
    rw [HQ.out] at h2 ⊢
    obtain ⟨u, rfl, h2⟩ := h2
    unfold ptr
    have H2 : Hid (St B w0 w2 (pairL a c p d' x y ++ X ++ [vsA v a s, rvA u c s])) := hid (by have h3 : St B w0 w2 (pairL a c p d' x y ++ X ++ [vsA v a s] ++ [rvA u c s]) := h2; rw [List.append_assoc _ [vsA v a s]] at h3; exact h3)
    have hb2 : Blk w2 p 37 [ptr a, x, ptr c, y] := H2.out.blk 2 rfl
    have c1 := hb2.cell (j := 1) rfl
    have f1 := hb2.free 1
    clear h2 hb2 c2
    go_upto_region 4 with fail
    generalize hw3 : World.setCell _ _ _ = w3
    have h3 : St B w0 w3 (pairL a c p d' (ptr v) y ++ X ++ [vsA v a s, rvA u c s]) := H2.out.blkTurn 2 (g := p) rfl (by rw [← hw3]; exact (Keep.refl (fun k => k = p) w2).setCell (p := ⟨p, 1, none⟩) rfl _) (by rw [← hw3]; exact (H2.out.blk 2 rfl).set 1 (ptr v))
    have H3 := hid h3
    have hb3 : Blk w3 p 37 [ptr a, ptr v, ptr c, y] := h3.blk 2 rfl
    have c3 := hb3.cell (j := 3) rfl
    have f3 := hb3.free 3
    clear hw3 h3 hb3 c1 f1
    go_upto_region 5 with fail
    generalize hw4 : World.setCell _ _ _ = w4
    have h4 : St B w0 w4 (pairL a c p d' (ptr v) (ptr u) ++ X ++ [vsA v a s, rvA u c s]) := H3.out.blkTurn 2 (g := p) rfl (by rw [← hw4]; exact (Keep.refl (fun k => k = p) w3).setCell (p := ⟨p, 3, none⟩) rfl _) (by rw [← hw4]; exact (H3.out.blk 2 rfl).set 3 (ptr u))
    have H4 := hid h4
    clear hw4 h4 c3 f3
    go_wp2
    go_ret
    exact ⟨rfl, v, u, H4.out⟩
end Go.Proofs.YtlondopgibcikaaGreat
namespace Go.Proofs.YtlondopgibcikaaGreat
open Go.RowKit Ent
theorem WB.setU8 {w : World} {lo : Option Addr} {m : Nat} (h : WB w lo m) (p : Addr) (x : UInt8) : WB (w.setCell p (.int .u8 (x.toNat : Int))) lo m := by
  rcases h with h | ⟨b, o, rfl, h⟩
  · exact .inl h
  · refine .inr ⟨b, o, rfl, fun j hj => ?_⟩
    obtain ⟨⟨y, hy⟩, hf⟩ := h j hj
    refine ⟨?_, by simpa using hf⟩
    by_cases he : (⟨b, o + j, none⟩ : Addr) = p
    · subst he
      exact ⟨x, World.cell?_setCell_same _ _ _ hy⟩
    · exact ⟨y, by rw [World.cell?_setCell_other _ _ _ _ (Ne.symm he)]; exact hy⟩
set_option maxRecDepth 100000 in
set_option maxHeartbeats 400000 in
theorem over2_any (ao : Option Addr) (n c : Nat) (hb : n ≤ 1073741824) (w : World) (hl : WB w ao n) :
    Calls Tryz.prog 27 #[.slice ao n c] w fun e w' => e = .returned (.tuple #[]) ∧ Keep (fun k => ∃ a, ao = some a ∧ k = a.block ∧ 0 < n) w w' ∧ ∀ lo m, WB w lo m → WB w' lo m := by
  have HL := hid hl
  clear hl
  go_enter Tryz.func27, Tryz.ntmps27
  go_wp2_with fail
  go_loopw [2] (fun i wr => ∃ k : Nat, k ≤ n ∧ i = .int .i64 k ∧ Keep (fun k => ∃ a, ao = some a ∧ k = a.block ∧ 0 < n) w wr ∧ ∀ lo m, WB w lo m → WB wr lo m) (fun i _ => n - (intOf i).toNat)
  case atStart => exact ⟨0, Nat.zero_le _, rfl, Keep.refl _ _, fun _ _ h => h⟩
  case round =>
    obtain ⟨k, hk, rfl, hK, hW⟩ := hrel
    have HK := hid hK; have HW := hid hW
    have hw := hW _ _ HL.out
    clear hK hW
    by_cases hlt : k < n
    · rcases hw with h0 | ⟨b, o, rfl, hc⟩
      · omega
      · obtain ⟨⟨x, hx⟩, hf⟩ := hc k hlt
        clear hc
        go_wp2
        go_roundw
        case rel =>
          refine ⟨k + 1, by omega, by go_num, HK.out.setCell (p := ⟨b, o + k, none⟩) ⟨_, rfl, rfl, by omega⟩ _, fun lo m h => ?_⟩
          rw [over_int]
          exact (HW.out lo m h).setU8 _ _
        case measure => simp [intOf]; omega
    · go_wp2
      go_end0
      exact ⟨rfl, HK.out, HW.out⟩
set_option maxRecDepth 100000 in
set_option maxHeartbeats 1000000 in
theorem overA_any {P : Nat → Prop} (v : Value) (L : List (List UInt8)) (hn : L.length ≤ 1073741824) (hl : ∀ l ∈ L, l.length ≤ 1073741824) (w : World) (h : listA v L w P) :
    Calls Tryz.prog 31 #[v] w fun e w' => e = .returned (.tuple #[]) ∧ Keep P w w' := by
  obtain ⟨vs, Fb, ho, hrw, hFb, hno⟩ := h
  obtain ⟨n, hnn⟩ : ∃ n, L.length = n := ⟨_, rfl⟩
  rw [hnn] at ho hn
  obtain ⟨ao, cap, rfl⟩ := own_slice ho
  have HI : Hid (∀ i, i < n → ∃ g lo m c, ao = some ⟨g, 0, none⟩ ∧ P g ∧ w.cell? ⟨g, i, none⟩ = some (.slice lo m c) ∧ w.frozen? ⟨g, i, none⟩ = false ∧ WB w lo m ∧ m ≤ 1073741824 ∧ ∀ x, lo = some x → P x.block ∧ x.block ≠ g) := hid (fun i hi => by
    obtain ⟨g, hg, _, _, _, hc, hf⟩ := own_cell ho (by omega)
    have hB : P g := (hno g (by rw [hg]; rfl)).1
    obtain ⟨l, hll⟩ : ∃ l, L[i]? = some l := ⟨_, List.getElem?_eq_getElem (by omega)⟩
    obtain ⟨u, hu⟩ : ∃ u, vs[i]? = some u := ⟨_, List.getElem?_eq_getElem (by rw [hrw.1]; omega)⟩
    obtain ⟨lo, c, rfl, hlc, hsb, hwb, hlf⟩ := hrw.2 i u l hu hll
    refine ⟨g, lo, l.length, c, hg, hB, hc i _ hu, hf i, hwb, hl l (List.mem_of_getElem? hll), fun x hx => ⟨hFb _ (hlf x hx), fun e => ?_⟩⟩
    refine (hno g (by rw [hg]; rfl)).2 ?_
    rw [← e]; exact hlf x hx)
  clear ho hrw hFb hno hnn hl
  go_enter Tryz.func31, Tryz.ntmps31
  go_wp2_with fail
  go_loopw [2] (fun i wr => ∃ k : Nat, k ≤ n ∧ i = .int .i64 k ∧ Keep P w wr ∧ ∀ i, k ≤ i → i < n → ∃ g lo m c, ao = some ⟨g, 0, none⟩ ∧ P g ∧ wr.cell? ⟨g, i, none⟩ = some (.slice lo m c) ∧ wr.frozen? ⟨g, i, none⟩ = false ∧ WB wr lo m ∧ m ≤ 1073741824 ∧ ∀ x, lo = some x → P x.block ∧ x.block ≠ g) (fun i _ => n - (intOf i).toNat)
  case atStart => exact ⟨0, Nat.zero_le _, rfl, Keep.refl _ _, fun i _ hi => HI.out i hi⟩
  case round =>
    obtain ⟨k, hk, rfl, hK, hR⟩ := hrel
    have HK := hid hK; have HR := hid hR
    clear hK hR
    by_cases hlt : k < n
    · obtain ⟨g, lo, m, c, rfl, hB, hc, hf, hwb, hm, hx⟩ := HR.out k (Nat.le_refl _) hlt
      have HWB := hid hwb; have HX := hid hx; have HC := hid hc; have HF := hid hf
      clear hwb hx hf
      go_wp2_with fail
      refine (over2_any lo m c hm wr HWB.out).mono ?_
      rintro e w2 ⟨rfl, hk2, hw2⟩
      have HK2 := hid hk2; have HW2 := hid hw2
      have hng : ¬ ∃ a, lo = some a ∧ g = a.block ∧ 0 < m := fun ⟨a, h1, h2, _⟩ => (HX.out a h1).2 h2.symm
      have c2 : w2.cell? ⟨g, k, none⟩ = some (.slice lo m c) := by rw [HK2.out.cell (World.block_lt_of_cell? wr _ HC.out) hng]; exact HC.out
      have f2 : w2.frozen? ⟨g, k, none⟩ = false := by rw [HK2.out.frozen (World.block_lt_of_cell? wr _ HC.out) hng]; exact HF.out
      have HR2 : Hid (∀ i, k + 1 ≤ i → i < n → ∃ g' lo m c, some (⟨g, 0, none⟩ : Addr) = some ⟨g', 0, none⟩ ∧ P g' ∧ (w2.setCell ⟨g, k, none⟩ (.slice none 0 0)).cell? ⟨g', i, none⟩ = some (.slice lo m c) ∧ (w2.setCell ⟨g, k, none⟩ (.slice none 0 0)).frozen? ⟨g', i, none⟩ = false ∧ WB (w2.setCell ⟨g, k, none⟩ (.slice none 0 0)) lo m ∧ m ≤ 1073741824 ∧ ∀ x, lo = some x → P x.block ∧ x.block ≠ g') := hid (fun i hki hi => by
        obtain ⟨g', lo', m', c', e1, h1, h2, h3, h4, h5, h6⟩ := HR.out i (by omega) hi
        injection e1 with e1; injection e1 with e1
        subst e1
        have hlt2 := World.block_lt_of_cell? wr _ h2
        refine ⟨g, lo', m', c', rfl, h1, ?_, ?_, ?_, h5, h6⟩
        · rw [World.cell?_setCell_other _ _ _ _ (by intro e; injection e; omega), HK2.out.cell hlt2 hng]; exact h2
        · rw [World.frozen?_setCell, HK2.out.frozen hlt2 hng]; exact h3
        · exact (HW2.out lo' m' h4).keep ((Keep.refl (fun k => k = g) w2).setCell (p := ⟨g, k, none⟩) rfl _) (fun a ha e => (h6 a ha).2 e))
      have HK3 : Hid (Keep P w (w2.setCell ⟨g, k, none⟩ (.slice none 0 0))) := hid ((HK.out.trans (HK2.out.mono fun k _ ⟨a, h1, h2, _⟩ => by rw [h2]; exact (HX.out a h1).1)).setCell (p := ⟨g, k, none⟩) hB _)
      clear hng hk2 hw2 hc
      go_wp2
      go_roundw
      case rel => exact ⟨k + 1, by omega, by go_num, HK3.out, HR2.out⟩
      case measure => simp [intOf]; omega
    · go_wp2
      go_end0
      exact ⟨rfl, HK.out⟩
theorem overLists_any {B : Nat} (v : Value) (L : List (List UInt8)) (hn : L.length ≤ 1073741824) (hl : ∀ l ∈ L, l.length ≤ 1073741824) (w : World) (h : FreshL B w v L) :
    Calls Tryz.prog 31 #[v] w fun e w' => e = .returned (.tuple #[]) ∧ Keep (fun k => B ≤ k) w w' := by
  refine (overA_any v L hn hl w h.listA).mono ?_
  rintro e w' ⟨rfl, hk⟩
  exact ⟨rfl, hk.mono fun k _ h => h.1⟩
end Go.Proofs.YtlondopgibcikaaGreat
namespace Go.Proofs.YtlondopgibcikaaGreat
open Go.RowKit Ent
theorem sameL_refl (L : List (List UInt8)) : sameL L L = true := by simp [sameL]
/-- the slice that is an act's first record -/
def FirstAt (w : World) (a : Act7) (ro : Option Addr) (rc : Nat) : Prop := (a.L = [] ∧ ro = none ∧ rc = 0) ∨ ∃ b o, a.lo = some ⟨b, o, none⟩ ∧ a.L ≠ [] ∧ w.cell? ⟨b, o, none⟩ = some (.slice ro (firstR a).length rc)
theorem FirstAt.below {w w' : World} {a : Act7} {ro : Option Addr} {rc : Nat} (h : FirstAt w a ro rc) (hb : Below w.heap.size w w') : FirstAt w' a ro rc := by
  rcases h with h | ⟨b, o, h1, h2, h3⟩
  · exact .inl h
  · exact .inr ⟨b, o, h1, h2, (hb.cell (World.block_lt_of_cell? _ _ h3)).trans h3⟩
theorem Act7.fits.first {w : World} {a : Act7} (h : a.fits w) : ∃ ro rc, FirstAt w a ro rc ∧ (firstR a).length ≤ rc ∧ SB w ro rc (firstR a) ∧ (firstR a ≠ [] → ∀ x, ro = some x → x.block < w.heap.size) := by
  obtain ⟨kind, n, lo, lc, L, ko, kc, keep⟩ := a
  have hlr := h.lr
  simp only at hlr
  rcases L with _ | ⟨r, L⟩
  · exact ⟨none, 0, .inl ⟨rfl, rfl, rfl⟩, Nat.le_refl _, SB.nil _, fun h => absurd rfl h⟩
  · rcases hlr with h0 | ⟨b, o, rfl, h0⟩
    · cases h0
    · obtain ⟨ro, rc, cr, hrc, hs⟩ := h0 0 r rfl
      exact ⟨ro, rc, .inr ⟨b, o, rfl, by simp, cr⟩, hrc, hs, fun hne x hx => sb_lt hs hne x hx⟩
set_option maxRecDepth 100000 in
theorem first7_at (a : Act7) (ro : Option Addr) (rc : Nat) (w : World) (h : FirstAt w a ro rc) :
    Calls Tryz.prog 25 #[.agg a.cells.toArray] w fun e w' => e = .returned (.slice ro (firstR a).length rc) ∧ Below w.heap.size w w' := by
  obtain ⟨kind, n, lo, lc, L, ko, kc, keep⟩ := a
  unfold Act7.cells
  simp only
  obtain ⟨m, hm⟩ : ∃ m, L.length = m := ⟨_, rfl⟩
  rw [hm]
  obtain ⟨w1, hw1⟩ : ∃ w1, w.alloc (.cells #[.int .i64 kind, .int .i64 n, .slice lo m lc, .slice ko keep.length kc] 42) = w1 := ⟨_, rfl⟩
  have HBX : Hid (Blk w1 w.heap.size 42 [.int .i64 kind, .int .i64 n, .slice lo m lc, .slice ko keep.length kc]) := hid (by rw [← hw1]; exact alloc_new w _)
  have HB1 : Hid (Below w.heap.size w w1) := hid (by rw [← hw1]; exact fresh_alloc w _)
  have HW1 := hid hw1
  have c2 := HBX.out.cell (j := 2) rfl
  clear hw1
  rcases h with ⟨h0, rfl, rfl⟩ | ⟨b, o, h1, h2, h3⟩
  · simp only at h0
    subst h0
    obtain rfl : m = 0 := hm.symm
    clear hm
    go_enter Tryz.func25, Tryz.ntmps25
    go_upto_region 1 with fail
    rw [HW1.out]
    go_wp2
    go_ret
    exact ⟨rfl, HB1.out⟩
  · simp only at h1 h2
    subst h1
    obtain ⟨q, hq⟩ : ∃ q, (firstR ⟨kind, n, some ⟨b, o, none⟩, lc, L, ko, kc, keep⟩).length = q := ⟨_, rfl⟩
    rw [hq] at h3 ⊢
    have cr1 := (HB1.out.cell (World.block_lt_of_cell? _ _ h3)).trans h3
    have hpos : 0 < m := by rw [← hm]; exact List.length_pos_iff.2 h2
    have qz : ((m : Int) == 0) = false := by rw [beq_eq_false_iff_ne]; omega
    clear h3 h2 hq hm
    go_enter Tryz.func25, Tryz.ntmps25
    go_upto_region 1 with fail
    rw [HW1.out]
    go_wp2
    go_ret
    exact ⟨rfl, HB1.out⟩
end Go.Proofs.YtlondopgibcikaaGreat
namespace Go.Proofs.YtlondopgibcikaaGreat
open Go.RowKit Ent
/-- a vault that is nil, or that nobody opened -/
def NoneV (w : World) (v : Value) : Prop := v = .pointer none ∨ ∃ a, v = ptr a ∧ w.cell? ⟨a, 0, none⟩ = some (.pointer none)
theorem NoneV.below {w w' : World} {v : Value} (h : NoneV w v) (hb : Below w.heap.size w w') : NoneV w' v := by
  rcases h with h | ⟨a, h1, h2⟩
  · exact .inl h
  · exact .inr ⟨a, h1, by rw [hb.cell (World.block_lt_of_cell? w _ h2)]; exact h2⟩
set_option maxRecDepth 100000 in
theorem none7_none (v : Value) (w : World) (h : NoneV w v) :
    Calls Tryz.prog 91 #[v] w fun e w' => e = .returned (.bool true) ∧ w' = w := by
  rcases h with rfl | ⟨a, rfl, c0⟩
  · go_enter Tryz.func91, Tryz.ntmps91
    go_wp2
    go_ret
    exact ⟨rfl, rfl⟩
  · unfold ptr
    go_enter Tryz.func91, Tryz.ntmps91
    go_wp2
    go_ret
    exact ⟨rfl, rfl⟩
set_option maxRecDepth 100000 in
theorem none7_ready (v : Value) (w : World) (h : NoneV w v) :
    Calls Tryz.prog 70 #[v] w fun e w' => e = .returned (.int .i64 1) ∧ w' = w := by
  have H := hid h
  clear h
  go_enter Tryz.func70, Tryz.ntmps70
  go_wp2_with fail
  refine (none7_none v w H.out).mono ?_
  rintro e w' ⟨rfl, rfl⟩
  go_wp2
  go_ret
  exact ⟨rfl, rfl⟩
set_option maxRecDepth 100000 in
theorem none7_append (v : Value) (ao : Option Addr) (m c : Nat) (w : World) (h : NoneV w v) :
    Calls Tryz.prog 24 #[v, .slice ao m c] w fun e w' => e = .returned (.int .i64 1) ∧ Below w.heap.size w w' := by
  obtain ⟨w1, hw1⟩ : ∃ w1, w.alloc (.cells #[v] 34) = w1 := ⟨_, rfl⟩
  obtain ⟨w2, hw2⟩ : ∃ w2, w1.alloc (.cells #[.slice ao m c] 44) = w2 := ⟨_, rfl⟩
  have hb2 : Below w.heap.size w w2 := by rw [← hw2, ← hw1]; exact (fresh_alloc w _).alloc (by rw [World.size_alloc]; omega) _
  have cv : w2.cell? ⟨w.heap.size, 0, none⟩ = some v := by
    rw [← hw2]; exact cell_blk (alloc_old (by rw [← hw1]; exact alloc_new w _) _) rfl
  have H := hid (h.below hb2); have HB2 := hid hb2; have HW1 := hid hw1; have HW2 := hid hw2
  obtain ⟨bv, hbv⟩ : ∃ bv, w.heap.size = bv := ⟨_, rfl⟩
  have HBV := hid hbv
  rw [hbv] at cv
  have hvt : (∃ x, v = .pointer x) := by rcases h with h | ⟨a, h, _⟩ <;> exact ⟨_, h⟩
  obtain ⟨x, rfl⟩ := hvt
  clear h hb2 hw1 hw2 hbv
  go_enter Tryz.func24, Tryz.ntmps24
  go_upto_region 1 with fail
  rw [HW1.out, HW2.out, HBV.out]
  go_wp2_with fail
  refine (none7_ready _ w2 H.out).mono ?_
  rintro e w' ⟨rfl, hw'⟩
  subst w'
  go_wp2
  go_ret
  exact ⟨rfl, HB2.out⟩
set_option maxRecDepth 100000 in
theorem none7_replace (v : Value) (ao : Option Addr) (m c : Nat) (w : World) (h : NoneV w v) :
    Calls Tryz.prog 28 #[v, .slice ao m c] w fun e w' => e = .returned (.int .i64 1) ∧ Below w.heap.size w w' := by
  obtain ⟨w1, hw1⟩ : ∃ w1, w.alloc (.cells #[v] 34) = w1 := ⟨_, rfl⟩
  obtain ⟨w2, hw2⟩ : ∃ w2, w1.alloc (.cells #[.slice ao m c] 39) = w2 := ⟨_, rfl⟩
  have hb2 : Below w.heap.size w w2 := by rw [← hw2, ← hw1]; exact (fresh_alloc w _).alloc (by rw [World.size_alloc]; omega) _
  have cv : w2.cell? ⟨w.heap.size, 0, none⟩ = some v := by
    rw [← hw2]; exact cell_blk (alloc_old (by rw [← hw1]; exact alloc_new w _) _) rfl
  obtain ⟨bv, hbv⟩ : ∃ bv, w.heap.size = bv := ⟨_, rfl⟩
  obtain ⟨bl, hbl⟩ : ∃ bl, w1.heap.size = bl := ⟨_, rfl⟩
  have H := hid (h.below hb2); have HB2 := hid hb2; have HW1 := hid hw1; have HW2 := hid hw2
  have HBV := hid hbv
  have HBL : Hid (bv + 1 = bl) := hid (by rw [← hbl, ← hw1, ← hbv]; exact (World.size_alloc _ _).symm)
  rw [hbv] at cv
  have hvt : (∃ x, v = .pointer x) := by rcases h with h | ⟨a, h, _⟩ <;> exact ⟨_, h⟩
  obtain ⟨x, rfl⟩ := hvt
  clear h hb2 hw1 hw2 hbv hbl
  go_enter Tryz.func28, Tryz.ntmps28
  go_upto_region 1 with fail
  rw [HW1.out, HBV.out, HW2.out, HBL.out]
  go_wp2_with (refine wpl_layV rowF rfl 2 _ rfl [.func (.func 70) #[.pointer x] #[], .func (.func 79) #[] #[ptr bv, ptr bl]] rfl (by omega) (by omega) (by simp [Value.cells]) (by simp [Act.eval, ptr]) ?_; intro w6 hb6 h6; have HB6 := hid hb6; have H6 := hid h6; clear hb6 h6)
  refine (vall_any w2.heap.size 2 (by omega) (fun k => if k = 0 then 70 else 79) (fun k => if k = 0 then #[.pointer x] else #[]) (fun k => if k = 0 then #[] else #[ptr bv, ptr bl]) (fun k w' => k = 0 ∧ w' = w6) (fun c w' => c = 1 ∧ w' = w6) (fun k w' hk ⟨h0, h1⟩ => by subst h0; subst h1; exact H6.out.cell (j := 0) rfl) (fun k w' hk ⟨h0, h1⟩ => by
    subst h0; subst h1
    refine (none7_ready _ w' (H.out.below HB6.out)).mono ?_
    rintro e w9 ⟨rfl, rfl⟩
    exact ⟨1, rfl, fun h => by omega, fun _ => ⟨rfl, rfl⟩⟩) (fun k hk xs w' => by
    rcases (by omega : k = 0 ∨ k = 1) with rfl | rfl
    · exact enter_ready xs w'
    · exact enter_r1 xs w') w6 ⟨rfl, rfl⟩).mono ?_
  rintro e w7 ⟨c7, rfl, h0, h1⟩
  have hc7 : c7 = 1 ∧ w7 = w6 := by
    by_cases hc : c7 = 0
    · have := (h0 hc).1; omega
    · exact h1 hc
  obtain ⟨rfl, rfl⟩ := hc7
  clear h0 h1
  have HB7 := hid (HB2.out.trans (HB6.out.mono HB2.out.size))
  go_wp2
  go_ret
  exact ⟨rfl, HB7.out⟩
end Go.Proofs.YtlondopgibcikaaGreat
