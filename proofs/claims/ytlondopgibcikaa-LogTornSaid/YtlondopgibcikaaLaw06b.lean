/- Layer 6's helpers: made, awake, many, room. -/
import Derived.Test.YtlondopgibcikaaRows
import Derived.Test.YtlondopgibcikaaHeap
import Derived.Test.YtlondopgibcikaaKit
import Derived.Test.YtlondopgibcikaaCrcV
import Derived.Test.YtlondopgibcikaaDev
import Derived.Test.YtlondopgibcikaaDevW
import Derived.Test.YtlondopgibcikaaDevV
import Derived.Test.YtlondopgibcikaaDevU
import Derived.Test.YtlondopgibcikaaDevT
import Derived.Test.YtlondopgibcikaaDevC
import Derived.Test.YtlondopgibcikaaLaw05
import Derived.Test.YtlondopgibcikaaLL
import Derived.Test.YtlondopgibcikaaSt
import Derived.Test.YtlondopgibcikaaSt2
import Derived.Test.YtlondopgibcikaaLogP
import Derived.Test.YtlondopgibcikaaLogW
import Derived.Test.YtlondopgibcikaaLogX
import Derived.Test.YtlondopgibcikaaLogY
import Derived.Test.YtlondopgibcikaaLogZ
import Derived.Test.YtlondopgibcikaaLogB
import Derived.Test.YtlondopgibcikaaLogS
import Derived.Test.YtlondopgibcikaaLogS2
import Derived.Test.YtlondopgibcikaaLogT
import Derived.Test.YtlondopgibcikaaLogT2
import Derived.Test.YtlondopgibcikaaLaw06
import Derived.WalkKit
import Derived.WalkSpells
import Derived.WalkLawsBesides
import Derived.Deep.RegionHeld3
import Derived.Deep.QuietTactic
import Derived.BigQuiet
namespace Go.Proofs.Ytlondopgibcikaa
open Go.RowKit Ent

section
variable {B : Nat} {w0 w w1 : World} {As : List Asset} {a : Nat} {d : Dev}
/-- one of them, in a world that has only more blocks -/
theorem St.open2 (h : St B w0 w As) (hb : Below w.heap.size w w1) (i : Nat) {A : Asset} (hi : As[i]? = some A) :
    ∃ F, A w1 F ∧ (∀ k, F k → B ≤ k ∧ k < w.heap.size) ∧ ∀ (w' : World) (A' : Asset) (F' : Nat → Prop), Keep F w1 w' → Good A' → A' w' F' → (∀ k, F' k → grow F w1 w' k) → St B w0 w' (As.set i A') := by
  obtain ⟨Fs, hl, ho, _⟩ := h.own
  obtain ⟨F, hA, hF, _, hcl⟩ := h.open i hi
  have hg : Good A := by
    obtain ⟨G, hG⟩ : ∃ G, Fs[i]? = some G := ⟨_, List.getElem?_eq_getElem (by rw [hl]; exact (List.getElem?_eq_some_iff.1 hi).1)⟩
    exact (ho i A G hi hG).1
  refine ⟨F, hg.keep hA (Keep.ofBelow (F := fun _ => False) hb) (fun _ _ h => h), hF, fun w' A' F' hk hg' ha' hF' => ?_⟩
  refine hcl w' A' F' ((Keep.ofBelow hb).trans hk) hg' ha' (fun k hk' => ?_)
  rcases hF' k hk' with h1 | h1
  · exact .inl h1
  · exact .inr ⟨Nat.le_trans hb.size h1.1, h1.2⟩
theorem St.log_write2 (h : St B w0 w As) (hb : Below w.heap.size w w1) (i : Nat) (hi : As[i]? = some (dev a d)) (f t g at_ : Int) (ao : Option Addr) (rn rc : Nat) (rec : List UInt8) (hrn : rn = rec.length) (hrc : rn ≤ rc) (hrm : rn ≤ 9223372036854775807) (hs : SB w1 ao rc rec) (hap : rec ≠ [] → ∀ x, ao = some x → x.block < B ∨ w.heap.size ≤ x.block) (hlo : d.loose.length ≤ 1073000000) (ha1 : -9223372036854775808 ≤ at_ ∧ at_ ≤ 9223372036854775807) :
    Calls Try.prog 64 #[ptr a, .agg #[.int .i64 f, .int .i64 t, .int .i64 g], .int .i64 at_, .slice ao rn rc] w1 fun e w' => e = .returned (.tuple #[.int .i64 (logWrite d f t g at_ rec).1.1, .int .i64 (logWrite d f t g at_ rec).1.2]) ∧ St B w0 w' (As.set i (dev a (logWrite d f t g at_ rec).2)) := by
  obtain ⟨F, hA, hF, hcl⟩ := h.open2 hb i hi
  refine (logWrite_any f t g at_ ao rn rc rec hrn hrc hrm w1 hs (fun hne x hx hF' => by rcases hap hne x hx with h | h <;> have := hF _ hF' <;> omega) hA (fun k hk => Nat.lt_of_lt_of_le (hF k hk).2 hb.size) hlo ha1).mono ?_
  rintro e w' ⟨he, hp, hk⟩
  exact ⟨he, hcl w' _ _ hk (good_dev _ _) hp (fun _ h => h)⟩
theorem St.log_has (h : St B w0 w As) (hb : Below w.heap.size w w1) (i : Nat) (hi : As[i]? = some (dev a d)) (f t g next : Int) (ao : Option Addr) (n c : Nat) (L : List (List UInt8)) (hn : n = L.length) (hnb : n ≤ 1073741824) (hL : LR w1 ao L) :
    Calls Try.prog 71 #[ptr a, .agg #[.int .i64 f, .int .i64 t, .int .i64 g], .int .i64 next, .slice ao n c] w1 fun e w' => e = .returned (.bool (hasB d f t g next L)) ∧ St B w0 w' As := by
  obtain ⟨F, hA, hF, hcl⟩ := h.open2 hb i hi
  refine (has6_any f t g next ao n c L hn hnb w1 hL hA).mono ?_
  rintro e w' ⟨he, hb'⟩
  exact ⟨he, h.below (hb.trans (hb'.mono hb.size))⟩
end
def m60 : Dev := Dev.new 4
def m61 : Dev := (blankOf m60 1 4 7).2
def m62 : Dev := (logWrite m61 1 4 7 0 [97, 98, 99]).2
def m63 : Dev := m62.flush.2
theorem mf1 : (blankOf m60 1 4 7).1 = 0 := by decide +kernel
theorem mf2 : (logWrite m61 1 4 7 0 [97, 98, 99]).1 = (1, 0) := by decide +kernel
theorem mf3 : m62.flush.1 = 0 := by decide +kernel
theorem mf4 : hasB m63 1 4 7 1 [[97, 98, 99]] = true := by decide +kernel
theorem mf5 : hasB m63 1 4 8 0 [] = true := by decide +kernel
theorem mf6 : m60.loose.length ≤ 1073000000 := by decide +kernel
theorem mf7 : m61.loose.length ≤ 1073000000 := by decide +kernel
set_option maxRecDepth 100000 in
set_option maxHeartbeats 400000 in
theorem made6_any {B : Nat} {w0 : World} {As : List Asset} (w : World) (h : St B w0 w As) :
    Calls Try.prog 68 #[] w fun e w' => ∃ a, e = .returned (ptr a) ∧ St B w0 w' (As ++ [dev a m63]) := by
  have H0 := hid h
  clear h
  go_enter Try.func68, Try.ntmps68
  go_wp2_with fail
  refine (H0.out.dev_new 4 (by omega) (by omega)).mono ?_
  rintro e w1 ⟨a, rfl, h1⟩
  have HI : Hid ((As ++ [dev a m60])[As.length]? = some (dev a m60)) := hid (by simp)
  have HI1 : Hid ((As ++ [dev a m61])[As.length]? = some (dev a m61)) := hid (by simp)
  have HI2 : Hid ((As ++ [dev a m62])[As.length]? = some (dev a m62)) := hid (by simp)
  have H1 : Hid (St B w0 w1 (As ++ [dev a m60])) := hid h1
  clear h1
  unfold ptr
  have kc := fun (w : World) (C : Array Value) (n c : Nat) => Lib.run_convert_bytes_const (P := Try.prog) w 22 5 C n c Try.underlying22 Try.underlying5
  go_wp2_with fail
  refine (area6_any 7 w1).mono ?_
  rintro e w2 ⟨rfl, hb2⟩
  have H2 := hid (H1.out.below hb2)
  clear hb2
  go_wp2_with fail
  refine (H2.out.log_blank As.length HI.out 1 4 7 mf6).mono ?_
  rintro e w3 ⟨rfl, h3⟩
  have H3 : Hid (St B w0 w3 (As ++ [dev a m61])) := hid (by simpa [m61] using h3)
  clear h3
  rw [mf1]
  go_wp2_with fail
  refine (area6_any 7 w3).mono ?_
  rintro e w4 ⟨rfl, hb4⟩
  have H4 := hid (H3.out.below hb4)
  clear hb4
  go_wp2_with fail
  refine (H4.out.log_write2 (fresh_alloc w4 _) As.length HI1.out 1 4 7 0 _ 3 3 [97, 98, 99] rfl (by omega) (by omega) (SB.laid w4 [97, 98, 99] _ _) (by rintro _ x ⟨⟩; exact .inr (Nat.le_refl _)) mf7 (by omega)).mono ?_
  rintro e w5 ⟨rfl, h5⟩
  have H5 : Hid (St B w0 w5 (As ++ [dev a m62])) := hid (by simpa [m62] using h5)
  clear h5
  rw [mf2]
  go_wp2_with fail
  refine (H5.out.dev_flush As.length HI2.out).mono ?_
  rintro e w6 ⟨rfl, h6⟩
  have H6 : Hid (St B w0 w6 (As ++ [dev a m63])) := hid (by simpa [m63] using h6)
  clear h6
  rw [mf3]
  go_wp2
  go_ret
  exact ⟨a, rfl, H6.out⟩
theorem LR.ofRange {w : World} {g : Nat} {vs : List Value} {L : List (List UInt8)} (hr : w.rangeAt g 0 vs) (hvs : ∀ (i : Nat) (l : List UInt8), L[i]? = some l → ∃ lo cap, vs[i]? = some (.slice lo l.length cap) ∧ l.length ≤ cap ∧ SB w lo cap l) : LR w (some ⟨g, 0, none⟩) L := by
  refine .inr ⟨_, _, rfl, fun i m hm => ?_⟩
  obtain ⟨lo, cap, h1, h2, h3⟩ := hvs i m hm
  exact ⟨lo, cap, hr i _ h1, h2, h3⟩
theorem LR.laid1 (w : World) (v : Value) (lo : Option Addr) (c : Nat) (l : List UInt8) (hv : v = .slice lo l.length c) (hc : l.length ≤ c) (T : TypeId) (hs : SB w lo c l) {fr : Nat × Nat} {g : Nat} (hg : g = w.heap.size) :
    LR (w.alloc (.cells #[v] T fr)) (some ⟨g, 0, none⟩) [l] := by
  subst hg
  refine LR.ofRange (vs := [v]) (fun j u hu => by rw [Nat.zero_add]; exact (cell_of_row _ _ _ _ _ _ (alloc_new w _)).trans (by simpa using hu)) (fun i m hm => ?_)
  rcases i with _ | i
  · injection hm with hm; subst hm
    exact ⟨lo, c, by rw [hv]; rfl, hc, hs.below (fresh_alloc w _)⟩
  · simp at hm
theorem LR.laid2 (w : World) (v u : Value) (lo lo2 : Option Addr) (c c2 : Nat) (l m : List UInt8) (hv : v = .slice lo l.length c) (hu : u = .slice lo2 m.length c2) (hc : l.length ≤ c) (hc2 : m.length ≤ c2) (T : TypeId) (hs : SB w lo c l) (hs2 : SB w lo2 c2 m) {fr : Nat × Nat} {g : Nat} (hg : g = w.heap.size) :
    LR (w.alloc (.cells #[v, u] T fr)) (some ⟨g, 0, none⟩) [l, m] := by
  subst hg
  refine LR.ofRange (vs := [v, u]) (fun j u hu => by rw [Nat.zero_add]; exact (cell_of_row _ _ _ _ _ _ (alloc_new w _)).trans (by simpa using hu)) (fun i x hx => ?_)
  rcases i with _ | _ | i
  · injection hx with hx; subst hx
    exact ⟨lo, c, by rw [hv]; rfl, hc, hs.below (fresh_alloc w _)⟩
  · injection hx with hx; subst hx
    exact ⟨lo2, c2, by rw [hu]; rfl, hc2, hs2.below (fresh_alloc w _)⟩
  · simp at hx
set_option maxRecDepth 100000 in
set_option maxHeartbeats 400000 in
theorem awake6_any (w : World) : Calls Try.prog 63 #[] w fun e w' => e = .returned (.bool true) ∧ Below w.heap.size w w' := by
  go_enter Try.func63, Try.ntmps63
  go_wp2_with fail
  refine (made6_any w (St.start w)).mono ?_
  rintro e w1 ⟨a, rfl, h1⟩
  have H1 := hid h1
  clear h1
  unfold ptr
  have kc := fun (w : World) (C : Array Value) (n c : Nat) => Lib.run_convert_bytes_const (P := Try.prog) w 22 5 C n c Try.underlying22 Try.underlying5
  go_wp2_with fail
  refine (need_any 50 (by omega) w1).mono ?_
  rintro e w' ⟨rfl, rfl⟩
  rw [show needOf 50 = 2 from rfl]
  go_wp2_with fail
  refine (area6_any 7 w').mono ?_
  rintro e w2 ⟨rfl, hb2⟩
  have H2 := hid (H1.out.below hb2)
  clear hb2
  go_wp2_with fail
  refine (H2.out.log_has (w1 := (w2.alloc (Obj.cells #[Value.int IntKind.u8 97, Value.int IntKind.u8 98, Value.int IntKind.u8 99] 5 (3, 4))).alloc (Obj.cells #[Value.slice (some { block := w2.heap.size, off := 0 }) 3 3] 22)) ((fresh_alloc w2 _).alloc (by simp) _) 0 rfl 1 4 7 1 _ 1 1 [[97, 98, 99]] rfl (by omega) (LR.laid1 _ _ _ 3 [97, 98, 99] rfl (by decide) _ (SB.laid w2 [97, 98, 99] _ _) (by simp))).mono ?_
  rintro e w3 ⟨rfl, h3⟩
  have H3 := hid h3
  clear h3
  rw [mf4]
  go_wp2_with fail
  refine (area6_any 8 w3).mono ?_
  rintro e w4 ⟨rfl, hb4⟩
  have H4 := hid (H3.out.below hb4)
  clear hb4
  go_wp2_with fail
  refine (H4.out.log_has (Below.refl _ _) 0 rfl 1 4 8 0 none 0 0 [] rfl (by omega) (.inl rfl)).mono ?_
  rintro e w5 ⟨rfl, h5⟩
  have H5 := hid h5
  clear h5
  rw [mf5]
  go_wp2
  go_ret
  exact ⟨rfl, H5.out.be⟩
end Go.Proofs.Ytlondopgibcikaa
