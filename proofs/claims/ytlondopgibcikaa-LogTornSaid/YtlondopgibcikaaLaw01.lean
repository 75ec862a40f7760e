/- The walks of entrepotlaw01's laws. -/
import Derived.Test.YtlondopgibcikaaRows
import Derived.Test.YtlondopgibcikaaPlainCrc
import Derived.Test.YtlondopgibcikaaBits
import Derived.Test.YtlondopgibcikaaHeap
import Derived.Test.YtlondopgibcikaaCrcW
import Derived.Test.YtlondopgibcikaaKit
import Derived.Test.YtlondopgibcikaaCrcV
import Derived.Test.YtlondopgibcikaaRef1
import Derived.WalkKit
import Derived.WalkSpells
import Derived.WalkLawsBesides
import Derived.Deep.RegionHeld3
import Derived.Lib.SlBytesConst
namespace Go.Proofs.Ytlondopgibcikaa
open Go.RowKit Ent

theorem sum9 : ((csum [49, 50, 51, 52, 53, 54, 55, 56, 57]).toNat : Int) = 3421780262 := by decide +kernel
theorem more9 : ((cmore (csum [49, 50, 51, 52]) [53, 54, 55, 56, 57]).toNat : Int) = 3421780262 := by decide +kernel

set_option maxRecDepth 100000 in
set_option maxHeartbeats 400000 in
theorem opens1_any (ao bo : Option Addr) (n m cap d : Nat) (l r : List UInt8) (er : Int) (hn : n = l.length) (hb : n ≤ 1073741824) (hcap : n ≤ cap) (hm : m = r.length) (w : World) (hl : SB w ao cap l) (hr : SB w bo d r) (h : cOpen l = (r, er)) :
    Calls Try.prog 33 #[.slice ao n cap, .slice bo m d, .int .i64 er] w fun e w' => e = .returned (.bool true) ∧ Below w.heap.size w w' := by
  have Hm := hid hm; have Hn := hid hn
  clear hm hn
  go_enter Try.func33, Try.ntmps33
  go_wp2_with fail
  refine (open_any ao n cap l Hn.out hb hcap w hl).mono ?_
  rintro e w1 ⟨v, rfl, ho, hb1⟩
  rw [h] at ho
  obtain ⟨ao2, cap2, rfl, hn2, hs2⟩ := SB.ofOwns ho
  have H := hid h
  rw [H.out]
  clear h hn2 ho
  go_wp2_with fail
  refine (same_any ao2 bo _ m cap2 d r r rfl Hm.out _ hs2 (hr.below hb1)).mono ?_
  rintro e w2 ⟨rfl, rfl⟩
  rw [same_self]
  go_wp2
  go_ret
  exact ⟨by simp, hb1⟩

set_option maxRecDepth 100000 in
set_option maxHeartbeats 400000 in
theorem awake1_any (w : World) :
    Calls Try.prog 22 #[] w fun e w' => e = .returned (.bool true) ∧ Below w.heap.size w w' := by
  have h1 := sum9
  have h2 := more9
  have kc := fun (w : World) (C : Array Value) (n c : Nat) => Lib.run_convert_bytes_const (P := Try.prog) w 22 5 C n c Try.underlying22 Try.underlying5
  go_enter Try.func22, Try.ntmps22
  go_wp2_with fail
  refine (sum_any _ _ _ [49, 50, 51, 52, 53, 54, 55, 56, 57] rfl (by decide) _ (SB.laid _ [49, 50, 51, 52, 53, 54, 55, 56, 57] _ _)).mono ?_
  rintro e w1 ⟨rfl, hb1⟩
  have hb := (fresh_alloc w _).trans (hb1.mono (fresh_alloc w _).size)
  clear hb1
  go_wp2_with fail
  refine (sum_any _ _ _ [49, 50, 51, 52] rfl (by decide) _ (SB.laid _ [49, 50, 51, 52] _ _)).mono ?_
  rintro e w2 ⟨rfl, hb2⟩
  have hb := (hb.alloc hb.size _).trans (hb2.mono (by have := hb.size; simp; omega))
  clear hb2
  go_wp2_with fail
  refine (more_any (csum [49, 50, 51, 52]) _ _ _ [53, 54, 55, 56, 57] rfl (by decide) _ (SB.laid _ [53, 54, 55, 56, 57] _ _)).mono ?_
  rintro e w3 ⟨rfl, hb3⟩
  have hb := (hb.alloc hb.size _).trans (hb3.mono (by have := hb.size; simp; omega))
  clear hb3
  go_wp2_with fail
  refine (opens1_any _ _ _ _ _ _ [0, 0, 0, 0] [] 0 rfl (by decide) (by decide) rfl _ (SB.laid _ [0, 0, 0, 0] _ _) (SB.nil _) (by decide +kernel)).mono ?_
  rintro e w4 ⟨rfl, hb4⟩
  have hb := (hb.alloc hb.size _).trans (hb4.mono (by have := hb.size; simp; omega))
  clear hb4
  go_wp2_with fail
  refine (opens1_any _ _ _ _ _ _ [0, 0, 0] [] 6 rfl (by decide) (by decide) rfl _ (SB.laid _ [0, 0, 0] _ _) (SB.nil _) (by decide +kernel)).mono ?_
  rintro e w5 ⟨rfl, hb5⟩
  have hb := (hb.alloc hb.size _).trans (hb5.mono (by have := hb.size; simp; omega))
  go_wp2
  go_ret
  exact ⟨rfl, hb⟩
end Go.Proofs.Ytlondopgibcikaa
