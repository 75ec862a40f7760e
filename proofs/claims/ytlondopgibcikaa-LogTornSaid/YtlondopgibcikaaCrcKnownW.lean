/- The walk of CrcKnown. -/
import Derived.Test.YtlondopgibcikaaRows
import Derived.Test.YtlondopgibcikaaPlainCrc
import Derived.Test.YtlondopgibcikaaBits
import Derived.Test.YtlondopgibcikaaHeap
import Derived.Test.YtlondopgibcikaaCrcW
import Derived.Test.YtlondopgibcikaaKit
import Derived.Test.YtlondopgibcikaaCrcV
import Derived.Test.YtlondopgibcikaaRef1
import Derived.Test.YtlondopgibcikaaLaw01
import Derived.Test.YtlondopgibcikaaCrcJ
import Derived.WalkKit
import Derived.WalkSpells
import Derived.WalkLawsBesides
import Derived.Deep.RegionHeld3
import Derived.Lib.SlBytesConst
namespace Go.Proofs.Ytlondopgibcikaa
open Go.RowKit Ent

theorem SB.some {w : World} {ao : Option Addr} {cap : Nat} {l : List UInt8} (h : SB w ao cap l) (hl : 0 < l.length) : ∃ b o, ao = some ⟨b, o, none⟩ ∧ w.rangeAt b o (bv l) := by
  rcases h with ⟨_, _, rfl⟩ | ⟨_, _, rfl⟩ | h
  · simp at hl
  · simp at hl
  · exact h
theorem join9 : ((cjoin (csum [49, 50, 51, 52]) (csum [53, 54, 55, 56, 57]) 5).toNat : Int) = 3421780262 := by decide +kernel
theorem sum0 : ((csum []).toNat : Int) = 0 := by decide +kernel
theorem seal9 : csealed [49, 50, 51, 52, 53, 54, 55, 56, 57] = [49, 50, 51, 52, 53, 54, 55, 56, 57, 38, 57, 244, 203] := by decide +kernel
theorem seal0 : csealed [] = [0, 0, 0, 0] := by decide +kernel

set_option maxRecDepth 100000 in
set_option maxHeartbeats 1000000 in
theorem known1_any (w : World) :
    Calls Try.prog 4 #[] w fun e w' => e = .returned (.bool true) ∧ Below w.heap.size w w' := by
  have h1 := join9
  have h2 := sum0
  have kc := fun (w : World) (C : Array Value) (n c : Nat) => Lib.run_convert_bytes_const (P := Try.prog) w 22 5 C n c Try.underlying22 Try.underlying5
  go_enter Try.func4, Try.ntmps4
  go_wp2_with fail
  refine (sum_any _ _ _ [49, 50, 51, 52] rfl (by decide) _ (SB.laid _ [49, 50, 51, 52] _ _)).mono ?_
  rintro e w1 ⟨rfl, hb1⟩
  have hb := th (fresh_alloc w _) hb1
  clear hb1
  go_wp2_with fail
  refine (sum_any _ _ _ [53, 54, 55, 56, 57] rfl (by decide) _ (SB.laid _ [53, 54, 55, 56, 57] _ _)).mono ?_
  rintro e w2 ⟨rfl, hb2⟩
  have hb := tha hb hb2
  clear hb2
  go_wp2_with fail
  refine (join_any (csum [49, 50, 51, 52]) (csum [53, 54, 55, 56, 57]) 5 (by decide) _).mono ?_
  rintro e w3 ⟨rfl, hb3⟩
  have hb := th hb hb3
  clear hb3
  go_wp2_with fail
  refine (join_range 0#32 0#32 (-1) (by decide) _).mono ?_
  rintro e w4 ⟨rfl, rfl⟩
  go_wp2_with fail
  refine (seal_any _ _ _ [49, 50, 51, 52, 53, 54, 55, 56, 57] rfl (by decide) _ (SB.laid _ [49, 50, 51, 52, 53, 54, 55, 56, 57] _ _)).mono ?_
  rintro e w4 ⟨v, rfl, ho, hb4⟩
  rw [seal9] at ho
  obtain ⟨ao, cs, rfl, hn, hc, hs, -, -⟩ := own_all ho
  have hc13 : 13 ≤ cs := hc
  have hne : ¬ cs = 9 := by omega
  have hI : (9 : Int) ≤ (cs : Int) := by omega
  obtain ⟨b, o, rfl, hr⟩ := hs.some (by decide)
  have s9 : SB w4 (some ⟨b, o + 9, none⟩) (cs - 9) [38, 57, 244, 203] := SB.drop hr 9
  have hb := tha hb hb4
  clear hb4 ho hn hc hs hr
  go_wp2_with fail
  refine (awake1_any _).mono ?_
  rintro e w5 ⟨rfl, hb5⟩
  have s9 := s9.below hb5
  have hb := th hb hb5
  clear hb5
  go_wp2_with fail
  refine (sum_any none 0 0 [] rfl (by decide) _ (SB.nil _)).mono ?_
  rintro e w6 ⟨rfl, hb6⟩
  have s9 := s9.below hb6
  have hb := th hb hb6
  clear hb6
  go_wp2_with fail
  refine (same_any _ _ _ _ _ _ [38, 57, 244, 203] [38, 57, 244, 203] rfl rfl _ (s9.below (fresh_alloc _ _)) (SB.laid _ [38, 57, 244, 203] _ 4)).mono ?_
  rintro e w7 ⟨rfl, rfl⟩
  rw [same_self]
  have hb := hb.alloc hb.size (.cells (bv [38, 57, 244, 203]).toArray 5)
  clear s9
  go_wp2_with fail
  refine (seal_any none 0 0 [] rfl (by decide) _ (SB.nil _)).mono ?_
  rintro e w7 ⟨v, rfl, ho, hb7⟩
  rw [seal0] at ho
  obtain ⟨ao, cs0, rfl, hn, hc, hs, -, -⟩ := own_all ho
  have hb := th hb hb7
  clear hb7 ho hn hc
  go_wp2_with fail
  refine (same_any _ _ _ _ _ _ [0, 0, 0, 0] [0, 0, 0, 0] rfl rfl _ (hs.below (fresh_alloc _ _)) (SB.laid _ [0, 0, 0, 0] _ 4)).mono ?_
  rintro e w8 ⟨rfl, hw8⟩
  rw [same_self]
  have hb : Below w.heap.size w w8 := hw8 ▸ hb.alloc hb.size _
  clear hs hw8
  go_wp2_with fail
  refine (opens1_any _ _ _ _ _ _ [0, 0, 0, 1] [] 5 rfl (by decide) (by decide) rfl _ (SB.laid _ [0, 0, 0, 1] _ _) (SB.nil _) (by decide +kernel)).mono ?_
  rintro e w8 ⟨rfl, hb8⟩
  have hb := tha hb hb8
  go_wp2
  go_ret
  exact ⟨by simp, hb⟩
end Go.Proofs.Ytlondopgibcikaa
