/- The walk of CrcSeals. -/
import Derived.Test.YtlondopgibcikaaRows
import Derived.Test.YtlondopgibcikaaPlainCrc
import Derived.Test.YtlondopgibcikaaBits
import Derived.Test.YtlondopgibcikaaHeap
import Derived.Test.YtlondopgibcikaaCrcW
import Derived.Test.YtlondopgibcikaaKit
import Derived.Test.YtlondopgibcikaaCrcV
import Derived.Test.YtlondopgibcikaaRef1
import Derived.Test.YtlondopgibcikaaLaw01
import Derived.WalkKit
import Derived.WalkSpells
import Derived.WalkLawsBesides
import Derived.Deep.RegionHeld3
import Derived.Lib.SlBytesConst
namespace Go.Proofs.Ytlondopgibcikaa
open Go.RowKit Ent

set_option maxRecDepth 100000 in
set_option maxHeartbeats 1000000 in
theorem crcSeals_walk (ao : Option Addr) (n cap : Nat) (l : List UInt8) (hn : n = l.length) (hcap : n ≤ cap) (hmx : n ≤ 9223372036854775807) (w : World) (hl : SB w ao cap l) :
    Calls Try.prog 3 #[.slice ao n cap] w fun e w' => e = .returned (.bool true) ∧ Below w.heap.size w w' := by
  by_cases hbig : 500 < n
  · have Hn := hid hn
    clear hn
    go_enter Try.func3, Try.ntmps3
    go_wp2_with (go_at_call 22; ((with_reducible refine (awake1_any _).mono ?_); rintro e w1 ⟨rfl, hb1⟩))
    go_ret
    exact ⟨rfl, hb1⟩
  have hn5 : n ≤ 500 := by omega
  have hb : n ≤ 1073741824 := by omega
  subst hn
  clear hbig
  have HB := hid hb
  clear hb
  go_enter Try.func3, Try.ntmps3
  go_wp2_with fail
  refine (lent_any ao _ cap l rfl HB.out w hl).mono ?_
  rintro e w1 ⟨g, cg, rfl, hog, hb1⟩
  obtain ⟨-, hcg, hr⟩ := own_range hog
  have hs := range_split hr
  have sg : SB w1 (some ⟨g, 0, none⟩) cg l := .inr (.inr ⟨g, 0, rfl, hs.1⟩)
  have hgb := hog.lt g rfl
  have HG := hid (And.intro hog hgb)
  have HC := hid (show l.length ≤ cg by omega)
  clear hr hs hog hcg hgb
  go_wp2_with fail
  refine (seal_any _ _ cg l rfl HB.out w1 sg).mono ?_
  rintro e w2 ⟨vs, rfl, hos, hb2⟩
  obtain ⟨az, cs, rfl, hns, hcs, ss, ws, hbs⟩ := own_all hos
  have HS := hid (And.intro hns hcs)
  clear hns hcs hos
  go_wp2_with fail
  refine (open_any _ _ cg l rfl HB.out HC.out w2 (sg.below hb2)).mono ?_
  rintro e w3 ⟨vc, rfl, hoc, hb3⟩
  obtain ⟨ac, cc, rfl, hnc, hcc, sc, wc, hbc⟩ := own_all hoc
  have HSC := hid (And.intro hnc hcc)
  clear hnc hcc hoc
  go_wp2_with fail
  have b13 := hb2.trans (hb3.mono hb2.size)
  have b03 := hb1.trans (b13.mono hb1.size)
  refine (ropen_any ao _ cap l rfl HB.out hcap w3 (hl.below b03)).mono ?_
  rintro e w4 ⟨vd, rfl, hod, hb4⟩
  obtain ⟨ad, cd, rfl, hnd, hcd, sd, wd, hbd⟩ := own_all hod
  clear hnd hcd hod
  go_wp2_with fail
  have b04 := b03.trans (hb4.mono b03.size)
  refine (rseal_any ao _ cap l rfl HB.out w4 (hl.below b04)).mono ?_
  rintro e w5 ⟨vr, rfl, hor, hb5⟩
  obtain ⟨ar, cr, rfl, hnr, hcr, sr, wr, hbr⟩ := own_all hor
  have HSR := hid hnr
  clear hnr hcr hor
  have b34 := hb4
  have b35 := hb4.trans (hb5.mono hb4.size)
  have b25 := hb3.trans (b35.mono hb3.size)
  have b05 := b04.trans (hb5.mono b04.size)
  go_wp2_with fail
  refine (same_any az ar _ _ cs cr (csealed l) (csealed l) HS.out.1 HSR.out w5 (ss.below b25) sr).mono ?_
  rintro e w6 ⟨rfl, rfl⟩
  rw [same_self]
  go_wp2_with fail
  refine (same_any ac ad _ _ cc cd (cOpen l).1 (cOpen l).1 rfl rfl w5 (sc.below b35) (sd.below hb5)).mono ?_
  rintro e w6 ⟨rfl, rfl⟩
  rw [same_self]
  go_wp2_with fail
  refine (over_any az _ cs (by have := HB.out; omega) w5 (ws.below b25)).mono ?_
  rintro e w6 ⟨rfl, hk6⟩
  go_wp2_with fail
  refine (over_any ac _ cc (by have h := cOpen_len l; have := HB.out; omega) w6 ((wc.below b35).keep hk6 ?_)).mono ?_
  · rintro a ha ⟨a2, ha2, h2, _⟩
    have h3 := hbc a ha; have h4 := hbs a2 ha2; omega
  rintro e w7 ⟨rfl, hk7⟩
  go_wp2_with fail
  have s1 := hb1.size; have s2 := hb2.size; have s3 := hb3.size; have s4 := hb4.size; have s5 := hb5.size; have s6 := hk6.size
  have o7 : w7.ownsRow w.heap.size 5 1 (.slice (some ⟨g, 0, none⟩) (l.length + 4) cg) (l.length + 4) (bv (l ++ lent4)) := by
    have o1 := HG.out.1
    have o5 := owns_below o1 (b13.trans (b35.mono (by omega)))
    refine owns_keep (owns_keep o5 hk6 ?_) hk7 ?_
    · rintro k hk ⟨a2, ha2, h2, _⟩
      have hkg : g = k := by simpa [Value.ownBlock] using hk
      have h4 := hbs a2 ha2; have h5 := HG.out.2.2; omega
    · rintro k hk ⟨a2, ha2, h2, _⟩
      have hkg : g = k := by simpa [Value.ownBlock] using hk
      have h4 := hbc a2 ha2; have h5 := HG.out.2.2; omega
  have b7 : Below w.heap.size w w7 := by
    refine b05.trans ((hk6.belowB b05.size ?_).trans (hk7.belowB (Nat.le_trans b05.size hk6.size) ?_))
    · rintro k hk ⟨a2, ha2, h2, _⟩
      have h4 := hbs a2 ha2; omega
    · rintro k hk ⟨a2, ha2, h2, _⟩
      have h4 := hbc a2 ha2; omega
  have HZ := hid (And.intro hbs hbc)
  clear hbs hbc hbd hbr s1 s2 s3 s4 s5 s6
  refine (kept_any ao _ cap g cg w.heap.size l rfl HB.out w7 o7 (hl.below b7)).mono ?_
  rintro e w8 ⟨rfl, hb8⟩
  go_wp2_with fail
  refine (awake1_any w8).mono ?_
  rintro e w9 ⟨rfl, hb9⟩
  go_wp2
  go_ret
  exact ⟨by simp, (b7.trans (hb8.mono b7.size)).trans (hb9.mono (Nat.le_trans b7.size hb8.size))⟩
end Go.Proofs.Ytlondopgibcikaa
