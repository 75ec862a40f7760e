/- LogTorn: the walk. -/
import Derived.Test.YtlondopgibcikaaRows
import Derived.Test.YtlondopgibcikaaHeap
import Derived.Test.YtlondopgibcikaaKit
import Derived.Test.YtlondopgibcikaaCrcV
import Derived.Test.YtlondopgibcikaaCrcPartsW
import Derived.Test.YtlondopgibcikaaDev
import Derived.Test.YtlondopgibcikaaDevW
import Derived.Test.YtlondopgibcikaaDevV
import Derived.Test.YtlondopgibcikaaDevU
import Derived.Test.YtlondopgibcikaaDevT
import Derived.Test.YtlondopgibcikaaDevC
import Derived.Test.YtlondopgibcikaaLaw05
import Derived.Test.YtlondopgibcikaaLL
import Derived.Test.YtlondopgibcikaaSt
import Derived.Test.YtlondopgibcikaaSt2
import Derived.Test.YtlondopgibcikaaLogP
import Derived.Test.YtlondopgibcikaaLogW
import Derived.Test.YtlondopgibcikaaLogX
import Derived.Test.YtlondopgibcikaaLogY
import Derived.Test.YtlondopgibcikaaLogZ
import Derived.Test.YtlondopgibcikaaLogB
import Derived.Test.YtlondopgibcikaaLogS
import Derived.Test.YtlondopgibcikaaLogS2
import Derived.Test.YtlondopgibcikaaLogT
import Derived.Test.YtlondopgibcikaaLogT2
import Derived.Test.YtlondopgibcikaaLaw06
import Derived.Test.YtlondopgibcikaaLaw06b
import Derived.Test.YtlondopgibcikaaLaw06c
import Derived.Test.YtlondopgibcikaaLogQ
import Derived.Test.YtlondopgibcikaaLogR
import Derived.Test.YtlondopgibcikaaLogD
import Derived.Test.YtlondopgibcikaaLogE
import Derived.Test.YtlondopgibcikaaRoom
import Derived.Test.YtlondopgibcikaaSt3
import Derived.Test.YtlondopgibcikaaLongL
import Derived.WalkKit
import Derived.WalkSpells
import Derived.WalkLawsBesides
import Derived.Deep.RegionHeld3
import Derived.Deep.QuietTactic
import Derived.BigQuiet
namespace Go.Proofs.Ytlondopgibcikaa
open Go.RowKit Ent

theorem bl_lt {w : World} {ao : Option Addr} {l : List Bool} (h : BL w ao l) (hne : l ≠ []) : ∀ a, ao = some a → a.block < w.heap.size := by
  intro a ha
  rcases h with h | ⟨b, o, h1, h2⟩
  · exact absurd h hne
  · rw [h1] at ha; injection ha with ha; subst ha
    obtain ⟨x, l', rfl⟩ := List.exists_cons_of_ne_nil hne
    exact World.block_lt_of_cell? w ⟨b, o + 0, none⟩ (h2 0 (.bool x) (by simp [bbv]))
theorem LR.vals {w : World} {lo : Option Addr} {L : List (List UInt8)} (h : LR w lo L) : ∃ vs, ReadRow w vs L ∧ (L = [] ∨ ∃ b o, lo = some ⟨b, o, none⟩ ∧ ∀ j v, vs[j]? = some v → w.cell? ⟨b, o + j, none⟩ = some v) := by
  rcases h with rfl | ⟨b, o, h1, h2⟩
  · exact ⟨[], ReadRow.nil w, .inl rfl⟩
  · refine ⟨(List.range L.length).map fun i => (w.cell? ⟨b, o + i, none⟩).getD undef, ⟨by simp, fun i l hl => ?_⟩, .inr ⟨b, o, h1, fun j v hv => ?_⟩⟩
    · obtain ⟨lo1, cap, h3, h4, h5⟩ := h2 i l hl
      have hi := (List.getElem?_eq_some_iff.1 hl).1
      exact ⟨lo1, cap, by simp [hi, h3], h4, h5⟩
    · have hi : j < L.length := by have := (List.getElem?_eq_some_iff.1 hv).1; simpa using this
      obtain ⟨lo1, cap, h3, h4, h5⟩ := h2 j L[j] (List.getElem?_eq_getElem hi)
      simp [hi, h3] at hv
      rw [h3, hv]
theorem run_append_noneC {P : Program} {w : World} (base : Nat) (t ty e : TypeId) (i : TypeInfo) (size : Nat) (ht : P.underlying t = some (.slice e)) (hi : P.info? e = some i)
    (v : Value) (n : Nat) (xs : List Value) (hown : w.ownsRow base e size v n xs) (c : Nat) :
    (Builtin.append_ #[t, t] ty #[v, .slice none 0 c]).run P w = .ok v w := by
  rcases hown.2 with ⟨rfl, rfl⟩ | ⟨g, cap, cur, rfl, _, _, hnc, _⟩
  · simp [Builtin.append_, run_underlying ht, sizeOf, typeInfo, hi, Builtin.lenOf, Builtin.firstCells]
  · simp [Builtin.append_, run_underlying ht, sizeOf, typeInfo, hi, Builtin.lenOf, Builtin.firstCells, hnc, storeCells]
theorem wpo_appendLR {o : Oper} {a : Act} {w w00 : World} {K : Act → World → Prop} {Q : Exit → Act → World → Prop} (y x : Operand)
    (ho : o.op = .call { callee := .builtin .append, args := #[y, x], argTypes := #[79, 79] })
    (base : Nat) (v : Value) (n : Nat) (xs : List Value) (hs : a.eval y = v) (hown : w.ownsRow base 22 1 v n xs) (lo : Option Addr) (m c : Nat) (L : List (List UInt8)) (tot : Nat) (htot : n + m = tot) (hx : a.eval x = .slice lo m c) (hm : m = L.length) (hL : LR w00 lo L) (hb : Below w00.heap.size w00 w)
    (hn : tot ≤ 1073741824) (hbase : base ≤ w.heap.size)
    (h : ∀ vs v' w', ReadRow w00 vs L → w'.ownsRow base 22 1 v' tot (xs ++ vs) → w.grownBy w' v.ownBlock → (v'.ownBlock = v.ownBlock ∨ v'.ownBlock = some w.heap.size) → K (a.put o.dst v') w') : o.wp Try.prog a w K Q := by
  subst htot
  obtain ⟨i, hi, hz, hsz, hby⟩ := rowL.inf
  have key : ∃ vs v' w', ReadRow w00 vs L ∧ (Builtin.append_ #[79, 79] o.type #[v, .slice lo m c]).run Try.prog w = .ok v' w' ∧ w'.ownsRow base 22 1 v' (n + m) (xs ++ vs) ∧ w.grownBy w' v.ownBlock ∧ (v'.ownBlock = v.ownBlock ∨ v'.ownBlock = some w.heap.size) := by
    obtain ⟨vs, hr, hc⟩ := hL.vals
    have h1 : ∀ u ∈ vs, u.oneCell' = true := by
      intro u hu
      obtain ⟨j, hj, rfl⟩ := List.getElem_of_mem hu
      obtain ⟨lo1, cap, h3, _⟩ := hr.2 j _ (List.getElem?_eq_getElem (by rw [← hr.1]; exact hj))
      rw [List.getElem?_eq_getElem hj] at h3
      have h3 := Option.some.inj h3
      have one : ∀ u, u = Value.slice lo1 (L[j]'(by rw [← hr.1]; exact hj)).length cap → u.oneCell' = true := by rintro _ rfl; rfl
      exact one _ h3
    have app : ∀ (ad : Addr), lo = some ad → (∀ j u, vs[j]? = some u → w.cell? (ad.add j) = some u) → ∃ v' w', (Builtin.append_ #[79, 79] o.type #[v, .slice lo m c]).run Try.prog w = .ok v' w' ∧ w'.ownsRow base 22 1 v' (n + m) (xs ++ vs) ∧ w.grownBy w' v.ownBlock ∧ (v'.ownBlock = v.ownBlock ∨ v'.ownBlock = some w.heap.size) := by
      rintro ad rfl hcell
      obtain ⟨v', w', hr', h2, h3, _, h5⟩ := run_append_own_at (P := Try.prog) w base 79 o.type 22 i (.slice none 0 0) 1 24 rowL.un hi hz hsz hby rfl (by decide) v n xs hown ad m c vs (by rw [hr.1, hm]; omega) hcell h1 (by simp [maxLen]; omega) (by omega) hbase
      exact ⟨v', w', hr', h2, h3, h5⟩
    rcases hc with h0 | ⟨b, o', hlo, hcell⟩
    · have hvs : vs = [] := List.eq_nil_of_length_eq_zero (by rw [hr.1, h0]; rfl)
      rcases lo with _ | ad
      · subst hvs
        rw [h0] at hm
        subst hm
        exact ⟨[], v, w, hr, run_append_noneC base 79 o.type 22 i 1 rowL.un hi v n xs hown c, by simpa using hown, ⟨rfl, rfl, rfl, Nat.le_refl _, fun _ _ _ => rfl⟩, .inl rfl⟩
      · obtain ⟨v', w', h2⟩ := app ad rfl (fun j u hu => by rw [hvs] at hu; simp at hu)
        exact ⟨vs, v', w', hr, h2⟩
    · obtain ⟨v', w', h2⟩ := app _ hlo (fun j u hu => by
        rw [Addr.add_mid, hb.cell (World.block_lt_of_cell? w00 _ (hcell j u hu))]; exact hcell j u hu)
      exact ⟨vs, v', w', hr, h2⟩
  obtain ⟨vs, v', w', hrr, hr, h2, h3, h4⟩ := key
  unfold Oper.wp execOp
  simp only [ho, resolve, invoke, builtin, Sem.run_bind, Sem.run_pure, Result.andThen_ok, List.map_toArray, List.map_cons, List.map_nil, hs, hx, hr]
  exact h vs v' w' hrr h2 h3 h4
theorem wpo_layG {t e : TypeId} {z : Value} {s by_ : Nat} (R : RowT t e z s by_) {o : Oper} {a : Act} {w : World} {K : Act → World → Prop} {Q : Exit → Act → World → Prop} (x : Operand) (ho : o.op = .buildSlice t 1 #[(0, x)]) (v : Value) (hx : a.eval x = v) (hv : v.cells.size = s)
    (h : ∀ g w', g = w.heap.size → Below w.heap.size w w' → Blk w' g e v.cells.toList → K (a.put o.dst (.slice (some ⟨g, 0, none⟩) 1 1)) w') : o.wp Try.prog a w K Q :=
  wpo_layR R x ho v hx hv fun w' h1 h2 => h _ w' rfl h1 h2
theorem wpo_lay0 {o : Oper} {a : Act} {w : World} {K : Act → World → Prop} {Q : Exit → Act → World → Prop} (ho : o.op = .buildSlice 79 0 #[])
    (h : ∀ g w', w'.ownsRow w.heap.size 22 1 (.slice (some ⟨g, 0, none⟩) 0 0) 0 [] → Below w.heap.size w w' → K (a.put o.dst (.slice (some ⟨g, 0, none⟩) 0 0)) w') : o.wp Try.prog a w K Q := by
  obtain ⟨i, hi, hz, hsz, _⟩ := rowL.inf
  have hr : (Instr.buildSlice 79 0 #[]).run Try.prog w = .ok (.slice (some ⟨w.heap.size, 0, none⟩) 0 0) (w.alloc (.cells #[] 22)) := by
    simp [Instr.buildSlice, run_underlying rowL.un, sizeOf, typeInfo, hi, newRow, Instr.fill]
    exact congrArg (fun c => w.alloc (.cells c 22)) (Array.eq_empty_of_size_eq_zero (by simp))
  unfold Oper.wp execOp
  simp only [ho, List.map_toArray, List.map_nil, Sem.run_bind, hr, Result.andThen_ok]
  exact h _ _ (World.ownsRow_made w #[] 0 (Nat.le_refl _) (by simp [maxLen]) rfl) (fresh_alloc w _)
section
variable {B : Nat} {w0 w w1 : World} {As : List Asset}
/-- a row of its own in the place of nothing -/
theorem St.ownNew (h : St B w0 w As) (i : Nat) (hi : As[i]? = some noA) (hb : Below w.heap.size w w1) {T : TypeId} {s : Nat} {v : Value} {q : Nat} {vs : List Value} (ho : w1.ownsRow w.heap.size T s v q vs) : St B w0 w1 (As.set i (ownA T s v q vs)) := by
  obtain ⟨F, _, _, _, hcl⟩ := h.open i hi
  exact hcl w1 _ (fun k => v.ownBlock = some k) (Keep.ofBelow hb) (good_ownA _ _ _ _ _) ⟨owns_mono ho (Nat.zero_le _), fun k hk => hk⟩ (fun k hk => .inr (ho.lt k hk))
end
set_option maxRecDepth 100000 in
set_option maxHeartbeats 1000000 in
theorem logTorn_walk (lo : Option Addr) (ln lc : Nat) (L : List (List UInt8)) (ro : Option Addr) (rn rc : Nat) (rec : List UInt8) (ko : Option Addr) (kn kc : Nat) (keep : List Bool) (torn : Int) (w : World) (hln : ln = L.length) (hlm : ln ≤ 9223372036854775807) (hL : LR w lo L)
    (hrn : rn = rec.length) (hrc : rn ≤ rc) (hrm : rn ≤ 9223372036854775807) (hs : SB w ro rc rec) (hkn : kn = keep.length) (hkm : kn ≤ 9223372036854775807) (hK : BL w ko keep) (ht : -9223372036854775808 ≤ torn ∧ torn ≤ 9223372036854775807) :
    Calls Try.prog 17 #[.slice lo ln lc, .slice ro rn rc, .slice ko kn kc, .int .i64 torn] w fun e w' => e = .returned (.bool true) ∧ Below w.heap.size w w' := by
  have HLN := hid hln; have HL := hid hL; have HRN := hid hrn; have HS := hid hs; have HKN := hid hkn; have HK := hid hK; have HTC := hid ht
  obtain ⟨q, hq, eq⟩ := pick_nat torn 64 (by omega)
  have EQ : Hid (torn % 64 = (q : Int)) := hid eq
  clear hln hL hrn hs hkn hK ht eq
  go_enter Try.func17, Try.ntmps17
  go_wp2_with fail
  refine (known6_any w (St.start w)).mono ?_
  rintro e w1 ⟨rfl, As, h1⟩
  have HB1 : Hid (Below w.heap.size w w1) := hid h1.be
  clear h1
  go_wp2_with fail
  refine (longLists_any lo ln lc L 8 150 HLN.out (by omega) hlm w1 (HL.out.below HB1.out)).mono ?_
  rintro e w' ⟨rfl, hw'⟩
  subst w'
  by_cases hlong : longL L 8 150 = true
  · rw [hlong]
    go_wp2
    go_ret
    exact ⟨rfl, HB1.out⟩
  have HNL := hid (longL_no (by simpa using hlong))
  have hln8 : ln ≤ 8 := by rw [HLN.out]; exact HNL.out.1
  rw [show longL L 8 150 = false by simpa using hlong]
  clear hlong
  by_cases hr4 : 400 < rn
  · go_wp2
    go_ret
    exact ⟨rfl, HB1.out⟩
  by_cases hk2 : 20 < kn
  · go_wp2
    go_ret
    exact ⟨rfl, HB1.out⟩
  go_wp2_with fail
  refine (room_any 0 48 5 (by omega) (by omega) (by omega) w1 (St.start w1)).mono ?_
  rintro e w2 ⟨a, rfl, h2⟩
  have H2 : Hid (St w1.heap.size w1 w2 [noA, noA, dev a (Dev.new 49)]) := hid h2
  clear h2
  unfold ptr
  obtain ⟨gb, hgb⟩ : ∃ gb, w2.heap.size = gb := ⟨_, rfl⟩
  obtain ⟨w3, hw3⟩ : ∃ w3, w2.alloc (.cells #[.int .i64 0, .int .i64 48, .int .i64 5] 76) = w3 := ⟨_, rfl⟩
  have HW3 := hid hw3
  have HGB := hid hgb
  have H3 : Hid (St w1.heap.size w1 w3 [noA, noA, dev a (Dev.new 49), blkA gb 76 [.int .i64 0, .int .i64 48, .int .i64 5]]) := hid (by
    have := H2.out.box 76 [.int .i64 0, .int .i64 48, .int .i64 5]
    rw [show w2.alloc (.cells [Value.int .i64 0, .int .i64 48, .int .i64 5].toArray 76) = w3 from HW3.out, HGB.out] at this
    exact this)
  clear hw3 hgb
  go_wp2_with fail
  rw [HW3.out, HGB.out]
  have HD0 := hid (LogD.new (n := 49) (f := 0) (t := 48) (g := 5) (by omega) (by omega) (by omega) (by omega) (by omega))
  go_loopw [12, 13] (fun at_ i wr => ∃ (k N : Nat) (D : Dev), k ≤ ln ∧ i = .int .i64 k ∧ at_ = .int .i64 N ∧ N = needsOf (L.take k) ∧ N ≤ 4 * k ∧ LogD D 49 0 48 5 (L.take k) ∧ D.loose = [] ∧ St w1.heap.size w1 wr [noA, noA, dev a D, blkA gb 76 [.int .i64 0, .int .i64 48, .int .i64 5]]) (fun _ i _ => ln - (intOf i).toNat)
  case atStart => exact ⟨0, 0, _, Nat.zero_le _, rfl, rfl, by simp [needsOf], Nat.zero_le _, by simpa using HD0.out, rfl, H3.out⟩
  case round =>
    obtain ⟨k, N, D, hk, rfl, rfl, hN, hN4, hD, hlo, hst⟩ := hrel
    have HN := hid hN; have HD := hid hD; have HLO := hid hlo; have HST := hid hst
    have HBW := hid (HB1.out.trans (hst.be.mono HB1.out.size))
    clear hN hD hlo hst
    by_cases hlt : k < ln
    · obtain ⟨l, hl⟩ : ∃ l, L[k]? = some l := ⟨_, List.getElem?_eq_getElem (by rw [← HLN.out]; exact hlt)⟩
      obtain ⟨b1, o1, lo1, cap1, rfl, hcx, hlc, hsl⟩ := HL.out.at hl
      have HU9 := hid (HNL.out.2 l (List.mem_of_getElem? hl))
      have HTK : Hid (L.take (k + 1) = L.take k ++ [l]) := hid (by rw [List.take_add_one, hl]; rfl)
      obtain ⟨u, hu⟩ : ∃ u, l.length = u := ⟨_, rfl⟩
      rw [hu] at hcx hlc
      have HUL := hid hu; have HSL := hid hsl; have HLC := hid hlc
      have hu9 : u ≤ 150 := by rw [← hu]; exact HU9.out
      have HCX : Hid (∀ {As : List Asset} (w' : World), St w1.heap.size w1 w' As → w'.cell? ⟨b1, o1 + k, none⟩ = some (.slice lo1 u cap1)) := hid (fun w' h => by
        rw [(HB1.out.trans (h.be.mono HB1.out.size)).cell (World.block_lt_of_cell? w _ hcx)]; exact hcx)
      obtain ⟨N2, hN2⟩ : ∃ N2, N + needOf u = N2 := ⟨_, rfl⟩
      have hnb : needOf u ≤ 4 := by unfold needOf; split <;> omega
      have hN2b : N2 ≤ 4 * (k + 1) := by omega
      have hN2c : N2 ≤ 32 := by omega
      have HNW2 : Hid (N2 = needsOf (L.take (k + 1))) := hid (by rw [HTK.out, needsOf_snoc, HUL.out, ← HN.out, hN2])
      have hroom : needsOf (L.take k) + needOf l.length ≤ 48 - 0 := by rw [HUL.out, ← HN.out]; omega
      have HE : Hid (logWrite D 0 48 5 N l = (((N2 : Int), 0), { D with loose := D.loose ++ recWs 5 (needsOf (L.take k)) 0 l })) := hid (by
        have hw := HD.out.write (r := l) (by rw [HUL.out]; omega) hroom
        rw [← HTK.out] at hw
        rw [HNW2.out, HN.out]; exact hw)
      have HD2 := hid (HD.out.written (r := l) hroom)
      clear hu hsl hlc hl hcx hroom hN2 hnb
      have cx := HCX.out _ HST.out
      have x0 := (HST.out.blk 3 rfl).cell (j := 0) rfl
      have x1 := (HST.out.blk 3 rfl).cell (j := 1) rfl
      have x2 := (HST.out.blk 3 rfl).cell (j := 2) rfl
      go_wp2_with fail
      refine wp_region_held_drew (S := fun w' => w'.cell? ⟨gb, 0, none⟩ = some (.int .i64 0) ∧ w'.cell? ⟨gb, 1, none⟩ = some (.int .i64 48) ∧ w'.cell? ⟨gb, 2, none⟩ = some (.int .i64 5) ∧ w'.cell? ⟨b1, o1 + k, none⟩ = some (.slice lo1 u cap1)) (by kernel_rfl) ⟨x0, x1, x2, cx⟩ (fun hS => ?_)
      refine wpAnyH_take (i := 0) (v := ?v0x1q) (by simp only [List.getElem?_toArray, List.getElem?_cons_zero]; exact rfl) (by kernel_rfl) (by kernel_rfl) (by kernel_rfl) (by exact fun _ _ _ h => h) (Or.inl ⟨by rfl, ?y0x1q⟩) hS ?r0x1q
      case y0x1q => (intro w' hSw; (try dsimp only at hSw); go_simp; (try with_reducible rfl))
      simp only [Act.put, List.setIfInBounds_toArray, List.set_cons_zero, List.set_cons_succ]
      refine wpAnyH_take (i := 1) (v := ?v1x2q) (by simp only [List.getElem?_toArray, List.getElem?_cons_zero, List.getElem?_cons_succ]; exact rfl) (by kernel_rfl) (by kernel_rfl) (by kernel_rfl) (by exact fun _ _ _ h => h) (Or.inl ⟨by rfl, ?y1x2q⟩) hS ?r1x2q
      case y1x2q => (intro w' hSw; (try dsimp only at hSw); go_simp; (try with_reducible rfl))
      simp only [Act.put, List.setIfInBounds_toArray, List.set_cons_zero, List.set_cons_succ]
      refine wpAnyH_take (i := 2) (v := ?v2x3q) (by simp only [List.getElem?_toArray, List.getElem?_cons_zero, List.getElem?_cons_succ]; exact rfl) (by kernel_rfl) (by kernel_rfl) (by kernel_rfl) (by exact fun _ _ _ h => h) (Or.inl ⟨by rfl, ?y2x3q⟩) hS ?r2x3q
      case y2x3q => (intro w' hSw; (try dsimp only at hSw); go_simp; (try with_reducible rfl))
      simp only [Act.put, List.setIfInBounds_toArray, List.set_cons_zero, List.set_cons_succ]
      refine wpAnyH_take (i := 3) (v := ?v3x4q) (by simp only [List.getElem?_toArray, List.getElem?_cons_zero, List.getElem?_cons_succ]; exact rfl) (by kernel_rfl) (by kernel_rfl) (by kernel_rfl) (by exact fun _ _ _ h => h) (Or.inl ⟨by rfl, ?y3x4q⟩) hS ?r3x4q
      case y3x4q => (intro w' hSw; (try dsimp only at hSw); go_simp; (try with_reducible rfl))
      simp only [Act.put, List.setIfInBounds_toArray, List.set_cons_zero, List.set_cons_succ]
      refine wpAnyH_take (i := 4) (v := ?v4x5q) (by simp only [List.getElem?_toArray, List.getElem?_cons_zero, List.getElem?_cons_succ]; exact rfl) (by kernel_rfl) (by kernel_rfl) (by kernel_rfl) (by exact fun _ _ _ h => h) (Or.inl ⟨by rfl, ?y4x5q⟩) hS ?r4x5q
      case y4x5q => (intro w' hSw; (try dsimp only at hSw); go_simp; (try with_reducible rfl))
      simp only [Act.put, List.setIfInBounds_toArray, List.set_cons_zero, List.set_cons_succ]
      refine wpAnyH_take (i := 5) (v := ?v5x6q) (by simp only [List.getElem?_toArray, List.getElem?_cons_zero, List.getElem?_cons_succ]; exact rfl) (by kernel_rfl) (by kernel_rfl) (by kernel_rfl) (by exact fun _ _ _ h => h) (Or.inl ⟨by rfl, ?y5x6q⟩) hS ?r5x6q
      case y5x6q => (intro w' hSw; (try dsimp only at hSw); go_simp; (try with_reducible rfl))
      simp only [Act.put, List.setIfInBounds_toArray, List.set_cons_zero, List.set_cons_succ]
      refine wpAnyH_take (i := 6) (v := ?v6x7q) (by simp only [List.getElem?_toArray, List.getElem?_cons_zero, List.getElem?_cons_succ]; exact rfl) (by kernel_rfl) (by kernel_rfl) (by kernel_rfl) (by exact fun _ _ _ h => h) (Or.inl ⟨by rfl, ?y6x7q⟩) hS ?r6x7q
      case y6x7q => (intro w' hSw; (try dsimp only at hSw); go_simp; (try with_reducible rfl))
      simp only [Act.put, List.setIfInBounds_toArray, List.set_cons_zero, List.set_cons_succ]
      refine wpAnyH_ready (rs := [7]) (by kernel_rfl) (by simp) ?_
      refine AllReadyH.cons (by simp only [List.getElem?_toArray, List.getElem?_cons_zero, List.getElem?_cons_succ]; exact rfl) (fun K hK => ?_) AllReadyH.nil
      go_simp
      refine ((HST.out.below (Below.refl _ _).drew).log_write2 (Below.refl _ _) 2 rfl 0 48 5 N lo1 u cap1 l HUL.out.symm HLC.out (by omega) ((HSL.out.below HBW.out).below (Below.refl _ _).drew) (fun hne x hx => .inl (Nat.lt_of_lt_of_le (sb_lt HSL.out hne x hx) HB1.out.size)) (by rw [HLO.out]; exact Nat.zero_le _) (by omega)).mono ?_
      rintro e w5 ⟨he, h5⟩
      obtain rfl : e = .returned (.tuple #[.int .i64 (N2 : Int), .int .i64 0]) := by rw [he, HE.out]
      have HST5 : Hid (St w1.heap.size w1 w5 [noA, noA, dev a { D with loose := D.loose ++ recWs 5 (needsOf (L.take k)) 0 l }, blkA gb 76 [.int .i64 0, .int .i64 48, .int .i64 5]]) := hid (by rw [HE.out] at h5; exact h5)
      clear h5 he
      refine hK.out _ _ ?k7x8q (fun hS => ?s7x8q)
      case k7x8q => exact ⟨(HST5.out.blk 3 rfl).cell (j := 0) rfl, (HST5.out.blk 3 rfl).cell (j := 1) rfl, (HST5.out.blk 3 rfl).cell (j := 2) rfl, HCX.out _ HST5.out⟩
      clear hK K
      try simp only [Act.put, List.setIfInBounds_toArray, List.set_cons_zero, List.set_cons_succ]
      refine wpAnyH_take (i := 8) (v := ?v8x9q) (by simp only [List.getElem?_toArray, List.getElem?_cons_zero, List.getElem?_cons_succ]; exact rfl) (by kernel_rfl) (by kernel_rfl) (by kernel_rfl) (by exact fun _ _ _ h => h) (Or.inl ⟨by rfl, ?y8x9q⟩) hS ?r8x9q
      case y8x9q => (intro w' hSw; (try dsimp only at hSw); go_simp; (try with_reducible rfl))
      simp only [Act.put, List.setIfInBounds_toArray, List.set_cons_zero, List.set_cons_succ]
      refine wpAnyH_take (i := 9) (v := ?v9x10q) (by simp only [List.getElem?_toArray, List.getElem?_cons_zero, List.getElem?_cons_succ]; exact rfl) (by kernel_rfl) (by kernel_rfl) (by kernel_rfl) (by exact fun _ _ _ h => h) (Or.inl ⟨by rfl, ?y9x10q⟩) hS ?r9x10q
      case y9x10q => (intro w' hSw; (try dsimp only at hSw); go_simp; (try with_reducible rfl))
      simp only [Act.put, List.setIfInBounds_toArray, List.set_cons_zero, List.set_cons_succ]
      refine wpAnyH_take (i := 10) (v := ?v10x11q) (by simp only [List.getElem?_toArray, List.getElem?_cons_zero, List.getElem?_cons_succ]; exact rfl) (by kernel_rfl) (by kernel_rfl) (by kernel_rfl) (by exact fun _ _ _ h => h) (Or.inl ⟨by rfl, ?y10x11q⟩) hS ?r10x11q
      case y10x11q => (intro w' hSw; (try dsimp only at hSw); go_simp; (try with_reducible rfl))
      simp only [Act.put, List.setIfInBounds_toArray, List.set_cons_zero, List.set_cons_succ]
      refine wpAnyH_take (i := 11) (v := ?v11x12q) (by simp only [List.getElem?_toArray, List.getElem?_cons_zero, List.getElem?_cons_succ]; exact rfl) (by kernel_rfl) (by kernel_rfl) (by kernel_rfl) (by exact fun _ _ _ h => h) (Or.inl ⟨by rfl, ?y11x12q⟩) hS ?r11x12q
      case y11x12q => (intro w' hSw; (try dsimp only at hSw); go_simp; (try with_reducible rfl))
      simp only [Act.put, List.setIfInBounds_toArray, List.set_cons_zero, List.set_cons_succ]
      refine wpAnyH_take (i := 12) (v := ?v12x13q) (by simp only [List.getElem?_toArray, List.getElem?_cons_zero, List.getElem?_cons_succ]; exact rfl) (by kernel_rfl) (by kernel_rfl) (by kernel_rfl) (by exact fun _ _ _ h => h) (Or.inl ⟨by rfl, ?y12x13q⟩) hS ?r12x13q
      case y12x13q => (intro w' hSw; (try dsimp only at hSw); go_simp; (try with_reducible rfl))
      simp only [Act.put, List.setIfInBounds_toArray, List.set_cons_zero, List.set_cons_succ]
      refine wpAnyH_done (by kernel_rfl) ?_ _
      clear hS x0 x1 x2 cx
      go_wp2_with fail
      refine (HST5.out.dev_flush 2 rfl).mono ?_
      rintro e w6 ⟨he, h6⟩
      obtain rfl : e = .returned (.int .i64 0) := by rw [he, HD2.out.fine.flush]
      have HST6 : Hid (St w1.heap.size w1 w6 [noA, noA, dev a { ({ D with loose := D.loose ++ recWs 5 (needsOf (L.take k)) 0 l } : Dev) with img := ({ D with loose := D.loose ++ recWs 5 (needsOf (L.take k)) 0 l } : Dev).now, loose := [] }, blkA gb 76 [.int .i64 0, .int .i64 48, .int .i64 5]]) := hid (by rw [HD2.out.fine.flush] at h6; exact h6)
      clear h6 he
      go_wp2
      go_roundw
      case rel => exact ⟨k + 1, N2, _, by omega, by go_num, rfl, HNW2.out, by omega, by rw [HTK.out]; exact HD2.out.flushed, rfl, HST6.out⟩
      case measure => simp [intOf]; omega
    · obtain rfl : k = ln := by omega
      have HTL : Hid (L.take k = L) := hid (List.take_of_length_le (by rw [← HLN.out]; exact Nat.le_refl _))
      have HD : Hid (LogD D 49 0 48 5 L) := hid (by have := HD.out; rw [HTL.out] at this; exact this)
      have HN : Hid (N = needsOf L) := hid (by rw [HN.out, HTL.out])
      obtain ⟨nu, hnu⟩ : ∃ nu, needOf rec.length = nu := ⟨_, rfl⟩
      have HNU := hid hnu
      have hnu1 : 1 ≤ nu := by rw [← hnu]; exact needOf_pos _
      have hnu9 : nu ≤ 9 := by rw [← hnu, ← HRN.out]; unfold needOf; split <;> omega
      obtain ⟨N2, hN2⟩ : ∃ N2, N + nu = N2 := ⟨_, rfl⟩
      have hN41 : N ≤ 32 ∧ N2 ≤ 41 := by omega
      have HROOM : Hid (needsOf L + needOf rec.length ≤ 48 - 0) := hid (by rw [← HN.out, HNU.out]; omega)
      have HNW : Hid (N2 = needsOf (L ++ [rec])) := hid (by rw [needsOf_snoc, ← HN.out, HNU.out, hN2])
      have HE : Hid (logWrite D 0 48 5 N rec = (((N2 : Int), 0), { D with loose := D.loose ++ recWs 5 (needsOf L) 0 rec })) := hid (by
        have hw := HD.out.write (r := rec) (by rw [← HRN.out]; omega) HROOM.out
        rw [HNW.out, HN.out]; exact hw)
      have HL2 : Hid (({ D with loose := D.loose ++ recWs 5 (needsOf L) 0 rec } : Dev).loose.length = nu) := hid (by
        show (D.loose ++ recWs 5 (needsOf L) 0 rec).length = nu
        rw [HLO.out, List.nil_append, recWs, runW_len, HNU.out])
      have HSUB : Hid ((N2 : Int) - (N : Int) = (nu : Int)) := hid (by omega)
      have HCR : Hid (({ D with loose := D.loose ++ recWs 5 (needsOf L) 0 rec } : Dev).crash keep q = (0, crashed D (recWs 5 (needsOf L) 0 rec) keep q)) := hid (crash_is HLO.out hq)
      clear hN2 hnu
      have x0 := (HST.out.blk 3 rfl).cell (j := 0) rfl
      have x1 := (HST.out.blk 3 rfl).cell (j := 1) rfl
      have x2 := (HST.out.blk 3 rfl).cell (j := 2) rfl
      go_wp2_with fail
      refine (HST.out.log_write2 (Below.refl _ _) 2 rfl 0 48 5 N ro rn rc rec HRN.out hrc hrm (HS.out.below HBW.out) (fun hne x hx => .inl (Nat.lt_of_lt_of_le (sb_lt HS.out hne x hx) HB1.out.size)) (by rw [HLO.out]; exact Nat.zero_le _) (by omega)).mono ?_
      rintro e w5 ⟨he, h5⟩
      obtain rfl : e = .returned (.tuple #[.int .i64 (N2 : Int), .int .i64 0]) := by rw [he, HE.out]
      have HST5 : Hid (St w1.heap.size w1 w5 [noA, noA, dev a { D with loose := D.loose ++ recWs 5 (needsOf L) 0 rec }, blkA gb 76 [.int .i64 0, .int .i64 48, .int .i64 5]]) := hid (by rw [HE.out] at h5; exact h5)
      clear h5 he x0 x1 x2
      go_wp2_with fail
      refine (HST5.out.dev_loose 2 rfl).mono ?_
      rintro e w' ⟨he, hw'⟩
      subst w'
      obtain rfl : e = .returned (.int .i64 (nu : Int)) := by rw [he, HL2.out]
      clear he
      have q1 : ((nu : Int) == (N2 : Int) - (N : Int)) = true := by have := HSUB.out; simp; omega
      have q2 : ((nu : Int) != (N2 : Int) - (N : Int)) = false := by have := HSUB.out; simp; omega
      go_wp2_with fail
      refine (pick_any torn 64 (by omega) (by omega) HTC.out.1 HTC.out.2 w5).mono ?_
      rintro e w' ⟨rfl, hw'⟩
      subst w'
      rw [EQ.out]
      go_wp2_with fail
      refine (HST5.out.dev_crash 2 rfl ko kn kc keep HKN.out q (HK.out.below (HB1.out.trans (HST5.out.be.mono HB1.out.size))) (fun hne => .inl fun x hx => Nat.lt_of_lt_of_le (bl_lt HK.out hne x hx) HB1.out.size) (by omega) (Nat.le_trans (Nat.le_of_eq HL2.out) (by omega))).mono ?_
      rintro e w8 ⟨he, h8⟩
      obtain rfl : e = .returned (.int .i64 0) := by rw [he, HCR.out]
      have HST8 : Hid (St w1.heap.size w1 w8 [noA, noA, dev a (crashed D (recWs 5 (needsOf L) 0 rec) keep q), blkA gb 76 [.int .i64 0, .int .i64 48, .int .i64 5]]) := hid (by rw [HCR.out] at h8; exact h8)
      clear h8 he q1 q2
      go_wp2_with fail
      go_loopw [18] (fun i wr => ∃ j : Nat, j ≤ nu ∧ i = .int .i64 j ∧ wr = w8 ∧ ∀ i, i < j → keep[i]? = some true) (fun i _ => nu - (intOf i).toNat)
      case atStart => exact ⟨0, Nat.zero_le _, rfl, rfl, fun i hi => absurd hi (Nat.not_lt_zero _)⟩
      case round =>
        obtain ⟨j, hj, rfl, rfl, hpj⟩ := hrel
        have HPJ := hid hpj
        clear hpj
        by_cases hlj : j < nu
        · have hdj : decide ((j : Int) < (N2 : Int) - (N : Int)) = true := by have := HSUB.out; simp; omega
          rcases hkq : keep[j]? with _ | qb
          · have HKJ : Hid (keep[j]? ≠ some true) := hid (by rw [hkq]; simp)
            have hge : kn ≤ j := by rw [HKN.out]; exact List.getElem?_eq_none_iff.1 hkq
            clear hkq
            have x0 := (HST8.out.blk 3 rfl).cell (j := 0) rfl
            have x1 := (HST8.out.blk 3 rfl).cell (j := 1) rfl
            have x2 := (HST8.out.blk 3 rfl).cell (j := 2) rfl
            go_wp2_with fail
            refine (HST8.out.log_has (Below.refl _ _) 2 rfl 0 48 5 N lo _ lc L HLN.out (by omega) (HL.out.below (HB1.out.trans (HST8.out.be.mono HB1.out.size)))).mono ?_
            rintro e w9 ⟨he, h9⟩
            obtain rfl : e = .returned (.bool true) := by rw [he, HN.out]; exact congrArg (fun z => Ending.returned (Value.bool z)) (crashed_some (keep := keep) HD.out HLO.out HROOM.out hq (j := j) (by rw [HNU.out]; omega) HPJ.out HKJ.out)
            have HEND := hid (HB1.out.trans (h9.be.mono HB1.out.size))
            clear h9 he x0 x1 x2
            go_wp2
            go_ret
            exact ⟨rfl, HEND.out⟩
          · have hltk : j < kn := by rw [HKN.out]; exact (List.getElem?_eq_some_iff.1 hkq).1
            obtain ⟨kb, kof, rfl, hck⟩ := bl_at (HK.out.below (HB1.out.trans (HST8.out.be.mono HB1.out.size))) hkq
            cases qb
            · have HKJ : Hid (keep[j]? ≠ some true) := hid (by rw [hkq]; simp)
              clear hkq
              have x0 := (HST8.out.blk 3 rfl).cell (j := 0) rfl
              have x1 := (HST8.out.blk 3 rfl).cell (j := 1) rfl
              have x2 := (HST8.out.blk 3 rfl).cell (j := 2) rfl
              go_wp2_with fail
              refine (HST8.out.log_has (Below.refl _ _) 2 rfl 0 48 5 N lo _ lc L HLN.out (by omega) (HL.out.below (HB1.out.trans (HST8.out.be.mono HB1.out.size)))).mono ?_
              rintro e w9 ⟨he, h9⟩
              obtain rfl : e = .returned (.bool true) := by rw [he, HN.out]; exact congrArg (fun z => Ending.returned (Value.bool z)) (crashed_some (keep := keep) HD.out HLO.out HROOM.out hq (j := j) (by rw [HNU.out]; omega) HPJ.out HKJ.out)
              have HEND := hid (HB1.out.trans (h9.be.mono HB1.out.size))
              clear h9 he x0 x1 x2
              go_wp2
              go_ret
              exact ⟨rfl, HEND.out⟩
            · have HKJ := hid hkq
              clear hkq
              go_wp2
              go_roundw
              case rel => exact ⟨j + 1, by omega, by go_num, by trivial, fun i hi => by
                by_cases hij : i = j
                · subst hij; exact HKJ.out
                · exact HPJ.out i (by omega)⟩
              case measure => simp [intOf]; omega
        · obtain rfl : j = nu := by omega
          have hdj : decide ((j : Int) < (N2 : Int) - (N : Int)) = false := by have := HSUB.out; simp; omega
          have HSTc : Hid (St w1.heap.size w1 (World.drew _) [noA, noA, dev a (crashed D (recWs 5 (needsOf L) 0 rec) keep q), blkA gb 76 [.int .i64 0, .int .i64 48, .int .i64 5], noA, noA]) := hid ((HST8.out.below (Below.refl _ _).drew).addNo.addNo)
          have x0 := (HST8.out.blk 3 rfl).cell (j := 0) rfl
          have x1 := (HST8.out.blk 3 rfl).cell (j := 1) rfl
          have x2 := (HST8.out.blk 3 rfl).cell (j := 2) rfl
          go_wp2_with fail
          refine wp_region_held_drew (S := fun w' => w'.cell? ⟨gb, 0, none⟩ = some (.int .i64 0) ∧ w'.cell? ⟨gb, 1, none⟩ = some (.int .i64 48) ∧ w'.cell? ⟨gb, 2, none⟩ = some (.int .i64 5)) (by kernel_rfl) ⟨x0, x1, x2⟩ (fun hS => ?_)
          refine wpAnyH_take (i := 0) (v := ?v0x1z) (by simp only [List.getElem?_toArray, List.getElem?_cons_zero]; exact rfl) (by kernel_rfl) (by kernel_rfl) (by kernel_rfl) (by exact fun _ _ _ h => h) (Or.inl ⟨by rfl, ?y0x1z⟩) hS ?r0x1z
          case y0x1z => (intro w' hSw; (try dsimp only at hSw); go_simp; (try with_reducible rfl))
          simp only [Act.put, List.setIfInBounds_toArray, List.set_cons_zero, List.set_cons_succ]
          refine wpAnyH_take (i := 1) (v := ?v1x2z) (by simp only [List.getElem?_toArray, List.getElem?_cons_zero, List.getElem?_cons_succ]; exact rfl) (by kernel_rfl) (by kernel_rfl) (by kernel_rfl) (by exact fun _ _ _ h => h) (Or.inl ⟨by rfl, ?y1x2z⟩) hS ?r1x2z
          case y1x2z => (intro w' hSw; (try dsimp only at hSw); go_simp; (try with_reducible rfl))
          simp only [Act.put, List.setIfInBounds_toArray, List.set_cons_zero, List.set_cons_succ]
          refine wpAnyH_take (i := 2) (v := ?v2x3z) (by simp only [List.getElem?_toArray, List.getElem?_cons_zero, List.getElem?_cons_succ]; exact rfl) (by kernel_rfl) (by kernel_rfl) (by kernel_rfl) (by exact fun _ _ _ h => h) (Or.inl ⟨by rfl, ?y2x3z⟩) hS ?r2x3z
          case y2x3z => (intro w' hSw; (try dsimp only at hSw); go_simp; (try with_reducible rfl))
          simp only [Act.put, List.setIfInBounds_toArray, List.set_cons_zero, List.set_cons_succ]
          refine wpAnyH_take (i := 3) (v := ?v3x4z) (by simp only [List.getElem?_toArray, List.getElem?_cons_zero, List.getElem?_cons_succ]; exact rfl) (by kernel_rfl) (by kernel_rfl) (by kernel_rfl) (by exact fun _ _ _ h => h) (Or.inl ⟨by rfl, ?y3x4z⟩) hS ?r3x4z
          case y3x4z => (intro w' hSw; (try dsimp only at hSw); go_simp; (try with_reducible rfl))
          simp only [Act.put, List.setIfInBounds_toArray, List.set_cons_zero, List.set_cons_succ]
          refine wpAnyH_take (i := 4) (v := ?v4x5z) (by simp only [List.getElem?_toArray, List.getElem?_cons_zero, List.getElem?_cons_succ]; exact rfl) (by kernel_rfl) (by kernel_rfl) (by kernel_rfl) (by exact fun _ _ _ h => h) (Or.inl ⟨by rfl, ?y4x5z⟩) hS ?r4x5z
          case y4x5z => (intro w' hSw; (try dsimp only at hSw); go_simp; (try with_reducible rfl))
          simp only [Act.put, List.setIfInBounds_toArray, List.set_cons_zero, List.set_cons_succ]
          refine wpAnyH_take (i := 6) (v := ?v6x6z) (by simp only [List.getElem?_toArray, List.getElem?_cons_zero, List.getElem?_cons_succ]; exact rfl) (by kernel_rfl) (by kernel_rfl) (by kernel_rfl) (by exact fun _ _ _ h => h) (Or.inl ⟨by rfl, ?y6x6z⟩) hS ?r6x6z
          case y6x6z => (intro w' hSw; (try dsimp only at hSw); go_simp; (try with_reducible rfl))
          simp only [Act.put, List.setIfInBounds_toArray, List.set_cons_zero, List.set_cons_succ]
          refine wpAnyH_take (i := 8) (v := ?v8x7z) (by simp only [List.getElem?_toArray, List.getElem?_cons_zero, List.getElem?_cons_succ]; exact rfl) (by kernel_rfl) (by kernel_rfl) (by kernel_rfl) (by exact fun _ _ _ h => h) (Or.inl ⟨by rfl, ?y8x7z⟩) hS ?r8x7z
          case y8x7z => (intro w' hSw; (try dsimp only at hSw); go_simp; (try with_reducible rfl))
          simp only [Act.put, List.setIfInBounds_toArray, List.set_cons_zero, List.set_cons_succ]
          refine wpAnyH_ready (rs := [5, 9]) (by kernel_rfl) (by simp) ?_
          refine AllReadyH.cons (by simp only [List.getElem?_toArray, List.getElem?_cons_zero, List.getElem?_cons_succ]; exact rfl) (fun K hK => ?_) (AllReadyH.cons (by simp only [List.getElem?_toArray, List.getElem?_cons_zero, List.getElem?_cons_succ]; exact rfl) (fun K hK => ?_) AllReadyH.nil)
          · refine wpo_lay0 rfl ?_
            intro g wn ho hbn
            have HSTc := hid (HSTc.out.ownNew 4 rfl hbn ho)
            clear hbn ho
            refine hK.out _ _ ?k5x8z (fun hS => ?s5x8z)
            case k5x8z => exact ⟨(HSTc.out.blk 3 rfl).cell (j := 0) rfl, (HSTc.out.blk 3 rfl).cell (j := 1) rfl, (HSTc.out.blk 3 rfl).cell (j := 2) rfl⟩
            clear hK K
            try simp only [Act.put, List.setIfInBounds_toArray, List.set_cons_zero, List.set_cons_succ]
            refine wpAnyH_ready (rs := [7, 9]) (by kernel_rfl) (by simp) ?_
            refine AllReadyH.cons (by simp only [List.getElem?_toArray, List.getElem?_cons_zero, List.getElem?_cons_succ]; exact rfl) (fun K hK => ?_) (AllReadyH.cons (by simp only [List.getElem?_toArray, List.getElem?_cons_zero, List.getElem?_cons_succ]; exact rfl) (fun K hK => ?_) AllReadyH.nil)
            · refine wpo_appendLR (.tmp 121) (.tmp 122) rfl 0 _ 0 [] rfl (HSTc.out.own_ 4 rfl) lo _ lc L _ (Nat.zero_add _) rfl HLN.out HL.out (HB1.out.trans (HSTc.out.be.mono HB1.out.size)) (by omega) (Nat.zero_le _) ?_
              intro vs v1 wn hrr ho hgr hv
              have HSTc := hid (HSTc.out.ownGrow 4 rfl ho hgr hv)
              have HRR := hid hrr
              clear hrr ho hgr hv
              refine hK.out _ _ ?k7x9z (fun hS => ?s7x9z)
              case k7x9z => exact ⟨(HSTc.out.blk 3 rfl).cell (j := 0) rfl, (HSTc.out.blk 3 rfl).cell (j := 1) rfl, (HSTc.out.blk 3 rfl).cell (j := 2) rfl⟩
              clear hK K
              try simp only [Act.put, List.setIfInBounds_toArray, List.set_cons_zero, List.set_cons_succ]
              refine wpAnyH_ready (rs := [9]) (by kernel_rfl) (by simp) ?_
              refine AllReadyH.cons (by simp only [List.getElem?_toArray, List.getElem?_cons_zero, List.getElem?_cons_succ]; exact rfl) (fun K hK => ?_) AllReadyH.nil
              refine wpo_layG rowL (.tmp 124) rfl (.slice ro rn rc) rfl rfl ?_
              intro gd wn hgg hbn hmn
              have HSTc := hid (HSTc.out.newAt 5 rfl hbn hmn (Nat.le_of_eq hgg.symm))
              clear hbn hmn hgg
              refine hK.out _ _ ?k9x10z (fun hS => ?s9x10z)
              case k9x10z => exact ⟨(HSTc.out.blk 3 rfl).cell (j := 0) rfl, (HSTc.out.blk 3 rfl).cell (j := 1) rfl, (HSTc.out.blk 3 rfl).cell (j := 2) rfl⟩
              clear hK K
              try simp only [Act.put, List.setIfInBounds_toArray, List.set_cons_zero, List.set_cons_succ]
              refine wpAnyH_ready (rs := [10]) (by kernel_rfl) (by simp) ?_
              refine AllReadyH.cons (by simp only [List.getElem?_toArray, List.getElem?_cons_zero, List.getElem?_cons_succ]; exact rfl) (fun K hK => ?_) AllReadyH.nil
              refine wpo_appendR rowL (.tmp 123) (.tmp 125) rfl 0 v1 _ _ rfl (HSTc.out.own_ 4 rfl) gd rfl [.slice ro rn rc] (HSTc.out.blk 5 rfl) rfl (by simp [Value.oneCell']) (by omega) (Nat.zero_le _) ?_
              intro v2 wn ho hgr hv
              have HSTc := hid (HSTc.out.ownGrow 4 rfl ho hgr hv)
              clear ho hgr hv
              obtain ⟨ao2, cap2, rfl, hq2, hlr⟩ := ((HRR.out.snoc HRN.out hrc HS.out).below (HB1.out.trans (HSTc.out.be.mono HB1.out.size))).lr (HSTc.out.own_ 4 rfl)
              have HQ2 := hid hq2; have HLR := hid hlr
              clear hq2 hlr
              refine hK.out _ _ ?k10x11z (fun hS => ?s10x11z)
              case k10x11z => exact ⟨(HSTc.out.blk 3 rfl).cell (j := 0) rfl, (HSTc.out.blk 3 rfl).cell (j := 1) rfl, (HSTc.out.blk 3 rfl).cell (j := 2) rfl⟩
              clear hK K
              try simp only [Act.put, List.setIfInBounds_toArray, List.set_cons_zero, List.set_cons_succ]
              refine wpAnyH_ready (rs := [11]) (by kernel_rfl) (by simp) ?_
              refine AllReadyH.cons (by simp only [List.getElem?_toArray, List.getElem?_cons_zero, List.getElem?_cons_succ]; exact rfl) (fun K hK => ?_) AllReadyH.nil
              go_simp
              refine (HSTc.out.log_has (Below.refl _ _) 2 rfl 0 48 5 N2 ao2 _ cap2 (L ++ [rec]) HQ2.out (by omega) HLR.out).mono ?_
              rintro e w9 ⟨he, h9⟩
              obtain rfl : e = .returned (.bool true) := by rw [he, HNW.out]; exact congrArg (fun z => Ending.returned (Value.bool z)) (crashed_all (keep := keep) HD.out HLO.out HROOM.out hq (fun j hj => HPJ.out j (by rw [HNU.out] at hj; omega)))
              have HSTc := hid h9
              clear h9 he
              refine hK.out _ _ ?k11x12z (fun hS => ?s11x12z)
              case k11x12z => exact ⟨(HSTc.out.blk 3 rfl).cell (j := 0) rfl, (HSTc.out.blk 3 rfl).cell (j := 1) rfl, (HSTc.out.blk 3 rfl).cell (j := 2) rfl⟩
              clear hK K
              try simp only [Act.put, List.setIfInBounds_toArray, List.set_cons_zero, List.set_cons_succ]
              refine wpAnyH_take (i := 12) (v := ?v12x13z) (by simp only [List.getElem?_toArray, List.getElem?_cons_zero, List.getElem?_cons_succ]; exact rfl) (by kernel_rfl) (by kernel_rfl) (by kernel_rfl) (by exact fun _ _ _ h => h) (Or.inl ⟨by rfl, ?y12x13z⟩) hS ?r12x13z
              case y12x13z => (intro w' hSw; (try dsimp only at hSw); go_simp; (try with_reducible rfl))
              simp only [Act.put, List.setIfInBounds_toArray, List.set_cons_zero, List.set_cons_succ]
              refine wpAnyH_take (i := 13) (v := ?v13x14z) (by simp only [List.getElem?_toArray, List.getElem?_cons_zero, List.getElem?_cons_succ]; exact rfl) (by kernel_rfl) (by kernel_rfl) (by kernel_rfl) (by exact fun _ _ _ h => h) (Or.inl ⟨by rfl, ?y13x14z⟩) hS ?r13x14z
              case y13x14z => (intro w' hSw; (try dsimp only at hSw); go_simp; (try with_reducible rfl))
              simp only [Act.put, List.setIfInBounds_toArray, List.set_cons_zero, List.set_cons_succ]
              refine wpAnyH_done (by kernel_rfl) ?_ _
              clear hS
              have HEND := hid (HB1.out.trans (HSTc.out.be.mono HB1.out.size))
              go_wp2
              go_ret
              exact ⟨rfl, HEND.out⟩
            · refine wpo_layG rowL (.tmp 124) rfl (.slice ro rn rc) rfl rfl ?_
              intro gd wn hgg hbn hmn
              have HSTc := hid (HSTc.out.newAt 5 rfl hbn hmn (Nat.le_of_eq hgg.symm))
              clear hbn hmn hgg
              refine hK.out _ _ ?k9x15z (fun hS => ?s9x15z)
              case k9x15z => exact ⟨(HSTc.out.blk 3 rfl).cell (j := 0) rfl, (HSTc.out.blk 3 rfl).cell (j := 1) rfl, (HSTc.out.blk 3 rfl).cell (j := 2) rfl⟩
              clear hK K
              try simp only [Act.put, List.setIfInBounds_toArray, List.set_cons_zero, List.set_cons_succ]
              refine wpAnyH_ready (rs := [7]) (by kernel_rfl) (by simp) ?_
              refine AllReadyH.cons (by simp only [List.getElem?_toArray, List.getElem?_cons_zero, List.getElem?_cons_succ]; exact rfl) (fun K hK => ?_) AllReadyH.nil
              refine wpo_appendLR (.tmp 121) (.tmp 122) rfl 0 _ 0 [] rfl (HSTc.out.own_ 4 rfl) lo _ lc L _ (Nat.zero_add _) rfl HLN.out HL.out (HB1.out.trans (HSTc.out.be.mono HB1.out.size)) (by omega) (Nat.zero_le _) ?_
              intro vs v1 wn hrr ho hgr hv
              have HSTc := hid (HSTc.out.ownGrow 4 rfl ho hgr hv)
              have HRR := hid hrr
              clear hrr ho hgr hv
              refine hK.out _ _ ?k7x16z (fun hS => ?s7x16z)
              case k7x16z => exact ⟨(HSTc.out.blk 3 rfl).cell (j := 0) rfl, (HSTc.out.blk 3 rfl).cell (j := 1) rfl, (HSTc.out.blk 3 rfl).cell (j := 2) rfl⟩
              clear hK K
              try simp only [Act.put, List.setIfInBounds_toArray, List.set_cons_zero, List.set_cons_succ]
              refine wpAnyH_ready (rs := [10]) (by kernel_rfl) (by simp) ?_
              refine AllReadyH.cons (by simp only [List.getElem?_toArray, List.getElem?_cons_zero, List.getElem?_cons_succ]; exact rfl) (fun K hK => ?_) AllReadyH.nil
              refine wpo_appendR rowL (.tmp 123) (.tmp 125) rfl 0 v1 _ _ rfl (HSTc.out.own_ 4 rfl) gd rfl [.slice ro rn rc] (HSTc.out.blk 5 rfl) rfl (by simp [Value.oneCell']) (by omega) (Nat.zero_le _) ?_
              intro v2 wn ho hgr hv
              have HSTc := hid (HSTc.out.ownGrow 4 rfl ho hgr hv)
              clear ho hgr hv
              obtain ⟨ao2, cap2, rfl, hq2, hlr⟩ := ((HRR.out.snoc HRN.out hrc HS.out).below (HB1.out.trans (HSTc.out.be.mono HB1.out.size))).lr (HSTc.out.own_ 4 rfl)
              have HQ2 := hid hq2; have HLR := hid hlr
              clear hq2 hlr
              refine hK.out _ _ ?k10x17z (fun hS => ?s10x17z)
              case k10x17z => exact ⟨(HSTc.out.blk 3 rfl).cell (j := 0) rfl, (HSTc.out.blk 3 rfl).cell (j := 1) rfl, (HSTc.out.blk 3 rfl).cell (j := 2) rfl⟩
              clear hK K
              try simp only [Act.put, List.setIfInBounds_toArray, List.set_cons_zero, List.set_cons_succ]
              refine wpAnyH_ready (rs := [11]) (by kernel_rfl) (by simp) ?_
              refine AllReadyH.cons (by simp only [List.getElem?_toArray, List.getElem?_cons_zero, List.getElem?_cons_succ]; exact rfl) (fun K hK => ?_) AllReadyH.nil
              go_simp
              refine (HSTc.out.log_has (Below.refl _ _) 2 rfl 0 48 5 N2 ao2 _ cap2 (L ++ [rec]) HQ2.out (by omega) HLR.out).mono ?_
              rintro e w9 ⟨he, h9⟩
              obtain rfl : e = .returned (.bool true) := by rw [he, HNW.out]; exact congrArg (fun z => Ending.returned (Value.bool z)) (crashed_all (keep := keep) HD.out HLO.out HROOM.out hq (fun j hj => HPJ.out j (by rw [HNU.out] at hj; omega)))
              have HSTc := hid h9
              clear h9 he
              refine hK.out _ _ ?k11x18z (fun hS => ?s11x18z)
              case k11x18z => exact ⟨(HSTc.out.blk 3 rfl).cell (j := 0) rfl, (HSTc.out.blk 3 rfl).cell (j := 1) rfl, (HSTc.out.blk 3 rfl).cell (j := 2) rfl⟩
              clear hK K
              try simp only [Act.put, List.setIfInBounds_toArray, List.set_cons_zero, List.set_cons_succ]
              refine wpAnyH_take (i := 12) (v := ?v12x19z) (by simp only [List.getElem?_toArray, List.getElem?_cons_zero, List.getElem?_cons_succ]; exact rfl) (by kernel_rfl) (by kernel_rfl) (by kernel_rfl) (by exact fun _ _ _ h => h) (Or.inl ⟨by rfl, ?y12x19z⟩) hS ?r12x19z
              case y12x19z => (intro w' hSw; (try dsimp only at hSw); go_simp; (try with_reducible rfl))
              simp only [Act.put, List.setIfInBounds_toArray, List.set_cons_zero, List.set_cons_succ]
              refine wpAnyH_take (i := 13) (v := ?v13x20z) (by simp only [List.getElem?_toArray, List.getElem?_cons_zero, List.getElem?_cons_succ]; exact rfl) (by kernel_rfl) (by kernel_rfl) (by kernel_rfl) (by exact fun _ _ _ h => h) (Or.inl ⟨by rfl, ?y13x20z⟩) hS ?r13x20z
              case y13x20z => (intro w' hSw; (try dsimp only at hSw); go_simp; (try with_reducible rfl))
              simp only [Act.put, List.setIfInBounds_toArray, List.set_cons_zero, List.set_cons_succ]
              refine wpAnyH_done (by kernel_rfl) ?_ _
              clear hS
              have HEND := hid (HB1.out.trans (HSTc.out.be.mono HB1.out.size))
              go_wp2
              go_ret
              exact ⟨rfl, HEND.out⟩
          · refine wpo_layG rowL (.tmp 124) rfl (.slice ro rn rc) rfl rfl ?_
            intro gd wn hgg hbn hmn
            have HSTc := hid (HSTc.out.newAt 5 rfl hbn hmn (Nat.le_of_eq hgg.symm))
            clear hbn hmn hgg
            refine hK.out _ _ ?k9x21z (fun hS => ?s9x21z)
            case k9x21z => exact ⟨(HSTc.out.blk 3 rfl).cell (j := 0) rfl, (HSTc.out.blk 3 rfl).cell (j := 1) rfl, (HSTc.out.blk 3 rfl).cell (j := 2) rfl⟩
            clear hK K
            try simp only [Act.put, List.setIfInBounds_toArray, List.set_cons_zero, List.set_cons_succ]
            refine wpAnyH_ready (rs := [5]) (by kernel_rfl) (by simp) ?_
            refine AllReadyH.cons (by simp only [List.getElem?_toArray, List.getElem?_cons_zero, List.getElem?_cons_succ]; exact rfl) (fun K hK => ?_) AllReadyH.nil
            refine wpo_lay0 rfl ?_
            intro g wn ho hbn
            have HSTc := hid (HSTc.out.ownNew 4 rfl hbn ho)
            clear hbn ho
            refine hK.out _ _ ?k5x22z (fun hS => ?s5x22z)
            case k5x22z => exact ⟨(HSTc.out.blk 3 rfl).cell (j := 0) rfl, (HSTc.out.blk 3 rfl).cell (j := 1) rfl, (HSTc.out.blk 3 rfl).cell (j := 2) rfl⟩
            clear hK K
            try simp only [Act.put, List.setIfInBounds_toArray, List.set_cons_zero, List.set_cons_succ]
            refine wpAnyH_ready (rs := [7]) (by kernel_rfl) (by simp) ?_
            refine AllReadyH.cons (by simp only [List.getElem?_toArray, List.getElem?_cons_zero, List.getElem?_cons_succ]; exact rfl) (fun K hK => ?_) AllReadyH.nil
            refine wpo_appendLR (.tmp 121) (.tmp 122) rfl 0 _ 0 [] rfl (HSTc.out.own_ 4 rfl) lo _ lc L _ (Nat.zero_add _) rfl HLN.out HL.out (HB1.out.trans (HSTc.out.be.mono HB1.out.size)) (by omega) (Nat.zero_le _) ?_
            intro vs v1 wn hrr ho hgr hv
            have HSTc := hid (HSTc.out.ownGrow 4 rfl ho hgr hv)
            have HRR := hid hrr
            clear hrr ho hgr hv
            refine hK.out _ _ ?k7x23z (fun hS => ?s7x23z)
            case k7x23z => exact ⟨(HSTc.out.blk 3 rfl).cell (j := 0) rfl, (HSTc.out.blk 3 rfl).cell (j := 1) rfl, (HSTc.out.blk 3 rfl).cell (j := 2) rfl⟩
            clear hK K
            try simp only [Act.put, List.setIfInBounds_toArray, List.set_cons_zero, List.set_cons_succ]
            refine wpAnyH_ready (rs := [10]) (by kernel_rfl) (by simp) ?_
            refine AllReadyH.cons (by simp only [List.getElem?_toArray, List.getElem?_cons_zero, List.getElem?_cons_succ]; exact rfl) (fun K hK => ?_) AllReadyH.nil
            refine wpo_appendR rowL (.tmp 123) (.tmp 125) rfl 0 v1 _ _ rfl (HSTc.out.own_ 4 rfl) gd rfl [.slice ro rn rc] (HSTc.out.blk 5 rfl) rfl (by simp [Value.oneCell']) (by omega) (Nat.zero_le _) ?_
            intro v2 wn ho hgr hv
            have HSTc := hid (HSTc.out.ownGrow 4 rfl ho hgr hv)
            clear ho hgr hv
            obtain ⟨ao2, cap2, rfl, hq2, hlr⟩ := ((HRR.out.snoc HRN.out hrc HS.out).below (HB1.out.trans (HSTc.out.be.mono HB1.out.size))).lr (HSTc.out.own_ 4 rfl)
            have HQ2 := hid hq2; have HLR := hid hlr
            clear hq2 hlr
            refine hK.out _ _ ?k10x24z (fun hS => ?s10x24z)
            case k10x24z => exact ⟨(HSTc.out.blk 3 rfl).cell (j := 0) rfl, (HSTc.out.blk 3 rfl).cell (j := 1) rfl, (HSTc.out.blk 3 rfl).cell (j := 2) rfl⟩
            clear hK K
            try simp only [Act.put, List.setIfInBounds_toArray, List.set_cons_zero, List.set_cons_succ]
            refine wpAnyH_ready (rs := [11]) (by kernel_rfl) (by simp) ?_
            refine AllReadyH.cons (by simp only [List.getElem?_toArray, List.getElem?_cons_zero, List.getElem?_cons_succ]; exact rfl) (fun K hK => ?_) AllReadyH.nil
            go_simp
            refine (HSTc.out.log_has (Below.refl _ _) 2 rfl 0 48 5 N2 ao2 _ cap2 (L ++ [rec]) HQ2.out (by omega) HLR.out).mono ?_
            rintro e w9 ⟨he, h9⟩
            obtain rfl : e = .returned (.bool true) := by rw [he, HNW.out]; exact congrArg (fun z => Ending.returned (Value.bool z)) (crashed_all (keep := keep) HD.out HLO.out HROOM.out hq (fun j hj => HPJ.out j (by rw [HNU.out] at hj; omega)))
            have HSTc := hid h9
            clear h9 he
            refine hK.out _ _ ?k11x25z (fun hS => ?s11x25z)
            case k11x25z => exact ⟨(HSTc.out.blk 3 rfl).cell (j := 0) rfl, (HSTc.out.blk 3 rfl).cell (j := 1) rfl, (HSTc.out.blk 3 rfl).cell (j := 2) rfl⟩
            clear hK K
            try simp only [Act.put, List.setIfInBounds_toArray, List.set_cons_zero, List.set_cons_succ]
            refine wpAnyH_take (i := 12) (v := ?v12x26z) (by simp only [List.getElem?_toArray, List.getElem?_cons_zero, List.getElem?_cons_succ]; exact rfl) (by kernel_rfl) (by kernel_rfl) (by kernel_rfl) (by exact fun _ _ _ h => h) (Or.inl ⟨by rfl, ?y12x26z⟩) hS ?r12x26z
            case y12x26z => (intro w' hSw; (try dsimp only at hSw); go_simp; (try with_reducible rfl))
            simp only [Act.put, List.setIfInBounds_toArray, List.set_cons_zero, List.set_cons_succ]
            refine wpAnyH_take (i := 13) (v := ?v13x27z) (by simp only [List.getElem?_toArray, List.getElem?_cons_zero, List.getElem?_cons_succ]; exact rfl) (by kernel_rfl) (by kernel_rfl) (by kernel_rfl) (by exact fun _ _ _ h => h) (Or.inl ⟨by rfl, ?y13x27z⟩) hS ?r13x27z
            case y13x27z => (intro w' hSw; (try dsimp only at hSw); go_simp; (try with_reducible rfl))
            simp only [Act.put, List.setIfInBounds_toArray, List.set_cons_zero, List.set_cons_succ]
            refine wpAnyH_done (by kernel_rfl) ?_ _
            clear hS
            have HEND := hid (HB1.out.trans (HSTc.out.be.mono HB1.out.size))
            go_wp2
            go_ret
            exact ⟨rfl, HEND.out⟩
end Go.Proofs.Ytlondopgibcikaa
