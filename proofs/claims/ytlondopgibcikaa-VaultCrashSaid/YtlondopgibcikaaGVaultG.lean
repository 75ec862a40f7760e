/- Layer 7's helpers: texts, has. Layer 7's helpers: has, one, awake; VaultKnown. Layer 7's helpers: one, awake. VaultKnown. -/
import Derived.Test.YtlondopgibcikaaRows
import Derived.Test.YtlondopgibcikaaGBase
import Derived.Test.YtlondopgibcikaaGDevice
import Derived.Test.YtlondopgibcikaaGRefDev
import Derived.Test.YtlondopgibcikaaGLogA
import Derived.Test.YtlondopgibcikaaGLogC
import Derived.Test.YtlondopgibcikaaGRefLog
import Derived.Test.YtlondopgibcikaaGVaultA
import Derived.Test.YtlondopgibcikaaGVaultC
import Derived.Test.YtlondopgibcikaaGVaultE
import Derived.WalkKit
import Derived.WalkSpells
import Derived.WalkLawsBesides
import Derived.Laws.IdiomStrings
namespace Go.Proofs.Ytlondopgibcikaa
open Go.RowKit Ent

/-- []byte of a text -/
theorem wpl_conv {w : World} {ops : Array Oper} {rest : List Oper} {o : Oper} {a : Act} {Q : Exit → Act → World → Prop} (hgd : o.guard = none) (x : Operand) (ho : o.op = .convert 9 22 x) (l : List UInt8) (hx : a.eval x = .string (str l))
    (h : ∀ w' c, Below w.heap.size w w' → l.length ≤ c → SB w' (some ⟨w.heap.size, 0, none⟩) c l → w.heap.size < w'.heap.size → wpList Try.prog ops Q rest (a.put o.dst (.slice (some ⟨w.heap.size, 0, none⟩) l.length c)) w') : wpList Try.prog ops Q (o :: rest) a w := by
  refine wpList_plain hgd fun _ hK => ?_
  have hr := run_bytes_of_string (P := Try.prog) w 9 22 5 (str l) Try.underlying9 Try.underlying22 Try.underlying5
  have hsz : (str l).size = l.length := by simp [str, ByteArray.size]
  rw [hsz] at hr
  unfold Oper.wp execOp
  simp only [ho, Sem.run_bind, Sem.run_pure, Result.andThen_ok, hx, hr]
  refine hK _ _ (h _ _ ((Below.refl _ _).drew.alloc (Nat.le_refl _) _) (grownCap_ge w _ _ _) (.inr (.inr ⟨_, _, rfl, fun j u hu => ?_⟩)) (by simp [World.alloc, World.drew, -World.alloc_eq, -World.drew_eq]))
  have hcell : ∀ (C : Array Value) (fr : Nat × Nat), (w.drew.alloc (.cells C 5 fr)).cell? ⟨w.heap.size, 0 + j, none⟩ = C[0 + j]? := fun C fr => World.cell?_alloc_mark w.drew C 5 fr (0 + j)
  rw [hcell, Nat.zero_add]
  unfold bytesRow
  rw [Array.getElem?_append_left (by have := (List.getElem?_eq_some_iff.1 hu).1; simpa [str] using this)]
  simpa [str, bv] using hu
structure TX (B : Nat) (w wr : World) (vo : Value) (L : List (List UInt8)) (vs : List Value) : Prop where
  be : Below B w wr
  bl : B ≤ wr.heap.size
  oo : wr.ownsRow B 22 1 vo L.length vs
  len : vs.length = L.length
  rd : ∀ (i : Nat) (l : List UInt8), L[i]? = some l → ∃ ro rc, vs[i]? = some (.slice ro l.length rc) ∧ l.length ≤ rc ∧ SB wr ro rc l ∧ ∀ x, ro = some x → B ≤ x.block ∧ x.block < wr.heap.size ∧ vo.ownBlock ≠ some x.block
theorem TX.start (w : World) : TX w.heap.size w w (.slice none 0 0) [] [] := ⟨Below.refl _ _, Nat.le_refl _, World.ownsRow_nil _ _ _ _, rfl, fun i l h => by simp at h⟩
theorem TX.step {B : Nat} {w wr w1 w3 : World} {vo v3 : Value} {L : List (List UInt8)} {vs : List Value} (h : TX B w wr vo L vs) {l : List UInt8} {c : Nat} (hb1 : Below wr.heap.size wr w1) (hc : l.length ≤ c) (hs : SB w1 (some ⟨wr.heap.size, 0, none⟩) c l) (hlt : wr.heap.size < w1.heap.size) {v : Value} (hv : v = .slice (some ⟨wr.heap.size, 0, none⟩) l.length c) {w2 : World} (hb2 : Below w1.heap.size w1 w2)
    (ho : w3.ownsRow B 22 1 v3 (L.length + 1) (vs ++ [v])) (hg : w2.grownBy w3 vo.ownBlock) (hw : v3.ownBlock = vo.ownBlock ∨ v3.ownBlock = some w2.heap.size) : TX B w w3 v3 (L ++ [l]) (vs ++ [v]) := by
  have hk : Keep (fun k => vo.ownBlock = some k) wr w3 := ((Keep.ofBelow (F := fun k => vo.ownBlock = some k) hb1).trans (Keep.ofBelow hb2)).grown hg (fun k hk _ => hk)
  have hk1 : Keep (fun k => vo.ownBlock = some k) w1 w3 := (Keep.ofBelow (F := fun k => vo.ownBlock = some k) hb2).grown hg (fun k hk _ => hk)
  have hs1 := hb1.size; have hs2 := hb2.size; have hs3 := hg.size; have hbl := h.bl
  have hvo := own_lt h.oo
  refine ⟨h.be.trans ((hb1.mono hbl).trans (hb2.mono (by omega))) |>.grown hg (by omega) (owns_ge h.oo), by omega, by rw [List.length_append]; exact ho, by simp [h.len], fun i m hm => ?_⟩
  by_cases hi : i < L.length
  · rw [List.getElem?_append_left hi] at hm
    obtain ⟨ro, rc, e1, e2, e3, e4⟩ := h.rd i m hm
    refine ⟨ro, rc, by rw [List.getElem?_append_left (by rw [h.len]; exact hi)]; exact e1, e2, e3.keep hk (fun x hx e => (e4 x hx).2.2 e), fun x hx => ?_⟩
    obtain ⟨f1, f2, f3⟩ := e4 x hx
    refine ⟨f1, by omega, fun e => ?_⟩
    rcases hw with h1 | h1
    · exact f3 (by rw [← h1]; exact e)
    · rw [h1] at e; injection e with e; omega
  · have hi' : i = L.length := by
      have := (List.getElem?_eq_some_iff.1 hm).1
      simp at this; omega
    subst hi'
    rw [List.getElem?_append_right (Nat.le_refl _), Nat.sub_self] at hm
    injection hm with hm
    subst hm
    refine ⟨_, c, by rw [List.getElem?_append_right (by rw [h.len]; exact Nat.le_refl _), h.len, Nat.sub_self, hv]; rfl, hc, hs.keep hk1 (fun x hx e => ?_), fun x hx => ?_⟩
    · injection hx with hx; subst hx
      have := hvo _ e; simp only at this; omega
    · injection hx with hx; subst hx
      refine ⟨hbl, by simp only; omega, fun e => ?_⟩
      rcases hw with h1 | h1
      · rw [h1] at e; have := hvo _ e; simp only at this; omega
      · rw [h1] at e; injection e with e; simp only at e; omega
theorem TX.lrf {B : Nat} {w wr : World} {vo : Value} {L : List (List UInt8)} {vs : List Value} (h : TX B w wr vo L vs) : ∃ lo c, vo = .slice lo L.length c ∧ LRF wr (fun k => B ≤ k ∧ k < wr.heap.size) lo L := by
  have hg := h.oo.lt
  rcases h.oo.2 with ⟨h1, h0⟩ | ⟨g, c, cur, hv, hg', hh, hc, hm, hs, ht⟩
  · exact ⟨none, 0, by rw [h0]; exact h1, .inl (List.eq_nil_of_length_eq_zero h0)⟩
  · refine ⟨_, c, hv, .inr ⟨g, 0, rfl, hg g (by rw [hv]; rfl), fun k l hl => ?_⟩⟩
    obtain ⟨ro, rc, e1, e2, e3, e4⟩ := h.rd k l hl
    refine ⟨ro, rc, ?_, e2, e3, fun _ x hx => ⟨(e4 x hx).1, (e4 x hx).2.1⟩⟩
    rw [Nat.zero_add, cell_of_row wr g k cur _ _ hh, ← e1, ← ht, List.getElem?_take]
    rw [← ht, List.getElem?_take] at e1
    split at e1
    · rename_i h2; rw [if_pos h2]; simp
    · cases e1
/-- texts that are read -/
def TL (w : World) (so : Option Addr) (sl : List (List UInt8)) : Prop := sl = [] ∨ ∃ b o, so = some ⟨b, o, none⟩ ∧ ∀ (k : Nat) (l : List UInt8), sl[k]? = some l → w.cell? ⟨b, o + k, none⟩ = some (.string (str l))
theorem TL.below {w w' : World} {so : Option Addr} {sl : List (List UInt8)} (h : TL w so sl) (hb : Below w.heap.size w w') : TL w' so sl := by
  rcases h with h | ⟨b, o, h1, h2⟩
  · exact .inl h
  · exact .inr ⟨b, o, h1, fun k l hl => (hb.cell (World.block_lt_of_cell? _ _ (h2 k l hl))).trans (h2 k l hl)⟩
set_option maxRecDepth 100000 in
set_option maxHeartbeats 1000000 in
theorem texts_any (so : Option Addr) (n c : Nat) (sl : List (List UInt8)) (hn : n = sl.length) (hb : n ≤ 1000) (w : World) (hs : TL w so sl) :
    Calls Try.prog 96 #[.slice so n c] w fun e w' => ∃ lo c', e = .returned (.slice lo n c') ∧ LRF w' (fun k => w.heap.size ≤ k ∧ k < w'.heap.size) lo sl ∧ Below w.heap.size w w' := by
  have HN := hid hn; have HS := hid hs
  clear hn hs
  go_enter Try.func96, Try.ntmps96
  go_wp2_with fail
  go_loopw [3, 4] (fun v3 i wr => ∃ (vo : Value) (k : Nat) (vs : List Value), vo = v3 ∧ k ≤ n ∧ i = .int .i64 k ∧ TX w.heap.size w wr vo (sl.take k) vs) (fun _ i _ => n - (intOf i).toNat)
  case atStart => exact ⟨_, 0, [], rfl, Nat.zero_le _, rfl, TX.start w⟩
  case round =>
    obtain ⟨vo, k, vs, rfl, hk, rfl, ht⟩ := hrel
    have HT := hid ht
    clear ht
    by_cases hlt : k < n
    · obtain ⟨l, hl⟩ : ∃ l, sl[k]? = some l := ⟨_, List.getElem?_eq_getElem (by rw [← HN.out]; exact hlt)⟩
      obtain ⟨b, o, rfl, cx⟩ : ∃ b o, so = some ⟨b, o, none⟩ ∧ wr.cell? ⟨b, o + k, none⟩ = some (.string (str l)) := by
        rcases HS.out.below HT.out.be with h0 | ⟨b, o, h1, h2⟩
        · rw [h0] at hl; simp at hl
        · exact ⟨b, o, h1, h2 k l hl⟩
      have HTK : Hid (sl.take (k + 1) = sl.take k ++ [l]) := hid (by rw [List.take_add_one, hl]; rfl)
      have HTL : Hid ((sl.take k).length = k) := hid (by rw [List.length_take, ← HN.out]; omega)
      obtain ⟨q, hq⟩ : ∃ q, l.length = q := ⟨_, rfl⟩
      have HQ := hid hq
      clear hl hq
      go_wp2_with (first
        | (refine wpl_conv rfl (.tmp 15) rfl l rfl ?_; intro w1 c1 hb1 hc1 hs1 hlt1; rw [HQ.out]; have HB1 := hid hb1; have HC1 := hid hc1; have HS1 := hid hs1; have HLT1 := hid hlt1; clear hb1 hc1 hs1 hlt1)
        | (refine wpl_appendR rowL rfl (.tmp 11) (.tmp 17) rfl w.heap.size vo _ vs rfl (owns_below (owns_below HT.out.oo HB1.out) (fresh_alloc w1 _)) w1.heap.size rfl [.slice (some ⟨wr.heap.size, 0, none⟩) q c1] (alloc_new w1 _) rfl (by intro u hu; simp at hu; subst hu; rfl) (by rw [HTL.out]; omega) (by have := HT.out.bl; have := HB1.out.size; simp only [World.size_alloc]; omega) ?_; intro v7 w7 ho7 hg7 hw7; have HT7 := hid (HT.out.step HB1.out HC1.out HS1.out HLT1.out (v := .slice (some ⟨wr.heap.size, 0, none⟩) q c1) (by rw [HQ.out]) (fresh_alloc w1 _) ho7 hg7 hw7); clear ho7 hg7 hw7))
      go_roundw
      case rel => exact ⟨v7, k + 1, _, rfl, by omega, by go_num, by rw [HTK.out]; exact HT7.out⟩
      case measure => simp [intOf]; omega
    · obtain rfl : k = n := by omega
      have HE : Hid (sl.take k = sl) := hid (List.take_of_length_le (by rw [HN.out]; exact Nat.le_refl _))
      have ht := HT.out
      rw [HE.out] at ht
      obtain ⟨lo, c', rfl, hl⟩ := ht.lrf
      rw [← HN.out]
      have HL := hid hl; have HBE := hid ht.be
      clear ht hl
      go_wp2
      go_ret
      exact ⟨lo, c', rfl, HL.out, HBE.out⟩
end Go.Proofs.Ytlondopgibcikaa
namespace Go.Proofs.Ytlondopgibcikaa
open Go.RowKit Ent
section
variable {B : Nat} {w0 w w1 : World} {As X : List Asset} {a : Nat} {d : Dev}
/-- a vault whose records are not too many -/
def fitV (s : VS) : Prop := (0 ≤ s.next ∧ s.next ≤ 131072) ∧ s.gen ≤ 2147483647 ∧ s.L.length ≤ 1000000 ∧ ∀ l ∈ s.L, l.length ≤ 1073741824
theorem St.v_records (h : St B w0 w As) (j : Nat) {v : Nat} {s : VS} (hj : As[j]? = some (vsA v a s)) (hf : fitV s) :
    Calls Try.prog 89 #[ptr v] w fun e w' => ∃ r, e = .returned r ∧ FreshL w.heap.size w' r s.L ∧ Below w.heap.size w w' := by
  obtain ⟨F, ⟨vl, G, hb, hv, hl, hn, hG⟩, _⟩ := h.open j hj
  obtain ⟨lo, c, rfl, hlr⟩ := listA_lst hl
  exact vrecords_any v a s.gen s.next lo s.L.length c s.br s.L w hb hlr.lr rfl (by have := hf.2.2.1; omega) hf.2.2.2
theorem St.v_gen (h : St B w0 w As) (j : Nat) {v : Nat} {s : VS} (hj : As[j]? = some (vsA v a s)) :
    Calls Try.prog 90 #[ptr v] w fun e w' => e = .returned (.int .i64 s.gen) ∧ w' = w := by
  obtain ⟨vl, hb⟩ := h.vault j hj
  exact vgen_any v a _ _ vl _ w hb
theorem St.v_free (h : St B w0 w As) (i : Nat) (hi : As[i]? = some (dev a d)) (j : Nat) {v : Nat} {s : VS} (hj : As[j]? = some (vsA v a s)) (hf : fitV s) (hn2 : 2 ≤ d.img.length) :
    Calls Try.prog 91 #[ptr v] w fun e w' => e = .returned (.int .i64 (freeOf d.img.length s.next)) ∧ St B w0 w' As := by
  obtain ⟨vl, hb⟩ := h.vault j hj
  refine (vfree_any h i hi v s.gen s.next vl s.br hb (by have := hf.2.1; omega) hn2 hf.1).mono ?_
  rintro e w' ⟨rfl, hb'⟩
  exact ⟨rfl, h.below hb'⟩
end
def hasV (n : Nat) (s : VS) (gen free : Int) (L : List (List UInt8)) : Bool := sameL s.L L && (decide ((s.gen : Int) = gen) && decide (freeOf n s.next = free))
set_option maxRecDepth 100000 in
set_option maxHeartbeats 1000000 in
theorem has7_any {B : Nat} {w0 w : World} {As : List Asset} {a : Nat} {d : Dev} (h : St B w0 w As) (i : Nat) (hi : As[i]? = some (dev a d)) (j v : Nat) (s : VS) (hj : As[j]? = some (vsA v a s)) (hf : fitV s) (hn2 : 2 ≤ d.img.length) (gen free : Int) (so : Option Addr) (n c : Nat) (sl : List (List UInt8)) (hn : n = sl.length) (hb : n ≤ 1000) (hs : TL w so sl) :
    Calls Try.prog 95 #[ptr v, .int .i64 gen, .int .i64 free, .slice so n c] w fun e w' => e = .returned (.bool (hasV d.img.length s gen free sl)) ∧ St B w0 w' As := by
  have HR := hid (h.v_records j hj hf)
  have H := hid h; have HI := hid hi; have HJ := hid hj; have HN := hid hn; have HS := hid hs; have HF := hid hf
  obtain ⟨fo, hfo⟩ : ∃ fo, freeOf d.img.length s.next = fo := ⟨_, rfl⟩
  have HFO := hid hfo
  obtain ⟨m, hm⟩ : ∃ m, s.L.length = m := ⟨_, rfl⟩
  have HM := hid hm
  have hmb : m ≤ 1000000 := by rw [← hm]; exact hf.2.2.1
  obtain ⟨sg, hsg⟩ : ∃ sg : Int, (s.gen : Int) = sg := ⟨_, rfl⟩
  have HSG := hid hsg
  unfold hasV
  rw [hfo, hsg]
  clear h hi hj hn hs hf hfo hm hsg
  unfold ptr at HR ⊢
  go_enter Try.func95, Try.ntmps95
  go_wp2_with fail
  refine HR.out.mono ?_
  rintro e w2 ⟨r, rfl, hf2, hb2⟩
  obtain ⟨lo, lc, rfl, hlr⟩ := hf2.lr
  rw [HM.out]
  have H2 := hid (H.out.below hb2); have HS2 := hid (HS.out.below hb2); have HLR := hid hlr
  clear hf2 hb2 hlr
  go_wp2_with fail
  refine (texts_any so n c sl HN.out hb w2 HS2.out).mono ?_
  rintro e w3 ⟨lo2, c2, rfl, hl3, hb3⟩
  have H3 := hid (H2.out.below hb3); have HL3 := hid hl3.lr; have HLR3 := hid (HLR.out.below hb3)
  clear hl3 hb3
  go_wp2_with fail
  refine (sameLists_any lo lo2 m n lc c2 s.L sl HM.out.symm HN.out (by omega) (by omega) w3 HLR3.out HL3.out).mono ?_
  rintro e w4 ⟨rfl, hb4⟩
  have H4 := hid (H3.out.below hb4)
  clear hb4
  obtain ⟨sm, hsm⟩ : ∃ sm, sameL s.L sl = sm := ⟨_, rfl⟩
  have HSM := hid hsm
  rw [hsm]
  clear hsm
  rcases sm with _ | _
  · go_wp2
    go_ret
    exact ⟨by rw [HSM.out]; rfl, H4.out⟩
  · go_wp2_with fail
    refine (H4.out.v_gen j HJ.out).mono ?_
    rintro e w' ⟨rfl, hw'⟩
    subst w'
    rw [HSG.out]
    by_cases hg : sg = gen
    · subst hg
      have z2 : (sg == sg) = true := beq_self_eq_true sg
      have z3 : decide (sg = sg) = true := by simp
      go_wp2_with fail
      refine (H4.out.v_free i HI.out j HJ.out HF.out hn2).mono ?_
      rintro e w5 ⟨rfl, h5⟩
      rw [HFO.out]
      have H5 := hid h5
      clear h5
      by_cases hfr : fo = free
      · subst hfr
        have y2 : (fo == fo) = true := beq_self_eq_true fo
        have y3 : decide (fo = fo) = true := by simp
        go_wp2
        go_ret
        exact ⟨by rw [HSM.out]; simp, H5.out⟩
      · have y2 : (fo == free) = false := by rw [beq_eq_false_iff_ne]; exact hfr
        have y3 : decide (fo = free) = false := by simp [hfr]
        have HZ := hid y3
        clear hfr
        go_wp2
        go_ret
        exact ⟨by simp, H5.out⟩
    · have z2 : (sg == gen) = false := by rw [beq_eq_false_iff_ne]; exact hg
      have z3 : decide (sg = gen) = false := by simp [hg]
      have HZ := hid z3
      clear hg
      go_wp2
      go_ret
      exact ⟨by rw [HSM.out, HZ.out]; rfl, H4.out⟩
end Go.Proofs.Ytlondopgibcikaa
namespace Go.Proofs.Ytlondopgibcikaa
open Go.RowKit Ent
def o0 : Dev := Dev.new 8
def o1 : Dev := (formatD o0).2
def o2 : Dev := (openD o1).2.1
theorem vf0 : (openD o0).1 = 23 := by decide +kernel
theorem vf0n : (openD o0).2.2.isNone = true := by decide +kernel
theorem vf1 : (formatD o0).1 = 0 := by decide +kernel
theorem vf2 : (openD o1).1 = 0 := by decide +kernel
theorem vf2s : (openD o1).2.2.isSome = true := by decide +kernel
def s2 : VS := (openD o1).2.2.get vf2s
theorem vf3 : hasV 8 s2 2 3 [] = true := by decide +kernel
def o3 : Dev := (appendV o2 s2 [97, 98, 99]).2.1
def s3 : VS := (appendV o2 s2 [97, 98, 99]).2.2
theorem vf4 : (appendV o2 s2 [97, 98, 99]).1 = 0 := by decide +kernel
def o3' : Dev := (appendV o3 s3 (zr 100)).2.1
def s3' : VS := (appendV o3 s3 (zr 100)).2.2
theorem vf5 : (appendV o3 s3 (zr 100)).1 = 10 := by decide +kernel
theorem vf5e : (appendV o3 s3 (zr 100)).2 = (o3, s3) := by
  have h1 : s3.br = false := by decide +kernel
  have h2 : freeOf o3.img.length s3.next < needOf (zr 100).length := by decide +kernel
  unfold appendV
  rw [h1, if_neg (by simp), if_neg (by decide), if_pos h2]
theorem vf6 : hasV 8 s3 2 2 [[97, 98, 99]] = true := by decide +kernel
def o4 : Dev := (openD o3).2.1
theorem vf7 : (openD o3).1 = 0 := by decide +kernel
theorem vf7s : (openD o3).2.2.isSome = true := by decide +kernel
def s4 : VS := (openD o3).2.2.get vf7s
theorem vf8 : hasV 8 s4 3 2 [[97, 98, 99]] = true := by decide +kernel
theorem fit2 : fitV s2 := by unfold fitV; decide +kernel
theorem fit3 : fitV s3 := by unfold fitV; decide +kernel
theorem fit4 : fitV s4 := by unfold fitV; decide +kernel
theorem ol1 : o0.loose.length ≤ 100000000 ∧ o1.loose.length ≤ 100000000 ∧ o2.loose.length ≤ 100000000 ∧ o3.loose.length ≤ 100000000 := by decide +kernel
theorem on1 : o0.img.length = 8 ∧ o1.img.length = 8 ∧ o2.img.length = 8 ∧ o3.img.length = 8 ∧ o4.img.length = 8 := by decide +kernel
theorem wpl_makeZ_g {ops : Array Oper} {rest : List Oper} {o : Oper} {a : Act} {w : World} {Q : Exit → Act → World → Prop} (hw : Region.wanted o (yielded ops a.tmps) = true) (l c : Operand) (ho : o.op = .makeSlice 22 l c) (n : Nat) (hl : a.eval l = .int .i64 n) (hc : a.eval c = .int .i64 n) (hn : n ≤ 65536)
    (h : ∀ w', Below w.heap.size w w' → Blk w' w.heap.size 5 (bv (zr n)) → wpList Try.prog ops Q rest (a.put o.dst (.slice (some ⟨w.heap.size, 0, none⟩) n n)) w') : wpList Try.prog ops Q (o :: rest) a w :=
  BigFrame.wpList_want hw fun _ hK => wpo_make l c ho n hl hc hn fun w' h1 h2 => hK _ _ (h w' h1 h2)
theorem TL.laid (w : World) (sl : List (List UInt8)) (T : TypeId) {fr : Nat × Nat} : TL (w.alloc (.cells ((sl.map fun l => Value.string (str l)).toArray) T fr)) (some ⟨w.heap.size, 0, none⟩) sl := by
  refine .inr ⟨_, _, rfl, fun k l hl => ?_⟩
  rw [World.cell?_alloc_mark]
  simp [hl]
section
variable {B : Nat} {w0 w w1 : World} {As : List Asset} {a : Nat} {d : Dev}
theorem openedA_none {o : Option VS} {r : Value} (h : openedA B w0 w As a o r) (ho : o = none) : r = .pointer none ∧ St B w0 w As := by rw [ho] at h; exact h
theorem openedA_some {o : Option VS} {r : Value} {s : VS} (h : openedA B w0 w As a o r) (ho : o = some s) : ∃ v, r = ptr v ∧ St B w0 w (As ++ [vsA v a s]) := by rw [ho] at h; exact h
/-- Append of bytes that are read in blocks of their own -/
theorem St.v_appendB (h : St B w0 w As) (hb : Below w.heap.size w w1) (i : Nat) (hi : As[i]? = some (dev a d)) (j v : Nat) (s : VS) (hj : As[j]? = some (vsA v a s)) (hij : i ≠ j) (lo : Option Addr) (rn rc : Nat) (rec : List UInt8) (hs : SB w1 lo rc rec) (hr : ∀ x, lo = some x → w.heap.size ≤ x.block ∧ x.block < w1.heap.size) (hrn : rn = rec.length) (hrc : rn ≤ rc) (hrb : rn ≤ 1073741824) (hf : fitV s) (hn2 : 2 ≤ d.img.length) (hlo : d.loose.length ≤ 100000000) :
    Calls Try.prog 87 #[ptr v, .slice lo rn rc] w1 fun e w' => e = .returned (.int .i64 (appendV d s rec).1) ∧ St B w0 w' ((As.set i (dev a (appendV d s rec).2.1)).set j (vsA v a (appendV d s rec).2.2)) := by
  have h1 := h.addSB hb hs hr
  refine (vappend_any h1 i (get_pre hi) j v s (get_pre hj) hij lo rn rc rec hrn hrc hrb (.inr ⟨As.length + 0, sbA lo rc rec, ne_post hi 0, ne_post hj 0, get_post 0 rfl, fun w F hA => ⟨hA.1, fun _ => hA.2⟩⟩) hf.2.1 hf.1 hf.2.2.1 hn2 hlo).mono ?_
  rintro e w' ⟨rfl, h'⟩
  rw [set_pre hi, set_pre (by rw [List.getElem?_set_ne hij]; exact hj)] at h'
  exact ⟨rfl, h'.drop_post⟩
/-- .. of nil -/
theorem St.v_appendN (h : St B w0 w As) (i : Nat) (hi : As[i]? = some (dev a d)) (j v : Nat) (s : VS) (hj : As[j]? = some (vsA v a s)) (hij : i ≠ j) (hf : fitV s) (hn2 : 2 ≤ d.img.length) (hlo : d.loose.length ≤ 100000000) :
    Calls Try.prog 87 #[ptr v, .slice none 0 0] w fun e w' => e = .returned (.int .i64 (appendV d s []).1) ∧ St B w0 w' ((As.set i (dev a (appendV d s []).2.1)).set j (vsA v a (appendV d s []).2.2)) :=
  vappend_any h i hi j v s hj hij none 0 0 [] rfl (Nat.le_refl _) (by omega) (.inl ⟨SB.nil _, fun hne => absurd rfl hne⟩) hf.2.1 hf.1 hf.2.2.1 hn2 hlo
/-- Replace by lists that are read in blocks of their own -/
theorem St.v_replaceB (h : St B w0 w As) (hb : Below w.heap.size w w1) (i : Nat) (hi : As[i]? = some (dev a d)) (j v : Nat) (s : VS) (hj : As[j]? = some (vsA v a s)) (hij : i ≠ j) (lo : Option Addr) (len c : Nat) (L : List (List UInt8)) (hL : LRF w1 (fun k => w.heap.size ≤ k ∧ k < w1.heap.size) lo L) (hlen : len = L.length) (hl1 : len ≤ 1000) (hl2 : ∀ l ∈ L, l.length ≤ 1073741824) (hf : fitV s) (hn2 : 2 ≤ d.img.length) (hlo : d.loose.length ≤ 100000000) :
    Calls Try.prog 88 #[ptr v, .slice lo len c] w1 fun e w' => e = .returned (.int .i64 (replaceV d s L).1) ∧ St B w0 w' ((As.set i (dev a (replaceV d s L).2.1)).set j (vsA v a (replaceV d s L).2.2)) := by
  have h1 := h.add hb (good_lstA lo L) hL (fun k hk => hk)
  refine (vreplace_any h1 i (get_pre hi) j v s (get_pre hj) hij lo len c L (.inr ⟨As.length + 0, lstA lo L, ne_post hi 0, get_post 0 rfl, fun _ _ h => h⟩) hlen hl1 hf.2.1 hl2 hn2 hlo).mono ?_
  rintro e w' ⟨rfl, h'⟩
  rw [set_pre hi, set_pre (by rw [List.getElem?_set_ne hij]; exact hj)] at h'
  exact ⟨rfl, h'.drop_post⟩
theorem St.v_replaceN (h : St B w0 w As) (i : Nat) (hi : As[i]? = some (dev a d)) (j v : Nat) (s : VS) (hj : As[j]? = some (vsA v a s)) (hij : i ≠ j) (hf : fitV s) (hn2 : 2 ≤ d.img.length) (hlo : d.loose.length ≤ 100000000) :
    Calls Try.prog 88 #[ptr v, .slice none 0 0] w fun e w' => e = .returned (.int .i64 (replaceV d s []).1) ∧ St B w0 w' ((As.set i (dev a (replaceV d s []).2.1)).set j (vsA v a (replaceV d s []).2.2)) :=
  vreplace_any h i hi j v s hj hij none 0 0 [] (.inl (.inl rfl)) rfl (by omega) hf.2.1 (by simp) hn2 hlo
end
set_option maxRecDepth 100000 in
set_option maxHeartbeats 1000000 in
theorem one7_any {B : Nat} {w0 : World} (w : World) (h : St B w0 w []) : Calls Try.prog 94 #[] w fun e w' => ∃ a v, e = .returned (.tuple #[ptr a, ptr v]) ∧ St B w0 w' [dev a o3, vsA v a s3] := by
  have H0 := hid h
  clear h
  go_enter Try.func94, Try.ntmps94
  go_wp2_with fail
  refine (H0.out.dev_new 8 (by omega) (by omega)).mono ?_
  rintro e w1 ⟨a, rfl, h1⟩
  have H1 : Hid (St B w0 w1 [dev a o0]) := hid h1
  clear h1
  unfold ptr
  go_wp2_with fail
  refine (vopen_any H1.out 0 rfl (by rw [on1.1]; omega) ol1.1).mono ?_
  rintro e w2 ⟨r, rfl, h2⟩
  obtain ⟨rfl, h2'⟩ := openedA_none h2 (Option.isNone_iff_eq_none.1 vf0n)
  have H2 : Hid (St B w0 w2 [dev a o0]) := hid h2'
  clear h2 h2'
  rw [vf0]
  go_wp2_with fail
  refine (vformat_any H2.out 0 rfl (by have := ol1.1; omega)).mono ?_
  rintro e w3 ⟨rfl, h3⟩
  have H3 : Hid (St B w0 w3 [dev a o1]) := hid h3
  clear h3
  rw [vf1]
  go_wp2_with fail
  refine (vopen_any H3.out 0 rfl (by rw [on1.2.1]; omega) ol1.2.1).mono ?_
  rintro e w4 ⟨r, rfl, h4⟩
  obtain ⟨v, rfl, h4'⟩ := openedA_some h4 (Option.some_get vf2s).symm
  have H4 : Hid (St B w0 w4 [dev a o2, vsA v a s2]) := hid h4'
  clear h4 h4'
  rw [vf2]
  unfold ptr
  go_wp2_with fail
  refine (has7_any H4.out 0 rfl 1 v s2 rfl fit2 (by rw [on1.2.2.1]; omega) 2 3 none 0 0 [] rfl (by omega) (.inl rfl)).mono ?_
  rintro e w5 ⟨rfl, h5⟩
  have H5 := hid h5
  clear h5
  rw [on1.2.2.1, vf3]
  have kc := fun (w : World) (C : Array Value) (n c : Nat) => Lib.run_convert_bytes_const (P := Try.prog) w 22 5 C n c Try.underlying22 Try.underlying5
  go_wp2_with fail
  refine (H5.out.v_appendB (fresh_alloc w5 _) 0 rfl 1 v s2 rfl (by omega) _ 3 3 [97, 98, 99] (SB.laid w5 [97, 98, 99] _ _) (by rintro x ⟨⟩; exact ⟨Nat.le_refl _, by rw [World.size_alloc]; exact Nat.lt_succ_self _⟩) rfl (by omega) (by omega) fit2 (by rw [on1.2.2.1]; omega) ol1.2.2.1).mono ?_
  rintro e w6 ⟨rfl, h6⟩
  have H6 : Hid (St B w0 w6 [dev a o3, vsA v a s3]) := hid h6
  clear h6
  rw [vf4]
  go_wp2_with (refine wpl_makeZ_g (by rfl) _ _ rfl 100 rfl rfl (by omega) ?_; intro w7 hb7 hm7; have HB7 := hid hb7; have HM7 := hid hm7; clear hb7 hm7)
  refine (H6.out.v_appendB HB7.out 0 rfl 1 v s3 rfl (by omega) _ 100 100 (zr 100) (.inr (.inr ⟨_, _, rfl, HM7.out.range fun j u hu => by rw [Nat.zero_add]; exact hu⟩)) (by rintro x ⟨⟩; exact ⟨Nat.le_refl _, HM7.out.lt⟩) (by simp [zr]) (by omega) (by omega) fit3 (by rw [on1.2.2.2.1]; omega) ol1.2.2.2).mono ?_
  rintro e w8 ⟨rfl, h8⟩
  rw [vf5e] at h8
  have H8 : Hid (St B w0 w8 [dev a o3, vsA v a s3]) := hid h8
  clear h8
  rw [vf5]
  go_wp2_with fail
  refine (has7_any (H8.out.below (fresh_alloc w8 _)) 0 rfl 1 v s3 rfl fit3 (by rw [on1.2.2.2.1]; omega) 2 2 _ 1 1 [[97, 98, 99]] rfl (by omega) (TL.laid w8 [[97, 98, 99]] _)).mono ?_
  rintro e w9 ⟨rfl, h9⟩
  have H9 := hid h9
  clear h9
  rw [on1.2.2.2.1, vf6]
  go_wp2
  go_ret2
  exact ⟨a, v, rfl, H9.out⟩
set_option maxRecDepth 100000 in
set_option maxHeartbeats 1000000 in
theorem awake7_any (w : World) : Calls Try.prog 86 #[] w fun e w' => e = .returned (.bool true) ∧ Below w.heap.size w w' := by
  go_enter Try.func86, Try.ntmps86
  go_wp2_with fail
  refine (one7_any w (St.start w)).mono ?_
  rintro e w1 ⟨a, v, rfl, h1⟩
  have H1 := hid h1
  clear h1
  unfold ptr
  go_wp2_with fail
  refine (vopen_any H1.out 0 rfl (by rw [on1.2.2.2.1]; omega) ol1.2.2.2).mono ?_
  rintro e w4 ⟨r, rfl, h4⟩
  obtain ⟨v', rfl, h4'⟩ := openedA_some h4 (Option.some_get vf7s).symm
  have H4 : Hid (St w.heap.size w w4 [dev a o4, vsA v a s3, vsA v' a s4]) := hid h4'
  clear h4 h4'
  rw [vf7]
  unfold ptr
  go_wp2_with fail
  refine (has7_any (H4.out.below (fresh_alloc w4 _)) 0 rfl 2 v' s4 rfl fit4 (by rw [on1.2.2.2.2]; omega) 3 2 _ 1 1 [[97, 98, 99]] rfl (by omega) (TL.laid w4 [[97, 98, 99]] _)).mono ?_
  rintro e w9 ⟨rfl, h9⟩
  have H9 := hid h9
  clear h9
  rw [on1.2.2.2.2, vf8]
  go_wp2
  go_ret
  exact ⟨rfl, H9.out.be⟩
end Go.Proofs.Ytlondopgibcikaa
namespace Go.Proofs.Ytlondopgibcikaa
open Go.RowKit Ent
theorem LRF.mono {w : World} {F G : Nat → Prop} {lo : Option Addr} {L : List (List UInt8)} (h : LRF w F lo L) (hFG : ∀ k, F k → G k) : LRF w G lo L := by
  rcases h with h | ⟨b, o, h1, h2, h3⟩
  · exact .inl h
  · exact .inr ⟨b, o, h1, hFG _ h2, fun k l hl => by
      obtain ⟨ro, rc, c1, c2, c3, c4⟩ := h3 k l hl
      exact ⟨ro, rc, c1, c2, c3, fun hne x hx => hFG _ (c4 hne x hx)⟩⟩
def xyz : List (List UInt8) := [[120], [121], [122]]
def xyzu : List (List UInt8) := [[120], [121], [122], [117]]
def o5 : Dev := (replaceV o4 s4 xyz).2.1
def s5 : VS := (replaceV o4 s4 xyz).2.2
theorem vg1 : (replaceV o4 s4 xyz).1 = 0 := by decide +kernel
theorem vg2 : hasV 8 s5 4 0 xyz = true := by decide +kernel
theorem vg3 : (appendV o5 s5 []).1 = 10 := by decide +kernel
theorem br5 : s5.br = false := by decide +kernel
theorem vg3e : (appendV o5 s5 []).2 = (o5, s5) := by
  have h2 : freeOf o5.img.length s5.next < needOf ([] : List UInt8).length := by decide +kernel
  unfold appendV
  rw [br5, if_neg (by simp), if_neg (by decide), if_pos h2]
theorem vg4 : (replaceV o5 s5 xyzu).1 = 10 := by decide +kernel
theorem vg4e : (replaceV o5 s5 xyzu).2 = (o5, s5) := by
  have h2 : fitsOf s5.gen o5.img.length xyzu ≠ 0 := by decide +kernel
  unfold replaceV
  rw [br5, if_neg (by simp), if_pos h2]
theorem vg5 : (s5.gen : Int) = 4 := by decide +kernel
def o6 : Dev := (o5.setFuse 4).2
theorem vg6 : (o5.setFuse 4).1 = 0 := by decide +kernel
def o7 : Dev := (replaceV o6 s5 []).2.1
def s7 : VS := (replaceV o6 s5 []).2.2
theorem vg7 : (replaceV o6 s5 []).1 = 22 := by decide +kernel
theorem vg8 : hasV 8 s7 4 0 xyz = true := by decide +kernel
theorem vg9 : (appendV o7 s7 []).1 = 23 := by decide +kernel
theorem vg9e : (appendV o7 s7 []).2 = (o7, s7) := by
  have h2 : s7.br = true := by decide +kernel
  unfold appendV
  rw [h2, if_pos rfl]
def o8 : Dev := (o7.crash [] 0).2
theorem vg10 : (o7.crash [] 0).1 = 0 := by decide +kernel
def o9 : Dev := (openD o8).2.1
theorem vg11 : (openD o8).1 = 0 := by decide +kernel
theorem vg11s : (openD o8).2.2.isSome = true := by decide +kernel
def s9 : VS := (openD o8).2.2.get vg11s
theorem vg12 : hasV 8 s9 5 0 xyz = true := by decide +kernel
theorem fit5 : fitV s5 := by unfold fitV; decide +kernel
theorem fit7 : fitV s7 := by unfold fitV; decide +kernel
theorem fit9 : fitV s9 := by unfold fitV; decide +kernel
theorem ol2 : o4.loose.length ≤ 100000000 ∧ o5.loose.length ≤ 100000000 ∧ o6.loose.length ≤ 100000000 ∧ o7.loose.length ≤ 100000000 ∧ o8.loose.length ≤ 100000000 := by decide +kernel
theorem on2 : o5.img.length = 8 ∧ o6.img.length = 8 ∧ o7.img.length = 8 ∧ o8.img.length = 8 ∧ o9.img.length = 8 := by decide +kernel
set_option maxRecDepth 100000 in
set_option maxHeartbeats 2000000 in
theorem known7_any (w : World) : Calls Try.prog 20 #[] w fun e w' => e = .returned (.bool true) ∧ Below w.heap.size w w' := by
  go_enter Try.func20, Try.ntmps20
  go_wp2_with fail
  refine (one7_any w (St.start w)).mono ?_
  rintro e w1 ⟨a, v, rfl, h1⟩
  have H1 := hid h1
  clear h1
  unfold ptr
  go_wp2_with fail
  refine (vopen_any H1.out 0 rfl (by rw [on1.2.2.2.1]; omega) ol1.2.2.2).mono ?_
  rintro e w2 ⟨r, rfl, h2⟩
  obtain ⟨u, rfl, h2'⟩ := openedA_some h2 (Option.some_get vf7s).symm
  have H2 : Hid (St w.heap.size w w2 [dev a o4, vsA v a s3, vsA u a s4]) := hid h2'
  clear h2 h2'
  rw [vf7]
  unfold ptr
  go_wp2_with fail
  refine (has7_any (H2.out.below (fresh_alloc w2 _)) 0 rfl 2 u s4 rfl fit4 (by rw [on1.2.2.2.2]; omega) 3 2 _ 1 1 [[97, 98, 99]] rfl (by omega) (TL.laid w2 [[97, 98, 99]] _)).mono ?_
  rintro e w3 ⟨rfl, h3⟩
  have H3 := hid h3
  clear h3
  rw [on1.2.2.2.2, vf8]
  go_wp2_with fail
  refine (texts_any _ 3 3 xyz rfl (by omega) _ (TL.laid w3 xyz _)).mono ?_
  rintro e w4 ⟨lo4, c4, rfl, hl4, hb4⟩
  have HB4 := hid ((fresh_alloc w3 _).trans (hb4.mono (Nat.le_of_lt (by rw [World.size_alloc]; exact Nat.lt_succ_self _))))
  have HL4 : Hid (LRF w4 (fun k => w3.heap.size ≤ k ∧ k < w4.heap.size) lo4 xyz) := hid (hl4.mono fun k hk => ⟨by have := hk.1; rw [World.size_alloc] at this; omega, hk.2⟩)
  clear hl4 hb4
  go_wp2_with fail
  refine (H3.out.v_replaceB HB4.out 0 rfl 2 u s4 rfl (by omega) lo4 3 c4 xyz HL4.out rfl (by omega) (by decide) fit4 (by rw [on1.2.2.2.2]; omega) ol2.1).mono ?_
  rintro e w5 ⟨rfl, h5⟩
  have H5 : Hid (St w.heap.size w w5 [dev a o5, vsA v a s3, vsA u a s5]) := hid h5
  clear h5
  rw [vg1]
  go_wp2_with fail
  refine (has7_any (H5.out.below (fresh_alloc w5 _)) 0 rfl 2 u s5 rfl fit5 (by rw [on2.1]; omega) 4 0 _ 3 3 xyz rfl (by omega) (TL.laid w5 xyz _)).mono ?_
  rintro e w6 ⟨rfl, h6⟩
  have H6 := hid h6
  clear h6
  rw [on2.1, vg2]
  go_wp2_with fail
  refine (H6.out.v_appendN 0 rfl 2 u s5 rfl (by omega) fit5 (by rw [on2.1]; omega) ol2.2.1).mono ?_
  rintro e w7 ⟨rfl, h7⟩
  rw [vg3e] at h7
  have H7 : Hid (St w.heap.size w w7 [dev a o5, vsA v a s3, vsA u a s5]) := hid h7
  clear h7
  rw [vg3]
  go_wp2_with fail
  refine (texts_any _ 4 4 xyzu rfl (by omega) _ (TL.laid w7 xyzu _)).mono ?_
  rintro e w8 ⟨lo8, c8, rfl, hl8, hb8⟩
  have HB8 := hid ((fresh_alloc w7 _).trans (hb8.mono (Nat.le_of_lt (by rw [World.size_alloc]; exact Nat.lt_succ_self _))))
  have HL8 : Hid (LRF w8 (fun k => w7.heap.size ≤ k ∧ k < w8.heap.size) lo8 xyzu) := hid (hl8.mono fun k hk => ⟨by have := hk.1; rw [World.size_alloc] at this; omega, hk.2⟩)
  clear hl8 hb8
  go_wp2_with fail
  refine (H7.out.v_replaceB HB8.out 0 rfl 2 u s5 rfl (by omega) lo8 4 c8 xyzu HL8.out rfl (by omega) (by decide) fit5 (by rw [on2.1]; omega) ol2.2.1).mono ?_
  rintro e w9 ⟨rfl, h9⟩
  rw [vg4e] at h9
  have H9 : Hid (St w.heap.size w w9 [dev a o5, vsA v a s3, vsA u a s5]) := hid h9
  clear h9
  rw [vg4]
  go_wp2_with fail
  refine (H9.out.v_gen 2 rfl).mono ?_
  rintro e w' ⟨rfl, hw'⟩
  subst w'
  rw [vg5]
  go_wp2_with fail
  refine (H9.out.dev_fuse 0 rfl 4 (by omega) (by omega)).mono ?_
  rintro e w10 ⟨rfl, h10⟩
  have H10 : Hid (St w.heap.size w w10 [dev a o6, vsA v a s3, vsA u a s5]) := hid h10
  clear h10
  rw [vg6]
  go_wp2_with fail
  refine (H10.out.v_replaceN 0 rfl 2 u s5 rfl (by omega) fit5 (by rw [on2.2.1]; omega) ol2.2.2.1).mono ?_
  rintro e w11 ⟨rfl, h11⟩
  have H11 : Hid (St w.heap.size w w11 [dev a o7, vsA v a s3, vsA u a s7]) := hid h11
  clear h11
  rw [vg7]
  go_wp2_with fail
  refine (has7_any (H11.out.below (fresh_alloc w11 _)) 0 rfl 2 u s7 rfl fit7 (by rw [on2.2.2.1]; omega) 4 0 _ 3 3 xyz rfl (by omega) (TL.laid w11 xyz _)).mono ?_
  rintro e w12 ⟨rfl, h12⟩
  have H12 := hid h12
  clear h12
  rw [on2.2.2.1, vg8]
  go_wp2_with fail
  refine (H12.out.v_appendN 0 rfl 2 u s7 rfl (by omega) fit7 (by rw [on2.2.2.1]; omega) ol2.2.2.2.1).mono ?_
  rintro e w13 ⟨rfl, h13⟩
  rw [vg9e] at h13
  have H13 : Hid (St w.heap.size w w13 [dev a o7, vsA v a s3, vsA u a s7]) := hid h13
  clear h13
  rw [vg9]
  go_wp2_with fail
  refine (H13.out.dev_crash2 (Below.refl _ _) 0 rfl none 0 0 [] rfl 0 (.inl rfl) (by rintro x ⟨⟩) (by omega) (by have := ol2.2.2.2.1; omega)).mono ?_
  rintro e w14 ⟨rfl, h14⟩
  have H14 : Hid (St w.heap.size w w14 [dev a o8, vsA v a s3, vsA u a s7]) := hid h14
  clear h14
  rw [vg10]
  go_wp2_with fail
  refine (vopen_any H14.out 0 rfl (by rw [on2.2.2.2.1]; omega) ol2.2.2.2.2).mono ?_
  rintro e w15 ⟨r, rfl, h15⟩
  obtain ⟨z, rfl, h15'⟩ := openedA_some h15 (Option.some_get vg11s).symm
  have H15 : Hid (St w.heap.size w w15 [dev a o9, vsA v a s3, vsA u a s7, vsA z a s9]) := hid h15'
  clear h15 h15'
  rw [vg11]
  unfold ptr
  go_wp2_with fail
  refine (awake7_any w15).mono ?_
  rintro e w16 ⟨rfl, hb16⟩
  have H16 := hid (H15.out.below hb16)
  clear hb16
  go_wp2_with fail
  refine (has7_any (H16.out.below (fresh_alloc w16 _)) 0 rfl 3 z s9 rfl fit9 (by rw [on2.2.2.2.2]; omega) 5 0 _ 3 3 xyz rfl (by omega) (TL.laid w16 xyz _)).mono ?_
  rintro e w17 ⟨rfl, h17⟩
  have H17 := hid h17
  clear h17
  rw [on2.2.2.2.2, vg12]
  go_wp2
  go_ret
  exact ⟨rfl, H17.out.be⟩
end Go.Proofs.Ytlondopgibcikaa
