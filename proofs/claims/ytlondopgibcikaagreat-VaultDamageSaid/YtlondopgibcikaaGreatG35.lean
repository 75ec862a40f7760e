/- Layer 7's helpers: texts, has. Layer 7's helpers: has, one, awake; VaultKnown. Layer 7's helpers: one, awake. The vault's acts, plainly: what stands behind each of them, and that all stays in bounds. -/
import Derived.Test.YtlondopgibcikaaGreatRows
import Derived.Test.YtlondopgibcikaaGreatG01
import Derived.Test.YtlondopgibcikaaGreatG02
import Derived.Test.YtlondopgibcikaaGreatG03
import Derived.Test.YtlondopgibcikaaGreatG04
import Derived.Test.YtlondopgibcikaaGreatG05
import Derived.Test.YtlondopgibcikaaGreatG06
import Derived.Test.YtlondopgibcikaaGreatG07
import Derived.Test.YtlondopgibcikaaGreatG08
import Derived.Test.YtlondopgibcikaaGreatG09
import Derived.Test.YtlondopgibcikaaGreatG10
import Derived.Test.YtlondopgibcikaaGreatG14
import Derived.Test.YtlondopgibcikaaGreatG15
import Derived.Test.YtlondopgibcikaaGreatG16
import Derived.Test.YtlondopgibcikaaGreatG17
import Derived.Test.YtlondopgibcikaaGreatG18
import Derived.Test.YtlondopgibcikaaGreatG21
import Derived.Test.YtlondopgibcikaaGreatG22
import Derived.Test.YtlondopgibcikaaGreatG23
import Derived.Test.YtlondopgibcikaaGreatG24
import Derived.Test.YtlondopgibcikaaGreatG25
import Derived.Test.YtlondopgibcikaaGreatG26
import Derived.Test.YtlondopgibcikaaGreatG27
import Derived.Test.YtlondopgibcikaaGreatG28
import Derived.Test.YtlondopgibcikaaGreatG29
import Derived.Test.YtlondopgibcikaaGreatG30
import Derived.Test.YtlondopgibcikaaGreatG32
import Derived.Test.YtlondopgibcikaaGreatG33
import Derived.WalkKit
import Derived.WalkSpells
import Derived.WalkLawsBesides
import Derived.Laws.IdiomStrings
import Derived.Lib.SlBytesConst
namespace Go.Proofs.YtlondopgibcikaaGreat
open Go.RowKit Ent
/-- []byte of a text -/
theorem wpl_conv {w : World} {ops : Array Oper} {rest : List Oper} {o : Oper} {a : Act} {Q : Exit → Act → World → Prop} (hgd : o.guard = none) (x : Operand) (ho : o.op = .convert 9 44 x) (l : List UInt8) (hx : a.eval x = .string (str l))
    (h : ∀ w' c, Below w.heap.size w w' → l.length ≤ c → SB w' (some ⟨w.heap.size, 0, none⟩) c l → w.heap.size < w'.heap.size → wpList Tryz.prog ops Q rest (a.put o.dst (.slice (some ⟨w.heap.size, 0, none⟩) l.length c)) w') : wpList Tryz.prog ops Q (o :: rest) a w := by
  refine wpList_plain hgd fun _ hK => ?_
  have hr := run_bytes_of_string (P := Tryz.prog) w 9 44 5 (str l) Tryz.underlying9 Tryz.underlying44 Tryz.underlying5
  have hsz : (str l).size = l.length := by simp [str, ByteArray.size]
  rw [hsz] at hr
  unfold Oper.wp execOp
  simp only [ho, Sem.run_bind, Sem.run_pure, Result.andThen_ok, hx, hr]
  refine hK _ _ (h _ _ ((Below.refl _ _).drew.alloc (Nat.le_refl _) _) (grownCap_ge w _ _ _) (.inr (.inr ⟨_, _, rfl, fun j u hu => ?_⟩)) (by simp [World.alloc, World.drew, -World.alloc_eq, -World.drew_eq]))
  have hcell : ∀ (C : Array Value) (fr : Nat × Nat), (w.drew.alloc (.cells C 5 fr)).cell? ⟨w.heap.size, 0 + j, none⟩ = C[0 + j]? := fun C fr => World.cell?_alloc_mark w.drew C 5 fr (0 + j)
  rw [hcell, Nat.zero_add]
  unfold bytesRow
  rw [Array.getElem?_append_left (by have := (List.getElem?_eq_some_iff.1 hu).1; simpa [str] using this)]
  simpa [str, bv] using hu
structure TX (B : Nat) (w wr : World) (vo : Value) (L : List (List UInt8)) (vs : List Value) : Prop where
  be : Below B w wr
  bl : B ≤ wr.heap.size
  oo : wr.ownsRow B 44 1 vo L.length vs
  len : vs.length = L.length
  rd : ∀ (i : Nat) (l : List UInt8), L[i]? = some l → ∃ ro rc, vs[i]? = some (.slice ro l.length rc) ∧ l.length ≤ rc ∧ SB wr ro rc l ∧ ∀ x, ro = some x → B ≤ x.block ∧ x.block < wr.heap.size ∧ vo.ownBlock ≠ some x.block
theorem TX.start (w : World) : TX w.heap.size w w (.slice none 0 0) [] [] := ⟨Below.refl _ _, Nat.le_refl _, World.ownsRow_nil _ _ _ _, rfl, fun i l h => by simp at h⟩
theorem TX.step {B : Nat} {w wr w1 w3 : World} {vo v3 : Value} {L : List (List UInt8)} {vs : List Value} (h : TX B w wr vo L vs) {l : List UInt8} {c : Nat} (hb1 : Below wr.heap.size wr w1) (hc : l.length ≤ c) (hs : SB w1 (some ⟨wr.heap.size, 0, none⟩) c l) (hlt : wr.heap.size < w1.heap.size) {v : Value} (hv : v = .slice (some ⟨wr.heap.size, 0, none⟩) l.length c) {w2 : World} (hb2 : Below w1.heap.size w1 w2)
    (ho : w3.ownsRow B 44 1 v3 (L.length + 1) (vs ++ [v])) (hg : w2.grownBy w3 vo.ownBlock) (hw : v3.ownBlock = vo.ownBlock ∨ v3.ownBlock = some w2.heap.size) : TX B w w3 v3 (L ++ [l]) (vs ++ [v]) := by
  have hk : Keep (fun k => vo.ownBlock = some k) wr w3 := ((Keep.ofBelow (F := fun k => vo.ownBlock = some k) hb1).trans (Keep.ofBelow hb2)).grown hg (fun k hk _ => hk)
  have hk1 : Keep (fun k => vo.ownBlock = some k) w1 w3 := (Keep.ofBelow (F := fun k => vo.ownBlock = some k) hb2).grown hg (fun k hk _ => hk)
  have hs1 := hb1.size; have hs2 := hb2.size; have hs3 := hg.size; have hbl := h.bl
  have hvo := own_lt h.oo
  refine ⟨h.be.trans ((hb1.mono hbl).trans (hb2.mono (by omega))) |>.grown hg (by omega) (owns_ge h.oo), by omega, by rw [List.length_append]; exact ho, by simp [h.len], fun i m hm => ?_⟩
  by_cases hi : i < L.length
  · rw [List.getElem?_append_left hi] at hm
    obtain ⟨ro, rc, e1, e2, e3, e4⟩ := h.rd i m hm
    refine ⟨ro, rc, by rw [List.getElem?_append_left (by rw [h.len]; exact hi)]; exact e1, e2, e3.keep hk (fun x hx e => (e4 x hx).2.2 e), fun x hx => ?_⟩
    obtain ⟨f1, f2, f3⟩ := e4 x hx
    refine ⟨f1, by omega, fun e => ?_⟩
    rcases hw with h1 | h1
    · exact f3 (by rw [← h1]; exact e)
    · rw [h1] at e; injection e with e; omega
  · have hi' : i = L.length := by
      have := (List.getElem?_eq_some_iff.1 hm).1
      simp at this; omega
    subst hi'
    rw [List.getElem?_append_right (Nat.le_refl _), Nat.sub_self] at hm
    injection hm with hm
    subst hm
    refine ⟨_, c, by rw [List.getElem?_append_right (by rw [h.len]; exact Nat.le_refl _), h.len, Nat.sub_self, hv]; rfl, hc, hs.keep hk1 (fun x hx e => ?_), fun x hx => ?_⟩
    · injection hx with hx; subst hx
      have := hvo _ e; simp only at this; omega
    · injection hx with hx; subst hx
      refine ⟨hbl, by simp only; omega, fun e => ?_⟩
      rcases hw with h1 | h1
      · rw [h1] at e; have := hvo _ e; simp only at this; omega
      · rw [h1] at e; injection e with e; simp only at e; omega
theorem TX.lrf {B : Nat} {w wr : World} {vo : Value} {L : List (List UInt8)} {vs : List Value} (h : TX B w wr vo L vs) : ∃ lo c, vo = .slice lo L.length c ∧ LRF wr (fun k => B ≤ k ∧ k < wr.heap.size) lo L := by
  have hg := h.oo.lt
  rcases h.oo.2 with ⟨h1, h0⟩ | ⟨g, c, cur, hv, hg', hh, hc, hm, hs, ht⟩
  · exact ⟨none, 0, by rw [h0]; exact h1, .inl (List.eq_nil_of_length_eq_zero h0)⟩
  · refine ⟨_, c, hv, .inr ⟨g, 0, rfl, hg g (by rw [hv]; rfl), fun k l hl => ?_⟩⟩
    obtain ⟨ro, rc, e1, e2, e3, e4⟩ := h.rd k l hl
    refine ⟨ro, rc, ?_, e2, e3, fun _ x hx => ⟨(e4 x hx).1, (e4 x hx).2.1⟩⟩
    rw [Nat.zero_add, cell_of_row wr g k cur _ _ hh, ← e1, ← ht, List.getElem?_take]
    rw [← ht, List.getElem?_take] at e1
    split at e1
    · rename_i h2; rw [if_pos h2]; simp
    · cases e1
/-- texts that are read -/
def TL (w : World) (so : Option Addr) (sl : List (List UInt8)) : Prop := sl = [] ∨ ∃ b o, so = some ⟨b, o, none⟩ ∧ ∀ (k : Nat) (l : List UInt8), sl[k]? = some l → w.cell? ⟨b, o + k, none⟩ = some (.string (str l))
theorem TL.below {w w' : World} {so : Option Addr} {sl : List (List UInt8)} (h : TL w so sl) (hb : Below w.heap.size w w') : TL w' so sl := by
  rcases h with h | ⟨b, o, h1, h2⟩
  · exact .inl h
  · exact .inr ⟨b, o, h1, fun k l hl => (hb.cell (World.block_lt_of_cell? _ _ (h2 k l hl))).trans (h2 k l hl)⟩
set_option maxRecDepth 100000 in
set_option maxHeartbeats 1000000 in
theorem texts_any (so : Option Addr) (n c : Nat) (sl : List (List UInt8)) (hn : n = sl.length) (hb : n ≤ 1000) (w : World) (hs : TL w so sl) :
    Calls Tryz.prog 69 #[.slice so n c] w fun e w' => ∃ lo c', e = .returned (.slice lo n c') ∧ LRF w' (fun k => w.heap.size ≤ k ∧ k < w'.heap.size) lo sl ∧ Below w.heap.size w w' := by
  have HN := hid hn; have HS := hid hs
  clear hn hs
  go_enter Tryz.func69, Tryz.ntmps69
  go_wp2_with fail
  go_loopw [3, 4] (fun v3 i wr => ∃ (vo : Value) (k : Nat) (vs : List Value), vo = v3 ∧ k ≤ n ∧ i = .int .i64 k ∧ TX w.heap.size w wr vo (sl.take k) vs) (fun _ i _ => n - (intOf i).toNat)
  case atStart => exact ⟨_, 0, [], rfl, Nat.zero_le _, rfl, TX.start w⟩
  case round =>
    obtain ⟨vo, k, vs, rfl, hk, rfl, ht⟩ := hrel
    have HT := hid ht
    clear ht
    by_cases hlt : k < n
    · obtain ⟨l, hl⟩ : ∃ l, sl[k]? = some l := ⟨_, List.getElem?_eq_getElem (by rw [← HN.out]; exact hlt)⟩
      obtain ⟨b, o, rfl, cx⟩ : ∃ b o, so = some ⟨b, o, none⟩ ∧ wr.cell? ⟨b, o + k, none⟩ = some (.string (str l)) := by
        rcases HS.out.below HT.out.be with h0 | ⟨b, o, h1, h2⟩
        · rw [h0] at hl; simp at hl
        · exact ⟨b, o, h1, h2 k l hl⟩
      have HTK : Hid (sl.take (k + 1) = sl.take k ++ [l]) := hid (by rw [List.take_add_one, hl]; rfl)
      have HTL : Hid ((sl.take k).length = k) := hid (by rw [List.length_take, ← HN.out]; omega)
      obtain ⟨q, hq⟩ : ∃ q, l.length = q := ⟨_, rfl⟩
      have HQ := hid hq
      clear hl hq
      go_wp2_with (first
        | (refine wpl_conv rfl (.tmp 15) rfl l rfl ?_; intro w1 c1 hb1 hc1 hs1 hlt1; rw [HQ.out]; have HB1 := hid hb1; have HC1 := hid hc1; have HS1 := hid hs1; have HLT1 := hid hlt1; clear hb1 hc1 hs1 hlt1)
        | (refine wpl_appendR rowL rfl (.tmp 11) (.tmp 17) rfl w.heap.size vo _ vs rfl (owns_below (owns_below HT.out.oo HB1.out) (fresh_alloc w1 _)) w1.heap.size rfl [.slice (some ⟨wr.heap.size, 0, none⟩) q c1] (alloc_new w1 _) rfl (by intro u hu; simp at hu; subst hu; rfl) (by rw [HTL.out]; omega) (by have := HT.out.bl; have := HB1.out.size; simp only [World.size_alloc]; omega) ?_; intro v7 w7 ho7 hg7 hw7; have HT7 := hid (HT.out.step HB1.out HC1.out HS1.out HLT1.out (v := .slice (some ⟨wr.heap.size, 0, none⟩) q c1) (by rw [HQ.out]) (fresh_alloc w1 _) ho7 hg7 hw7); clear ho7 hg7 hw7))
      go_roundw
      case rel => exact ⟨v7, k + 1, _, rfl, by omega, by go_num, by rw [HTK.out]; exact HT7.out⟩
      case measure => simp [intOf]; omega
    · obtain rfl : k = n := by omega
      have HE : Hid (sl.take k = sl) := hid (List.take_of_length_le (by rw [HN.out]; exact Nat.le_refl _))
      have ht := HT.out
      rw [HE.out] at ht
      obtain ⟨lo, c', rfl, hl⟩ := ht.lrf
      rw [← HN.out]
      have HL := hid hl; have HBE := hid ht.be
      clear ht hl
      go_wp2
      go_ret
      exact ⟨lo, c', rfl, HL.out, HBE.out⟩
end Go.Proofs.YtlondopgibcikaaGreat
namespace Go.Proofs.YtlondopgibcikaaGreat
open Go.RowKit Ent
section
variable {B : Nat} {w0 w w1 : World} {As X : List Asset} {a : Nat} {d : Dev}
/-- a vault whose records are not too many -/
def fitV (s : VS) : Prop := (0 ≤ s.next ∧ s.next ≤ 131072) ∧ s.gen ≤ 2147483647 ∧ s.L.length ≤ 1000000 ∧ ∀ l ∈ s.L, l.length ≤ 1073741824
theorem St.v_records (h : St B w0 w As) (j : Nat) {v : Nat} {s : VS} (hj : As[j]? = some (vsA v a s)) (hf : fitV s) :
    Calls Tryz.prog 38 #[ptr v] w fun e w' => ∃ r, e = .returned r ∧ FreshL w.heap.size w' r s.L ∧ Below w.heap.size w w' := by
  obtain ⟨F, ⟨vl, G, hb, hv, hl, hn, hG⟩, _⟩ := h.open j hj
  obtain ⟨lo, c, rfl, hlr⟩ := listA_lst hl
  exact vrecords_any v a s.gen s.next lo s.L.length c s.br s.L w hb hlr.lr rfl (by have := hf.2.2.1; omega) hf.2.2.2
theorem St.v_gen (h : St B w0 w As) (j : Nat) {v : Nat} {s : VS} (hj : As[j]? = some (vsA v a s)) :
    Calls Tryz.prog 39 #[ptr v] w fun e w' => e = .returned (.int .i64 s.gen) ∧ w' = w := by
  obtain ⟨vl, hb⟩ := h.vault j hj
  exact vgen_any v a _ _ vl _ w hb
theorem St.v_free (h : St B w0 w As) (i : Nat) (hi : As[i]? = some (dev a d)) (j : Nat) {v : Nat} {s : VS} (hj : As[j]? = some (vsA v a s)) (hf : fitV s) (hn2 : 2 ≤ d.img.length) :
    Calls Tryz.prog 40 #[ptr v] w fun e w' => e = .returned (.int .i64 (freeOf d.img.length s.next)) ∧ St B w0 w' As := by
  obtain ⟨vl, hb⟩ := h.vault j hj
  refine (vfree_any h i hi v s.gen s.next vl s.br hb (by have := hf.2.1; omega) hn2 hf.1).mono ?_
  rintro e w' ⟨rfl, hb'⟩
  exact ⟨rfl, h.below hb'⟩
end
def hasV (n : Nat) (s : VS) (gen free : Int) (L : List (List UInt8)) : Bool := sameL s.L L && (decide ((s.gen : Int) = gen) && decide (freeOf n s.next = free))
set_option maxRecDepth 100000 in
set_option maxHeartbeats 1000000 in
theorem has7_any {B : Nat} {w0 w : World} {As : List Asset} {a : Nat} {d : Dev} (h : St B w0 w As) (i : Nat) (hi : As[i]? = some (dev a d)) (j v : Nat) (s : VS) (hj : As[j]? = some (vsA v a s)) (hf : fitV s) (hn2 : 2 ≤ d.img.length) (gen free : Int) (so : Option Addr) (n c : Nat) (sl : List (List UInt8)) (hn : n = sl.length) (hb : n ≤ 1000) (hs : TL w so sl) :
    Calls Tryz.prog 22 #[ptr v, .int .i64 gen, .int .i64 free, .slice so n c] w fun e w' => e = .returned (.bool (hasV d.img.length s gen free sl)) ∧ St B w0 w' As := by
  have HR := hid (h.v_records j hj hf)
  have H := hid h; have HI := hid hi; have HJ := hid hj; have HN := hid hn; have HS := hid hs; have HF := hid hf
  obtain ⟨fo, hfo⟩ : ∃ fo, freeOf d.img.length s.next = fo := ⟨_, rfl⟩
  have HFO := hid hfo
  obtain ⟨m, hm⟩ : ∃ m, s.L.length = m := ⟨_, rfl⟩
  have HM := hid hm
  have hmb : m ≤ 1000000 := by rw [← hm]; exact hf.2.2.1
  obtain ⟨sg, hsg⟩ : ∃ sg : Int, (s.gen : Int) = sg := ⟨_, rfl⟩
  have HSG := hid hsg
  unfold hasV
  rw [hfo, hsg]
  clear h hi hj hn hs hf hfo hm hsg
  unfold ptr at HR ⊢
  go_enter Tryz.func22, Tryz.ntmps22
  go_wp2_with fail
  refine HR.out.mono ?_
  rintro e w2 ⟨r, rfl, hf2, hb2⟩
  obtain ⟨lo, lc, rfl, hlr⟩ := hf2.lr
  rw [HM.out]
  have H2 := hid (H.out.below hb2); have HS2 := hid (HS.out.below hb2); have HLR := hid hlr
  clear hf2 hb2 hlr
  go_wp2_with fail
  refine (texts_any so n c sl HN.out hb w2 HS2.out).mono ?_
  rintro e w3 ⟨lo2, c2, rfl, hl3, hb3⟩
  have H3 := hid (H2.out.below hb3); have HL3 := hid hl3.lr; have HLR3 := hid (HLR.out.below hb3)
  clear hl3 hb3
  go_wp2_with fail
  refine (sameLists_any lo lo2 m n lc c2 s.L sl HM.out.symm HN.out (by omega) (by omega) w3 HLR3.out HL3.out).mono ?_
  rintro e w4 ⟨rfl, hb4⟩
  have H4 := hid (H3.out.below hb4)
  clear hb4
  obtain ⟨sm, hsm⟩ : ∃ sm, sameL s.L sl = sm := ⟨_, rfl⟩
  have HSM := hid hsm
  rw [hsm]
  clear hsm
  rcases sm with _ | _
  · go_wp2
    go_ret
    exact ⟨by rw [HSM.out]; rfl, H4.out⟩
  · go_wp2_with fail
    refine (H4.out.v_gen j HJ.out).mono ?_
    rintro e w' ⟨rfl, hw'⟩
    subst w'
    rw [HSG.out]
    by_cases hg : sg = gen
    · subst hg
      have z2 : (sg == sg) = true := beq_self_eq_true sg
      have z3 : decide (sg = sg) = true := by simp
      go_wp2_with fail
      refine (H4.out.v_free i HI.out j HJ.out HF.out hn2).mono ?_
      rintro e w5 ⟨rfl, h5⟩
      rw [HFO.out]
      have H5 := hid h5
      clear h5
      by_cases hfr : fo = free
      · subst hfr
        have y2 : (fo == fo) = true := beq_self_eq_true fo
        have y3 : decide (fo = fo) = true := by simp
        go_wp2
        go_ret
        exact ⟨by rw [HSM.out]; simp, H5.out⟩
      · have y2 : (fo == free) = false := by rw [beq_eq_false_iff_ne]; exact hfr
        have y3 : decide (fo = free) = false := by simp [hfr]
        have HZ := hid y3
        clear hfr
        go_wp2
        go_ret
        exact ⟨by simp, H5.out⟩
    · have z2 : (sg == gen) = false := by rw [beq_eq_false_iff_ne]; exact hg
      have z3 : decide (sg = gen) = false := by simp [hg]
      have HZ := hid z3
      clear hg
      go_wp2
      go_ret
      exact ⟨by rw [HSM.out, HZ.out]; rfl, H4.out⟩
end Go.Proofs.YtlondopgibcikaaGreat
namespace Go.Proofs.YtlondopgibcikaaGreat
open Go.RowKit Ent
def o0 : Dev := Dev.new 8
def o1 : Dev := (formatD o0).2
def o2 : Dev := (openD o1).2.1
theorem vf0 : (openD o0).1 = 23 := by decide +kernel
theorem vf0n : (openD o0).2.2.isNone = true := by decide +kernel
theorem vf1 : (formatD o0).1 = 0 := by decide +kernel
theorem vf2 : (openD o1).1 = 0 := by decide +kernel
theorem vf2s : (openD o1).2.2.isSome = true := by decide +kernel
def s2 : VS := (openD o1).2.2.get vf2s
theorem vf3 : hasV 8 s2 2 3 [] = true := by decide +kernel
def o3 : Dev := (appendV o2 s2 [97, 98, 99]).2.1
def s3 : VS := (appendV o2 s2 [97, 98, 99]).2.2
theorem vf4 : (appendV o2 s2 [97, 98, 99]).1 = 0 := by decide +kernel
theorem vf5 : (appendV o3 s3 (zr 100)).1 = 10 := by decide +kernel
theorem vf5e : (appendV o3 s3 (zr 100)).2 = (o3, s3) := by
  have h1 : s3.br = false := by decide +kernel
  have h2 : freeOf o3.img.length s3.next < needOf (zr 100).length := by decide +kernel
  unfold appendV
  rw [h1, if_neg (by simp), if_neg (by decide), if_pos h2]
theorem vf6 : hasV 8 s3 2 2 [[97, 98, 99]] = true := by decide +kernel
def o4 : Dev := (openD o3).2.1
theorem vf7 : (openD o3).1 = 0 := by decide +kernel
theorem vf7s : (openD o3).2.2.isSome = true := by decide +kernel
def s4 : VS := (openD o3).2.2.get vf7s
theorem vf8 : hasV 8 s4 3 2 [[97, 98, 99]] = true := by decide +kernel
theorem fit2 : fitV s2 := by unfold fitV; decide +kernel
theorem fit3 : fitV s3 := by unfold fitV; decide +kernel
theorem fit4 : fitV s4 := by unfold fitV; decide +kernel
theorem ol1 : o0.loose.length ≤ 100000000 ∧ o1.loose.length ≤ 100000000 ∧ o2.loose.length ≤ 100000000 ∧ o3.loose.length ≤ 100000000 := by decide +kernel
theorem on1 : o0.img.length = 8 ∧ o1.img.length = 8 ∧ o2.img.length = 8 ∧ o3.img.length = 8 ∧ o4.img.length = 8 := by decide +kernel
theorem wpl_makeZ_g {ops : Array Oper} {rest : List Oper} {o : Oper} {a : Act} {w : World} {Q : Exit → Act → World → Prop} (hw : Region.wanted o (yielded ops a.tmps) = true) (l c : Operand) (ho : o.op = .makeSlice 44 l c) (n : Nat) (hl : a.eval l = .int .i64 n) (hc : a.eval c = .int .i64 n) (hn : n ≤ 65536)
    (h : ∀ w', Below w.heap.size w w' → Blk w' w.heap.size 5 (bv (zr n)) → wpList Tryz.prog ops Q rest (a.put o.dst (.slice (some ⟨w.heap.size, 0, none⟩) n n)) w') : wpList Tryz.prog ops Q (o :: rest) a w :=
  BigFrame.wpList_want hw fun _ hK => wpo_make l c ho n hl hc hn fun w' h1 h2 => hK _ _ (h w' h1 h2)
theorem TL.laid (w : World) (sl : List (List UInt8)) (T : TypeId) {fr : Nat × Nat} : TL (w.alloc (.cells ((sl.map fun l => Value.string (str l)).toArray) T fr)) (some ⟨w.heap.size, 0, none⟩) sl := by
  refine .inr ⟨_, _, rfl, fun k l hl => ?_⟩
  rw [World.cell?_alloc_mark]
  simp [hl]
section
variable {B : Nat} {w0 w w1 : World} {As : List Asset} {a : Nat} {d : Dev}
theorem openedA_none {o : Option VS} {r : Value} (h : openedA B w0 w As a o r) (ho : o = none) : r = .pointer none ∧ St B w0 w As := by rw [ho] at h; exact h
theorem openedA_some {o : Option VS} {r : Value} {s : VS} (h : openedA B w0 w As a o r) (ho : o = some s) : ∃ v, r = ptr v ∧ St B w0 w (As ++ [vsA v a s]) := by rw [ho] at h; exact h
/-- Append of bytes that are read in blocks of their own -/
theorem St.v_appendB (h : St B w0 w As) (hb : Below w.heap.size w w1) (i : Nat) (hi : As[i]? = some (dev a d)) (j v : Nat) (s : VS) (hj : As[j]? = some (vsA v a s)) (hij : i ≠ j) (lo : Option Addr) (rn rc : Nat) (rec : List UInt8) (hs : SB w1 lo rc rec) (hr : ∀ x, lo = some x → w.heap.size ≤ x.block ∧ x.block < w1.heap.size) (hrn : rn = rec.length) (hrc : rn ≤ rc) (hrb : rn ≤ 1073741824) (hf : fitV s) (hn2 : 2 ≤ d.img.length) (hlo : d.loose.length ≤ 100000000) :
    Calls Tryz.prog 24 #[ptr v, .slice lo rn rc] w1 fun e w' => e = .returned (.int .i64 (appendV d s rec).1) ∧ St B w0 w' ((As.set i (dev a (appendV d s rec).2.1)).set j (vsA v a (appendV d s rec).2.2)) := by
  have h1 := h.addSB hb hs hr
  refine (vappend_any h1 i (get_pre hi) j v s (get_pre hj) hij lo rn rc rec hrn hrc hrb (.inr ⟨As.length + 0, sbA lo rc rec, ne_post hi 0, ne_post hj 0, get_post 0 rfl, fun w F hA => ⟨hA.1, fun _ => hA.2⟩⟩) hf.2.1 hf.1 hf.2.2.1 hn2 hlo).mono ?_
  rintro e w' ⟨rfl, h'⟩
  rw [set_pre hi, set_pre (by rw [List.getElem?_set_ne hij]; exact hj)] at h'
  exact ⟨rfl, h'.drop_post⟩
end
set_option maxRecDepth 100000 in
set_option maxHeartbeats 1000000 in
theorem one7_any {B : Nat} {w0 : World} (w : World) (h : St B w0 w []) : Calls Tryz.prog 20 #[] w fun e w' => ∃ a v, e = .returned (.tuple #[ptr a, ptr v]) ∧ St B w0 w' [dev a o3, vsA v a s3] := by
  have H0 := hid h
  clear h
  go_enter Tryz.func20, Tryz.ntmps20
  go_wp2_with fail
  refine (H0.out.dev_new 8 (by omega) (by omega)).mono ?_
  rintro e w1 ⟨a, rfl, h1⟩
  have H1 : Hid (St B w0 w1 [dev a o0]) := hid h1
  clear h1
  unfold ptr
  go_wp2_with fail
  refine (vopen_any H1.out 0 rfl (by rw [on1.1]; omega) ol1.1).mono ?_
  rintro e w2 ⟨r, rfl, h2⟩
  obtain ⟨rfl, h2'⟩ := openedA_none h2 (Option.isNone_iff_eq_none.1 vf0n)
  have H2 : Hid (St B w0 w2 [dev a o0]) := hid h2'
  clear h2 h2'
  rw [vf0]
  go_wp2_with fail
  refine (vformat_any H2.out 0 rfl (by have := ol1.1; omega)).mono ?_
  rintro e w3 ⟨rfl, h3⟩
  have H3 : Hid (St B w0 w3 [dev a o1]) := hid h3
  clear h3
  rw [vf1]
  go_wp2_with fail
  refine (vopen_any H3.out 0 rfl (by rw [on1.2.1]; omega) ol1.2.1).mono ?_
  rintro e w4 ⟨r, rfl, h4⟩
  obtain ⟨v, rfl, h4'⟩ := openedA_some h4 (Option.some_get vf2s).symm
  have H4 : Hid (St B w0 w4 [dev a o2, vsA v a s2]) := hid h4'
  clear h4 h4'
  rw [vf2]
  unfold ptr
  go_wp2_with fail
  refine (has7_any H4.out 0 rfl 1 v s2 rfl fit2 (by rw [on1.2.2.1]; omega) 2 3 none 0 0 [] rfl (by omega) (.inl rfl)).mono ?_
  rintro e w5 ⟨rfl, h5⟩
  have H5 := hid h5
  clear h5
  rw [on1.2.2.1, vf3]
  have kc := fun (w : World) (C : Array Value) (n c : Nat) => Lib.run_convert_bytes_const (P := Tryz.prog) w 44 5 C n c Tryz.underlying44 Tryz.underlying5
  go_wp2_with fail
  refine (H5.out.v_appendB (fresh_alloc w5 _) 0 rfl 1 v s2 rfl (by omega) _ 3 3 [97, 98, 99] (SB.laid w5 [97, 98, 99] _ _) (by rintro x ⟨⟩; exact ⟨Nat.le_refl _, by rw [World.size_alloc]; exact Nat.lt_succ_self _⟩) rfl (by omega) (by omega) fit2 (by rw [on1.2.2.1]; omega) ol1.2.2.1).mono ?_
  rintro e w6 ⟨rfl, h6⟩
  have H6 : Hid (St B w0 w6 [dev a o3, vsA v a s3]) := hid h6
  clear h6
  rw [vf4]
  go_wp2_with (refine wpl_makeZ_g (by rfl) _ _ rfl 100 rfl rfl (by omega) ?_; intro w7 hb7 hm7; have HB7 := hid hb7; have HM7 := hid hm7; clear hb7 hm7)
  refine (H6.out.v_appendB HB7.out 0 rfl 1 v s3 rfl (by omega) _ 100 100 (zr 100) (.inr (.inr ⟨_, _, rfl, HM7.out.range fun j u hu => by rw [Nat.zero_add]; exact hu⟩)) (by rintro x ⟨⟩; exact ⟨Nat.le_refl _, HM7.out.lt⟩) (by simp [zr]) (by omega) (by omega) fit3 (by rw [on1.2.2.2.1]; omega) ol1.2.2.2).mono ?_
  rintro e w8 ⟨rfl, h8⟩
  rw [vf5e] at h8
  have H8 : Hid (St B w0 w8 [dev a o3, vsA v a s3]) := hid h8
  clear h8
  rw [vf5]
  go_wp2_with fail
  refine (has7_any (H8.out.below (fresh_alloc w8 _)) 0 rfl 1 v s3 rfl fit3 (by rw [on1.2.2.2.1]; omega) 2 2 _ 1 1 [[97, 98, 99]] rfl (by omega) (TL.laid w8 [[97, 98, 99]] _)).mono ?_
  rintro e w9 ⟨rfl, h9⟩
  have H9 := hid h9
  clear h9
  rw [on1.2.2.2.1, vf6]
  go_wp2
  go_ret2
  exact ⟨a, v, rfl, H9.out⟩
set_option maxRecDepth 100000 in
set_option maxHeartbeats 1000000 in
theorem awake7_any (w : World) : Calls Tryz.prog 6 #[] w fun e w' => e = .returned (.bool true) ∧ Below w.heap.size w w' := by
  go_enter Tryz.func6, Tryz.ntmps6
  go_wp2_with fail
  refine (one7_any w (St.start w)).mono ?_
  rintro e w1 ⟨a, v, rfl, h1⟩
  have H1 := hid h1
  clear h1
  unfold ptr
  go_wp2_with fail
  refine (vopen_any H1.out 0 rfl (by rw [on1.2.2.2.1]; omega) ol1.2.2.2).mono ?_
  rintro e w4 ⟨r, rfl, h4⟩
  obtain ⟨v', rfl, h4'⟩ := openedA_some h4 (Option.some_get vf7s).symm
  have H4 : Hid (St w.heap.size w w4 [dev a o4, vsA v a s3, vsA v' a s4]) := hid h4'
  clear h4 h4'
  rw [vf7]
  unfold ptr
  go_wp2_with fail
  refine (has7_any (H4.out.below (fresh_alloc w4 _)) 0 rfl 2 v' s4 rfl fit4 (by rw [on1.2.2.2.2]; omega) 3 2 _ 1 1 [[97, 98, 99]] rfl (by omega) (TL.laid w4 [[97, 98, 99]] _)).mono ?_
  rintro e w9 ⟨rfl, h9⟩
  have H9 := hid h9
  clear h9
  rw [on1.2.2.2.2, vf8]
  go_wp2
  go_ret
  exact ⟨rfl, H9.out.be⟩
end Go.Proofs.YtlondopgibcikaaGreat
namespace Go.Proofs.YtlondopgibcikaaGreat
open Ent
/-- behind Append -/
def app7 (d : Dev) (o : Option VS) (rec : List UInt8) : Dev × Option VS := match o with
  | none => (d, none)
  | some s => ((appendV d s rec).2.1, some (appendV d s rec).2.2)
/-- behind Replace -/
def rep7 (d : Dev) (o : Option VS) (L : List (List UInt8)) : Dev × Option VS := match o with
  | none => (d, none)
  | some s => ((replaceV d s L).2.1, some (replaceV d s L).2.2)
/-- behind an act -/
def act7 (d : Dev) (o : Option VS) (a : Act7) : Dev × Option VS :=
  if a.kind = 0 then app7 d o (firstR a)
  else if a.kind = 1 then rep7 d o a.L
  else if a.kind = 2 then ((d.setFuse a.n).2, o)
  else if a.kind = 3 then (openD (d.crash a.keep a.n).2).2
  else if a.kind = 4 then (openD d).2
  else if a.kind = 5 then (openD (formatD d).2).2
  else (d, o)
theorem recsD_next (f t g : Int) : ∀ (L : List (List UInt8)) (p : Int) (d : Dev), (recsD f t g L p d).1 = 0 → 0 ≤ p → p ≤ t - f → 0 ≤ (recsD f t g L p d).2.2 ∧ (recsD f t g L p d).2.2 ≤ t - f
  | [], p, d, _, h0, h1 => ⟨h0, h1⟩
  | r :: L, p, d, h, h0, h1 => by
    unfold recsD at h ⊢
    split at h
    · rename_i he
      rw [if_pos he]
      have := logWrite_next he
      exact recsD_next f t g L _ _ h (by omega) (by omega)
    · rename_i he
      exact absurd h he
theorem seqOf_zero {S : Type} {fs : Nat → S → Int × S} {k m : Nat} {s : S} (h : (seqOf fs k (m + 1) s).1 = 0) : (fs k s).1 = 0 ∧ seqOf fs k (m + 1) s = seqOf fs (k + 1) m (fs k s).2 := by
  have e : seqOf fs k (m + 1) s = if (fs k s).1 = 0 then seqOf fs (k + 1) m (fs k s).2 else fs k s := rfl
  rw [e] at h ⊢
  by_cases he : (fs k s).1 = 0
  · rw [if_pos he]
    exact ⟨he, rfl⟩
  · rw [if_neg he] at h
    exact absurd h he
theorem movesD_next {d : Dev} {g : Nat} {L : List (List UInt8)} (h : (movesD d g L).1 = 0) : 0 ≤ (movesD d g L).2.2 ∧ (movesD d g L).2.2 ≤ halfOf d.img.length := by
  unfold movesD at h ⊢
  obtain ⟨h0, e0⟩ := seqOf_zero h
  rw [e0] at h ⊢
  obtain ⟨h1, e1⟩ := seqOf_zero h
  rw [e1] at h ⊢
  obtain ⟨h2, e2⟩ := seqOf_zero h
  rw [e2] at h ⊢
  obtain ⟨h3, e3⟩ := seqOf_zero h
  rw [e3]
  show 0 ≤ (recsD _ _ _ L 0 _).2.2 ∧ (recsD _ _ _ L 0 _).2.2 ≤ _
  have := recsD_next _ _ _ L 0 _ h1 (by omega) (by omega)
  refine ⟨this.1, Int.le_trans this.2 (by omega)⟩
theorem movesD_loose (d : Dev) (g : Nat) (L : List (List UInt8)) : (movesD d g L).2.1.loose.length ≤ d.loose.length + 4 * ((L.length + 1) * d.img.length + 1) ∧ (movesD d g L).2.1.img.length = d.img.length := by
  have h := seqOf_loose (movesFs (fromOf d.img.length g) (fromOf d.img.length g + halfOf d.img.length) g L) (fun s => s.1.loose.length) (fun s => s.1.img.length)
  unfold movesD
  have key : ∀ (m k : Nat) (s : Dev × Int), s.1.img.length = d.img.length → (seqOf (movesFs (fromOf d.img.length g) (fromOf d.img.length g + halfOf d.img.length) g L) k m s).2.1.loose.length ≤ s.1.loose.length + m * ((L.length + 1) * d.img.length + 1) ∧ (seqOf (movesFs (fromOf d.img.length g) (fromOf d.img.length g + halfOf d.img.length) g L) k m s).2.1.img.length = d.img.length := by
    intro m
    induction m with
    | zero => intro k s hs; exact ⟨by simp [seqOf], hs⟩
    | succ m ih =>
      intro k s hs
      have h1 := movesFs_loose (fromOf d.img.length g) (fromOf d.img.length g + halfOf d.img.length) g L k s
      rw [hs] at h1
      have h2 := ih (k + 1) (movesFs (fromOf d.img.length g) (fromOf d.img.length g + halfOf d.img.length) g L k s).2 h1.2
      have h3 : (m + 1) * ((L.length + 1) * d.img.length + 1) = m * ((L.length + 1) * d.img.length + 1) + ((L.length + 1) * d.img.length + 1) := Nat.succ_mul _ _
      unfold seqOf
      simp only
      split
      · exact ⟨by omega, h2.2⟩
      · refine ⟨?_, h1.2⟩
        have : 0 ≤ m * ((L.length + 1) * d.img.length + 1) := Nat.zero_le _
        omega
  exact key 4 0 (d, 0) rfl
/-- a vault in bounds -/
structure Fine (N k : Nat) (s : VS) : Prop where
  n0 : 0 ≤ s.next
  n1 : s.next ≤ halfOf N
  g : s.gen ≤ 2147483647
  l : s.L.length ≤ 40 + k
  s : ∀ l ∈ s.L, l.length ≤ 3211264
theorem Fine.fit {N k : Nat} {s : VS} (h : Fine N k s) (hN : N ≤ 60) (hk : k ≤ 100) : fitV s := by
  have := h.n0; have := h.n1; have := h.l
  have hh : halfOf N ≤ 30 := by unfold halfOf; omega
  exact ⟨⟨h.n0, by omega⟩, h.g, by omega, fun l hl => by have := h.s l hl; omega⟩
theorem Fine.up {N k : Nat} {s : VS} (h : Fine N k s) : Fine N (k + 1) s := ⟨h.n0, h.n1, h.g, by have := h.l; omega, h.s⟩
theorem Fine.broken {N k : Nat} {s : VS} (h : Fine N k s) : Fine N k { s with br := true } := ⟨h.n0, h.n1, h.g, h.l, h.s⟩
theorem lo_up {a b k c : Nat} (h : b ≤ k * 20000) (h2 : a ≤ b + c) (hc : c ≤ 20000) : a ≤ (k + 1) * 20000 := by rw [Nat.succ_mul]; omega
/-- a device and a vault in bounds -/
structure Room7 (N k : Nat) (d : Dev) (o : Option VS) : Prop where
  n : d.img.length = N
  lo : d.loose.length ≤ k * 20000
  v : ∀ s, o = some s → 8 ≤ N ∧ Fine N k s
theorem fits_gen {g n : Nat} {L : List (List UInt8)} (h : fitsOf g n L = 0) (hg : g ≤ 2147483647) : g + 1 ≤ 2147483647 := by
  unfold fitsOf at h
  split at h
  · simp at h
  · omega
theorem room_move {N k : Nat} {d : Dev} {s : VS} (hN : N ≤ 60) (hn : d.img.length = N) (hlo : d.loose.length ≤ k * 20000) (h8 : 8 ≤ N) (hs : Fine N k s) {L : List (List UInt8)} (hL : L.length ≤ 40) (hl : ∀ l ∈ L, l.length ≤ 3211264) (hf : fitsOf s.gen N L = 0) : Room7 N (k + 1) (movedV d s L).2.1 (some (movedV d s L).2.2) := by
  have h1 := movesD_loose d (s.gen + 1) L
  have h2 : (L.length + 1) * d.img.length ≤ 41 * 60 := Nat.mul_le_mul (by omega) (by omega)
  unfold movedV
  split
  · rename_i he
    have h3 := movesD_next he
    rw [hn] at h3
    refine ⟨by rw [h1.2]; exact hn, by show (movesD d (s.gen + 1) L).2.1.loose.length ≤ _; omega, fun s' hs' => ⟨h8, ?_⟩⟩
    injection hs' with hs'
    subst hs'
    exact ⟨h3.1, h3.2, fits_gen hf hs.g, by simp only; omega, hl⟩
  · refine ⟨by rw [h1.2]; exact hn, by show (movesD d (s.gen + 1) L).2.1.loose.length ≤ _; omega, fun s' hs' => ⟨h8, ?_⟩⟩
    injection hs' with hs'
    subst hs'
    exact hs.broken.up
theorem Room7.up {N k : Nat} {d : Dev} {o : Option VS} (h : Room7 N k d o) : Room7 N (k + 1) d o := ⟨h.n, lo_up h.lo (c := 0) (Nat.le_refl _) (Nat.zero_le _), fun s hs => ⟨(h.v s hs).1, (h.v s hs).2.up⟩⟩
theorem room_replace {N k : Nat} {d : Dev} {o : Option VS} (h : Room7 N k d o) (hN : N ≤ 60) {L : List (List UInt8)} (hL : L.length ≤ 40) (hl : ∀ l ∈ L, l.length ≤ 3211264) : Room7 N (k + 1) (rep7 d o L).1 (rep7 d o L).2 := by
  unfold rep7
  rcases o with _ | s
  · exact h.up
  · obtain ⟨h8, hs⟩ := h.v s rfl
    show Room7 N (k + 1) (replaceV d s L).2.1 (some (replaceV d s L).2.2)
    unfold replaceV
    split
    · exact h.up
    · split
      · exact h.up
      · rename_i hf
        rw [h.n] at hf
        exact room_move hN h.n h.lo h8 hs hL hl (by simpa using hf)
theorem appendD_loose (d : Dev) (g : Nat) (p : Int) (rec : List UInt8) : (appendD d g p rec).2.1.loose.length ≤ d.loose.length + d.img.length ∧ (appendD d g p rec).2.1.img.length = d.img.length := by
  unfold appendD seqOf
  simp only
  have h1 := lwrite_loose d (fromOf d.img.length g : Nat) (fromOf d.img.length g + halfOf d.img.length : Nat) (g : Nat) p rec
  split
  · unfold seqOf
    simp only
    have h2 := flush_loose (logWrite d (fromOf d.img.length g : Nat) (fromOf d.img.length g + halfOf d.img.length : Nat) (g : Nat) p rec).2
    split
    · unfold seqOf
      exact ⟨Nat.le_trans h2.1 h1.1, h2.2.trans h1.2⟩
    · exact ⟨Nat.le_trans h2.1 h1.1, h2.2.trans h1.2⟩
  · exact h1
theorem appendD_next {d : Dev} {g : Nat} {p : Int} {rec : List UInt8} (h : (appendD d g p rec).1 = 0) : 0 ≤ (appendD d g p rec).2.2 ∧ (appendD d g p rec).2.2 ≤ halfOf d.img.length := by
  unfold appendD at h ⊢
  obtain ⟨h0, e0⟩ := seqOf_zero h
  rw [e0] at h ⊢
  obtain ⟨h1, e1⟩ := seqOf_zero h
  rw [e1]
  have h2 := logWrite_next (show (logWrite d (fromOf d.img.length g : Nat) (fromOf d.img.length g + halfOf d.img.length : Nat) (g : Nat) p rec).1.2 = 0 from h0)
  show 0 ≤ (logWrite d (fromOf d.img.length g : Nat) (fromOf d.img.length g + halfOf d.img.length : Nat) (g : Nat) p rec).1.1 ∧ (logWrite d (fromOf d.img.length g : Nat) (fromOf d.img.length g + halfOf d.img.length : Nat) (g : Nat) p rec).1.1 ≤ _
  omega
theorem room_append {N k : Nat} {d : Dev} {o : Option VS} (h : Room7 N k d o) (hN : N ≤ 60) {rec : List UInt8} (hl : rec.length ≤ 3211264) : Room7 N (k + 1) (app7 d o rec).1 (app7 d o rec).2 := by
  unfold app7
  rcases o with _ | s
  · exact h.up
  · obtain ⟨h8, hs⟩ := h.v s rfl
    show Room7 N (k + 1) (appendV d s rec).2.1 (some (appendV d s rec).2.2)
    have h1 := appendD_loose d s.gen s.next rec
    have hlo := h.lo
    have hn := h.n
    unfold appendV
    split
    · exact h.up
    · split
      · exact h.up
      · split
        · exact h.up
        · unfold appendedV
          split
          · rename_i he
            have h3 := appendD_next he
            rw [hn] at h3
            refine ⟨by rw [h1.2]; exact hn, by show (appendD d s.gen s.next rec).2.1.loose.length ≤ _; omega, fun s' hs' => ⟨h8, ?_⟩⟩
            injection hs' with hs'
            subst hs'
            refine ⟨h3.1, h3.2, hs.g, by simp only [List.length_append, List.length_cons, List.length_nil]; have := hs.l; omega, fun l hl' => ?_⟩
            rcases List.mem_append.1 hl' with h4 | h4
            · exact hs.s l h4
            · rw [List.mem_singleton] at h4; rw [h4]; exact hl
          · refine ⟨by rw [h1.2]; exact hn, by show (appendD d s.gen s.next rec).2.1.loose.length ≤ _; omega, fun s' hs' => ⟨h8, ?_⟩⟩
            injection hs' with hs'
            subst hs'
            exact hs.broken.up
theorem room_open {N k : Nat} {d : Dev} {o : Option VS} (h : Room7 N k d o) (hN : N ≤ 60) (hok : d.ok) : Room7 N (k + 1) (openD d).2.1 (openD d).2.2 := by
  have none : Room7 N (k + 1) d none := ⟨h.n, lo_up h.lo (c := 0) (Nat.le_refl _) (Nat.zero_le _), fun s hs => by cases hs⟩
  unfold openD
  split
  · exact none
  · rename_i h8
    split
    · exact none
    · split
      · exact none
      · rename_i hgs
        obtain ⟨g1, g2⟩ := supGens_le d 2 _ (maxOf_mem _ hgs)
        generalize maxOf (supGens d 2) = g at g1 g2
        unfold openedD
        split
        · exact none
        · split
          · exact none
          · rename_i hf
            have hf : fitsOf g d.img.length (scanG d g).1 = 0 := by simpa using hf
            have hm := scanG_many d g
            have hh : halfOf d.img.length ≤ 30 := by rw [h.n]; unfold halfOf; omega
            have hl : ∀ l ∈ (scanG d g).1, l.length ≤ 3211264 := logScan_short hok _ _ _
            rw [h.n] at h8
            have h1 := room_move (s := ⟨g, 0, false, []⟩) hN h.n h.lo (by omega) ⟨by simp, by simp, g2, by simp, fun l hl => by simp at hl⟩ (L := (scanG d g).1) (by omega) hl (by rw [← h.n]; exact hf)
            unfold movedV at h1
            split
            · rename_i he
              rw [if_pos he] at h1
              exact h1
            · rename_i he
              rw [if_neg he] at h1
              exact ⟨h1.n, h1.lo, fun s hs => by cases hs⟩
theorem format_loose (d : Dev) : (formatD d).2.loose.length ≤ d.loose.length + 5 * (d.img.length + 1) ∧ (formatD d).2.img.length = d.img.length := by
  have key : ∀ (m k : Nat) (s : Dev), s.img.length = d.img.length → (seqOf formatFs k m s).2.loose.length ≤ s.loose.length + m * (d.img.length + 1) ∧ (seqOf formatFs k m s).2.img.length = d.img.length := by
    intro m
    induction m with
    | zero => intro k s hs; exact ⟨by simp [seqOf], hs⟩
    | succ m ih =>
      intro k s hs
      have h1 := formatFs_loose k s
      rw [hs] at h1
      have h2 := ih (k + 1) (formatFs k s).2 h1.2
      have h3 : (m + 1) * (d.img.length + 1) = m * (d.img.length + 1) + (d.img.length + 1) := Nat.succ_mul _ _
      unfold seqOf
      simp only
      split
      · exact ⟨by omega, h2.2⟩
      · refine ⟨?_, h1.2⟩
        have : 0 ≤ m * (d.img.length + 1) := Nat.zero_le _
        omega
  unfold formatD
  split
  · exact ⟨Nat.le_add_right _ _, rfl⟩
  · exact key 5 0 d rfl
theorem room_crash {N k : Nat} {d : Dev} {o : Option VS} (h : Room7 N k d o) (keep : List Bool) (t : Int) : Room7 N k (d.crash keep t).2 none := by
  have h1 := crash_loose d keep t
  exact ⟨h1.2.trans h.n, Nat.le_trans h1.1 h.lo, fun s hs => by cases hs⟩
theorem room_format {N k : Nat} {d : Dev} {o : Option VS} (h : Room7 N k d o) (hN : N ≤ 60) : Room7 N (k + 1) (formatD d).2 none := by
  have h1 := format_loose d
  have := h.lo; have := h.n
  exact ⟨h1.2.trans h.n, by omega, fun s hs => by cases hs⟩
theorem room_fuse {N k : Nat} {d : Dev} {o : Option VS} (h : Room7 N k d o) (n : Int) : Room7 N (k + 1) (d.setFuse n).2 o := by
  have h1 := fuse_loose d n
  exact ⟨by rw [h1.2]; exact h.n, by rw [h1.1]; exact lo_up h.lo (c := 0) (Nat.le_refl _) (Nat.zero_le _), fun s hs => ⟨(h.v s hs).1, (h.v s hs).2.up⟩⟩
theorem room_act7 {N k : Nat} {d : Dev} {o : Option VS} (h : Room7 N k d o) (hN : N ≤ 60) (hok : d.ok) (x : Act7) (hL8 : x.L.length ≤ 8) (hL200 : ∀ r ∈ x.L, r.length ≤ 200) (h3 : x.kind = 3 → (d.crash x.keep x.n).2.ok) (h5 : x.kind = 5 → (formatD d).2.ok) : Room7 N (k + 2) (act7 d o x).1 (act7 d o x).2 := by
  unfold act7
  split
  · refine (room_append h hN ?_).up
    unfold firstR
    rcases hL : x.L with _ | ⟨r, L⟩
    · simp
    · have := hL200 r (by rw [hL]; exact List.mem_cons_self)
      show r.length ≤ _
      omega
  · split
    · exact (room_replace h hN (by omega) fun l hl => by have := hL200 l hl; omega).up
    · split
      · exact (room_fuse h _).up
      · split
        · rename_i hk
          exact (room_open (room_crash h _ _) hN (h3 hk)).up
        · split
          · exact (room_open h hN hok).up
          · split
            · rename_i hk
              exact room_open (room_format h hN) hN (h5 hk)
            · exact h.up.up
theorem room_new {N : Nat} : Room7 N 0 (Dev.new N) none := ⟨by simp [Dev.new], by simp [Dev.new], fun s hs => by cases hs⟩
theorem Room7.fit {N k : Nat} {d : Dev} {o : Option VS} (h : Room7 N k d o) (hN : N ≤ 60) (hk : k ≤ 100) : ∀ s, o = some s → 2 ≤ d.img.length ∧ fitV s := fun s hs => by
  obtain ⟨h8, hf⟩ := h.v s hs
  rw [h.n]
  exact ⟨by omega, hf.fit hN hk⟩
theorem Room7.low {N k : Nat} {d : Dev} {o : Option VS} (h : Room7 N k d o) (hk : k ≤ 100) : d.loose.length ≤ 2000000 := by
  have := h.lo
  have h2 : k * 20000 ≤ 100 * 20000 := Nat.mul_le_mul_right _ hk
  omega
end Go.Proofs.YtlondopgibcikaaGreat
