/- The walks of what turns the document's device. What lies side by side in memory: assets of a law's own, since a world of so many blocks. Calls of devices among assets. What is asked of a device; how acts lie in memory; the walks of Long and acted. -/
import Derived.Test.YtlondopgibcikaaGreatRows
import Derived.Test.YtlondopgibcikaaGreatG01
import Derived.Test.YtlondopgibcikaaGreatG02
import Derived.Test.YtlondopgibcikaaGreatG03
import Derived.Test.YtlondopgibcikaaGreatG04
import Derived.Test.YtlondopgibcikaaGreatG05
import Derived.Test.YtlondopgibcikaaGreatG06
import Derived.Test.YtlondopgibcikaaGreatG07
import Derived.Test.YtlondopgibcikaaGreatG08
import Derived.WalkKit
import Derived.WalkSpells
import Derived.WalkLawsBesides
import Derived.Deep.RegionHeld3
namespace Go.Proofs.YtlondopgibcikaaGreat
open Go.RowKit Ent
theorem RR.appended {w1 w3 w4 : World} {a : Nat} {vL vW v4 v : Value} {vsL vsW : List Value} {fused : Bool} {fuse : Int} {F Fb : Nat → Prop} {L : List (List UInt8)} {l : List (Nat × List UInt8)} {out : Bool}
    (h : RR w1 a vL vW vsL vsW fused fuse F Fb L l out) (hb : Below w1.heap.size w1 w3) (i : Nat) {b : List UInt8} (hv : SS w3 (fun k => w1.heap.size ≤ k ∧ k < w3.heap.size) v b)
    (ho : w4.ownsRow 0 86 2 v4 (l.length + 1) (vsW ++ [.int .i64 (i : Int), v])) (hg : w3.grownBy w4 vW.ownBlock) (hw : v4.ownBlock = vW.ownBlock ∨ v4.ownBlock = some w3.heap.size) :
    RR (w4.setCell ⟨a, 1, none⟩ v4) a vL v4 vsL (vsW ++ [.int .i64 (i : Int), v]) fused fuse (grow F w1 w4) (grow Fb w1 w3) L (l ++ [(i, b)]) out ∧ Keep F w1 (w4.setCell ⟨a, 1, none⟩ v4) := by
  have h3 := h.more hb
  have hk : Keep (fun k => vW.ownBlock = some k) w3 w4 := (Keep.refl _ w3).grown hg (fun k hk _ => hk)
  have hL3 := own_lt h.oL
  have ha := h.hd.lt
  have hs4 : w3.heap.size ≤ w4.heap.size := hk.size
  have hs1 := hb.size
  have hka : Keep (fun k => k = a) w4 (w4.setCell ⟨a, 1, none⟩ v4) := (Keep.refl (fun k => k = a) w4).setCell (p := ⟨a, 1, none⟩) rfl _
  have hlt4 := own_lt ho
  have hne : ∀ k, v4.ownBlock = some k → k ≠ a := fun k hk => by
    rcases hw with e | e
    · exact (h.fW k (by rw [← e]; exact hk)).2.2
    · rw [e] at hk; injection hk with hk; omega
  have hnb : ∀ k, grow Fb w1 w3 k → ¬ vW.ownBlock = some k := fun k hk e => (h3.fW k e).2.1 hk
  have hna : ∀ k, grow Fb w1 w3 k → ¬ k = a := fun k hk e => h3.na (by rw [← e]; exact hk)
  refine ⟨{
    hd := (h3.hd.keep hk (fun e => (h.fW _ e).2.2 rfl)).set 1 v4
    oL := owns_keep (owns_keep h3.oL hk (fun k h1 h2 => h.LW k h1 h2)) hka fun k hk => (h.fL k hk).2.2
    rL := (h3.rL.keep hk hnb).keep hka hna
    oW := by rw [List.length_append]; exact owns_keep ho hka hne
    rW := (((h3.rW.snoc i (hv.mono fun k hk => .inr hk)).keep hk hnb).keep hka hna)
    fr := h.fr, fa := .inl h.fa, na := h3.na
    fL := fun k hk => ⟨.inl (h.fL k hk).1, (h3.fL k hk).2⟩
    fW := fun k hk => by
      rcases hw with e | e
      · have := h3.fW k (by rw [← e]; exact hk)
        exact ⟨.inl (h.fW k (by rw [← e]; exact hk)).1, this.2⟩
      · have hlt := hlt4 k hk
        rw [e] at hk; injection hk with hk
        refine ⟨.inr ⟨by omega, hlt⟩, fun hh => ?_, by omega⟩
        have := h3.lt k hh
        omega
    LW := fun k h1 h2 => by
      rcases hw with e | e
      · exact h.LW k h1 (by rw [← e]; exact h2)
      · have := hL3 k h1
        rw [e] at h2; injection h2 with h2; omega
    fb := fun k hk => by
      rcases hk with hk | hk
      · exact .inl (h.fb k hk)
      · exact .inr ⟨hk.1, Nat.lt_of_lt_of_le hk.2 hs4⟩
    lt := fun k hk => Nat.lt_of_lt_of_le (h3.lt k hk) (by simpa using hs4) }, ?_⟩
  refine Keep.setCell (p := ⟨a, 1, none⟩) ?_ h.fa v4
  exact (Keep.ofBelow (F := F) hb).trans (hk.mono (fun k _ e => (h.fW k e).1))
theorem RR.setL {w : World} {a g n c : Nat} {vW v : Value} {vsL vsW : List Value} {fused : Bool} {fuse : Int} {F Fb : Nat → Prop} {L : List (List UInt8)} {l : List (Nat × List UInt8)} {out : Bool}
    (h : RR w a (.slice (some ⟨g, 0, none⟩) n c) vW vsL vsW fused fuse F Fb L l out) (hn : n = L.length) (i : Nat) {b : List UInt8} (hv : SS w Fb v b) :
    RR (w.setCell ⟨g, i, none⟩ v) a (.slice (some ⟨g, 0, none⟩) n c) vW (vsL.set i v) vsW fused fuse F Fb (L.set i b) l out := by
  subst hn
  have hk : Keep (fun k => k = g) w (w.setCell ⟨g, i, none⟩ v) := (Keep.refl (fun k => k = g) w).setCell (p := ⟨g, i, none⟩) rfl _
  have hg := h.fL g rfl
  have hnb : ∀ k, Fb k → ¬ k = g := fun k hk e => hg.2.1 (by rw [← e]; exact hk)
  exact { h with
    hd := h.hd.keep hk (fun e => hg.2.2 e.symm)
    oL := by rw [List.length_set]; exact own_set h.oL i v
    rL := (h.rL.set i hv).keep hk hnb
    oW := owns_keep h.oW hk fun k hk e => h.LW g rfl (by rw [← e]; exact hk)
    rW := h.rW.keep hk hnb
    lt := fun k hk => by simpa using h.lt k hk }
theorem RR.cleared {w w' : World} {a : Nat} {vL vW : Value} {vsL vsW : List Value} {fused fused' : Bool} {fuse : Int} {F Fb : Nat → Prop} {L : List (List UInt8)} {l : List (Nat × List UInt8)} {out out' : Bool}
    (h : RR w a vL vW vsL vsW fused fuse F Fb L l out) (hk : Keep (fun k => k = a) w w') (hd : Blk w' a 63 (head5 vL (.slice none 0 0) fused' fuse out')) : RR w' a vL (.slice none 0 0) vsL [] fused' fuse F Fb L [] out' :=
  have hna : ∀ k, Fb k → ¬ k = a := fun k hk e => h.na (by rw [← e]; exact hk)
  { hd := hd, oL := owns_keep h.oL hk fun k hk => (h.fL k hk).2.2, rL := h.rL.keep hk hna, oW := World.ownsRow_nil _ _ _ _, rW := RowW.nil _ _, fr := h.fr, fa := h.fa, na := h.na, fL := h.fL, fW := fun k hk => by simp [Value.ownBlock] at hk, LW := fun k _ hk => by simp [Value.ownBlock] at hk, fb := h.fb, lt := fun k hk' => Nat.lt_of_lt_of_le (h.lt k hk') hk.size }
theorem ok_loose {d : Dev} (h : d.ok) {f : Option Nat} {o : Bool} {k : Nat} {b : List UInt8} (hk : k < d.img.length) (hb : b.length = 64) : ({ img := d.img, loose := d.loose ++ [(k, b)], fuse := f, out := o } : Dev).ok :=
  ⟨h.s64, h.len, h.pos, fun x hx => by
    rcases List.mem_append.1 hx with hx | hx
    · exact h.lo x hx
    · simp at hx; subst hx; exact ⟨hk, hb⟩⟩
theorem through_img' (d : Dev) (l : List (Nat × List UInt8)) : ({ d.through.2 with loose := l } : Dev) = { img := d.img, loose := l, fuse := d.through.2.fuse, out := d.through.2.out } := by rw [← through_img d]
theorem ok_through {d : Dev} (h : d.ok) : d.through.2.ok := ⟨by rw [through_img]; exact h.s64, by rw [through_img]; exact h.len, by rw [through_img]; exact h.pos, by rw [through_img, through_loose]; exact h.lo⟩
theorem ok_flushed {d : Dev} (h : d.ok) {f : Option Nat} {o : Bool} : ({ img := d.now, loose := [], fuse := f, out := o } : Dev).ok :=
  ⟨h.now64, by rw [Dev.now_len]; exact h.len, by rw [Dev.now_len]; exact h.pos, fun x hx => by simp at hx⟩
theorem bl_at {w : World} {ao : Option Addr} {l : List Bool} (h : BL w ao l) {k : Nat} {x : Bool} (hx : l[k]? = some x) : ∃ b o, ao = some ⟨b, o, none⟩ ∧ w.cell? ⟨b, o + k, none⟩ = some (.bool x) := by
  rcases h with rfl | ⟨b, o, rfl, h⟩
  · simp at hx
  · exact ⟨b, o, rfl, h k _ (by rw [bbv_get, hx]; rfl)⟩
theorem rd_of {w : World} {a : Nat} {vL vW : Value} {vsL vsW : List Value} {fuse : Int} {F Fb : Nat → Prop} {d : Dev} (ho : d.ok) (h : RR w a vL vW vsL vsW false fuse F Fb d.img d.loose d.out) (hf : d.fuse = none) : RD w a F d := ⟨ho, vL, vW, vsL, vsW, false, fuse, Fb, h, .inl ⟨hf, rfl⟩⟩
theorem s64_crash {d : Dev} (h : d.ok) {keep : List Bool} {k : Nat} {lst : Int} {L : List (List UInt8)} (hc : CrashAt d keep k lst L) {i : Nat} {s : List UInt8} (hs : L[i]? = some s) : s.length = 64 := by
  have := laid_64 (l := keptOf keep 0 (d.loose.take k)) (fun x hx => (h.lo x (List.mem_of_mem_take (kept_sub keep x _ _ hx))).2) h.s64
  rw [← hc.im] at this
  exact this.get hs
theorem RR.appendedL {w1 w3 w4 : World} {a : Nat} {vL vW v4 v : Value} {vsL vsW : List Value} {fused : Bool} {fuse : Int} {F Fb : Nat → Prop} {L : List (List UInt8)} {l : List (Nat × List UInt8)} {out : Bool}
    (h : RR w1 a vL vW vsL vsW fused fuse F Fb L l out) (hb : Below w1.heap.size w1 w3) {b : List UInt8} (hv : SS w3 (fun k => w1.heap.size ≤ k ∧ k < w3.heap.size) v b)
    (ho : w4.ownsRow 0 44 1 v4 (L.length + 1) (vsL ++ [v])) (hg : w3.grownBy w4 vL.ownBlock) (hw : v4.ownBlock = vL.ownBlock ∨ v4.ownBlock = some w3.heap.size) :
    RR (w4.setCell ⟨a, 0, none⟩ v4) a v4 vW (vsL ++ [v]) vsW fused fuse (grow F w1 w4) (grow Fb w1 w3) (L ++ [b]) l out ∧ Keep F w1 (w4.setCell ⟨a, 0, none⟩ v4) := by
  have h3 := h.more hb
  have hk : Keep (fun k => vL.ownBlock = some k) w3 w4 := (Keep.refl _ w3).grown hg (fun k hk _ => hk)
  have hW3 := own_lt h.oW
  have ha := h.hd.lt
  have hs4 : w3.heap.size ≤ w4.heap.size := hk.size
  have hs1 := hb.size
  have hka : Keep (fun k => k = a) w4 (w4.setCell ⟨a, 0, none⟩ v4) := (Keep.refl (fun k => k = a) w4).setCell (p := ⟨a, 0, none⟩) rfl _
  have hlt4 := own_lt ho
  have hne : ∀ k, v4.ownBlock = some k → k ≠ a := fun k hk => by
    rcases hw with e | e
    · exact (h.fL k (by rw [← e]; exact hk)).2.2
    · rw [e] at hk; injection hk with hk; omega
  have hnb : ∀ k, grow Fb w1 w3 k → ¬ vL.ownBlock = some k := fun k hk e => (h3.fL k e).2.1 hk
  have hna : ∀ k, grow Fb w1 w3 k → ¬ k = a := fun k hk e => h3.na (by rw [← e]; exact hk)
  refine ⟨{
    hd := (h3.hd.keep hk (fun e => (h.fL _ e).2.2 rfl)).set 0 v4
    oW := owns_keep (owns_keep h3.oW hk (fun k h1 h2 => h.LW k h2 h1)) hka fun k hk => (h.fW k hk).2.2
    rW := (h3.rW.keep hk hnb).keep hka hna
    oL := by rw [List.length_append]; exact owns_keep ho hka hne
    rL := (((h3.rL.snoc (hv.mono fun k hk => .inr hk)).keep hk hnb).keep hka hna)
    fr := h.fr, fa := .inl h.fa, na := h3.na
    fW := fun k hk => ⟨.inl (h.fW k hk).1, (h3.fW k hk).2⟩
    fL := fun k hk => by
      rcases hw with e | e
      · have := h3.fL k (by rw [← e]; exact hk)
        exact ⟨.inl (h.fL k (by rw [← e]; exact hk)).1, this.2⟩
      · have hlt := hlt4 k hk
        rw [e] at hk; injection hk with hk
        refine ⟨.inr ⟨by omega, hlt⟩, fun hh => ?_, by omega⟩
        have := h3.lt k hh
        omega
    LW := fun k h1 h2 => by
      rcases hw with e | e
      · exact h.LW k (by rw [← e]; exact h1) h2
      · have := hW3 k h2
        rw [e] at h1; injection h1 with h1; omega
    fb := fun k hk => by
      rcases hk with hk | hk
      · exact .inl (h.fb k hk)
      · exact .inr ⟨hk.1, Nat.lt_of_lt_of_le hk.2 hs4⟩
    lt := fun k hk => Nat.lt_of_lt_of_le (h3.lt k hk) (by simpa using hs4) }, ?_⟩
  refine Keep.setCell (p := ⟨a, 0, none⟩) ?_ h.fa v4
  exact (Keep.ofBelow (F := F) hb).trans (hk.mono (fun k _ e => (h.fL k e).1))
theorem wpo_make {o : Oper} {a : Act} {w : World} {K : Act → World → Prop} {Q : Exit → Act → World → Prop} (l c : Operand) (ho : o.op = .makeSlice 44 l c) (n : Nat) (hl : a.eval l = .int .i64 n) (hc : a.eval c = .int .i64 n) (hn : n ≤ 65536)
    (h : ∀ w', Below w.heap.size w w' → Blk w' w.heap.size 5 (bv (List.replicate n 0)) → K (a.put o.dst (.slice (some ⟨w.heap.size, 0, none⟩) n n)) w') : o.wp Tryz.prog a w K Q := by
  obtain ⟨i, hi, hz, hsz, hby⟩ := info_u8
  have hr := run_makeSlice (P := Tryz.prog) w 44 5 i _ Tryz.underlying44 hi hz .i64 .i64 (n : Int) (n : Int) (by omega) (by omega) (by rw [hsz]; simp; omega) (by rw [hby]; omega) (by omega)
  have hm : madeCells (Value.cells (.int .u8 0)) (n * 1) = (bv (List.replicate n 0)).toArray := by
    rw [Nat.mul_one]; have := made_zeros n; rw [← this]
  rw [hsz, Int.toNat_natCast, hm] at hr
  unfold Oper.wp execOp
  simp only [ho, hl, hc, hr, Sem.run_bind, Sem.run_pure, Result.andThen_ok]
  exact h _ (fresh_alloc w _) (alloc_new w _)
/-- a new one -/
theorem RR.fresh (w : World) : RR (w.alloc (.cells #[.slice none 0 0, .slice none 0 0, .bool false, .int .i64 0, .bool false] 63)) w.heap.size (.slice none 0 0) (.slice none 0 0) [] [] false 0 (fun k => w.heap.size ≤ k ∧ k < (w.alloc (.cells #[.slice none 0 0, .slice none 0 0, .bool false, .int .i64 0, .bool false] 63)).heap.size) (fun _ => False) [] [] false :=
  { hd := alloc_new w _, oL := World.ownsRow_nil _ _ _ _, rL := RowS.nil _ _, oW := World.ownsRow_nil _ _ _ _, rW := RowW.nil _ _, fr := by omega, fa := ⟨Nat.le_refl _, by simp⟩, na := id, fL := fun k hk => by simp [Value.ownBlock] at hk, fW := fun k hk => by simp [Value.ownBlock] at hk, LW := fun k hk => by simp [Value.ownBlock] at hk, fb := fun k h => h.elim, lt := fun k h => h.elim }
end Go.Proofs.YtlondopgibcikaaGreat
namespace Go.Proofs.YtlondopgibcikaaGreat
open Go.RowKit Ent
abbrev Asset := World → (Nat → Prop) → Prop
structure Good (A : Asset) : Prop where
  keep : ∀ {w w' : World} {F G : Nat → Prop}, A w F → Keep G w w' → (∀ k, F k → ¬ G k) → A w' F
/-- assets side by side, each in blocks of its own, all new since w0 -/
structure St (B : Nat) (w0 w : World) (As : List Asset) : Prop where
  bl : B ≤ w.heap.size
  be : Below B w0 w
  own : ∃ Fs : List (Nat → Prop), Fs.length = As.length ∧
    (∀ (i : Nat) (A : Asset) (F : Nat → Prop), As[i]? = some A → Fs[i]? = some F → Good A ∧ A w F ∧ ∀ k, F k → B ≤ k ∧ k < w.heap.size) ∧
    ∀ (i j : Nat) (F G : Nat → Prop), i ≠ j → Fs[i]? = some F → Fs[j]? = some G → ∀ k, F k → ¬ G k
theorem St.start (w : World) : St w.heap.size w w [] :=
  ⟨Nat.le_refl _, Below.refl _ _, [], rfl, fun i A F hi _ => by simp at hi, fun i j F G _ hi _ => by simp at hi⟩
theorem St.below {B : Nat} {w0 w w' : World} {As : List Asset} (h : St B w0 w As) (hb : Below w.heap.size w w') : St B w0 w' As := by
  obtain ⟨Fs, hl, ho, hd⟩ := h.own
  refine ⟨Nat.le_trans h.bl hb.size, h.be.trans (hb.mono h.bl), Fs, hl, fun i A F hA hF => ?_, hd⟩
  obtain ⟨hg, ha, hk⟩ := ho i A F hA hF
  exact ⟨hg, hg.keep ha (Keep.ofBelow (F := fun _ => False) hb) (fun _ _ => id), fun k hF => ⟨(hk k hF).1, Nat.lt_of_lt_of_le (hk k hF).2 hb.size⟩⟩
theorem get_set_eq {α : Type} {l : List α} {i : Nat} {a x y : α} (hi : l[i]? = some a) (h : (l.set i x)[i]? = some y) : x = y := by
  rw [List.getElem?_set_self (List.getElem?_eq_some_iff.1 hi).1] at h; injection h
/-- one of them, and the others beside it -/
theorem St.open {B : Nat} {w0 w : World} {As : List Asset} (h : St B w0 w As) (i : Nat) {A : Asset} (hi : As[i]? = some A) :
    ∃ F, A w F ∧ (∀ k, F k → B ≤ k ∧ k < w.heap.size) ∧
      (∀ (j : Nat) (C : Asset), i ≠ j → As[j]? = some C → ∃ G, C w G ∧ (∀ k, G k → B ≤ k ∧ k < w.heap.size) ∧ (∀ k, F k → ¬ G k)) ∧
      (∀ (w' : World) (A' : Asset) (F' : Nat → Prop), Keep F w w' → Good A' → A' w' F' → (∀ k, F' k → grow F w w' k) → St B w0 w' (As.set i A')) := by
  obtain ⟨Fs, hl, ho, hd⟩ := h.own
  have hil := (List.getElem?_eq_some_iff.1 hi).1
  obtain ⟨F, hF⟩ : ∃ F, Fs[i]? = some F := ⟨_, List.getElem?_eq_getElem (by omega)⟩
  obtain ⟨hg, ha, hk⟩ := ho i A F hi hF
  refine ⟨F, ha, hk, fun j C hij hC => ?_, fun w' A' F' hkp hg' ha' hF' => ?_⟩
  · obtain ⟨G, hG⟩ : ∃ G, Fs[j]? = some G := ⟨_, List.getElem?_eq_getElem (by have := (List.getElem?_eq_some_iff.1 hC).1; omega)⟩
    obtain ⟨_, hc, hck⟩ := ho j C G hC hG
    exact ⟨G, hc, hck, hd i j F G hij hF hG⟩
  · refine ⟨Nat.le_trans h.bl hkp.size, h.be.trans (hkp.belowB h.bl fun k hkB hF => by have := (hk k hF).1; omega), Fs.set i F', by simp [hl], fun j C G hC hG => ?_, fun j m G H hjm hG hH k hkG hkH => ?_⟩
    · by_cases hij : i = j
      · subst hij
        obtain rfl := get_set_eq hi hC
        obtain rfl := get_set_eq hF hG
        refine ⟨hg', ha', fun k hk' => ?_⟩
        rcases hF' k hk' with h1 | h1
        · exact ⟨(hk k h1).1, Nat.lt_of_lt_of_le (hk k h1).2 hkp.size⟩
        · exact ⟨Nat.le_trans h.bl h1.1, h1.2⟩
      · rw [List.getElem?_set_ne hij] at hC hG
        obtain ⟨g1, c1, k1⟩ := ho j C G hC hG
        exact ⟨g1, g1.keep c1 hkp (fun k a b => hd i j F G hij hF hG k b a), fun k h1 => ⟨(k1 k h1).1, Nat.lt_of_lt_of_le (k1 k h1).2 hkp.size⟩⟩
    · by_cases hij : i = j
      · subst hij
        rw [List.getElem?_set_ne hjm] at hH
        obtain rfl := get_set_eq hF hG
        obtain ⟨C, hC⟩ : ∃ C, As[m]? = some C := ⟨_, List.getElem?_eq_getElem (by have := (List.getElem?_eq_some_iff.1 hH).1; omega)⟩
        rcases hF' k hkG with h1 | h1
        · exact hd i m F H hjm hF hH k h1 hkH
        · have := ((ho m C H hC hH).2.2 k hkH).2; omega
      · rw [List.getElem?_set_ne hij] at hG
        by_cases him : i = m
        · subst him
          obtain rfl := get_set_eq hF hH
          obtain ⟨C, hC⟩ : ∃ C, As[j]? = some C := ⟨_, List.getElem?_eq_getElem (by have := (List.getElem?_eq_some_iff.1 hG).1; omega)⟩
          rcases hF' k hkH with h1 | h1
          · exact hd i j F G (Ne.symm hjm) hF hG k h1 hkG
          · have := ((ho j C G hC hG).2.2 k hkG).2; omega
        · rw [List.getElem?_set_ne him] at hH
          exact hd j m G H hjm hG hH k hkG hkH
/-- one more, that is new -/
theorem St.add {B : Nat} {w0 w w' : World} {As : List Asset} (h : St B w0 w As) (hb : Below w.heap.size w w') {A : Asset} {F : Nat → Prop} (hg : Good A) (hA : A w' F) (hF : ∀ k, F k → w.heap.size ≤ k ∧ k < w'.heap.size) : St B w0 w' (As ++ [A]) := by
  have h' := h.below hb
  obtain ⟨Fs, hl, ho, hd⟩ := h.own
  have ho' : ∀ (i : Nat) (A : Asset) (F : Nat → Prop), As[i]? = some A → Fs[i]? = some F → Good A ∧ A w' F ∧ ∀ k, F k → B ≤ k ∧ k < w.heap.size := fun i A F a b => by
    obtain ⟨g, c, k⟩ := ho i A F a b
    exact ⟨g, g.keep c (Keep.ofBelow (F := fun _ => False) hb) (fun _ _ => id), k⟩
  refine ⟨h'.bl, h'.be, Fs ++ [F], by simp [hl], fun i C G hC hG => ?_, fun i j G H hij hG hH k hkG hkH => ?_⟩
  · by_cases hi : i < As.length
    · rw [List.getElem?_append_left hi] at hC
      rw [List.getElem?_append_left (by omega)] at hG
      obtain ⟨g, c, k⟩ := ho' i C G hC hG
      exact ⟨g, c, fun j hj => ⟨(k j hj).1, Nat.lt_of_lt_of_le (k j hj).2 hb.size⟩⟩
    · have hi' : i = As.length := by
        have := (List.getElem?_eq_some_iff.1 hC).1
        simp at this; omega
      subst hi'
      rw [List.getElem?_append_right (Nat.le_refl _), Nat.sub_self] at hC
      rw [List.getElem?_append_right (by omega), hl, Nat.sub_self] at hG
      simp at hC hG
      subst hC; subst hG
      exact ⟨hg, hA, fun j hj => ⟨Nat.le_trans h.bl (hF j hj).1, (hF j hj).2⟩⟩
  · have key : ∀ (i : Nat) (G : Nat → Prop), Fs[i]? = some G → ∀ k, G k → k < w.heap.size := fun i G hG k hk => by
      obtain ⟨C, hC⟩ : ∃ C, As[i]? = some C := ⟨_, List.getElem?_eq_getElem (by have := (List.getElem?_eq_some_iff.1 hG).1; omega)⟩
      exact ((ho i C G hC hG).2.2 k hk).2
    by_cases hi : i < Fs.length
    · rw [List.getElem?_append_left hi] at hG
      by_cases hj : j < Fs.length
      · rw [List.getElem?_append_left hj] at hH
        exact hd i j G H hij hG hH k hkG hkH
      · have hj' : j = Fs.length := by
          have := (List.getElem?_eq_some_iff.1 hH).1
          simp at this; omega
        subst hj'
        rw [List.getElem?_append_right (Nat.le_refl _), Nat.sub_self] at hH
        simp at hH; subst hH
        have := key i G hG k hkG
        have := (hF k hkH).1; omega
    · have hi' : i = Fs.length := by
        have := (List.getElem?_eq_some_iff.1 hG).1
        simp at this; omega
      subst hi'
      rw [List.getElem?_append_right (Nat.le_refl _), Nat.sub_self] at hG
      simp at hG; subst hG
      by_cases hj : j < Fs.length
      · rw [List.getElem?_append_left hj] at hH
        have := key j H hH k hkH
        have := (hF k hkG).1; omega
      · have := (List.getElem?_eq_some_iff.1 hH).1
        simp at this; omega
/-- the last ones are forgotten -/
theorem St.take {B : Nat} {w0 w : World} {As : List Asset} (h : St B w0 w As) (n : Nat) : St B w0 w (As.take n) := by
  obtain ⟨Fs, hl, ho, hd⟩ := h.own
  refine ⟨h.bl, h.be, Fs.take n, by simp [hl], fun i A F hA hF => ?_, fun i j F G hij hF hG => ?_⟩
  · rw [List.getElem?_take] at hA hF
    split at hA
    · rename_i hn; rw [if_pos hn] at hF; exact ho i A F hA hF
    · cases hA
  · rw [List.getElem?_take] at hF hG
    split at hF
    · split at hG
      · exact hd i j F G hij hF hG
      · cases hG
    · cases hF
/-- a call that turns one of them -/
theorem St.call {B : Nat} {w0 w : World} {As : List Asset} (h : St B w0 w As) (i : Nat) {A A' : Asset} (hi : As[i]? = some A) (hg : Good A') {f : FuncId} {args : Array Value} {R : Ending → Prop}
    (hc : ∀ F, A w F → (∀ k, F k → B ≤ k ∧ k < w.heap.size) → Calls Tryz.prog f args w fun e w' => R e ∧ A' w' (grow F w w') ∧ Keep F w w') :
    Calls Tryz.prog f args w fun e w' => R e ∧ St B w0 w' (As.set i A') := by
  obtain ⟨F, ha, hk, _, hcl⟩ := h.open i hi
  refine (hc F ha hk).mono ?_
  rintro e w' ⟨he, ha', hkp⟩
  exact ⟨he, hcl w' A' _ hkp hg ha' (fun _ h => h)⟩
/-- a device among them -/
def dev (a : Nat) (d : Dev) : Asset := fun w F => PDev w a F d
theorem good_dev (a : Nat) (d : Dev) : Good (dev a d) := ⟨fun h hk hG => PDev.keep h hk hG⟩
end Go.Proofs.YtlondopgibcikaaGreat
namespace Go.Proofs.YtlondopgibcikaaGreat
open Go.RowKit Ent
/-- a block -/
def blkA (g : Nat) (T : TypeId) (vs : List Value) : Asset := fun w F => Blk w g T vs ∧ F g
theorem good_blkA (g : Nat) (T : TypeId) (vs : List Value) : Good (blkA g T vs) := ⟨fun h hk hG => ⟨h.1.keep hk (hG _ h.2), h.2⟩⟩
/-- what is read beside an asset: old, or another one's block -/
def Apart (B : Nat) (As : List Asset) (i : Nat) (bo : Option Addr) : Prop :=
  (∀ x, bo = some x → x.block < B) ∨ ∃ j g T vs, i ≠ j ∧ As[j]? = some (blkA g T vs) ∧ ∀ x, bo = some x → x.block = g
theorem St.blk {B : Nat} {w0 w : World} {As : List Asset} (h : St B w0 w As) (i : Nat) {g : Nat} {T : TypeId} {vs : List Value} (hi : As[i]? = some (blkA g T vs)) : Blk w g T vs := by
  obtain ⟨F, hA, _⟩ := h.open i hi
  exact hA.1
theorem St.addBlk {B : Nat} {w0 w w' : World} {As : List Asset} (h : St B w0 w As) (hb : Below w.heap.size w w') {g : Nat} {T : TypeId} {vs : List Value} (hg : Blk w' g T vs) (h0 : w.heap.size ≤ g) : St B w0 w' (As ++ [blkA g T vs]) :=
  h.add hb (F := fun k => k = g) (good_blkA g T vs) ⟨hg, rfl⟩ (fun k hk => by rw [hk]; exact ⟨h0, hg.lt⟩)
theorem St.box {B : Nat} {w0 w : World} {As : List Asset} (h : St B w0 w As) (T : TypeId) (vs : List Value) : St B w0 (w.alloc (.cells vs.toArray T)) (As ++ [blkA w.heap.size T vs]) :=
  h.addBlk (fresh_alloc w _) (alloc_new w _) (Nat.le_refl _)
/-- a block of its own is written -/
theorem St.blkTurn {B : Nat} {w0 w w' : World} {As : List Asset} (h : St B w0 w As) (i : Nat) {g : Nat} {T : TypeId} {vs vs' : List Value} (hi : As[i]? = some (blkA g T vs)) (hk : Keep (fun k => k = g) w w') (hg : Blk w' g T vs') : St B w0 w' (As.set i (blkA g T vs')) := by
  obtain ⟨F, hA, hF, _, hcl⟩ := h.open i hi
  exact hcl w' _ F (hk.mono fun k _ e => by rw [e]; exact hA.2) (good_blkA _ _ _) ⟨hg, hA.2⟩ (fun k hk => .inl hk)
/-- .. and forgotten -/
def noA : Asset := fun _ _ => True
theorem good_noA : Good noA := ⟨fun _ _ _ => trivial⟩
theorem Apart.not {B : Nat} {w : World} {As : List Asset} {i : Nat} {bo : Option Addr} {F : Nat → Prop} (h : Apart B As i bo) (hF : ∀ k, F k → B ≤ k ∧ k < w.heap.size)
    (ho : ∀ (j : Nat) (C : Asset), i ≠ j → As[j]? = some C → ∃ G, C w G ∧ (∀ k, G k → B ≤ k ∧ k < w.heap.size) ∧ (∀ k, F k → ¬ G k)) : ∀ x, bo = some x → ¬ F x.block := by
  intro x hx hf
  rcases h with h | ⟨j, g, T, vs, hij, hj, h⟩
  · have := h x hx; have := (hF _ hf).1; omega
  · obtain ⟨G, hG, _, hd⟩ := ho j _ hij hj
    rw [h x hx] at hf
    exact hd _ hf hG.2
section
variable {B : Nat} {w0 w : World} {As : List Asset} {a : Nat} {d : Dev}
theorem St.dev_flush (h : St B w0 w As) (i : Nat) (hi : As[i]? = some (dev a d)) :
    Calls Tryz.prog 16 #[ptr a] w fun e w' => e = .returned (.int .i64 d.flush.1) ∧ St B w0 w' (As.set i (dev a d.flush.2)) := by
  obtain ⟨F, hA, hF, ho, hcl⟩ := h.open i hi
  refine (lift_flush w hA).mono ?_
  rintro e w' ⟨he, hp, hk⟩
  exact ⟨he, hcl w' _ _ hk (good_dev _ _) hp (fun _ h => .inl h)⟩
theorem St.dev_fuse (h : St B w0 w As) (i : Nat) (hi : As[i]? = some (dev a d)) (n : Int) (h1 : -9223372036854775808 ≤ n) (h2 : n ≤ 9223372036854775807) :
    Calls Tryz.prog 32 #[ptr a, .int .i64 n] w fun e w' => e = .returned (.int .i64 (d.setFuse n).1) ∧ St B w0 w' (As.set i (dev a (d.setFuse n).2)) := by
  obtain ⟨F, hA, hF, ho, hcl⟩ := h.open i hi
  refine (lift_fuse n h1 h2 w hA).mono ?_
  rintro e w' ⟨he, hp, hk⟩
  exact ⟨he, hcl w' _ _ hk (good_dev _ _) hp (fun _ h => .inl h)⟩
theorem St.ok (h : St B w0 w As) (i : Nat) (hi : As[i]? = some (dev a d)) : d.ok := by
  obtain ⟨F, hA, _⟩ := h.open i hi
  obtain ⟨gi, gn, vl, lets, left, hA⟩ := hA
  exact hA.ok
theorem St.dev_crash (h : St B w0 w As) (i : Nat) (hi : As[i]? = some (dev a d)) (ko : Option Addr) (kn kc : Nat) (keep : List Bool) (hkn : kn = keep.length) (torn : Int) (hbl : BL w ko keep) (hap : keep ≠ [] → Apart B As i ko) (hkb : kn ≤ 1073741824) (hlo : d.loose.length ≤ 1073741824) :
    Calls Tryz.prog 34 #[ptr a, .slice ko kn kc, .int .i64 torn] w fun e w' => e = .returned (.int .i64 (d.crash keep torn).1) ∧ St B w0 w' (As.set i (dev a (d.crash keep torn).2)) := by
  obtain ⟨F, hA, hF, ho, hcl⟩ := h.open i hi
  refine (lift_crash ko kn kc keep hkn torn w hbl (fun hne => (hap hne).not hF ho) hkb hlo hA).mono ?_
  rintro e w' ⟨he, hp, hk⟩
  exact ⟨he, hcl w' _ _ hk (good_dev _ _) hp (fun _ h => .inl h)⟩
theorem St.dev_new (h : St B w0 w As) (n : Nat) (h1 : 1 ≤ n) (h2 : n ≤ 65536) :
    Calls Tryz.prog 8 #[.int .i64 n] w fun e w' => ∃ a, e = .returned (.tuple #[ptr a, .int .i64 0]) ∧ St B w0 w' (As ++ [dev a (Dev.new n)]) := by
  refine (new_any n h1 h2 w).mono ?_
  rintro e w' ⟨a, he, hp, hb⟩
  exact ⟨a, he, h.add hb (good_dev _ _) hp (fun _ h => h)⟩
theorem St.dev_size (h : St B w0 w As) (i : Nat) (hi : As[i]? = some (dev a d)) :
    Calls Tryz.prog 58 #[ptr a] w fun e w' => e = .returned (.int .i64 d.img.length) ∧ w' = w := by
  obtain ⟨F, hA, _⟩ := h.open i hi; exact lift_size w hA
theorem St.dev_out (h : St B w0 w As) (i : Nat) (hi : As[i]? = some (dev a d)) :
    Calls Tryz.prog 47 #[ptr a] w fun e w' => e = .returned (.bool d.out) ∧ w' = w := by
  obtain ⟨F, hA, _⟩ := h.open i hi; exact lift_out w hA
theorem St.dev_loose (h : St B w0 w As) (i : Nat) (hi : As[i]? = some (dev a d)) :
    Calls Tryz.prog 45 #[ptr a] w fun e w' => e = .returned (.int .i64 d.loose.length) ∧ w' = w := by
  obtain ⟨F, hA, _⟩ := h.open i hi; exact lift_loose w hA
/-- what is told is new -/
def Told (w w' : World) (v : Value) (l : List UInt8) : Prop := ∃ ao cap, v = .slice ao l.length cap ∧ l.length ≤ cap ∧ SB w' ao cap l ∧ WB w' ao l.length ∧ (∀ x, ao = some x → w.heap.size ≤ x.block ∧ x.block < w'.heap.size) ∧ Below w.heap.size w w'
theorem told_of {w' : World} {v : Value} {l : List UInt8} (h : Fresh w.heap.size w' v l) (hb : Below w.heap.size w w') : Told w w' v l := by
  obtain ⟨ao, cap, h1, h2, h3, h4, h5⟩ := h; exact ⟨ao, cap, h1, h2, h3, h4, h5, hb⟩
theorem St.dev_image (h : St B w0 w As) (i : Nat) (hi : As[i]? = some (dev a d)) (n : Int) :
    Calls Tryz.prog 12 #[ptr a, .int .i64 n] w fun e w' => ∃ v, e = .returned (.tuple #[v, .int .i64 (d.image n).2]) ∧ Told w w' v (d.image n).1 := by
  obtain ⟨F, hA, _⟩ := h.open i hi
  refine (lift_image n w hA).mono ?_
  rintro e w' ⟨v, he, hf, hb⟩; exact ⟨v, he, told_of hf hb⟩
end
end Go.Proofs.YtlondopgibcikaaGreat
namespace Go.Proofs.YtlondopgibcikaaGreat
open Go.RowKit Ent
/-- an act, and where its bools lie -/
structure Act5 where
  kind : Int
  n : Int
  b : UInt8
  ko : Option Addr
  kc : Nat
  keep : List Bool
def Act5.cells (a : Act5) : List Value := [.int .i64 a.kind, .int .i64 a.n, .int .u8 (a.b.toNat : Int), .slice a.ko a.keep.length a.kc]
structure Act5.fits (w : World) (a : Act5) : Prop where
  k1 : -9223372036854775808 ≤ a.kind ∧ a.kind ≤ 9223372036854775807
  n1 : -9223372036854775808 ≤ a.n ∧ a.n ≤ 9223372036854775807
  bl : BL w a.ko a.keep
  kl : a.keep.length ≤ 9223372036854775807
theorem Act5.fits.below {w w' : World} {a : Act5} (h : a.fits w) (hb : Below w.heap.size w w') : a.fits w' := ⟨h.k1, h.n1, h.bl.below hb, h.kl⟩
/-- acts that may be read -/
def AL5 (w : World) (ao : Option Addr) (l : List Act5) : Prop := l = [] ∨ ∃ b o, ao = some ⟨b, o, none⟩ ∧ ∀ i a, l[i]? = some a → a.fits w ∧ ∀ j v, a.cells[j]? = some v → w.cell? ⟨b, o + i * 4 + j, none⟩ = some v
theorem AL5.below {w w' : World} {ao : Option Addr} {l : List Act5} (h : AL5 w ao l) (hb : Below w.heap.size w w') : AL5 w' ao l := by
  rcases h with h | ⟨b, o, rfl, h⟩
  · exact .inl h
  · refine .inr ⟨b, o, rfl, fun i a ha => ⟨(h i a ha).1.below hb, fun j v hv => ?_⟩⟩
    have hc := (h i a ha).2 j v hv
    rw [hb.cell (World.block_lt_of_cell? w _ hc)]; exact hc
theorem AL5.at {w : World} {ao : Option Addr} {l : List Act5} (h : AL5 w ao l) {i : Nat} {a : Act5} (ha : l[i]? = some a) : ∃ b o, ao = some ⟨b, o, none⟩ ∧ a.fits w ∧ ∀ j v, a.cells[j]? = some v → w.cell? ⟨b, o + i * 4 + j, none⟩ = some v := by
  rcases h with rfl | ⟨b, o, rfl, h⟩
  · simp at ha
  · exact ⟨b, o, rfl, h i a ha⟩
theorem any_take_succ {α : Type} (p : α → Bool) (l : List α) (k : Nat) {x : α} (hx : l[k]? = some x) : (l.take (k + 1)).any p = ((l.take k).any p || p x) := by
  rw [List.take_add_one, hx]; simp
theorem write_loose (d : Dev) (i : Int) (b : List UInt8) : (d.write i b).2.loose.length ≤ d.loose.length + 1 ∧ (d.write i b).2.img.length = d.img.length := by
  unfold Dev.write
  split
  · exact ⟨Nat.le_succ _, rfl⟩
  · split
    · exact ⟨Nat.le_succ _, rfl⟩
    · split
      · exact ⟨Nat.le_succ _, rfl⟩
      · split
        · rw [through_loose, through_img]; exact ⟨Nat.le_succ _, rfl⟩
        · exact ⟨by simp, through_img d ▸ rfl⟩
theorem flush_loose (d : Dev) : d.flush.2.loose.length ≤ d.loose.length ∧ d.flush.2.img.length = d.img.length := by
  unfold Dev.flush
  split
  · exact ⟨Nat.le_refl _, rfl⟩
  · split
    · rw [through_loose, through_img]; exact ⟨Nat.le_refl _, rfl⟩
    · exact ⟨by simp, by rw [Dev.now_len]⟩
theorem fuse_loose (d : Dev) (n : Int) : (d.setFuse n).2.loose = d.loose ∧ (d.setFuse n).2.img = d.img := by
  unfold Dev.setFuse
  split
  · exact ⟨rfl, rfl⟩
  · split <;> exact ⟨rfl, rfl⟩
theorem torn_len (L : List (List UInt8)) (x : Option (Nat × List UInt8)) (t : Nat) : (tornIn L x t).length = L.length := by
  cases x <;> simp [tornIn]
theorem crash_loose (d : Dev) (keep : List Bool) (t : Int) : (d.crash keep t).2.loose.length ≤ d.loose.length ∧ (d.crash keep t).2.img.length = d.img.length := by
  unfold Dev.crash
  split
  · exact ⟨Nat.le_refl _, rfl⟩
  · exact ⟨by simp, by rw [torn_len, laid_len]⟩
end Go.Proofs.YtlondopgibcikaaGreat
