/- The walks of what turns the document's device. -/
import Derived.Test.YtlondopgibcikaaRows
import Derived.Test.YtlondopgibcikaaHeap
import Derived.Test.YtlondopgibcikaaKit
import Derived.Test.YtlondopgibcikaaDev
import Derived.Test.YtlondopgibcikaaDevW
import Derived.Test.YtlondopgibcikaaDevV
import Derived.Test.YtlondopgibcikaaDevU
import Derived.Test.YtlondopgibcikaaDevT
import Derived.Test.YtlondopgibcikaaDevC
import Derived.Test.YtlondopgibcikaaLaw05
import Derived.Test.YtlondopgibcikaaLL
import Derived.Test.YtlondopgibcikaaRef5
import Derived.WalkKit
import Derived.WalkSpells
import Derived.WalkLawsBesides
import Derived.Deep.RegionHeld3
namespace Go.Proofs.Ytlondopgibcikaa
open Go.RowKit Ent

theorem RR.appended {w1 w3 w4 : World} {a : Nat} {vL vW v4 v : Value} {vsL vsW : List Value} {fused : Bool} {fuse : Int} {F Fb : Nat → Prop} {L : List (List UInt8)} {l : List (Nat × List UInt8)} {out : Bool}
    (h : RR w1 a vL vW vsL vsW fused fuse F Fb L l out) (hb : Below w1.heap.size w1 w3) (i : Nat) {b : List UInt8} (hv : SS w3 (fun k => w1.heap.size ≤ k ∧ k < w3.heap.size) v b)
    (ho : w4.ownsRow 0 143 2 v4 (l.length + 1) (vsW ++ [.int .i64 (i : Int), v])) (hg : w3.grownBy w4 vW.ownBlock) (hw : v4.ownBlock = vW.ownBlock ∨ v4.ownBlock = some w3.heap.size) :
    RR (w4.setCell ⟨a, 1, none⟩ v4) a vL v4 vsL (vsW ++ [.int .i64 (i : Int), v]) fused fuse (grow F w1 w4) (grow Fb w1 w3) L (l ++ [(i, b)]) out ∧ Keep F w1 (w4.setCell ⟨a, 1, none⟩ v4) := by
  have h3 := h.more hb
  have hk : Keep (fun k => vW.ownBlock = some k) w3 w4 := (Keep.refl _ w3).grown hg (fun k hk _ => hk)
  have hL3 := own_lt h.oL
  have ha := h.hd.lt
  have hs4 : w3.heap.size ≤ w4.heap.size := hk.size
  have hs1 := hb.size
  have hka : Keep (fun k => k = a) w4 (w4.setCell ⟨a, 1, none⟩ v4) := (Keep.refl (fun k => k = a) w4).setCell (p := ⟨a, 1, none⟩) rfl _
  have hlt4 := own_lt ho
  have hne : ∀ k, v4.ownBlock = some k → k ≠ a := fun k hk => by
    rcases hw with e | e
    · exact (h.fW k (by rw [← e]; exact hk)).2.2
    · rw [e] at hk; injection hk with hk; omega
  have hnb : ∀ k, grow Fb w1 w3 k → ¬ vW.ownBlock = some k := fun k hk e => (h3.fW k e).2.1 hk
  have hna : ∀ k, grow Fb w1 w3 k → ¬ k = a := fun k hk e => h3.na (by rw [← e]; exact hk)
  refine ⟨{
    hd := (h3.hd.keep hk (fun e => (h.fW _ e).2.2 rfl)).set 1 v4
    oL := owns_keep (owns_keep h3.oL hk (fun k h1 h2 => h.LW k h1 h2)) hka fun k hk => (h.fL k hk).2.2
    rL := (h3.rL.keep hk hnb).keep hka hna
    oW := by rw [List.length_append]; exact owns_keep ho hka hne
    rW := (((h3.rW.snoc i (hv.mono fun k hk => .inr hk)).keep hk hnb).keep hka hna)
    fr := h.fr, fa := .inl h.fa, na := h3.na
    fL := fun k hk => ⟨.inl (h.fL k hk).1, (h3.fL k hk).2⟩
    fW := fun k hk => by
      rcases hw with e | e
      · have := h3.fW k (by rw [← e]; exact hk)
        exact ⟨.inl (h.fW k (by rw [← e]; exact hk)).1, this.2⟩
      · have hlt := hlt4 k hk
        rw [e] at hk; injection hk with hk
        refine ⟨.inr ⟨by omega, hlt⟩, fun hh => ?_, by omega⟩
        have := h3.lt k hh
        omega
    LW := fun k h1 h2 => by
      rcases hw with e | e
      · exact h.LW k h1 (by rw [← e]; exact h2)
      · have := hL3 k h1
        rw [e] at h2; injection h2 with h2; omega
    fb := fun k hk => by
      rcases hk with hk | hk
      · exact .inl (h.fb k hk)
      · exact .inr ⟨hk.1, Nat.lt_of_lt_of_le hk.2 hs4⟩
    lt := fun k hk => Nat.lt_of_lt_of_le (h3.lt k hk) (by simpa using hs4) }, ?_⟩
  refine Keep.setCell (p := ⟨a, 1, none⟩) ?_ h.fa v4
  exact (Keep.ofBelow (F := F) hb).trans (hk.mono (fun k _ e => (h.fW k e).1))
theorem RR.setL {w : World} {a g n c : Nat} {vW v : Value} {vsL vsW : List Value} {fused : Bool} {fuse : Int} {F Fb : Nat → Prop} {L : List (List UInt8)} {l : List (Nat × List UInt8)} {out : Bool}
    (h : RR w a (.slice (some ⟨g, 0, none⟩) n c) vW vsL vsW fused fuse F Fb L l out) (hn : n = L.length) (i : Nat) {b : List UInt8} (hv : SS w Fb v b) :
    RR (w.setCell ⟨g, i, none⟩ v) a (.slice (some ⟨g, 0, none⟩) n c) vW (vsL.set i v) vsW fused fuse F Fb (L.set i b) l out := by
  subst hn
  have hk : Keep (fun k => k = g) w (w.setCell ⟨g, i, none⟩ v) := (Keep.refl (fun k => k = g) w).setCell (p := ⟨g, i, none⟩) rfl _
  have hg := h.fL g rfl
  have hnb : ∀ k, Fb k → ¬ k = g := fun k hk e => hg.2.1 (by rw [← e]; exact hk)
  exact { h with
    hd := h.hd.keep hk (fun e => hg.2.2 e.symm)
    oL := by rw [List.length_set]; exact own_set h.oL i v
    rL := (h.rL.set i hv).keep hk hnb
    oW := owns_keep h.oW hk fun k hk e => h.LW g rfl (by rw [← e]; exact hk)
    rW := h.rW.keep hk hnb
    lt := fun k hk => by simpa using h.lt k hk }
theorem RR.cleared {w w' : World} {a : Nat} {vL vW : Value} {vsL vsW : List Value} {fused fused' : Bool} {fuse : Int} {F Fb : Nat → Prop} {L : List (List UInt8)} {l : List (Nat × List UInt8)} {out out' : Bool}
    (h : RR w a vL vW vsL vsW fused fuse F Fb L l out) (hk : Keep (fun k => k = a) w w') (hd : Blk w' a 141 (head5 vL (.slice none 0 0) fused' fuse out')) : RR w' a vL (.slice none 0 0) vsL [] fused' fuse F Fb L [] out' :=
  have hna : ∀ k, Fb k → ¬ k = a := fun k hk e => h.na (by rw [← e]; exact hk)
  { hd := hd, oL := owns_keep h.oL hk fun k hk => (h.fL k hk).2.2, rL := h.rL.keep hk hna, oW := World.ownsRow_nil _ _ _ _, rW := RowW.nil _ _, fr := h.fr, fa := h.fa, na := h.na, fL := h.fL, fW := fun k hk => by simp [Value.ownBlock] at hk, LW := fun k _ hk => by simp [Value.ownBlock] at hk, fb := h.fb, lt := fun k hk' => Nat.lt_of_lt_of_le (h.lt k hk') hk.size }
theorem ok_loose {d : Dev} (h : d.ok) {f : Option Nat} {o : Bool} {k : Nat} {b : List UInt8} (hk : k < d.img.length) (hb : b.length = 64) : ({ img := d.img, loose := d.loose ++ [(k, b)], fuse := f, out := o } : Dev).ok :=
  ⟨h.s64, h.len, h.pos, fun x hx => by
    rcases List.mem_append.1 hx with hx | hx
    · exact h.lo x hx
    · simp at hx; subst hx; exact ⟨hk, hb⟩⟩
theorem through_img' (d : Dev) (l : List (Nat × List UInt8)) : ({ d.through.2 with loose := l } : Dev) = { img := d.img, loose := l, fuse := d.through.2.fuse, out := d.through.2.out } := by rw [← through_img d]
theorem ok_through {d : Dev} (h : d.ok) : d.through.2.ok := ⟨by rw [through_img]; exact h.s64, by rw [through_img]; exact h.len, by rw [through_img]; exact h.pos, by rw [through_img, through_loose]; exact h.lo⟩
theorem ok_flushed {d : Dev} (h : d.ok) {f : Option Nat} {o : Bool} : ({ img := d.now, loose := [], fuse := f, out := o } : Dev).ok :=
  ⟨h.now64, by rw [Dev.now_len]; exact h.len, by rw [Dev.now_len]; exact h.pos, fun x hx => by simp at hx⟩
theorem bl_at {w : World} {ao : Option Addr} {l : List Bool} (h : BL w ao l) {k : Nat} {x : Bool} (hx : l[k]? = some x) : ∃ b o, ao = some ⟨b, o, none⟩ ∧ w.cell? ⟨b, o + k, none⟩ = some (.bool x) := by
  rcases h with rfl | ⟨b, o, rfl, h⟩
  · simp at hx
  · exact ⟨b, o, rfl, h k _ (by rw [bbv_get, hx]; rfl)⟩
theorem rd_of {w : World} {a : Nat} {vL vW : Value} {vsL vsW : List Value} {fuse : Int} {F Fb : Nat → Prop} {d : Dev} (ho : d.ok) (h : RR w a vL vW vsL vsW false fuse F Fb d.img d.loose d.out) (hf : d.fuse = none) : RD w a F d := ⟨ho, vL, vW, vsL, vsW, false, fuse, Fb, h, .inl ⟨hf, rfl⟩⟩
theorem wr_info : (Try.prog.info? 143).map (·.size) = some 2 := by kernel_rfl
theorem s64_crash {d : Dev} (h : d.ok) {keep : List Bool} {k : Nat} {lst : Int} {L : List (List UInt8)} (hc : CrashAt d keep k lst L) {i : Nat} {s : List UInt8} (hs : L[i]? = some s) : s.length = 64 := by
  have := laid_64 (l := keptOf keep 0 (d.loose.take k)) (fun x hx => (h.lo x (List.mem_of_mem_take (kept_sub keep x _ _ hx))).2) h.s64
  rw [← hc.im] at this
  exact this.get hs
theorem RR.appendedL {w1 w3 w4 : World} {a : Nat} {vL vW v4 v : Value} {vsL vsW : List Value} {fused : Bool} {fuse : Int} {F Fb : Nat → Prop} {L : List (List UInt8)} {l : List (Nat × List UInt8)} {out : Bool}
    (h : RR w1 a vL vW vsL vsW fused fuse F Fb L l out) (hb : Below w1.heap.size w1 w3) {b : List UInt8} (hv : SS w3 (fun k => w1.heap.size ≤ k ∧ k < w3.heap.size) v b)
    (ho : w4.ownsRow 0 22 1 v4 (L.length + 1) (vsL ++ [v])) (hg : w3.grownBy w4 vL.ownBlock) (hw : v4.ownBlock = vL.ownBlock ∨ v4.ownBlock = some w3.heap.size) :
    RR (w4.setCell ⟨a, 0, none⟩ v4) a v4 vW (vsL ++ [v]) vsW fused fuse (grow F w1 w4) (grow Fb w1 w3) (L ++ [b]) l out ∧ Keep F w1 (w4.setCell ⟨a, 0, none⟩ v4) := by
  have h3 := h.more hb
  have hk : Keep (fun k => vL.ownBlock = some k) w3 w4 := (Keep.refl _ w3).grown hg (fun k hk _ => hk)
  have hW3 := own_lt h.oW
  have ha := h.hd.lt
  have hs4 : w3.heap.size ≤ w4.heap.size := hk.size
  have hs1 := hb.size
  have hka : Keep (fun k => k = a) w4 (w4.setCell ⟨a, 0, none⟩ v4) := (Keep.refl (fun k => k = a) w4).setCell (p := ⟨a, 0, none⟩) rfl _
  have hlt4 := own_lt ho
  have hne : ∀ k, v4.ownBlock = some k → k ≠ a := fun k hk => by
    rcases hw with e | e
    · exact (h.fL k (by rw [← e]; exact hk)).2.2
    · rw [e] at hk; injection hk with hk; omega
  have hnb : ∀ k, grow Fb w1 w3 k → ¬ vL.ownBlock = some k := fun k hk e => (h3.fL k e).2.1 hk
  have hna : ∀ k, grow Fb w1 w3 k → ¬ k = a := fun k hk e => h3.na (by rw [← e]; exact hk)
  refine ⟨{
    hd := (h3.hd.keep hk (fun e => (h.fL _ e).2.2 rfl)).set 0 v4
    oW := owns_keep (owns_keep h3.oW hk (fun k h1 h2 => h.LW k h2 h1)) hka fun k hk => (h.fW k hk).2.2
    rW := (h3.rW.keep hk hnb).keep hka hna
    oL := by rw [List.length_append]; exact owns_keep ho hka hne
    rL := (((h3.rL.snoc (hv.mono fun k hk => .inr hk)).keep hk hnb).keep hka hna)
    fr := h.fr, fa := .inl h.fa, na := h3.na
    fW := fun k hk => ⟨.inl (h.fW k hk).1, (h3.fW k hk).2⟩
    fL := fun k hk => by
      rcases hw with e | e
      · have := h3.fL k (by rw [← e]; exact hk)
        exact ⟨.inl (h.fL k (by rw [← e]; exact hk)).1, this.2⟩
      · have hlt := hlt4 k hk
        rw [e] at hk; injection hk with hk
        refine ⟨.inr ⟨by omega, hlt⟩, fun hh => ?_, by omega⟩
        have := h3.lt k hh
        omega
    LW := fun k h1 h2 => by
      rcases hw with e | e
      · exact h.LW k (by rw [← e]; exact h1) h2
      · have := hW3 k h2
        rw [e] at h1; injection h1 with h1; omega
    fb := fun k hk => by
      rcases hk with hk | hk
      · exact .inl (h.fb k hk)
      · exact .inr ⟨hk.1, Nat.lt_of_lt_of_le hk.2 hs4⟩
    lt := fun k hk => Nat.lt_of_lt_of_le (h3.lt k hk) (by simpa using hs4) }, ?_⟩
  refine Keep.setCell (p := ⟨a, 0, none⟩) ?_ h.fa v4
  exact (Keep.ofBelow (F := F) hb).trans (hk.mono (fun k _ e => (h.fL k e).1))
theorem wpo_make {o : Oper} {a : Act} {w : World} {K : Act → World → Prop} {Q : Exit → Act → World → Prop} (l c : Operand) (ho : o.op = .makeSlice 22 l c) (n : Nat) (hl : a.eval l = .int .i64 n) (hc : a.eval c = .int .i64 n) (hn : n ≤ 65536)
    (h : ∀ w', Below w.heap.size w w' → Blk w' w.heap.size 5 (bv (List.replicate n 0)) → K (a.put o.dst (.slice (some ⟨w.heap.size, 0, none⟩) n n)) w') : o.wp Try.prog a w K Q := by
  obtain ⟨i, hi, hz, hsz, hby⟩ := info_u8
  have hr := run_makeSlice (P := Try.prog) w 22 5 i _ Try.underlying22 hi hz .i64 .i64 (n : Int) (n : Int) (by omega) (by omega) (by rw [hsz]; simp; omega) (by rw [hby]; omega) (by omega)
  have hm : madeCells (Value.cells (.int .u8 0)) (n * 1) = (bv (List.replicate n 0)).toArray := by
    rw [Nat.mul_one]; have := made_zeros n; rw [← this]
  rw [hsz, Int.toNat_natCast, hm] at hr
  unfold Oper.wp execOp
  simp only [ho, hl, hc, hr, Sem.run_bind, Sem.run_pure, Result.andThen_ok]
  exact h _ (fresh_alloc w _) (alloc_new w _)
/-- a new one -/
theorem RR.fresh (w : World) : RR (w.alloc (.cells #[.slice none 0 0, .slice none 0 0, .bool false, .int .i64 0, .bool false] 141)) w.heap.size (.slice none 0 0) (.slice none 0 0) [] [] false 0 (fun k => w.heap.size ≤ k ∧ k < (w.alloc (.cells #[.slice none 0 0, .slice none 0 0, .bool false, .int .i64 0, .bool false] 141)).heap.size) (fun _ => False) [] [] false :=
  { hd := alloc_new w _, oL := World.ownsRow_nil _ _ _ _, rL := RowS.nil _ _, oW := World.ownsRow_nil _ _ _ _, rW := RowW.nil _ _, fr := by omega, fa := ⟨Nat.le_refl _, by simp⟩, na := id, fL := fun k hk => by simp [Value.ownBlock] at hk, fW := fun k hk => by simp [Value.ownBlock] at hk, LW := fun k hk => by simp [Value.ownBlock] at hk, fb := fun k h => h.elim, lt := fun k h => h.elim }
end Go.Proofs.Ytlondopgibcikaa
