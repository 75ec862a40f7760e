/- The walk of DeviceFlush. -/
import Derived.Test.YtlondopgibcikaaRows
import Derived.Test.YtlondopgibcikaaHeap
import Derived.Test.YtlondopgibcikaaKit
import Derived.Test.YtlondopgibcikaaCrcPartsW
import Derived.Test.YtlondopgibcikaaDev
import Derived.Test.YtlondopgibcikaaDevW
import Derived.Test.YtlondopgibcikaaDevC
import Derived.Test.YtlondopgibcikaaLaw05
import Derived.Test.YtlondopgibcikaaDevKnown
import Derived.Test.YtlondopgibcikaaDevCrashW
import Derived.Test.YtlondopgibcikaaDevFlushP
import Derived.WalkKit
import Derived.WalkSpells
import Derived.WalkLawsBesides
import Derived.Deep.RegionHeld3
namespace Go.Proofs.Ytlondopgibcikaa
open Go.RowKit Ent

/-- three devices side by side, since a world w1 of B blocks; G: what is none of theirs -/
structure T3 (B : Nat) (w1 w : World) (a b c : Nat) (Fa Fb Fc G : Nat → Prop) (da db dc : Dev) : Prop where
  pa : PDev w a Fa da
  pb : PDev w b Fb db
  pc : PDev w c Fc dc
  la : ∀ k, Fa k → B ≤ k ∧ k < w.heap.size
  lb : ∀ k, Fb k → B ≤ k ∧ k < w.heap.size
  lc : ∀ k, Fc k → B ≤ k ∧ k < w.heap.size
  lg : ∀ k, G k → k < w.heap.size
  ab : ∀ k, Fa k → ¬ Fb k
  ac : ∀ k, Fa k → ¬ Fc k
  bc : ∀ k, Fb k → ¬ Fc k
  ag : ∀ k, Fa k → ¬ G k
  bg : ∀ k, Fb k → ¬ G k
  cg : ∀ k, Fc k → ¬ G k
  bl : B ≤ w.heap.size
  be : Below B w1 w
theorem T3.below {B : Nat} {w1 w w' : World} {a b c : Nat} {Fa Fb Fc G : Nat → Prop} {da db dc : Dev} (h : T3 B w1 w a b c Fa Fb Fc G da db dc) (hb : Below w.heap.size w w') : T3 B w1 w' a b c Fa Fb Fc G da db dc :=
  { h with pa := h.pa.below hb, pb := h.pb.below hb, pc := h.pc.below hb, la := fun k hk => ⟨(h.la k hk).1, Nat.lt_of_lt_of_le (h.la k hk).2 hb.size⟩, lb := fun k hk => ⟨(h.lb k hk).1, Nat.lt_of_lt_of_le (h.lb k hk).2 hb.size⟩, lc := fun k hk => ⟨(h.lc k hk).1, Nat.lt_of_lt_of_le (h.lc k hk).2 hb.size⟩, lg := fun k hk => Nat.lt_of_lt_of_le (h.lg k hk) hb.size, bl := Nat.le_trans h.bl hb.size, be := h.be.trans (hb.mono h.bl) }
/-- turned round -/
theorem T3.turn {B : Nat} {w1 w : World} {a b c : Nat} {Fa Fb Fc G : Nat → Prop} {da db dc : Dev} (h : T3 B w1 w a b c Fa Fb Fc G da db dc) : T3 B w1 w b c a Fb Fc Fa G db dc da :=
  { pa := h.pb, pb := h.pc, pc := h.pa, la := h.lb, lb := h.lc, lc := h.la, lg := h.lg, ab := h.bc, ac := fun k hb ha => h.ab k ha hb, bc := fun k hc ha => h.ac k ha hc, ag := h.bg, bg := h.cg, cg := h.ag, bl := h.bl, be := h.be }
/-- the first one is turned by a call -/
theorem T3.step {B : Nat} {w1 w w' : World} {a b c : Nat} {Fa Fb Fc G : Nat → Prop} {da db dc d' : Dev} (h : T3 B w1 w a b c Fa Fb Fc G da db dc) (hp : PDev w' a (grow Fa w w') d') (hk : Keep Fa w w') : T3 B w1 w' a b c (grow Fa w w') Fb Fc G d' db dc where
  pa := hp
  pb := h.pb.keep hk (fun k hb ha => h.ab k ha hb)
  pc := h.pc.keep hk (fun k hc ha => h.ac k ha hc)
  la := fun k hkk => by
    rcases hkk with h1 | h1
    · exact ⟨(h.la k h1).1, Nat.lt_of_lt_of_le (h.la k h1).2 hk.size⟩
    · exact ⟨Nat.le_trans h.bl h1.1, h1.2⟩
  lb := fun k h1 => ⟨(h.lb k h1).1, Nat.lt_of_lt_of_le (h.lb k h1).2 hk.size⟩
  lc := fun k h1 => ⟨(h.lc k h1).1, Nat.lt_of_lt_of_le (h.lc k h1).2 hk.size⟩
  lg := fun k h1 => Nat.lt_of_lt_of_le (h.lg k h1) hk.size
  ab := fun k hkk hb => by
    rcases hkk with h1 | h1
    · exact h.ab k h1 hb
    · have := (h.lb k hb).2; omega
  ac := fun k hkk hb => by
    rcases hkk with h1 | h1
    · exact h.ac k h1 hb
    · have := (h.lc k hb).2; omega
  bc := h.bc
  ag := fun k hkk hb => by
    rcases hkk with h1 | h1
    · exact h.ag k h1 hb
    · have := h.lg k hb; omega
  bg := h.bg
  cg := h.cg
  bl := Nat.le_trans h.bl hk.size
  be := h.be.trans (hk.belowB h.bl fun k hkB hF => by have := (h.la k hF).1; omega)
/-- something that is none of theirs is written -/
theorem T3.aside {B : Nat} {w1 w w' : World} {a b c : Nat} {Fa Fb Fc G : Nat → Prop} {da db dc : Dev} (h : T3 B w1 w a b c Fa Fb Fc G da db dc) (hk : Keep G w w') (hG : ∀ k, G k → B ≤ k) : T3 B w1 w' a b c Fa Fb Fc G da db dc :=
  { h with pa := h.pa.keep hk h.ag, pb := h.pb.keep hk h.bg, pc := h.pc.keep hk h.cg, la := fun k h1 => ⟨(h.la k h1).1, Nat.lt_of_lt_of_le (h.la k h1).2 hk.size⟩, lb := fun k h1 => ⟨(h.lb k h1).1, Nat.lt_of_lt_of_le (h.lb k h1).2 hk.size⟩, lc := fun k h1 => ⟨(h.lc k h1).1, Nat.lt_of_lt_of_le (h.lc k h1).2 hk.size⟩, lg := fun k h1 => Nat.lt_of_lt_of_le (h.lg k h1) hk.size, bl := Nat.le_trans h.bl hk.size, be := h.be.trans (hk.belowB h.bl fun k hkB hF => by have := hG k hF; omega) }
theorem T3.put {B : Nat} {w1 w : World} {a b c : Nat} {Fa Fb Fc G : Nat → Prop} {da db dc : Dev} (h : T3 B w1 w a b c Fa Fb Fc G da db dc) (i : Int) (x : UInt8) (hlo : da.loose.length ≤ 1073741824) :
    Calls Try.prog 38 #[ptr a, .int .i64 i, .int .u8 x.toNat] w fun e w' => e = .returned (.bool (putB da i x)) ∧ T3 B w1 w' a b c (grow Fa w w') Fb Fc G (putD da i x) db dc ∧ Keep Fa w w' := by
  refine (puts_any i x w h.pa (fun k hk => (h.la k hk).2) hlo).mono ?_
  rintro e w' ⟨he, hp, hk⟩
  exact ⟨he, h.step hp hk, hk⟩
theorem T3.flush {B : Nat} {w1 w : World} {a b c : Nat} {Fa Fb Fc G : Nat → Prop} {da db dc : Dev} (h : T3 B w1 w a b c Fa Fb Fc G da db dc) :
    Calls Try.prog 41 #[ptr a] w fun e w' => e = .returned (.int .i64 da.flush.1) ∧ T3 B w1 w' a b c (grow Fa w w') Fb Fc G da.flush.2 db dc ∧ Keep Fa w w' := by
  refine (lift_flush w h.pa).mono ?_
  rintro e w' ⟨he, hp, hk⟩
  exact ⟨he, h.step (hp.mono fun _ => .inl) hk, hk⟩
theorem T3.fuse {B : Nat} {w1 w : World} {a b c : Nat} {Fa Fb Fc G : Nat → Prop} {da db dc : Dev} (h : T3 B w1 w a b c Fa Fb Fc G da db dc) (n : Int) (b1 : -9223372036854775808 ≤ n) (b2 : n ≤ 9223372036854775807) :
    Calls Try.prog 40 #[ptr a, .int .i64 n] w fun e w' => e = .returned (.int .i64 (da.setFuse n).1) ∧ T3 B w1 w' a b c (grow Fa w w') Fb Fc G (da.setFuse n).2 db dc ∧ Keep Fa w w' := by
  refine (lift_fuse n b1 b2 w h.pa).mono ?_
  rintro e w' ⟨he, hp, hk⟩
  exact ⟨he, h.step (hp.mono fun _ => .inl) hk, hk⟩
theorem T3.crash {B : Nat} {w1 w : World} {a b c : Nat} {Fa Fb Fc G : Nat → Prop} {da db dc : Dev} (h : T3 B w1 w a b c Fa Fb Fc G da db dc) (ko : Option Addr) (kn kc : Nat) (keep : List Bool) (hkn : kn = keep.length) (torn : Int) (hbl : BL w ko keep) (hkF : keep ≠ [] → ∀ x, ko = some x → G x.block) (hkb : kn ≤ 1073741824) (hlo : da.loose.length ≤ 1073741824) :
    Calls Try.prog 39 #[ptr a, .slice ko kn kc, .int .i64 torn] w fun e w' => e = .returned (.int .i64 (da.crash keep torn).1) ∧ T3 B w1 w' a b c (grow Fa w w') Fb Fc G (da.crash keep torn).2 db dc ∧ Keep Fa w w' := by
  refine (lift_crash ko kn kc keep hkn torn w hbl (fun hne x hx hF => h.ag _ hF (hkF hne x hx)) hkb hlo h.pa).mono ?_
  rintro e w' ⟨he, hp, hk⟩
  exact ⟨he, h.step (hp.mono fun _ => .inl) hk, hk⟩
theorem info_bool : ∃ i, Try.prog.info? 4 = some i ∧ i.zero = some (.bool false) ∧ i.size = 1 ∧ i.bytes = 1 := info_parts (P := Try.prog) (by kernel_rfl)
theorem made_bools (n : Nat) : madeCells (Value.cells (.bool false)) (n * 1) = (bbv (List.replicate n false)).toArray := by
  apply Array.ext_getElem?
  intro i
  by_cases hi : i < n
  · simp [madeCells, bbv, hi, Value.cells, Nat.mod_one]
  · rw [Array.getElem?_eq_none (by simp [madeCells]; omega), Array.getElem?_eq_none (by simp [bbv]; omega)]
theorem wpl_makeBools {ops : Array Oper} {rest : List Oper} {o : Oper} {a : Act} {w : World} {Q : Exit → Act → World → Prop} (hgd : o.guard = none) (l c : Operand) (ho : o.op = .makeSlice 49 l c) (n : Nat) (hl : a.eval l = .int .i64 n) (hc : a.eval c = .int .i64 n) (hn : n ≤ 65536)
    (h : ∀ w', Below w.heap.size w w' → Blk w' w.heap.size 4 (bbv (List.replicate n false)) → wpList Try.prog ops Q rest (a.put o.dst (.slice (some ⟨w.heap.size, 0, none⟩) n n)) w') : wpList Try.prog ops Q (o :: rest) a w := by
  obtain ⟨i, hi, hz, hsz, hby⟩ := info_bool
  have hr := run_makeSlice (P := Try.prog) w 49 4 i _ Try.underlying49 hi hz .i64 .i64 (n : Int) (n : Int) (by omega) (by omega) (by rw [hsz]; simp; omega) (by rw [hby]; omega) (by omega)
  rw [hsz, Int.toNat_natCast, made_bools] at hr
  refine wpList_plain hgd fun _ hK => ?_
  unfold Oper.wp execOp
  simp only [ho, hl, hc, hr, Sem.run_bind, Sem.run_pure, Result.andThen_ok]
  exact hK _ _ (h _ (fresh_alloc w _) (alloc_new w _))
/-- three devices and a row of bools beside them -/
def E3 (B : Nat) (w1 w : World) (a b c g : Nat) (l : List Bool) (da db dc : Dev) : Prop := ∃ Fa Fb Fc, T3 B w1 w a b c Fa Fb Fc (fun k => k = g) da db dc ∧ Blk w g 4 (bbv l) ∧ B ≤ g
theorem E3.turn {B : Nat} {w1 w : World} {a b c g : Nat} {l : List Bool} {da db dc : Dev} (h : E3 B w1 w a b c g l da db dc) : E3 B w1 w b c a g l db dc da := by
  obtain ⟨Fa, Fb, Fc, h, hg, hB⟩ := h; exact ⟨Fb, Fc, Fa, h.turn, hg, hB⟩
theorem E3.below {B : Nat} {w1 w w' : World} {a b c g : Nat} {l : List Bool} {da db dc : Dev} (h : E3 B w1 w a b c g l da db dc) (hb : Below w.heap.size w w') : E3 B w1 w' a b c g l da db dc := by
  obtain ⟨Fa, Fb, Fc, h, hg, hB⟩ := h; exact ⟨Fa, Fb, Fc, h.below hb, hg.below hb hg.lt, hB⟩
theorem E3.put {B : Nat} {w1 w : World} {a b c g : Nat} {l : List Bool} {da db dc : Dev} (h : E3 B w1 w a b c g l da db dc) (i : Int) (x : UInt8) (hlo : da.loose.length ≤ 1073741824) :
    Calls Try.prog 38 #[ptr a, .int .i64 i, .int .u8 x.toNat] w fun e w' => e = .returned (.bool (putB da i x)) ∧ E3 B w1 w' a b c g l (putD da i x) db dc := by
  obtain ⟨Fa, Fb, Fc, h, hg, hB⟩ := h
  refine (h.put i x hlo).mono ?_
  rintro e w' ⟨he, ht, hk⟩
  exact ⟨he, _, _, _, ht, hg.keep hk (fun hF => h.ag _ hF rfl), hB⟩
theorem E3.flush {B : Nat} {w1 w : World} {a b c g : Nat} {l : List Bool} {da db dc : Dev} (h : E3 B w1 w a b c g l da db dc) :
    Calls Try.prog 41 #[ptr a] w fun e w' => e = .returned (.int .i64 da.flush.1) ∧ E3 B w1 w' a b c g l da.flush.2 db dc := by
  obtain ⟨Fa, Fb, Fc, h, hg, hB⟩ := h
  refine h.flush.mono ?_
  rintro e w' ⟨he, ht, hk⟩
  exact ⟨he, _, _, _, ht, hg.keep hk (fun hF => h.ag _ hF rfl), hB⟩
theorem E3.crash {B : Nat} {w1 w : World} {a b c g : Nat} {l : List Bool} {da db dc : Dev} (h : E3 B w1 w a b c g l da db dc) (n : Nat) (hn : n = l.length) (torn : Int) (hkb : n ≤ 1073741824) (hlo : da.loose.length ≤ 1073741824) :
    Calls Try.prog 39 #[ptr a, .slice (some ⟨g, 0, none⟩) n n, .int .i64 torn] w fun e w' => e = .returned (.int .i64 (da.crash l torn).1) ∧ E3 B w1 w' a b c g l (da.crash l torn).2 db dc := by
  obtain ⟨Fa, Fb, Fc, h, hg, hB⟩ := h
  refine (h.crash _ _ _ l hn torn (.inr ⟨g, 0, rfl, fun j v hv => by rw [Nat.zero_add]; exact hg.cell hv⟩) (fun _ x hx => by cases hx; rfl) hkb hlo).mono ?_
  rintro e w' ⟨he, ht, hk⟩
  exact ⟨he, _, _, _, ht, hg.keep hk (fun hF => h.ag _ hF rfl), hB⟩
theorem E3.crash0 {B : Nat} {w1 w : World} {a b c g : Nat} {l : List Bool} {da db dc : Dev} (h : E3 B w1 w a b c g l da db dc) (torn : Int) (hlo : da.loose.length ≤ 1073741824) :
    Calls Try.prog 39 #[ptr a, .slice none 0 0, .int .i64 torn] w fun e w' => e = .returned (.int .i64 (da.crash [] torn).1) ∧ E3 B w1 w' a b c g l (da.crash [] torn).2 db dc := by
  obtain ⟨Fa, Fb, Fc, h, hg, hB⟩ := h
  refine (h.crash none 0 0 [] rfl torn (.inl rfl) (fun hne => absurd rfl hne) (by omega) hlo).mono ?_
  rintro e w' ⟨he, ht, hk⟩
  exact ⟨he, _, _, _, ht, hg.keep hk (fun hF => h.ag _ hF rfl), hB⟩
theorem E3.start {B : Nat} {w1 w w' : World} {a b c : Nat} {Fa Fb Fc : Nat → Prop} {l : List Bool} {da db dc : Dev} (h : T3 B w1 w a b c Fa Fb Fc (fun _ => False) da db dc) (hb : Below w.heap.size w w') (hg : Blk w' w.heap.size 4 (bbv l)) : E3 B w1 w' a b c w.heap.size l da db dc := by
  have h' := h.below hb
  refine ⟨Fa, Fb, Fc, { h' with lg := fun k hk => by have := hg.lt; omega, ag := fun k hk e => by have := (h.la k hk).2; omega, bg := fun k hk e => by have := (h.lb k hk).2; omega, cg := fun k hk e => by have := (h.lc k hk).2; omega }, hg, h.bl⟩
theorem E3.b {B : Nat} {w1 w : World} {a b c g : Nat} {l : List Bool} {da db dc : Dev} (h : E3 B w1 w a b c g l da db dc) : Below B w1 w := by
  obtain ⟨Fa, Fb, Fc, h, hg, hB⟩ := h; exact h.be
theorem E3.cell {B : Nat} {w1 w : World} {a b c g : Nat} {l : List Bool} {da db dc : Dev} (h : E3 B w1 w a b c g l da db dc) {k : Nat} {x : Bool} (hx : l[k]? = some x) : w.cell? ⟨g, k, none⟩ = some (.bool x) := by
  obtain ⟨Fa, Fb, Fc, h, hg, hB⟩ := h; exact hg.cell (by rw [bbv_get, hx]; rfl)
theorem E3.free {B : Nat} {w1 w : World} {a b c g : Nat} {l : List Bool} {da db dc : Dev} (h : E3 B w1 w a b c g l da db dc) (k : Nat) : w.frozen? ⟨g, k, none⟩ = false := by
  obtain ⟨Fa, Fb, Fc, h, hg, hB⟩ := h; exact hg.free k
theorem E3.set {B : Nat} {w1 w : World} {a b c g : Nat} {l : List Bool} {da db dc : Dev} (h : E3 B w1 w a b c g l da db dc) (k : Nat) (x : Bool) : E3 B w1 (w.setCell ⟨g, k, none⟩ (.bool x)) a b c g (l.set k x) da db dc := by
  obtain ⟨Fa, Fb, Fc, h, hg, hB⟩ := h
  refine ⟨Fa, Fb, Fc, h.aside ((Keep.refl (fun k => k = g) w).setCell (p := ⟨g, k, none⟩) rfl _) (fun k e => by rw [e]; exact hB), ?_, hB⟩
  have := hg.set k (.bool x)
  rwa [show (bbv l).set k (.bool x) = bbv (l.set k x) by simp [bbv, List.map_set]] at this
theorem bools_step (k sm : Nat) (h : k < sm) : (List.replicate k true ++ List.replicate (sm - k) false).set k true = List.replicate (k + 1) true ++ List.replicate (sm - (k + 1)) false := by
  apply List.ext_getElem?
  intro j
  rw [List.getElem?_set]
  by_cases hj : k = j
  · subst hj
    rw [if_pos rfl, if_pos (by simp; omega), List.getElem?_append_left (by simp), List.getElem?_replicate, if_pos (by omega)]
  · rw [if_neg hj]
    by_cases h1 : j < k
    · rw [List.getElem?_append_left (by simpa using h1), List.getElem?_append_left (by simp; omega), List.getElem?_replicate, List.getElem?_replicate, if_pos h1, if_pos (by omega)]
    · rw [List.getElem?_append_right (by simp; omega), List.getElem?_append_right (by simp; omega), List.getElem?_replicate, List.getElem?_replicate, List.length_replicate, List.length_replicate]
      by_cases h2 : j < sm
      · rw [if_pos (by omega), if_pos (by omega)]
      · rw [if_neg (by omega), if_neg (by omega)]
theorem c_loose (ats : List Nat) (f k : Nat) (h : f ≤ 1073741824 ∧ k ≤ 1073741824) : (dC ats f k).loose.length ≤ 1073741824 := by
  unfold dC; split
  · show (wl ats k).length ≤ _; rw [wl_len]; exact h.2
  · show (wl ats f).length ≤ _; rw [wl_len]; exact h.1
theorem c_fuse (ats : List Nat) (f : Nat) : (Dev.new 6).setFuse (f : Int) = (0, dC ats f 0) := by
  unfold Dev.setFuse dC
  rw [if_neg (by simp [Dev.new]), if_neg (by omega), if_pos (by omega)]
  simp [Dev.new, wl]
theorem E3.out {B : Nat} {w1 w : World} {a b c g : Nat} {l : List Bool} {da db dc : Dev} (h : E3 B w1 w a b c g l da db dc) :
    Calls Try.prog 42 #[ptr a] w fun e w' => e = .returned (.bool da.out) ∧ w' = w := by
  obtain ⟨Fa, Fb, Fc, h, hg, hB⟩ := h; exact lift_out w h.pa
theorem E3.image {B : Nat} {w1 w : World} {a b c g : Nat} {l : List Bool} {da db dc : Dev} (h : E3 B w1 w a b c g l da db dc) (i : Int) :
    Calls Try.prog 51 #[ptr a, .int .i64 i] w fun e w' => ∃ ao cap, e = .returned (.tuple #[.slice ao (da.image i).1.length cap, .int .i64 (da.image i).2]) ∧ SB w' ao cap (da.image i).1 ∧ Below w.heap.size w w' := by
  obtain ⟨Fa, Fb, Fc, h, hg, hB⟩ := h
  refine (lift_image i w h.pa).mono ?_
  rintro e w' ⟨v, he, ⟨ao, cap, rfl, _, hs, _⟩, hb⟩
  exact ⟨ao, cap, he, hs, hb⟩
theorem E3.images {B : Nat} {w1 w : World} {a b c g : Nat} {l : List Bool} {da db dc : Dev} (h : E3 B w1 w a b c g l da db dc) (i : Int) (x : UInt8) (n : Nat) (hn : n ≤ 64) (y : UInt8) :
    Calls Try.prog 44 #[ptr a, .int .i64 i, .int .u8 x.toNat, .int .i64 n, .int .u8 y.toNat] w fun e w' => e = .returned (.bool (imageB da i x n y)) ∧ Below w.heap.size w w' := by
  obtain ⟨Fa, Fb, Fc, h, hg, hB⟩ := h; exact images_any i x n hn y w h.pa
-- WALK
set_option maxRecDepth 100000 in
set_option maxHeartbeats 2000000 in
theorem deviceFlush_walk (so : Option Addr) (sm sc : Nat) (since : List Int) (fuse : Int) (w : World)
    (hf : -9223372036854775808 ≤ fuse ∧ fuse ≤ 9223372036854775807) (hsm : sm = since.length) (hsmx : sm ≤ 9223372036854775807) (hsi : IL w so since) (hsr : ∀ s ∈ since, -9223372036854775808 ≤ s ∧ s ≤ 9223372036854775807) :
    Calls Try.prog 9 #[.slice so sm sc, .int .i64 fuse] w fun e w' => e = .returned (.bool true) ∧ Below w.heap.size w w' := by
  have HSM := hid hsm
  clear hsm
  obtain ⟨f, hf40, ef⟩ := pick_nat fuse 40 (by omega)
  have EF := hid ef
  obtain ⟨ats, hats⟩ : ∃ ats : List Nat, ats = since.map (fun s => (s % (6 : Int)).toNat) := ⟨_, rfl⟩
  have HATS := hid hats
  clear ef hats
  by_cases hbs : 30 < sm
  · go_enter Try.func9, Try.ntmps9
    go_wp2_with fail
    refine (known5_any w).mono ?_
    rintro e w1 ⟨rfl, hb1⟩
    have HB := hid hb1
    clear hb1
    go_wp2
    go_ret
    exact ⟨rfl, HB.out⟩
  have hs30 : sm ≤ 30 := by omega
  clear hbs
  go_enter Try.func9, Try.ntmps9
  go_wp2_with fail
  refine (known5_any w).mono ?_
  rintro e w1 ⟨rfl, hb1⟩
  have HB := hid hb1
  have HSI := hid (hsi.below hb1)
  clear hb1
  go_wp2_with fail
  refine (pick_any fuse 40 (by omega) (by omega) hf.1 hf.2 w1).mono ?_
  rintro e w' ⟨rfl, rfl⟩
  rw [show fuse % 40 = (f : Int) from EF.out]
  go_wp2_with fail
  refine (new_any 6 (by omega) (by omega) w1).mono ?_
  rintro e w2 ⟨a, rfl, hpa, hba⟩
  have HPA := hid hpa; have HBA := hid hba
  clear hpa hba
  unfold ptr
  go_wp2_with fail
  refine (new_any 6 (by omega) (by omega) w2).mono ?_
  rintro e w3 ⟨b, rfl, hpb, hbb⟩
  have HPB := hid hpb; have HBB := hid hbb
  clear hpb hbb
  unfold ptr
  go_wp2_with fail
  refine (new_any 6 (by omega) (by omega) w3).mono ?_
  rintro e w4 ⟨c, rfl, hpc, hbc⟩
  have HT : Hid (T3 w1.heap.size w1 w4 a b c (fun k => w1.heap.size ≤ k ∧ k < w2.heap.size) (fun k => w2.heap.size ≤ k ∧ k < w3.heap.size) (fun k => w3.heap.size ≤ k ∧ k < w4.heap.size) (fun _ => False) (Dev.new 6) (Dev.new 6) (Dev.new 6)) := by
    have l1 := HBA.out.size; have l2 := HBB.out.size; have l3 := hbc.size
    exact { pa := (HPA.out.below HBB.out).below hbc, pb := HPB.out.below hbc, pc := hpc, la := fun k hk => ⟨hk.1, by omega⟩, lb := fun k hk => ⟨by omega, by omega⟩, lc := fun k hk => ⟨by omega, by omega⟩, lg := fun k hk => hk.elim, ab := fun k h1 h2 => by omega, ac := fun k h1 h2 => by omega, bc := fun k h1 h2 => by omega, ag := fun k _ h => h, bg := fun k _ h => h, cg := fun k _ h => h, bl := by omega, be := th (th HBA.out HBB.out) hbc }
  clear hpc hbc
  unfold ptr
  go_wp2_with fail
  refine (HT.out.turn.turn.fuse f (by omega) (by omega)).mono ?_
  rintro e w5 ⟨rfl, ht5, hk5⟩
  rw [c_fuse ats f] at ht5 ⊢
  have H5 := hid ht5.turn
  clear ht5 hk5
  go_wp2_with (refine wpl_makeBools rfl (.tmp 68) (.tmp 68) rfl sm rfl rfl (by omega) ?_; intro w6 hb6 hg6; have HE : Hid (E3 w1.heap.size w1 w6 a b c w5.heap.size (List.replicate sm false) (dA ats 0) (dA ats 0) (dC ats f 0)) := hid (E3.start H5.out hb6 hg6); clear hb6 hg6)
  go_loopw [13] (fun i wr => ∃ k : Nat, k ≤ sm ∧ i = .int .i64 k ∧ E3 w1.heap.size w1 wr a b c w5.heap.size (List.replicate k true ++ List.replicate (sm - k) false) (dA ats k) (dA ats k) (dC ats f k)) (fun i _ => sm - (intOf i).toNat)
  case atStart => exact ⟨0, Nat.zero_le _, rfl, by simpa using HE.out⟩
  case round =>
    obtain ⟨k, hk, rfl, he⟩ := hrel
    have HE := hid he
    clear he
    by_cases hlt : k < sm
    · obtain ⟨x2, hx2⟩ : ∃ x2, since[k]? = some x2 := ⟨_, List.getElem?_eq_getElem (by rw [← HSM.out]; exact hlt)⟩
      obtain ⟨sb, sof, rfl, hcs⟩ := (HSI.out.below HE.out.b).at hx2
      have HXR := hid (hsr x2 (List.mem_of_getElem? hx2))
      obtain ⟨q, hq⟩ : ∃ q : Nat, q = ats.getD k 0 := ⟨_, rfl⟩
      have hqv : q = (x2 % (6 : Int)).toNat := by rw [hq, HATS.out]; simp [List.getD, hx2]
      have HQ : Hid (x2 % 6 = (q : Int)) := hid (by omega)
      have hqn : q < 6 := by omega
      have HQA := hid hq
      have HCV : Hid (((k : Int) + 1) = ((UInt8.ofNat (k + 1)).toNat : Int)) := hid (by simp; omega)
      have HPA := hid (put_a ats k (by rw [← hq]; exact hqn))
      have HPC := hid (put_c ats f k (by rw [← hq]; exact hqn))
      rw [← hq] at HPA HPC
      have hcg : wr.cell? ⟨w5.heap.size, k, none⟩ = some (.bool false) := HE.out.cell (by rw [List.getElem?_append_right (by simp), List.length_replicate, Nat.sub_self, List.getElem?_replicate, if_pos (by omega)])
      have hfg := HE.out.free k
      have HE2 := hid (HE.out.set k true)
      rw [show (List.replicate k true ++ List.replicate (sm - k) false).set k true = List.replicate (k + 1) true ++ List.replicate (sm - (k + 1)) false from bools_step k sm hlt] at HE2
      clear hq hqv hx2
      by_cases hkf : k < f
      all_goals
        go_wp2_with fail
        refine (pick_any x2 6 (by omega) (by omega) HXR.out.1 HXR.out.2 wr).mono ?_
        rintro e w' ⟨rfl, rfl⟩
        rw [HQ.out]
        go_wp2_with fail
        rw [HCV.out]
        refine (HE2.out.put q (UInt8.ofNat (k + 1)) (by show (wl ats k).length ≤ _; rw [wl_len]; omega)).mono ?_
        rintro e w7 ⟨rfl, he7⟩
        rw [HPA.out.1]
        rw [HPA.out.2] at he7
        have H7 := hid he7.turn
        clear he7
        go_wp2_with fail
        rw [HCV.out]
        refine (H7.out.put q (UInt8.ofNat (k + 1)) (by show (wl ats k).length ≤ _; rw [wl_len]; omega)).mono ?_
        rintro e w8 ⟨rfl, he8⟩
        rw [HPA.out.1]
        rw [HPA.out.2] at he8
        have H8 := hid he8.turn
        clear he8
        go_wp2_with fail
        rw [HCV.out]
        refine (H8.out.put q (UInt8.ofNat (k + 1)) (c_loose ats f k (by omega))).mono ?_
        rintro e w9 ⟨rfl, he9⟩
        rw [HPC.out.1]
        rw [HPC.out.2] at he9
        have H9 := hid he9.turn
        clear he9
        simp only [hkf, decide_true, decide_false]
        go_wp2
        go_roundw
        case rel => exact ⟨k + 1, by omega, by go_num, H9.out⟩
        case measure => simp [intOf]; omega
    · have hk8 : sm = k := by omega
      subst hk8
      have HE1 : Hid (E3 w1.heap.size w1 wr a b c w5.heap.size (List.replicate sm true) (dA ats sm) (dA ats sm) (dC ats f sm)) := hid (by have := HE.out; rwa [Nat.sub_self, List.replicate_zero, List.append_nil] at this)
      by_cases hfs : f < sm
      all_goals
        go_wp2_with fail
        refine HE1.out.flush.mono ?_
        rintro e w6 ⟨rfl, he6⟩
        rw [a_flush] at he6 ⊢
        have H6 := hid he6.turn
        clear he6
        go_wp2_with fail
        refine (H6.out.crash sm (by simp) 0 (by omega) (by show (wl ats sm).length ≤ _; rw [wl_len]; omega)).mono ?_
        rintro e w7 ⟨rfl, he7⟩
        rw [b_crash] at he7 ⊢
        have H7 := hid he7.turn
        clear he7
        go_wp2_with fail
        refine H7.out.out.mono ?_
        rintro e w' ⟨rfl, rfl⟩
        rw [c_out]
        simp only [hfs, decide_true, decide_false]
        go_wp2_with fail
        refine (H7.out.crash0 0 (c_loose ats f sm (by omega))).mono ?_
        rintro e w8 ⟨rfl, he8⟩
        rw [(c_crash ats f sm).2] at he8
        rw [(c_crash ats f sm).1]
        have H8 := hid he8.turn
        clear he8
        go_wp2_with fail
        go_loopw [15] (fun i wr => ∃ k : Nat, k ≤ 6 ∧ i = .int .i64 k ∧ Below w8.heap.size w8 wr) (fun i _ => 6 - (intOf i).toNat)
        case atStart => exact ⟨0, Nat.zero_le _, rfl, Below.refl _ _⟩
        case round =>
          obtain ⟨k, hk, rfl, hb9⟩ := hrel
          have HB9 := hid hb9
          have H9 := hid (H8.out.below hb9)
          clear hb9
          by_cases hlt : k < 6
          · have HIM := hid (f_image ats sm k hlt)
            have HIC := hid (c_image k hlt)
            go_wp2_with fail
            refine (H9.out.image k).mono ?_
            rintro e w10 ⟨x1, x2, rfl, hs10, hb10⟩
            have HB10 := hid hb10
            have HS10 := hid hs10
            have H10 := hid (H9.out.below hb10).turn
            clear hb10 hs10
            rw [HIM.out]
            go_wp2_with fail
            refine (H10.out.image k).mono ?_
            rintro e w11 ⟨y1, y2, rfl, hs11, hb11⟩
            have HB11 := hid hb11
            have HS10 := hid (HS10.out.below hb11)
            have HS11 := hid hs11
            have H11 := hid (H10.out.below hb11).turn
            clear hb11 hs11
            rw [HIM.out]
            go_wp2_with fail
            refine (same_any x1 y1 _ _ x2 y2 _ _ rfl rfl w11 HS10.out HS11.out).mono ?_
            rintro e w' ⟨rfl, rfl⟩
            rw [same_self]
            go_wp2_with fail
            refine (H11.out.images k 0 64 (by omega) 0).mono ?_
            rintro e w12 ⟨rfl, hb12⟩
            have HB12 := hid (th (th (th HB9.out HB10.out) HB11.out) hb12)
            clear hb12
            rw [HIC.out]
            go_wp2
            go_roundw
            case rel => exact ⟨k + 1, by omega, by go_num, HB12.out⟩
            case measure => simp [intOf]; omega
          · go_wp2
            go_ret
            exact ⟨rfl, th HB.out (th H8.out.b HB9.out)⟩
end Go.Proofs.Ytlondopgibcikaa
