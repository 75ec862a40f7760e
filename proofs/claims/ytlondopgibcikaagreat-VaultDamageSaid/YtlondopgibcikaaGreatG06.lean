/- The walk of Crash. -/
import Derived.Test.YtlondopgibcikaaGreatRows
import Derived.Test.YtlondopgibcikaaGreatG01
import Derived.Test.YtlondopgibcikaaGreatG02
import Derived.Test.YtlondopgibcikaaGreatG03
import Derived.Test.YtlondopgibcikaaGreatG04
import Derived.Test.YtlondopgibcikaaGreatG05
import Derived.WalkKit
import Derived.WalkSpells
import Derived.WalkLawsBesides
import Derived.Deep.RegionHeld3
namespace Go.Proofs.YtlondopgibcikaaGreat
open Go.RowKit Ent
def bbv (l : List Bool) : List Value := l.map Value.bool
theorem bbv_get (l : List Bool) (i : Nat) : (bbv l)[i]? = (l[i]?).map Value.bool := by simp [bbv]
/-- bools that may be read -/
def BL (w : World) (ao : Option Addr) (l : List Bool) : Prop := l = [] ∨ ∃ b o, ao = some ⟨b, o, none⟩ ∧ w.rangeAt b o (bbv l)
theorem BL.keep {w w' : World} {F : Nat → Prop} {ao : Option Addr} {l : List Bool} (h : BL w ao l) (hk : Keep F w w') (hF : l ≠ [] → ∀ a, ao = some a → ¬ F a.block) : BL w' ao l := by
  rcases h with h | ⟨b, o, rfl, h⟩
  · exact .inl h
  · by_cases hl : l = []
    · exact .inl hl
    · exact .inr ⟨b, o, rfl, hk.range h (hF hl _ rfl)⟩
theorem BL.below {w w' : World} {ao : Option Addr} {l : List Bool} (h : BL w ao l) (hb : Below w.heap.size w w') : BL w' ao l := h.keep (Keep.ofBelow (F := fun _ => False) hb) (fun _ _ _ => id)
theorem kept_snoc (keep : List Bool) (x : Nat × List UInt8) : ∀ (l : List (Nat × List UInt8)) (s : Nat), keptOf keep s (l ++ [x]) = keptOf keep s l ++ (if keep[s + l.length]? = some true then [x] else [])
  | [], s => by simp [keptOf]
  | y :: l, s => by
    simp only [List.cons_append, keptOf, List.length_cons, kept_snoc keep x l (s + 1)]
    rw [show s + 1 + l.length = s + (l.length + 1) by omega]
    by_cases h : keep[s]? = some true
    · rw [if_pos h, if_pos h]; rfl
    · rw [if_neg h, if_neg h]
theorem last_snoc (keep : List Bool) (x : Nat × List UInt8) : ∀ (l : List (Nat × List UInt8)) (s : Nat), lastOf keep s (l ++ [x]) = if keep[s + l.length]? = some true then lastOf keep s l else some x
  | [], s => by simp [lastOf]
  | y :: l, s => by
    simp only [List.cons_append, lastOf, List.length_cons, last_snoc keep x l (s + 1)]
    rw [show s + 1 + l.length = s + (l.length + 1) by omega]
    by_cases h : keep[s + (l.length + 1)]? = some true
    · rw [if_pos h, if_pos h]
    · rw [if_neg h, if_neg h]
theorem kept_sub (keep : List Bool) (x : Nat × List UInt8) : ∀ (l : List (Nat × List UInt8)) (s : Nat), x ∈ keptOf keep s l → x ∈ l
  | [], s, h => by simp [keptOf] at h
  | y :: l, s, h => by
    unfold keptOf at h
    split at h
    · rcases List.mem_cons.1 h with rfl | h
      · simp
      · exact List.mem_cons_of_mem _ (kept_sub keep x l _ h)
    · exact List.mem_cons_of_mem _ (kept_sub keep x l _ h)
theorem lw_at {l : List (Nat × List UInt8)} (h : ∀ x ∈ l, x.2.length = 64) {i : Nat} {x : Nat × List UInt8} (hi : l[i]? = some x) (j : Nat) (hj : j < 65) : (lw l)[i * 65 + j]? = (wcells x)[j]? := by
  induction l generalizing i with
  | nil => simp at hi
  | cons y l ih =>
    have hy : (wcells y).length = 65 := wcells_len (h y (by simp))
    have e : lw (y :: l) = wcells y ++ lw l := by simp [lw, wcells]
    rw [e]
    match i with
    | 0 =>
      simp at hi; subst hi
      rw [List.getElem?_append_left (by omega)]; simp
    | i + 1 =>
      simp at hi
      rw [List.getElem?_append_right (by omega), show (i + 1) * 65 + j - (wcells y).length = i * 65 + j by omega]
      exact ih (fun x hx => h x (by simp [hx])) hi
theorem loose_range {w : World} {vl : Value} {l : List (Nat × List UInt8)} (h : w.ownsRow 0 84 65 vl l.length (lw l)) (h64 : ∀ x ∈ l, x.2.length = 64) {i : Nat} {x : Nat × List UInt8} (hi : l[i]? = some x) :
    ∃ gl c, vl = .slice (some ⟨gl, 0, none⟩) l.length c ∧ w.rangeAt gl (i * 65) (wcells x) := by
  have hil := (List.getElem?_eq_some_iff.1 hi).1
  rcases h.2 with ⟨_, h0⟩ | ⟨g, c, cur, rfl, _, hh, _, _, _, ht⟩
  · omega
  · refine ⟨g, c, rfl, fun j v hv => ?_⟩
    have hj : j < 65 := by
      have := (List.getElem?_eq_some_iff.1 hv).1
      rw [wcells_len (h64 x (List.mem_of_getElem? hi))] at this; exact this
    rw [← lw_at h64 hi j hj, ← ht, List.getElem?_take] at hv
    split at hv
    · exact cell_blk hh (by simpa using hv)
    · cases hv
/-- a device's memory, while it falls: the image is L -/
structure PR (w : World) (a gi gn : Nat) (vl lets : Value) (left : Int) (F : Nat → Prop) (n : Nat) (out : Bool) (L N : List (List UInt8)) (l : List (Nat × List UInt8)) : Prop where
  hd : Blk w a 60 (head6 gi gn n vl lets left out)
  im : Blk w gi 82 (bv L.flatten)
  nw : Blk w gn 82 (bv N.flatten)
  lo : w.ownsRow 0 84 65 vl l.length (lw l)
  s64 : S64 L
  n64 : S64 N
  ll : L.length = n
  nl : N.length = n
  l64 : ∀ x ∈ l, x.1 < n ∧ x.2.length = 64
  ai : a ≠ gi
  an : a ≠ gn
  gg : gi ≠ gn
  fa : F a
  fi : F gi
  fn : F gn
  fl : ∀ k, vl.ownBlock = some k → F k ∧ k ≠ a ∧ k ≠ gi ∧ k ≠ gn
theorem PD.raw {w : World} {a gi gn : Nat} {vl lets : Value} {left : Int} {F : Nat → Prop} {d : Dev} (h : PD w a gi gn vl lets left F d) : PR w a gi gn vl lets left F d.img.length d.out d.img d.now d.loose :=
  { hd := h.hd, im := h.im, nw := h.nw, lo := h.lo, s64 := h.ok.s64, n64 := h.ok.now64, ll := rfl, nl := d.now_len, l64 := h.ok.lo, ai := h.ai, an := h.an, gg := h.gg, fa := h.fa, fi := h.fi, fn := h.fn, fl := h.fl }
theorem PR.keep {w w' : World} {a gi gn : Nat} {vl lets : Value} {left : Int} {F G : Nat → Prop} {n : Nat} {out : Bool} {L N : List (List UInt8)} {l : List (Nat × List UInt8)} (h : PR w a gi gn vl lets left F n out L N l) (hk : Keep G w w') (hG : ∀ k, F k → ¬ G k) : PR w' a gi gn vl lets left F n out L N l :=
  { h with hd := h.hd.keep hk (hG _ h.fa), im := h.im.keep hk (hG _ h.fi), nw := h.nw.keep hk (hG _ h.fn), lo := owns_keep h.lo hk fun k hk' => hG k (h.fl k hk').1 }
theorem PR.below {w w' : World} {a gi gn : Nat} {vl lets : Value} {left : Int} {F : Nat → Prop} {n : Nat} {out : Bool} {L N : List (List UInt8)} {l : List (Nat × List UInt8)} (h : PR w a gi gn vl lets left F n out L N l) (hb : Below w.heap.size w w') : PR w' a gi gn vl lets left F n out L N l :=
  h.keep (Keep.ofBelow (F := fun _ => False) hb) (fun _ _ => id)
theorem PR.drew {w : World} {a gi gn : Nat} {vl lets : Value} {left : Int} {F : Nat → Prop} {n : Nat} {out : Bool} {L N : List (List UInt8)} {l : List (Nat × List UInt8)} (h : PR w a gi gn vl lets left F n out L N l) : PR w.drew a gi gn vl lets left F n out L N l :=
  h.keep (Keep.refl (fun _ => False) w).drew (fun _ _ => id)
/-- cells of one sector of the image written anew -/
theorem PR.imaged {w : World} {a gi gn : Nat} {vl lets : Value} {left : Int} {F : Nat → Prop} {n : Nat} {out : Bool} {L N : List (List UInt8)} {l : List (Nat × List UInt8)} (h : PR w a gi gn vl lets left F n out L N l) {i : Nat} (hi : i < n) {s c : List UInt8} (hs : L[i]? = some s) (hc : c.length ≤ 64) :
    PR (w.setCells gi (i * 64) (bv c)) a gi gn vl lets left F n out (L.set i (c ++ s.drop c.length)) N l := by
  have hk : Keep (fun k => k = gi) w (w.setCells gi (i * 64) (bv c)) := Keep.setCells (F := fun k => k = gi) (g := gi) rfl _ _ (Keep.refl _ w)
  have h64 := h.s64.get hs
  have hb : (c ++ s.drop c.length).length = 64 := by simp; omega
  have him : Blk (w.setCells gi (i * 64) (bv c)) gi 82 (bv (L.set i (c ++ s.drop c.length)).flatten) := by
    have := h.im.setCells (bv c) _ (i * 64) (by rw [bv_length, bv_length, h.s64.len, h.ll]; omega)
    rw [h.s64.flat_set (by rw [h.ll]; exact hi), show 64 * i = i * 64 by omega]
    have e : L.flatten.drop (i * 64 + c.length) = s.drop c.length ++ L.flatten.drop (i * 64 + 64) := by
      apply List.ext_getElem?
      intro j
      rw [List.getElem?_drop]
      by_cases hj : c.length + j < 64
      · rw [List.getElem?_append_left (by simp; omega), List.getElem?_drop, ← h.s64.at hs (c.length + j) hj]
        congr 1; omega
      · rw [List.getElem?_append_right (by simp; omega), List.getElem?_drop]
        congr 1; simp; omega
    rw [bv_length] at this
    have e2 : (bv L.flatten).take (i * 64) ++ bv c ++ (bv L.flatten).drop (i * 64 + c.length) = bv (L.flatten.take (i * 64) ++ (c ++ s.drop c.length) ++ L.flatten.drop (i * 64 + 64)) := by
      have : (bv L.flatten).drop (i * 64 + c.length) = bv (L.flatten.drop (i * 64 + c.length)) := by simp [bv, List.map_drop]
      rw [this, e]
      simp [bv, List.map_take]
    rwa [e2] at this
  exact { h with hd := h.hd.keep hk h.ai, im := him, nw := h.nw.keep hk (Ne.symm h.gg), lo := owns_keep h.lo hk fun k hk' => (h.fl k hk').2.2.1, s64 := h.s64.set i hb, ll := by simp [h.ll] }
/-- what is behind k writes -/
structure CrashAt (d : Dev) (keep : List Bool) (k : Nat) (last : Int) (L : List (List UInt8)) : Prop where
  le : k ≤ d.loose.length
  im : L = laidOver d.img (keptOf keep 0 (d.loose.take k))
  la : (last = -1 ∧ lastOf keep 0 (d.loose.take k) = none) ∨ ∃ j : Nat, last = (j : Int) ∧ j < k ∧ lastOf keep 0 (d.loose.take k) = d.loose[j]?
theorem CrashAt.start (d : Dev) (keep : List Bool) : CrashAt d keep 0 (-1) d.img := ⟨Nat.zero_le _, by simp [keptOf, laidOver], .inl ⟨rfl, by simp [lastOf]⟩⟩
theorem CrashAt.kept {d : Dev} {keep : List Bool} {k : Nat} {last : Int} {L : List (List UInt8)} (h : CrashAt d keep k last L) {x : Nat × List UInt8} (hx : d.loose[k]? = some x) (hk : keep[k]? = some true) : CrashAt d keep (k + 1) last (L.set x.1 x.2) := by
  have hl := (List.getElem?_eq_some_iff.1 hx).1
  have ht : d.loose.take (k + 1) = d.loose.take k ++ [x] := by rw [List.take_add_one, hx]; rfl
  have hlen : 0 + (d.loose.take k).length = k := by simp; omega
  refine ⟨by omega, ?_, ?_⟩
  · rw [ht, kept_snoc, hlen, if_pos hk, laid_snoc, ← h.im]
  · rw [ht, last_snoc, hlen, if_pos hk]
    exact h.la.imp id fun ⟨j, h1, h2, h3⟩ => ⟨j, h1, by omega, h3⟩
theorem CrashAt.lost {d : Dev} {keep : List Bool} {k : Nat} {last : Int} {L : List (List UInt8)} (h : CrashAt d keep k last L) {x : Nat × List UInt8} (hx : d.loose[k]? = some x) (hk : ¬ keep[k]? = some true) : CrashAt d keep (k + 1) (k : Int) L := by
  have hl := (List.getElem?_eq_some_iff.1 hx).1
  have ht : d.loose.take (k + 1) = d.loose.take k ++ [x] := by rw [List.take_add_one, hx]; rfl
  have hlen : 0 + (d.loose.take k).length = k := by simp; omega
  refine ⟨by omega, ?_, ?_⟩
  · rw [ht, kept_snoc, hlen, if_neg hk, List.append_nil]; exact h.im
  · rw [ht, last_snoc, hlen, if_neg hk]
    exact .inr ⟨k, rfl, by omega, hx.symm⟩
theorem crash_bad (d : Dev) (keep : List Bool) (torn : Int) (h : torn < 0 ∨ 64 ≤ torn) : d.crash keep torn = (2, d) := by unfold Dev.crash; rw [if_pos h]
theorem crash_good (d : Dev) (keep : List Bool) (t : Nat) (h : t < 64) {last : Int} {L : List (List UInt8)} (hc : CrashAt d keep d.loose.length last L) :
    d.crash keep t = (0, { img := tornIn L (lastOf keep 0 d.loose) t, loose := [], fuse := none, out := false }) := by
  unfold Dev.crash
  have := hc.im
  rw [List.take_length] at this
  rw [if_neg (by omega), ← this]; rfl
theorem wpo_copyBytes {o : Oper} {a : Act} {w : World} {K : Act → World → Prop} {Q : Exit → Act → World → Prop} (s x : Operand)
    (ho : o.op = .call { callee := .builtin .copy, args := #[s, x], argTypes := #[44, 44] })
    (gi oi g og t c1 c2 : Nat) (l : List UInt8) (hs : a.eval s = .slice (some ⟨gi, oi, none⟩) t c1) (hx : a.eval x = .slice (some ⟨g, og, none⟩) t c2) (hl : l.length = t) (hr : w.rangeAt g og (bv l)) (ht : w.there gi oi t)
    (h : K (a.put o.dst (goInt t)) (w.setCells gi oi (bv l))) : o.wp Tryz.prog a w K Q := by
  obtain ⟨i, hi, _, hz, _⟩ := info_u8
  subst hl
  have hc := run_copy_cells (P := Tryz.prog) w 44 44 o.type 5 gi oi l.length c1 ⟨g, og, none⟩ l.length c2 (bv l) Tryz.underlying44 (by rw [hi]; simp [hz]) (by simp) (fun j v hv => by rw [Addr.add_mid]; exact hr j v hv) (fun j hj => (ht j (by simpa using hj)).1) (fun j hj => (ht j (by simpa using hj)).2) (bv_one l)
  rw [bv_length] at hc
  unfold Oper.wp execOp
  simp only [ho, resolve, invoke, builtin, Sem.run_bind, Sem.run_pure, Result.andThen_ok, List.map_toArray, List.map_cons, List.map_nil, hs, hx, hc]
  exact h
theorem run_cut_sec (t : Nat) (ht : t < 64) (w : World) (b o : Nat) : (Instr.sliceAt 82 (.pointer (some ⟨b, o, none⟩)) none (some (.int .i64 (t : Int))) none).run Tryz.prog w = .ok (.slice (some ⟨b, o, none⟩) t 64) w := by
  obtain ⟨i, hi, _⟩ := info_u8
  have h1 : (0 : Int) ≤ (t : Int) ∧ (t : Int) ≤ 64 := by omega
  simp [Instr.sliceAt, Instr.sliceBounds, Instr.sliceBound, Instr.sureAddr, asIntOf, run_underlying Tryz.underlying82, sizeOf, typeInfo, hi, h1, Addr.add]
  intro h; omega
theorem wpl_store_new {ops : Array Oper} {rest : List Oper} {o : Oper} {a : Act} {w : World} {Q : Exit → Act → World → Prop} (hgd : o.guard = none) (ty : TypeId) (x y : Operand) (ho : o.op = .store ty x y)
    (old : Array Value) (T : TypeId) (cs : List Value) (hx : a.eval x = .pointer (some ⟨w.heap.size, 0, none⟩)) (hy : a.eval y = .agg cs.toArray) (hi : (Tryz.prog.info? ty).map (·.size) = some cs.length) (hold : old.size = cs.length) (h1 : ∀ v ∈ cs, v.oneCell' = true)
    (h : ∀ w1, Blk w1 w.heap.size T cs → Below w.heap.size w w1 → wpList Tryz.prog ops Q rest (a.put o.dst undef) w1) : wpList Tryz.prog ops Q (o :: rest) a (w.alloc (.cells old T)) := by
  refine wpList_store_row hgd ty x y ho w.heap.size cs.toArray hx hy T old (alloc_new w _) (by simpa using hi) (by simpa using hold) (all_oneCell_toArray h1) ?_
  obtain ⟨w1, hw1, hb1, hbe1⟩ := store_new w old T cs
  rw [hw1]
  exact h w1 hb1 hbe1
/-- from the copy of the image on -/
theorem crash_end {w1 : World} {a gi gn : Nat} {vl lets : Value} {left : Int} {F : Nat → Prop} {n : Nat} {out : Bool} {L N : List (List UInt8)} {l : List (Nat × List UInt8)} (h : PR w1 a gi gn vl lets left F n out L N l) (h1 : 1 ≤ n) (h2 : n ≤ 65536) :
    Blk (w1.drew.setCells gn 0 (bv L.flatten)) a 60 (head6 gi gn n vl lets left out) ∧
    PD ((((w1.drew.setCells gn 0 (bv L.flatten)).setCell ⟨a, 2, none⟩ (.slice none 0 0)).setCell ⟨a, 3, none⟩ .nilFunc).setCell ⟨a, 4, none⟩ (.int .i64 0) |>.setCell ⟨a, 5, none⟩ (.bool false)) a gi gn (.slice none 0 0) .nilFunc 0 F { img := L, loose := [], fuse := none, out := false } ∧
    Keep F w1 ((((w1.drew.setCells gn 0 (bv L.flatten)).setCell ⟨a, 2, none⟩ (.slice none 0 0)).setCell ⟨a, 3, none⟩ .nilFunc).setCell ⟨a, 4, none⟩ (.int .i64 0) |>.setCell ⟨a, 5, none⟩ (.bool false)) := by
  have hl : (bv L.flatten).length = (bv N.flatten).length := by rw [bv_length, bv_length, h.s64.len, h.n64.len, h.ll, h.nl]
  have hd2 := h.hd.drew.otherCells gn 0 (bv L.flatten) h.an
  have hk : Keep (fun k => k = a) (w1.drew.setCells gn 0 (bv L.flatten)) ((((w1.drew.setCells gn 0 (bv L.flatten)).setCell ⟨a, 2, none⟩ (.slice none 0 0)).setCell ⟨a, 3, none⟩ .nilFunc).setCell ⟨a, 4, none⟩ (.int .i64 0) |>.setCell ⟨a, 5, none⟩ (.bool false)) :=
    ((((Keep.refl (fun k => k = a) _).setCell (p := ⟨a, 2, none⟩) rfl _).setCell (p := ⟨a, 3, none⟩) rfl _).setCell (p := ⟨a, 4, none⟩) rfl _).setCell (p := ⟨a, 5, none⟩) rfl _
  refine ⟨hd2, ?_, (Keep.setCells h.fn _ _ (Keep.refl F w1).drew).trans (hk.mono fun k _ e => by rw [e]; exact h.fa)⟩
  exact {
    ok := ⟨h.s64, by show L.length ≤ 65536; rw [h.ll]; exact h2, by show 1 ≤ L.length; rw [h.ll]; exact h1, fun x hx => by simp at hx⟩
    hd := by
      have := (((hd2.set 2 (.slice none 0 0)).set 3 .nilFunc).set 4 (.int .i64 0)).set 5 (.bool false)
      show Blk _ _ _ (head6 gi gn L.length _ _ _ _)
      rw [h.ll]; exact this
    im := (h.im.drew.otherCells _ _ _ h.gg).keep hk (Ne.symm h.ai)
    nw := (h.nw.drew.over _ hl).keep hk (Ne.symm h.an)
    lo := World.ownsRow_nil _ _ _ _
    fu := .inl ⟨rfl, rfl⟩, lf := by omega, ai := h.ai, an := h.an, gg := h.gg, fa := h.fa, fi := h.fi, fn := h.fn, fl := fun k hk => by cases hk }
-- CRASH
set_option maxRecDepth 100000 in
set_option maxHeartbeats 2000000 in
theorem crash_any {a gi gn : Nat} {vl lets : Value} {left : Int} {F : Nat → Prop} {d : Dev} (ko : Option Addr) (kn kc : Nat) (keep : List Bool) (hkn : kn = keep.length) (torn : Int) (w : World) (hbl : BL w ko keep) (hkF : keep ≠ [] → ∀ x, ko = some x → ¬ F x.block) (hkb : kn ≤ 1073741824) (hlo : d.loose.length ≤ 1073741824) (h : PD w a gi gn vl lets left F d) :
    Calls Tryz.prog 34 #[ptr a, .slice ko kn kc, .int .i64 torn] w fun e w' => e = .returned (.int .i64 (d.crash keep torn).1) ∧ (∃ vl' lets' left', PD w' a gi gn vl' lets' left' F (d.crash keep torn).2) ∧ Keep F w w' := by
  have H := hid h
  have HKN := hid hkn
  clear hkn
  by_cases hbad : torn < 0 ∨ 64 ≤ torn
  · have hs := crash_bad d keep torn hbad
    rw [hs]
    clear h hs
    unfold ptr
    by_cases h0 : torn < 0
    all_goals
      (try have h1 : 64 ≤ torn := by omega)
      clear hbad
      go_enter Tryz.func34, Tryz.ntmps34
      go_wp2_with fail
      refine (none_any w H.out).mono ?_
      rintro e w' ⟨rfl, rfl⟩
      go_wp2
      go_ret
      exact ⟨rfl, ⟨_, _, _, H.out⟩, Keep.refl _ _⟩
  obtain ⟨t, rfl⟩ : ∃ t : Nat, torn = (t : Int) := ⟨torn.toNat, by omega⟩
  have ht : t < 64 := by omega
  clear hbad
  obtain ⟨ao, c, rfl⟩ := h.lv
  have c2 := h.hd.cell (j := 2) rfl
  have HP0 := hid h.raw
  have HN1 := hid h.ok.pos
  have HN2 := hid h.ok.len
  clear h
  unfold ptr
  go_enter Tryz.func34, Tryz.ntmps34
  go_wp2_with fail
  refine (none_any w H.out).mono ?_
  rintro e w' ⟨rfl, rfl⟩
  go_wp2_with fail
  clear c2
  go_loopw [7, 26] (fun last i wr => ∃ (k : Nat) (L : List (List UInt8)) (lst : Int), i = .int .i64 k ∧ last = .int .i64 lst ∧ CrashAt d keep k lst L ∧ PR wr a gi gn (.slice ao d.loose.length c) lets left F d.img.length d.out L d.now d.loose ∧ Keep F w' wr ∧ BL wr ko keep) (fun _ i _ => d.loose.length - (intOf i).toNat)
  case atStart => exact ⟨0, d.img, -1, rfl, rfl, CrashAt.start d keep, HP0.out, Keep.refl _ _, hbl⟩
  case round =>
    obtain ⟨k, L, lst, rfl, rfl, hc, hp, hk, hb⟩ := hrel
    have HC := hid hc
    have HP := hid hp
    have HK := hid hk
    have HBL := hid hb
    have hkm := hc.le
    clear hc hp hk hb
    by_cases hlt : k < d.loose.length
    · obtain ⟨x, hx⟩ : ∃ x, d.loose[k]? = some x := ⟨_, List.getElem?_eq_getElem hlt⟩
      have HX := hid hx
      have HX64 := hid (HP.out.l64 x (List.mem_of_getElem? hx))
      clear hx
      obtain ⟨gl, c', hv, hrg⟩ := loose_range HP.out.lo (fun y hy => (HP.out.l64 y hy).2) HX.out
      injection hv with e1 e2 e3
      subst e1
      have hr := hid hrg
      clear hrg e2 e3
      have hx1 : x.1 < d.img.length := HX64.out.1
      have HLT := hid hlt
      rcases hkq : keep[k]? with _ | q
      · have HB : Hid (¬ keep[k]? = some true) := by intro h; rw [hkq] at h; cases h
        have hge : kn ≤ k := by rw [HKN.out]; exact List.getElem?_eq_none_iff.1 hkq
        clear hkq
        go_wp2_with (first
          | (refine wpList_load_mid rfl 84 (.tmp 29) rfl gl (k * 65) rfl (wcells x) _ hr.out Tryz.underlying84 rfl (by rw [wcells_len HX64.out.2]; exact write_info) ?_)
          | (refine wpl_store_new rfl 84 (.tmp 9) (.tmp 30) rfl _ _ (wcells x) rfl rfl (by rw [wcells_len HX64.out.2]; exact write_info) (by rw [wcells_len HX64.out.2]; kernel_rfl) (wcells_one x) ?_; intro w1 hb1 hbe1; have HG1 := hid hb1; have HP1 := hid (HP.out.below hbe1); have HK1 : Hid (Keep F w' w1) := HK.out.trans (Keep.ofBelow hbe1); have HBL1 := hid (HBL.out.below hbe1); have HNG : Hid (wr.heap.size ≠ gi) := hid (by have := HP.out.im.lt; omega); clear hb1 hbe1))
        go_wp2
        go_roundw
        case rel =>
          exact ⟨k + 1, L, k, by go_num, rfl, HC.out.lost HX.out HB.out, HP1.out, HK1.out, HBL1.out⟩
        case measure => simp [intOf]; omega
      · obtain ⟨kb, kof, rfl, hrk⟩ : ∃ b o, ko = some ⟨b, o, none⟩ ∧ Hid (wr.rangeAt b o (bbv keep)) := by
          rcases HBL.out with rfl | ⟨b, o, e, h⟩
          · simp at hkq
          · exact ⟨b, o, e, h⟩
        have hlk : k < kn := by rw [HKN.out]; exact (List.getElem?_eq_some_iff.1 hkq).1
        have hcr : Hid (wr.cell? ⟨kb, kof + k, none⟩ = some (.bool q)) := hrk.out k _ (by rw [bbv_get, hkq]; rfl)
        cases q
        · have HB : Hid (¬ keep[k]? = some true) := by intro h; rw [hkq] at h; cases h
          clear hkq
          go_wp2_with (first
            | (refine wpList_load_mid rfl 84 (.tmp 29) rfl gl (k * 65) rfl (wcells x) _ hr.out Tryz.underlying84 rfl (by rw [wcells_len HX64.out.2]; exact write_info) ?_)
            | (refine wpl_store_new rfl 84 (.tmp 9) (.tmp 30) rfl _ _ (wcells x) rfl rfl (by rw [wcells_len HX64.out.2]; exact write_info) (by rw [wcells_len HX64.out.2]; kernel_rfl) (wcells_one x) ?_; intro w1 hb1 hbe1; have HG1 := hid hb1; have HP1 := hid (HP.out.below hbe1); have HK1 : Hid (Keep F w' w1) := HK.out.trans (Keep.ofBelow hbe1); have HBL1 := hid (HBL.out.below hbe1); have HNG : Hid (wr.heap.size ≠ gi) := hid (by have := HP.out.im.lt; omega); have hck : w1.cell? ⟨kb, kof + k, none⟩ = some (.bool false) := (by rw [hbe1.cell (World.block_lt_of_cell? wr _ hcr.out)]; exact hcr.out); clear hb1 hbe1))
          go_wp2
          go_roundw
          case rel =>
            exact ⟨k + 1, L, k, by go_num, rfl, HC.out.lost HX.out HB.out, HP1.out, HK1.out, HBL1.out⟩
          case measure => simp [intOf]; omega
        · have HB := hid hkq
          clear hkq
          go_wp2_with (first
            | (refine wpList_load_mid rfl 84 (.tmp 29) rfl gl (k * 65) rfl (wcells x) _ hr.out Tryz.underlying84 rfl (by rw [wcells_len HX64.out.2]; exact write_info) ?_)
            | (refine wpl_store_new rfl 84 (.tmp 9) (.tmp 30) rfl _ _ (wcells x) rfl rfl (by rw [wcells_len HX64.out.2]; exact write_info) (by rw [wcells_len HX64.out.2]; kernel_rfl) (wcells_one x) ?_; intro w1 hb1 hbe1; have HG1 := hid hb1; have HP1 := hid (HP.out.below hbe1); have HK1 : Hid (Keep F w' w1) := HK.out.trans (Keep.ofBelow hbe1); have HBL1 := hid (HBL.out.below hbe1); have HNG : Hid (wr.heap.size ≠ gi) := hid (by have := HP.out.im.lt; omega); have hck : w1.cell? ⟨kb, kof + k, none⟩ = some (.bool true) := (by rw [hbe1.cell (World.block_lt_of_cell? wr _ hcr.out)]; exact hcr.out); clear hb1 hbe1))
          refine wp_region_held_drew (S := fun w' => w'.cell? ⟨a, 0, none⟩ = some (.slice (some ⟨gi, 0, none⟩) d.img.length d.img.length) ∧ w'.cell? ⟨wr.heap.size, 0, none⟩ = some (.int .i64 (x.1 : Int)) ∧ Blk w' wr.heap.size 84 (wcells x)) (by kernel_rfl) ⟨HP1.out.hd.drew.cell (j := 0) rfl, HG1.out.drew.cell (j := 0) rfl, HG1.out.drew⟩ (fun hS => ?_)
          refine tkH (i := 0) (v := ?v0x1) (y := Or.inl ⟨by rfl, ?y0x1⟩) (s := hS) (h := ?r0x1)
          case y0x1 => (intro w' hSw; (try dsimp only at hSw); go_simp; (try with_reducible rfl))
          simp only [Act.put, sA, sB, sC]
          refine tkH (i := 1) (v := ?v1x2) (y := Or.inl ⟨by rfl, ?y1x2⟩) (s := hS) (h := ?r1x2)
          case y1x2 => (intro w' hSw; (try dsimp only at hSw); go_simp; (try with_reducible rfl))
          simp only [Act.put, sA, sB, sC]
          refine tkH (i := 2) (v := ?v2x3) (y := Or.inl ⟨by rfl, ?y2x3⟩) (s := hS) (h := ?r2x3)
          case y2x3 => (intro w' hSw; (try dsimp only at hSw); go_simp; (try with_reducible rfl))
          simp only [Act.put, sA, sB, sC]
          refine tkH (i := 3) (v := ?v3x4) (y := Or.inl ⟨by rfl, ?y3x4⟩) (s := hS) (h := ?r3x4)
          case y3x4 => (intro w' hSw; (try dsimp only at hSw); go_simp; (try with_reducible rfl))
          simp only [Act.put, sA, sB, sC]
          refine tkH (i := 4) (v := ?v4x5) (y := Or.inl ⟨by rfl, ?y4x5⟩) (s := hS) (h := ?r4x5)
          case y4x5 => (intro w' hSw; (try dsimp only at hSw); go_simp; (try with_reducible rfl))
          simp only [Act.put, sA, sB, sC]
          refine tkH (i := 5) (v := ?v5x6) (y := Or.inl ⟨by rfl, ?y5x6⟩) (s := hS) (h := ?r5x6)
          case y5x6 => (intro w' hSw; (try dsimp only at hSw); go_simp; (try with_reducible rfl))
          simp only [Act.put, sA, sB, sC]
          refine tkH (i := 6) (v := ?v6x7) (y := Or.inl ⟨by rfl, ?y6x7⟩) (s := hS) (h := ?r6x7)
          case y6x7 => (intro w' hSw; (try dsimp only at hSw); go_simp; (try with_reducible rfl))
          simp only [Act.put, sA, sB, sC]
          refine tkH (i := 7) (v := ?v7x8) (y := ?y7x8) (s := hS) (h := ?r7x8)
          case y7x8 => (refine yieldsIf_load_mid ?_ 82 (.tmp 47) ?_ wr.heap.size 1 ?_ (bv x.2) _ ?_ Tryz.underlying82 ?_ ?_; rfl; rfl; rfl; exact (fun w' hSw => hSw.2.2.range fun j v hv => by rw [Nat.add_comm]; exact hv); rfl; (rw [bv_length, HX64.out.2]; exact sec_info))
          simp only [Act.put, sA, sB, sC]
          refine tkH (i := 8) (v := ?v8x9) (y := Or.inl ⟨by rfl, ?y8x9⟩) (s := hS) (h := ?r8x9)
          case y8x9 => (intro w' hSw; (try dsimp only at hSw); go_simp; (try with_reducible rfl))
          simp only [Act.put, sA, sB, sC]
          refine rdH (i := 9) (h := fun K hK => ?_)
          refine wp_store_mid 82 (.tmp 49) (.tmp 48) rfl gi (x.1 * 64) (bv x.2).toArray rfl rfl (by rw [List.size_toArray, bv_length, HX64.out.2]; exact HP1.out.im.secThere HP1.out.s64 (by rw [HP1.out.ll]; exact HX64.out.1)) (by rw [List.size_toArray, bv_length, HX64.out.2]; exact sec_info) (bv_cells x.2) ?_
          refine hK.out _ _ ?k9x10 (fun hS => ?s9x10)
          case k9x10 => exact ⟨by rw [World.cell?_setCells_out _ _ _ _ _ (fun h => absurd h HP1.out.ai)]; exact hS.1, by rw [World.cell?_setCells_out _ _ _ _ _ (fun h => absurd h HNG.out)]; exact hS.2.1, hS.2.2.otherCells _ _ _ HNG.out⟩
          clear hK K
          try simp only [Act.put]
          refine wpAnyH_done (by kernel_rfl) ?_ _
          clear hS
          go_wp2
          go_roundw
          case rel =>
            obtain ⟨s, hs⟩ : ∃ s, L[x.1]? = some s := ⟨_, List.getElem?_eq_getElem (by rw [HP1.out.ll]; exact HX64.out.1)⟩
            have hp := HP1.out.drew.imaged HX64.out.1 hs (c := x.2) (by rw [HX64.out.2]; omega)
            rw [HX64.out.2, List.drop_of_length_le (by rw [HP1.out.s64.get hs]; omega), List.append_nil] at hp
            have hkk : Keep F w' ((w1.drew).setCells gi (x.1 * 64) (bv x.2)) := Keep.setCells HP1.out.fi _ _ HK1.out.drew
            exact ⟨k + 1, L.set x.1 x.2, lst, by go_num, rfl, HC.out.kept HX.out HB.out, hp, hkk, hbl.keep hkk hkF⟩
          case measure => simp [intOf]; omega
    · have hk8 : k = d.loose.length := by omega
      have HC : Hid (CrashAt d keep d.loose.length lst L) := by rw [← hk8]; exact HC.out
      subst hk8
      rcases HC.out.la with ⟨rfl, hla⟩ | ⟨j, rfl, hj, hla⟩
      · have HRES : Hid (d.crash keep t = (0, { img := L, loose := [], fuse := none, out := false })) := by
          rw [List.take_length] at hla
          show d.crash keep t = _
          rw [crash_good d keep t ht HC.out, hla]; rfl
        have HP2 := HP
        have HK2 := HK
        clear hla
        generalize L = L2 at HP2 HRES
        go_wp2_with fail
        generalize hw1 : wr = w1 at *
        refine wp_region_held_drew (S := fun w' => w'.cell? ⟨a, 0, none⟩ = some (.slice (some ⟨gi, 0, none⟩) d.img.length d.img.length) ∧ w'.cell? ⟨a, 1, none⟩ = some (.slice (some ⟨gn, 0, none⟩) d.img.length d.img.length)) (by kernel_rfl) ⟨HP2.out.hd.drew.cell (j := 0) rfl, HP2.out.hd.drew.cell (j := 1) rfl⟩ (fun hS => ?_)
        refine tkH (i := 0) (v := ?v0x1v) (y := Or.inl ⟨by rfl, ?y0x1v⟩) (s := hS) (h := ?r0x1v)
        case y0x1v => (intro w' hSw; (try dsimp only at hSw); go_simp; (try with_reducible rfl))
        simp only [Act.put, sA, sB, sC]
        refine tkH (i := 1) (v := ?v1x2v) (y := Or.inl ⟨by rfl, ?y1x2v⟩) (s := hS) (h := ?r1x2v)
        case y1x2v => (intro w' hSw; (try dsimp only at hSw); go_simp; (try with_reducible rfl))
        simp only [Act.put, sA, sB, sC]
        refine tkH (i := 2) (v := ?v2x3v) (y := Or.inl ⟨by rfl, ?y2x3v⟩) (s := hS) (h := ?r2x3v)
        case y2x3v => (intro w' hSw; (try dsimp only at hSw); go_simp; (try with_reducible rfl))
        simp only [Act.put, sA, sB, sC]
        refine tkH (i := 3) (v := ?v3x4v) (y := Or.inl ⟨by rfl, ?y3x4v⟩) (s := hS) (h := ?r3x4v)
        case y3x4v => (intro w' hSw; (try dsimp only at hSw); go_simp; (try with_reducible rfl))
        simp only [Act.put, sA, sB, sC]
        refine tkH (i := 4) (v := ?v4x5v) (y := Or.inl ⟨by rfl, ?y4x5v⟩) (s := hS) (h := ?r4x5v)
        case y4x5v => (intro w' hSw; (try dsimp only at hSw); go_simp; (try with_reducible rfl))
        simp only [Act.put, sA, sB, sC]
        refine tkH (i := 5) (v := ?v5x6v) (y := Or.inl ⟨by rfl, ?y5x6v⟩) (s := hS) (h := ?r5x6v)
        case y5x6v => (intro w' hSw; (try dsimp only at hSw); go_simp; (try with_reducible rfl))
        simp only [Act.put, sA, sB, sC]
        refine tkH (i := 6) (v := ?v6x7v) (y := Or.inl ⟨by rfl, ?y6x7v⟩) (s := hS) (h := ?r6x7v)
        case y6x7v => (intro w' hSw; (try dsimp only at hSw); go_simp; (try with_reducible rfl))
        simp only [Act.put, sA, sB, sC]
        refine tkH (i := 7) (v := ?v7x8v) (y := Or.inl ⟨by rfl, ?y7x8v⟩) (s := hS) (h := ?r7x8v)
        case y7x8v => (intro w' hSw; (try dsimp only at hSw); go_simp; (try with_reducible rfl))
        simp only [Act.put, sA, sB, sC]
        refine rdH (i := 8) (h := fun K hK => ?_)
        refine wpo_copySecs (.tmp 77) (.tmp 81) rfl gn gi _ (bv L2.flatten) rfl rfl (by rw [bv_length, HP2.out.s64.len, HP2.out.ll]; omega) (HP2.out.im.range fun j v hv => by rw [Nat.zero_add]; exact hv) (HP2.out.nw.there (by rw [bv_length, HP2.out.n64.len, HP2.out.nl]; omega)) (bv_one _) ?_
        refine hK.out _ _ ?k8x9v (fun hS => ?s8x9v)
        case k8x9v => exact ⟨by rw [World.cell?_setCells_out _ _ _ _ _ (fun h => absurd h HP2.out.an)]; exact hS.1, by rw [World.cell?_setCells_out _ _ _ _ _ (fun h => absurd h HP2.out.an)]; exact hS.2⟩
        clear hK K
        try simp only [Act.put, sA, sB, sC]
        refine wpAnyH_done (by kernel_rfl) ?_ _
        clear hS
        have HE := hid (crash_end HP2.out HN1.out HN2.out)
        have e0 := HE.out.1
        have e1 := e0.set 2 (.slice none 0 0)
        have e2 := e1.set 3 .nilFunc
        have e3 := e2.set 4 (.int .i64 0)
        have c2 := e0.cell (j := 2) rfl
        have f2 := e0.free 2
        have c3 := e1.cell (j := 3) rfl
        have f3 := e1.free 3
        have c4 := e2.cell (j := 4) rfl
        have f4 := e2.free 4
        have c5 := e3.cell (j := 5) rfl
        have f5 := e3.free 5
        clear e0 e1 e2 e3
        go_wp2
        go_ret
        refine ⟨by rw [HRES.out]; rfl, ⟨.slice none 0 0, .nilFunc, 0, ?_⟩, HK2.out.trans HE.out.2.2⟩
        rw [HRES.out]
        exact HE.out.2.1
      · rw [List.take_length] at hla
        obtain ⟨x, hx⟩ : ∃ x, d.loose[j]? = some x := ⟨_, List.getElem?_eq_getElem hj⟩
        have HX64 := hid (HP.out.l64 x (List.mem_of_getElem? hx))
        have HLA : Hid (lastOf keep 0 d.loose = some x) := hla.trans hx
        obtain ⟨gl, c', hv, hrg⟩ := loose_range HP.out.lo (fun y hy => (HP.out.l64 y hy).2) hx
        injection hv with e1 e2 e3
        subst e1
        have hr := hid hrg
        have c2 := HP.out.hd.cell (j := 2) rfl
        have rsl := run_cut_sec t ht
        have hx1 : x.1 < d.img.length := HX64.out.1
        clear hrg e2 e3 hla hx
        go_wp2_with (first
          | (refine wpList_load_mid rfl 84 (.tmp 59) rfl gl (j * 65) rfl (wcells x) _ hr.out Tryz.underlying84 rfl (by rw [wcells_len HX64.out.2]; exact write_info) ?_)
          | (refine wpl_store_new rfl 84 (.tmp 10) (.tmp 60) rfl _ _ (wcells x) rfl rfl (by rw [wcells_len HX64.out.2]; exact write_info) (by rw [wcells_len HX64.out.2]; kernel_rfl) (wcells_one x) ?_; intro w1 hb1 hbe1; have HG1 := hid hb1; have HP1 := hid (HP.out.below hbe1); have HK1 : Hid (Keep F w' w1) := HK.out.trans (Keep.ofBelow hbe1); have HBL1 := hid (HBL.out.below hbe1); have HNG : Hid (wr.heap.size ≠ gi) := hid (by have := HP.out.im.lt; omega); clear hb1 hbe1))
        refine wp_region_held_drew (S := fun w' => w'.cell? ⟨a, 0, none⟩ = some (.slice (some ⟨gi, 0, none⟩) d.img.length d.img.length) ∧ w'.cell? ⟨wr.heap.size, 0, none⟩ = some (.int .i64 (x.1 : Int)) ∧ Blk w' wr.heap.size 84 (wcells x)) (by kernel_rfl) ⟨HP1.out.hd.drew.cell (j := 0) rfl, HG1.out.drew.cell (j := 0) rfl, HG1.out.drew⟩ (fun hS => ?_)
        refine tkH (i := 0) (v := ?v0x1u) (y := Or.inl ⟨by rfl, ?y0x1u⟩) (s := hS) (h := ?r0x1u)
        case y0x1u => (intro w' hSw; (try dsimp only at hSw); go_simp; (try with_reducible rfl))
        simp only [Act.put, sA, sB, sC]
        refine tkH (i := 1) (v := ?v1x2u) (y := Or.inl ⟨by rfl, ?y1x2u⟩) (s := hS) (h := ?r1x2u)
        case y1x2u => (intro w' hSw; (try dsimp only at hSw); go_simp; (try with_reducible rfl))
        simp only [Act.put, sA, sB, sC]
        refine tkH (i := 2) (v := ?v2x3u) (y := Or.inl ⟨by rfl, ?y2x3u⟩) (s := hS) (h := ?r2x3u)
        case y2x3u => (intro w' hSw; (try dsimp only at hSw); go_simp; (try with_reducible rfl))
        simp only [Act.put, sA, sB, sC]
        refine tkH (i := 3) (v := ?v3x4u) (y := Or.inl ⟨by rfl, ?y3x4u⟩) (s := hS) (h := ?r3x4u)
        case y3x4u => (intro w' hSw; (try dsimp only at hSw); go_simp; (try with_reducible rfl))
        simp only [Act.put, sA, sB, sC]
        refine tkH (i := 4) (v := ?v4x5u) (y := Or.inl ⟨by rfl, ?y4x5u⟩) (s := hS) (h := ?r4x5u)
        case y4x5u => (intro w' hSw; (try dsimp only at hSw); go_simp; (try with_reducible rfl))
        simp only [Act.put, sA, sB, sC]
        refine tkH (i := 5) (v := ?v5x6u) (y := Or.inl ⟨by rfl, ?y5x6u⟩) (s := hS) (h := ?r5x6u)
        case y5x6u => (intro w' hSw; (try dsimp only at hSw); go_simp; (try with_reducible rfl))
        simp only [Act.put, sA, sB, sC]
        refine tkH (i := 6) (v := ?v6x7u) (y := Or.inl ⟨by rfl, ?y6x7u⟩) (s := hS) (h := ?r6x7u)
        case y6x7u => (intro w' hSw; (try dsimp only at hSw); go_simp; (try with_reducible rfl))
        simp only [Act.put, sA, sB, sC]
        refine tkH (i := 7) (v := ?v7x8u) (y := Or.inl ⟨by rfl, ?y7x8u⟩) (s := hS) (h := ?r7x8u)
        case y7x8u => (intro w' hSw; (try dsimp only at hSw); go_simp; (try with_reducible rfl))
        simp only [Act.put, sA, sB, sC]
        refine tkH (i := 8) (v := ?v8x9u) (y := Or.inl ⟨by rfl, ?y8x9u⟩) (s := hS) (h := ?r8x9u)
        case y8x9u => (intro w' hSw; (try dsimp only at hSw); go_simp; (try with_reducible rfl))
        simp only [Act.put, sA, sB, sC]
        refine tkH (i := 9) (v := ?v9x10u) (y := Or.inl ⟨by rfl, ?y9x10u⟩) (s := hS) (h := ?r9x10u)
        case y9x10u => (intro w' hSw; (try dsimp only at hSw); go_simp; (try with_reducible rfl))
        simp only [Act.put, sA, sB, sC]
        refine tkH (i := 10) (v := ?v10x11u) (y := Or.inl ⟨by rfl, ?y10x11u⟩) (s := hS) (h := ?r10x11u)
        case y10x11u => (intro w' hSw; (try dsimp only at hSw); go_simp; (try with_reducible rfl))
        simp only [Act.put, sA, sB, sC]
        refine tkH (i := 11) (v := ?v11x12u) (y := Or.inl ⟨by rfl, ?y11x12u⟩) (s := hS) (h := ?r11x12u)
        case y11x12u => (intro w' hSw; (try dsimp only at hSw); go_simp; (try with_reducible rfl))
        simp only [Act.put, sA, sB, sC]
        refine rdH (i := 12) (h := fun K hK => ?_)
        refine wpo_copyBytes (.tmp 69) (.tmp 72) rfl gi (x.1 * 64) wr.heap.size 1 t _ _ (x.2.take t) rfl rfl (by rw [List.length_take, HX64.out.2]; omega) ?hr ?ht ?_
        case hr =>
          refine HG1.out.drew.range fun j v hv => ?_
          rw [bv_get, List.getElem?_take] at hv
          rw [Nat.add_comm]
          split at hv
          · show (bv x.2)[j]? = some v; rw [bv_get]; exact hv
          · cases hv
        case ht => exact fun j hj => HP1.out.im.secThere HP1.out.s64 (by rw [HP1.out.ll]; exact HX64.out.1) j (by omega)
        refine hK.out _ _ ?k12x13u (fun hS => ?s12x13u)
        case k12x13u => exact ⟨by rw [World.cell?_setCells_out _ _ _ _ _ (fun h => absurd h HP1.out.ai)]; exact hS.1, by rw [World.cell?_setCells_out _ _ _ _ _ (fun h => absurd h HNG.out)]; exact hS.2.1, hS.2.2.otherCells _ _ _ HNG.out⟩
        clear hK K
        try simp only [Act.put, sA, sB, sC]
        refine wpAnyH_done (by kernel_rfl) ?_ _
        clear hS
        obtain ⟨s, hs⟩ : ∃ s, L[x.1]? = some s := ⟨_, List.getElem?_eq_getElem (by rw [HP1.out.ll]; exact HX64.out.1)⟩
        have hp := HP1.out.drew.imaged HX64.out.1 hs (c := x.2.take t) (by simp; omega)
        have HP2 := hid hp
        have HK2 : Hid (Keep F w' ((w1.drew).setCells gi (x.1 * 64) (bv (x.2.take t)))) := Keep.setCells HP1.out.fi _ _ HK1.out.drew
        have HRES : Hid (d.crash keep t = (0, { img := L.set x.1 (x.2.take t ++ s.drop (x.2.take t).length), loose := [], fuse := none, out := false })) := by
          show d.crash keep t = _
          rw [crash_good d keep t ht HC.out, HLA.out]
          have h1 : (x.2.take t).length = t := by rw [List.length_take, HX64.out.2]; omega
          rw [h1]; simp [tornIn, hs]
        generalize L.set x.1 (x.2.take t ++ s.drop (x.2.take t).length) = L2 at HP2 HRES
        clear hp hs
        go_wp2_with fail
        refine wp_region_held_drew (S := fun w' => w'.cell? ⟨a, 0, none⟩ = some (.slice (some ⟨gi, 0, none⟩) d.img.length d.img.length) ∧ w'.cell? ⟨a, 1, none⟩ = some (.slice (some ⟨gn, 0, none⟩) d.img.length d.img.length)) (by kernel_rfl) ⟨HP2.out.hd.drew.cell (j := 0) rfl, HP2.out.hd.drew.cell (j := 1) rfl⟩ (fun hS => ?_)
        refine tkH (i := 0) (v := ?v0x1y) (y := Or.inl ⟨by rfl, ?y0x1y⟩) (s := hS) (h := ?r0x1y)
        case y0x1y => (intro w' hSw; (try dsimp only at hSw); go_simp; (try with_reducible rfl))
        simp only [Act.put, sA, sB, sC]
        refine tkH (i := 1) (v := ?v1x2y) (y := Or.inl ⟨by rfl, ?y1x2y⟩) (s := hS) (h := ?r1x2y)
        case y1x2y => (intro w' hSw; (try dsimp only at hSw); go_simp; (try with_reducible rfl))
        simp only [Act.put, sA, sB, sC]
        refine tkH (i := 2) (v := ?v2x3y) (y := Or.inl ⟨by rfl, ?y2x3y⟩) (s := hS) (h := ?r2x3y)
        case y2x3y => (intro w' hSw; (try dsimp only at hSw); go_simp; (try with_reducible rfl))
        simp only [Act.put, sA, sB, sC]
        refine tkH (i := 3) (v := ?v3x4y) (y := Or.inl ⟨by rfl, ?y3x4y⟩) (s := hS) (h := ?r3x4y)
        case y3x4y => (intro w' hSw; (try dsimp only at hSw); go_simp; (try with_reducible rfl))
        simp only [Act.put, sA, sB, sC]
        refine tkH (i := 4) (v := ?v4x5y) (y := Or.inl ⟨by rfl, ?y4x5y⟩) (s := hS) (h := ?r4x5y)
        case y4x5y => (intro w' hSw; (try dsimp only at hSw); go_simp; (try with_reducible rfl))
        simp only [Act.put, sA, sB, sC]
        refine tkH (i := 5) (v := ?v5x6y) (y := Or.inl ⟨by rfl, ?y5x6y⟩) (s := hS) (h := ?r5x6y)
        case y5x6y => (intro w' hSw; (try dsimp only at hSw); go_simp; (try with_reducible rfl))
        simp only [Act.put, sA, sB, sC]
        refine tkH (i := 6) (v := ?v6x7y) (y := Or.inl ⟨by rfl, ?y6x7y⟩) (s := hS) (h := ?r6x7y)
        case y6x7y => (intro w' hSw; (try dsimp only at hSw); go_simp; (try with_reducible rfl))
        simp only [Act.put, sA, sB, sC]
        refine tkH (i := 7) (v := ?v7x8y) (y := Or.inl ⟨by rfl, ?y7x8y⟩) (s := hS) (h := ?r7x8y)
        case y7x8y => (intro w' hSw; (try dsimp only at hSw); go_simp; (try with_reducible rfl))
        simp only [Act.put, sA, sB, sC]
        refine rdH (i := 8) (h := fun K hK => ?_)
        refine wpo_copySecs (.tmp 77) (.tmp 81) rfl gn gi _ (bv L2.flatten) rfl rfl (by rw [bv_length, HP2.out.s64.len, HP2.out.ll]; omega) (HP2.out.im.range fun j v hv => by rw [Nat.zero_add]; exact hv) (HP2.out.nw.there (by rw [bv_length, HP2.out.n64.len, HP2.out.nl]; omega)) (bv_one _) ?_
        refine hK.out _ _ ?k8x9y (fun hS => ?s8x9y)
        case k8x9y => exact ⟨by rw [World.cell?_setCells_out _ _ _ _ _ (fun h => absurd h HP2.out.an)]; exact hS.1, by rw [World.cell?_setCells_out _ _ _ _ _ (fun h => absurd h HP2.out.an)]; exact hS.2⟩
        clear hK K
        try simp only [Act.put, sA, sB, sC]
        refine wpAnyH_done (by kernel_rfl) ?_ _
        clear hS
        have HE := hid (crash_end HP2.out HN1.out HN2.out)
        have e0 := HE.out.1
        have e1 := e0.set 2 (.slice none 0 0)
        have e2 := e1.set 3 .nilFunc
        have e3 := e2.set 4 (.int .i64 0)
        have c2 := e0.cell (j := 2) rfl
        have f2 := e0.free 2
        have c3 := e1.cell (j := 3) rfl
        have f3 := e1.free 3
        have c4 := e2.cell (j := 4) rfl
        have f4 := e2.free 4
        have c5 := e3.cell (j := 5) rfl
        have f5 := e3.free 5
        clear e0 e1 e2 e3
        go_wp2
        go_ret
        refine ⟨by rw [HRES.out]; rfl, ⟨.slice none 0 0, .nilFunc, 0, ?_⟩, HK2.out.trans HE.out.2.2⟩
        rw [HRES.out]
        exact HE.out.2.1
end Go.Proofs.YtlondopgibcikaaGreat
