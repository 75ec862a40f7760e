/- The walks of what the laws share: bytes side by side, copied, lent, written over; picks. -/
import Derived.Test.YtlondopgibcikaaRows
import Derived.Test.YtlondopgibcikaaPlainCrc
import Derived.Test.YtlondopgibcikaaBits
import Derived.Test.YtlondopgibcikaaHeap
import Derived.WalkKit
import Derived.WalkSpells
import Derived.WalkLawsBesides
import Derived.Deep.RegionHeld3
import Derived.BigQuiet
import Derived.Deep.RegionWith
import Derived.Deep.QuietTactic
namespace Go.Proofs.Ytlondopgibcikaa
open Go.RowKit Ent

/-- bytes as a text -/
def str (l : List UInt8) : ByteArray := ⟨l.toArray⟩
theorem str_inj {a b : List UInt8} (h : str a = str b) : a = b := by
  have := congrArg (fun x : ByteArray => x.data.toList) h
  simpa [str] using this
theorem b2s (w : World) (ao : Option Addr) (n c : Nat) (l : List UInt8) (hn : n = l.length) (h : SB w ao c l) :
    (convert 22 9 (.slice ao n c)).run Try.prog w = .ok (.string (str l)) w := by
  subst hn
  rcases h with ⟨rfl, rfl, rfl⟩ | ⟨a, rfl, rfl⟩ | ⟨b, o, rfl, hr⟩
  · rw [run_convert_bytes_string w _ _ _ _ _ _ Try.underlying22 Try.underlying5 Try.underlying9]
    simp [Conv.bytesToString]; rfl
  · exact run_convert_bytes_back w _ _ _ a c [] Try.underlying22 Try.underlying5 Try.underlying9 (fun j hj => by simp at hj)
  · exact run_convert_bytes_back w _ _ _ _ c l Try.underlying22 Try.underlying5 Try.underlying9 (fun j hj => by
      rw [Addr.add_mid]; exact rangeAt_byte hr (by simp [hj]))
def sameB (a b : List UInt8) : Bool := decide (a = b)
theorem str_list (a : List UInt8) : (str a).toList = a := ByteArray.toList_mk a
theorem str_eq (a b : List UInt8) : ((str a).toList == (str b).toList) = sameB a b := by
  rw [str_list, str_list]; unfold sameB
  by_cases h : a = b <;> simp [h]
theorem same_self (a : List UInt8) : sameB a a = true := by simp [sameB]
theorem same_iff {a b : List UInt8} : sameB a b = true ↔ a = b := by simp [sameB]

set_option maxRecDepth 100000 in
set_option maxHeartbeats 400000 in
theorem same_any (ao bo : Option Addr) (n m c d : Nat) (l r : List UInt8) (hn : n = l.length) (hm : m = r.length) (w : World) (hl : SB w ao c l) (hr : SB w bo d r) :
    Calls Try.prog 27 #[.slice ao n c, .slice bo m d] w fun e w' => e = .returned (.bool (sameB l r)) ∧ w = w' := by
  have h1 := b2s w ao n c l hn hl
  have h2 := b2s w bo m d r hm hr
  clear hn hm
  go_enter Try.func27, Try.ntmps27
  go_wp2
  go_ret
  exact ⟨by rw [← str_eq]; rfl, rfl⟩

set_option maxRecDepth 100000 in
set_option maxHeartbeats 400000 in
theorem copy_any (ao : Option Addr) (n c : Nat) (l : List UInt8) (hn : n = l.length) (hb : n ≤ 1073741824) (w : World) (hl : SB w ao c l) :
    Calls Try.prog 36 #[.slice ao n c] w fun e w' => ∃ v, e = .returned v ∧ w'.ownsRow w.heap.size 5 1 v l.length (bv l) ∧ v ≠ .slice none 0 0 ∧ Below w.heap.size w w' := by
  subst hn
  go_enter Try.func36, Try.ntmps36
  go_wp2_with (first
    | (refine wpl_append rfl (.tmp 3) (.tmp 4) rfl w.heap.size _ _ _ l rfl (owns_empty w) ao _ c rfl rfl (hl.below ((Below.refl _ _).alloc (Nat.le_refl _) _)) (by omega) (by simp) ?_; intro v2 w2 ho2 hg2 hne))
  go_ret
  exact ⟨v2, rfl, by simpa using ho2, (by intro h; have := (hne.1 h).1; cases this), below_grown ((Below.refl _ _).alloc (Nat.le_refl _) _) (owns_empty w) hg2 (Nat.le_refl _)⟩

theorem tmod_pos (x n : Int) (h0 : 0 < n) (h : 0 ≤ x.tmod n) : x.tmod n = x % n := by
  have h1 := Int.tmod_eq_emod (a := x) (b := n)
  have h2 := Int.emod_nonneg x (show n ≠ 0 by omega)
  have h3 := Int.emod_lt_of_pos x h0
  split at h1 <;> omega
theorem tmod_neg (x n : Int) (h0 : 0 < n) (h : x.tmod n < 0) : x.tmod n + n = x % n := by
  have h1 := Int.tmod_eq_emod (a := x) (b := n)
  have h2 := Int.emod_nonneg x (show n ≠ 0 by omega)
  have h3 := Int.emod_lt_of_pos x h0
  split at h1 <;> omega
set_option maxRecDepth 100000 in
set_option maxHeartbeats 400000 in
theorem pick_any (x n : Int) (h0 : 0 < n) (h1 : n ≤ 4611686018427387904) (_hx : -9223372036854775808 ≤ x) (_hx' : x ≤ 9223372036854775807) (w : World) :
    Calls Try.prog 34 #[.int .i64 x, .int .i64 n] w fun e w' => e = .returned (.int .i64 (x % n)) ∧ w = w' := by
  go_enter Try.func34, Try.ntmps34
  go_wp2
  · have h : x.tmod n < 0 := by assumption
    have e := tmod_neg x n h0 h
    have h3 := Int.emod_lt_of_pos x h0
    have h2 := Int.emod_nonneg x (show n ≠ 0 by omega)
    go_ret
    refine ⟨ret_int ?_, rfl⟩
    show wrap64 (x.tmod n + n) = x % n
    rw [e]; exact IntWalk.wrap64_in _ ⟨by omega, by omega⟩
  · have h : 0 ≤ x.tmod n := by assumption
    have e := tmod_pos x n h0 h
    go_ret
    exact ⟨ret_int e, rfl⟩

/-- bytes that may be written -/
def WB (w : World) (ao : Option Addr) (n : Nat) : Prop := n = 0 ∨ ∃ b o, ao = some ⟨b, o, none⟩ ∧ ∀ j, j < n → (∃ x : UInt8, w.cell? ⟨b, o + j, none⟩ = some (.int .u8 (x.toNat : Int))) ∧ w.frozen? ⟨b, o + j, none⟩ = false
theorem WB.ofOwns {w : World} {base n : Nat} {v : Value} {l : List UInt8} (h : w.ownsRow base 5 1 v n (bv l)) : ∃ ao cap, v = .slice ao n cap ∧ WB w ao n := by
  have hl := h.1
  simp at hl
  rcases h.2 with ⟨rfl, rfl⟩ | ⟨g, cap, cur, rfl, _, hh, _, _, _, ht⟩
  · exact ⟨none, 0, rfl, .inl rfl⟩
  · refine ⟨_, cap, rfl, .inr ⟨g, 0, rfl, fun j hj => ⟨⟨l[j]'(by omega), ?_⟩, by rw [Nat.zero_add]; exact free_blk hh j⟩⟩⟩
    rw [Nat.zero_add, cell_of_row w g j cur _ _ hh]
    have : (cur.toList.take (n * 1))[j]? = some (.int .u8 ((l[j]'(by omega)).toNat : Int)) := by
      rw [ht, bv_get]; simp [show j < l.length by omega]
    rw [List.getElem?_take] at this
    split at this
    · simpa using this
    · cases this
theorem WB.below {w w' : World} {ao : Option Addr} {n : Nat} (h : WB w ao n) (hb : Below w.heap.size w w') : WB w' ao n := by
  rcases h with h | ⟨b, o, rfl, h⟩
  · exact .inl h
  · refine .inr ⟨b, o, rfl, fun j hj => ?_⟩
    obtain ⟨⟨x, hx⟩, hf⟩ := h j hj
    have hlt := World.block_lt_of_cell? w _ hx
    exact ⟨⟨x, by rw [hb.cell hlt]; exact hx⟩, by rw [hb.frozen hlt]; exact hf⟩
theorem own_all {w : World} {base n : Nat} {v : Value} {l : List UInt8} (h : w.ownsRow base 5 1 v n (bv l)) :
    ∃ ao cap, v = .slice ao n cap ∧ n = l.length ∧ n ≤ cap ∧ SB w ao cap l ∧ WB w ao n ∧ ∀ a, ao = some a → base ≤ a.block ∧ a.block < w.heap.size := by
  obtain ⟨ao, cap, hv, hw⟩ := WB.ofOwns h
  obtain ⟨ao', cap', hv', hn, hs⟩ := SB.ofOwns h
  have e := hv.symm.trans hv'
  injection e with e1 e2 e3
  subst e1; subst e3
  refine ⟨ao, cap, hv, hn, ?_, hs, hw, fun a ha => ?_⟩
  · rcases h.2 with ⟨_, h0⟩ | ⟨g, c, cur, hvv, _, _, hc, _⟩
    · omega
    · rw [hv] at hvv; injection hvv with _ _ e3; omega
  · exact h.lt a.block (by rw [hv, ha]; rfl)
theorem owns_keep {w w' : World} {F : Nat → Prop} {base : Nat} {e : TypeId} {size : Nat} {v : Value} {n : Nat} {xs : List Value} (h : w.ownsRow base e size v n xs) (hk : Keep F w w') (hF : ∀ k, v.ownBlock = some k → ¬ F k) : w'.ownsRow base e size v n xs := by
  refine ⟨h.1, ?_⟩
  rcases h.2 with hn | ⟨g, cap, cur, hv, hg, hh, r⟩
  · exact .inl hn
  · exact .inr ⟨g, cap, cur, hv, hg, hk.blk hh (hF g (by rw [hv]; rfl)), r⟩
theorem SB.keep {w w' : World} {F : Nat → Prop} {ao : Option Addr} {cap : Nat} {l : List UInt8} (h : SB w ao cap l) (hk : Keep F w w') (hF : ∀ a, ao = some a → ¬ F a.block) : SB w' ao cap l := by
  rcases h with h | h | ⟨b, o, rfl, h⟩
  · exact .inl h
  · exact .inr (.inl h)
  · exact .inr (.inr ⟨b, o, rfl, hk.range h (hF _ rfl)⟩)
theorem WB.keep {w w' : World} {F : Nat → Prop} {ao : Option Addr} {n : Nat} (h : WB w ao n) (hk : Keep F w w') (hF : ∀ a, ao = some a → ¬ F a.block) : WB w' ao n := by
  rcases h with h | ⟨b, o, rfl, h⟩
  · exact .inl h
  · refine .inr ⟨b, o, rfl, fun j hj => ?_⟩
    obtain ⟨⟨x, hx⟩, hf⟩ := h j hj
    have hlt := World.block_lt_of_cell? w _ hx
    exact ⟨⟨x, by rw [hk.cell hlt (hF ⟨b, o, none⟩ rfl)]; exact hx⟩, by rw [hk.frozen hlt (hF ⟨b, o, none⟩ rfl)]; exact hf⟩
/-- where a slice begins that is cut at its front -/
def sl (ao : Option Addr) (m cap : Nat) : Option Addr := if cap = m then ao else ao.map (·.add m)
theorem run_sl (ao : Option Addr) (n cap m : Nat) (hm : m ≤ n) (w : World) :
    (Instr.slice 22 (.slice ao n cap) (some (.int .i64 (m : Int))) none none).run Try.prog w = .ok (.slice (sl ao m cap) (n - m) (cap - m)) w := by
  obtain ⟨i, hi, _, hz1, _⟩ := info_u8
  have h1 : (0 : Int) ≤ (m : Int) ∧ (m : Int) ≤ (n : Int) := by omega
  simp [Instr.slice, Instr.sliceBounds, Instr.sliceBound, asIntOf, run_underlying Try.underlying22, sizeOf, typeInfo, hi, hz1, sl, h1]
  intro h; omega
theorem SB.sl {w : World} {ao : Option Addr} {cap : Nat} {l : List UInt8} (h : SB w ao cap l) {m : Nat} (hm : m ≤ l.length) (hc : l.length ≤ cap) : SB w (sl ao m cap) (cap - m) (l.drop m) := by
  unfold Proofs.Ytlondopgibcikaa.sl
  by_cases hcm : cap = m
  · rw [if_pos hcm]
    have h0 : l.drop m = [] := List.drop_of_length_le (by omega)
    rw [h0]
    rcases h with ⟨rfl, h2, rfl⟩ | ⟨a, rfl, rfl⟩ | ⟨b, o, rfl, _⟩
    · exact .inl ⟨rfl, by omega, rfl⟩
    · exact .inr (.inl ⟨a, rfl, rfl⟩)
    · exact .inr (.inl ⟨_, rfl, rfl⟩)
  · rw [if_neg hcm]
    rcases h with ⟨rfl, rfl, rfl⟩ | ⟨a, rfl, rfl⟩ | ⟨b, o, rfl, hr⟩
    · simp at hm; omega
    · exact .inr (.inl ⟨_, rfl, by simp⟩)
    · refine .inr (.inr ⟨b, o + m, by rw [Option.map_some, Addr.add_mid], fun j v hv => ?_⟩)
      rw [Nat.add_assoc]; refine hr (m + j) v ?_
      rw [bv_get] at hv ⊢; simpa using hv
/-- bytes that came in, as the shells tell of them -/
theorem row_SB {w : World} {a : Option Addr} {len cap : Nat} {zs : List Int} (h : (a = none ∧ len = 0 ∧ cap = 0 ∧ zs = []) ∨
    ∃ x, a = some x ∧ len ≤ cap ∧ cap ≤ maxLen ∧ zs.length = cap ∧ (∀ i, i < zs.length → w.cell? (x.add i) = some (.int .u8 (zs.getD i 0))) ∧ ∀ n ∈ zs, (Lit.int .u8 n).wf = true) :
    ∃ l : List UInt8, len = l.length ∧ len ≤ cap ∧ len ≤ 9223372036854775807 ∧ SB w a cap l ∧ ∀ x, a = some x → l ≠ [] → x.block < w.heap.size := by
  rcases h with ⟨rfl, rfl, rfl, rfl⟩ | ⟨x, rfl, hlc, hcm, hz, hc, hwf⟩
  · exact ⟨[], rfl, Nat.le_refl _, by omega, .inl ⟨rfl, rfl, rfl⟩, by simp⟩
  · have hm : len ≤ 9223372036854775807 := by unfold maxLen at hcm; omega
    have hll : len = ((zs.take len).map fun n => UInt8.ofNat n.toNat).length := by simp; omega
    by_cases h0 : len = 0
    · subst h0
      exact ⟨[], rfl, hlc, by omega, .inr (.inl ⟨x, rfl, rfl⟩), by simp⟩
    · obtain ⟨b, o, sp⟩ := x
      have hcell := hc 0 (by omega)
      have hsp : sp = none := by simpa [Addr.add] using World.cell?_spot hcell
      subst hsp
      refine ⟨_, hll, hlc, hm, .inr (.inr ⟨b, o, rfl, fun j v hv => ?_⟩), fun x hx _ => ?_⟩
      · rw [bv_get] at hv
        simp only [List.getElem?_map, List.getElem?_take] at hv
        by_cases hj : j < len
        · have hcj := hc j (by omega)
          rw [Addr.add_mid] at hcj
          rw [hcj]
          have hjz : zs[j]? = some (zs.getD j 0) := by simp [List.getD, List.getElem?_eq_getElem (show j < zs.length by omega)]
          rw [if_pos hj, hjz] at hv
          have hw := hwf (zs.getD j 0) (List.mem_of_getElem? hjz)
          have hb : 0 ≤ zs.getD j 0 ∧ zs.getD j 0 ≤ 255 := by
            have h1 : IntKind.u8.min = 0 := rfl
            have h2 : IntKind.u8.max = 255 := rfl
            simp only [Lit.wf, Bool.and_eq_true, decide_eq_true_eq] at hw
            omega
          simp at hv
          rw [← hv]
          have : ((zs.getD j 0).toNat % 256 : Nat) = (zs.getD j 0).toNat := Nat.mod_eq_of_lt (by omega)
          simp at this hb ⊢
          omega
        · rw [if_neg hj] at hv; simp at hv
      · injection hx with hx; subst hx
        exact World.block_lt_of_cell? w _ (by simpa [Addr.add] using hcell)
theorem over_int (x : UInt8) : bits BinOp.xor IntKind.u8 (x.toNat : Int) 165 = ((x ^^^ 165).toNat : Int) := xor8 x 165
set_option maxRecDepth 100000 in
set_option maxHeartbeats 400000 in
theorem over_any (ao : Option Addr) (n c : Nat) (hb : n ≤ 1073741824) (w : World) (hl : WB w ao n) :
    Calls Try.prog 29 #[.slice ao n c] w fun e w' => e = .returned (.tuple #[]) ∧ Keep (fun k => ∃ a, ao = some a ∧ k = a.block ∧ 0 < n) w w' := by
  go_enter Try.func29, Try.ntmps29
  go_wp2_with fail
  go_loopw [2] (fun i wr => ∃ k : Nat, k ≤ n ∧ i = .int .i64 k ∧ WB wr ao n ∧ Keep (fun k => ∃ a, ao = some a ∧ k = a.block ∧ 0 < n) w wr) (fun i _ => n - (intOf i).toNat)
  case atStart => exact ⟨0, Nat.zero_le _, rfl, hl, Keep.refl _ _⟩
  case round =>
    obtain ⟨k, hk, rfl, hw, hK⟩ := hrel
    by_cases hlt : k < n
    · rcases hw with h0 | ⟨b, o, rfl, hc⟩
      · omega
      · obtain ⟨⟨x, hx⟩, hf⟩ := hc k hlt
        have HC := hid hc
        clear hc
        go_wp2
        go_roundw
        case rel =>
          refine ⟨k + 1, by omega, by go_num, .inr ⟨b, o, rfl, fun j hj => ?_⟩, hK.setCell (p := ⟨b, o + k, none⟩) ⟨_, rfl, rfl, by omega⟩ _⟩
          obtain ⟨⟨y, hy⟩, hfy⟩ := HC.out j hj
          refine ⟨?_, ?_⟩
          · by_cases hjk : j = k
            · subst hjk
              exact ⟨x ^^^ 165, by rw [over_int]; exact World.cell?_setCell_same _ _ _ hx⟩
            · exact ⟨y, by rw [World.cell?_setCell_other _ _ _ _ (by intro e; injection e; omega)]; exact hy⟩
          · simpa using hfy
        case measure => simp [intOf]; omega
    · go_wp2
      go_end0
      exact ⟨rfl, hK⟩
def lent4 : List UInt8 := [201, 202, 203, 204]
set_option maxRecDepth 100000 in
set_option maxHeartbeats 400000 in
theorem lent_any (ao : Option Addr) (n c : Nat) (l : List UInt8) (hn : n = l.length) (hb : n ≤ 1073741824) (w : World) (hl : SB w ao c l) :
    Calls Try.prog 23 #[.slice ao n c] w fun e w' => ∃ g cap, e = .returned (.slice (some ⟨g, 0, none⟩) l.length cap) ∧ w'.ownsRow w.heap.size 5 1 (.slice (some ⟨g, 0, none⟩) (l.length + 4) cap) (l.length + 4) (bv (l ++ lent4)) ∧ Below w.heap.size w w' := by
  subst hn
  go_enter Try.func23, Try.ntmps23
  go_wp2_with (first
    | (refine wpl_append rfl (.tmp 4) (.tmp 5) rfl w.heap.size _ _ _ l rfl (owns_empty w) ao _ c rfl rfl (hl.below ((Below.refl _ _).alloc (Nat.le_refl _) _)) (by omega) (by simp) ?_; intro v2 w2 ho2 hg2 hne; have hb2 := below_grown ((Below.refl _ _).alloc (Nat.le_refl _) _) (owns_empty w) hg2 (Nat.le_refl _); clear hg2 hne)
    | (refine wpl_append rfl (.tmp 6) (.tmp 7) rfl w.heap.size _ _ _ lent4 rfl (ho2.alloc _) (some ⟨w2.heap.size, 0, none⟩) _ 4 rfl rfl (SB.laid _ lent4 _ _) (by omega) (by have := hb2.size; simp; omega) ?_; intro v3 w3 ho3 hg3 hne3; have hb3 := below_grown (hb2.alloc hb2.size _) (ho2.alloc _) hg3 (Nat.le_refl _); clear hg3 hb2 ho2; obtain ⟨g, cap, rfl, hc4, ho4⟩ := own_some ho3 hne3; clear ho3 hne3))
  go_ret
  exact ⟨g, cap, rfl, by simpa using ho4, hb3⟩

theorem own_range {w : World} {base n g cap : Nat} {l : List UInt8} (h : w.ownsRow base 5 1 (.slice (some ⟨g, 0, none⟩) n cap) n (bv l)) : n = l.length ∧ n ≤ cap ∧ w.rangeAt g 0 (bv l) := by
  have hl := h.1
  simp at hl
  rcases h.2 with ⟨h1, _⟩ | ⟨g', cap', cur, hv, _, hh, hc, _, _, ht⟩
  · cases h1
  · injection hv with e1 e2 e3
    injection e1 with e1
    injection e1 with e1
    subst e1; subst e3
    refine ⟨hl.symm, hc, fun j u hu => ?_⟩
    rw [Nat.zero_add, cell_of_row w g j cur _ _ hh]
    rw [← ht, List.getElem?_take] at hu
    split at hu
    · simpa using hu
    · cases hu
theorem range_split {w : World} {b o : Nat} {l r : List UInt8} (h : w.rangeAt b o (bv (l ++ r))) : w.rangeAt b o (bv l) ∧ w.rangeAt b (o + l.length) (bv r) := by
  rw [bv_append] at h
  refine ⟨fun j v hv => h j v ?_, fun j v hv => ?_⟩
  · rw [List.getElem?_append_left (List.getElem?_eq_some_iff.1 hv).1]; exact hv
  · have := h (l.length + j) v (by rw [List.getElem?_append_right (by simp)]; simpa using hv)
    rwa [Nat.add_assoc]

set_option maxRecDepth 100000 in
set_option maxHeartbeats 1000000 in
theorem kept_any (bo : Option Addr) (n c g cap base : Nat) (l : List UInt8) (hn : n = l.length) (hb : n ≤ 1073741824) (w : World)
    (ho : w.ownsRow base 5 1 (.slice (some ⟨g, 0, none⟩) (l.length + 4) cap) (l.length + 4) (bv (l ++ lent4))) (hl : SB w bo c l) :
    Calls Try.prog 30 #[.slice (some ⟨g, 0, none⟩) n cap, .slice bo n c] w fun e w' => e = .returned (.bool true) ∧ Below w.heap.size w w' := by
  subst hn
  obtain ⟨-, hcap, hr⟩ := own_range ho
  have hs := range_split hr
  rw [Nat.zero_add] at hs
  have s1 : SB w (some ⟨g, 0, none⟩) cap l := .inr (.inr ⟨g, 0, rfl, hs.1⟩)
  have s2 : SB w (some ⟨g, l.length, none⟩) (cap - l.length) lent4 := .inr (.inr ⟨g, l.length, rfl, hs.2⟩)
  have s3 : SB w bo c l := hl
  have c1 := fun (w : World) (h : SB w (some ⟨g, 0, none⟩) cap l) => b2s w _ _ cap l rfl h
  have c2 := fun (w : World) (h : SB w (some ⟨g, l.length, none⟩) (cap - l.length) lent4) => b2s w _ 4 (cap - l.length) lent4 rfl h
  have c3 := fun (w : World) (h : SB w bo c l) => b2s w _ _ c l rfl h
  clear hs hr ho hl
  have hI : (l.length : Int) + 4 ≤ (cap : Int) := by omega
  have hw : IntKind.i64.wrap ((l.length : Int) + 4) = (l.length : Int) + 4 := IntWalk.i64_in _ (by omega)
  have h0 : (0 : Int) ≤ (l.length : Int) + 4 := by omega
  have ht : ((l.length : Int) + 4).toNat = l.length + 4 := by omega
  have hne : ¬ cap = l.length := by omega
  have hle : (l.length : Int) ≤ (l.length : Int) + 4 := by omega
  have hb0 : Below w.heap.size w w.drew := (Below.refl _ _).drew
  have hb1 : Below w.heap.size w (w.alloc (.cells #[.int .u8 201, .int .u8 202, .int .u8 203, .int .u8 204] 5)).drew := ((Below.refl _ _).alloc (Nat.le_refl _) _).drew
  have HS0 := hid (And.intro (s1.below hb0) (And.intro (s2.below hb0) (And.intro (s3.below hb0) hb0)))
  have HS1 := hid (And.intro (s1.below hb1) (And.intro (s2.below hb1) (And.intro (s3.below hb1) hb1)))
  have d4 := b2s ((w.alloc (.cells #[.int .u8 201, .int .u8 202, .int .u8 203, .int .u8 204] 5)).drew) _ 4 4 lent4 rfl (SB.laid w lent4 5 4)
  clear hb0 hb1 s1 s2 s3
  go_enter Try.func30, Try.ntmps30
  go_wp2_with fail
  refine wp_region_held_drew (S := fun w' => SB w' (some ⟨g, 0, none⟩) cap l ∧ SB w' (some ⟨g, l.length, none⟩) (cap - l.length) lent4 ∧ SB w' bo c l ∧ Below w.heap.size w w') (by kernel_rfl) HS0.out (fun hS => ?_)
  refine wpAnyH_take (i := 0) (v := ?v0) (by simp only [List.getElem?_toArray, List.getElem?_cons_zero]; exact rfl) (by kernel_rfl) (by kernel_rfl) (by kernel_rfl) (by exact fun _ _ _ h => h) (Or.inl ⟨by rfl, ?y0⟩) hS ?r0
  case y0 => (intro w' hSw; (try dsimp only at hSw); go_simp; (try with_reducible rfl))
  simp only [Act.put, List.setIfInBounds_toArray, List.set_cons_zero, List.set_cons_succ]
  refine wpAnyH_take (i := 1) (v := ?v1) (by simp only [List.getElem?_toArray, List.getElem?_cons_zero, List.getElem?_cons_succ]; exact rfl) (by kernel_rfl) (by kernel_rfl) (by kernel_rfl) (by exact fun _ _ _ h => h) (Or.inl ⟨by rfl, ?y1⟩) hS ?r1
  case y1 => (intro w' hSw; (try dsimp only at hSw); go_simp; (try with_reducible rfl))
  simp only [Act.put, List.setIfInBounds_toArray, List.set_cons_zero, List.set_cons_succ]
  refine wpAnyH_take (i := 2) (v := ?v2) (by simp only [List.getElem?_toArray, List.getElem?_cons_zero, List.getElem?_cons_succ]; exact rfl) (by kernel_rfl) (by kernel_rfl) (by kernel_rfl) (by exact fun _ _ _ h => h) (Or.inl ⟨by rfl, ?y2⟩) hS ?r2
  case y2 => (intro w' hSw; (try dsimp only at hSw); go_simp; (try with_reducible rfl))
  simp only [Act.put, List.setIfInBounds_toArray, List.set_cons_zero, List.set_cons_succ]
  refine wpAnyH_take (i := 3) (v := ?v3) (by simp only [List.getElem?_toArray, List.getElem?_cons_zero, List.getElem?_cons_succ]; exact rfl) (by kernel_rfl) (by kernel_rfl) (by kernel_rfl) (by exact fun _ _ _ h => h) (Or.inl ⟨by rfl, ?y3⟩) hS ?r3
  case y3 => (intro w' hSw; (try dsimp only at hSw); go_simp; (try with_reducible rfl))
  simp only [Act.put, List.setIfInBounds_toArray, List.set_cons_zero, List.set_cons_succ]
  refine wpAnyH_take (i := 4) (v := ?v4) (by simp only [List.getElem?_toArray, List.getElem?_cons_zero, List.getElem?_cons_succ]; exact rfl) (by kernel_rfl) (by kernel_rfl) (by kernel_rfl) (by exact fun _ _ _ h => h) (Or.inl ⟨by rfl, ?y4⟩) hS ?r4
  case y4 => (intro w' hSw; (try dsimp only at hSw); go_simp; (try with_reducible rfl))
  simp only [Act.put, List.setIfInBounds_toArray, List.set_cons_zero, List.set_cons_succ]
  refine wpAnyH_take (i := 5) (v := ?v5) (by simp only [List.getElem?_toArray, List.getElem?_cons_zero, List.getElem?_cons_succ]; exact rfl) (by kernel_rfl) (by kernel_rfl) (by kernel_rfl) (by exact fun _ _ _ h => h) (Or.inl ⟨by rfl, ?y5⟩) hS ?r5
  case y5 => (intro w' hSw; (try dsimp only at hSw); go_simp; (try with_reducible rfl))
  simp only [Act.put, List.setIfInBounds_toArray, List.set_cons_zero, List.set_cons_succ]
  refine wpAnyH_take (i := 6) (v := ?v6) (by simp only [List.getElem?_toArray, List.getElem?_cons_zero, List.getElem?_cons_succ]; exact rfl) (by kernel_rfl) (by kernel_rfl) (by kernel_rfl) (by exact fun _ _ _ h => h) (Or.inl ⟨by rfl, ?y6⟩) hS ?r6
  case y6 => (intro w' hSw; (try dsimp only at hSw); go_simp; (try with_reducible rfl))
  simp only [Act.put, List.setIfInBounds_toArray, List.set_cons_zero, List.set_cons_succ]
  refine wpAnyH_take (i := 7) (v := ?v7) (by simp only [List.getElem?_toArray, List.getElem?_cons_zero, List.getElem?_cons_succ]; exact rfl) (by kernel_rfl) (by kernel_rfl) (by kernel_rfl) (by exact fun _ _ _ h => h) (Or.inl ⟨by rfl, ?y7⟩) hS ?r7
  case y7 => (intro w' hSw; (try dsimp only at hSw); go_simp; (try with_reducible rfl))
  simp only [Act.put, List.setIfInBounds_toArray, List.set_cons_zero, List.set_cons_succ]
  refine wpAnyH_take (i := 8) (v := ?v8) (by simp only [List.getElem?_toArray, List.getElem?_cons_zero, List.getElem?_cons_succ]; exact rfl) (by kernel_rfl) (by kernel_rfl) (by kernel_rfl) (by exact fun _ _ _ h => h) (Or.inl ⟨by rfl, ?y8⟩) hS ?r8
  case y8 => (intro w' hSw; (try dsimp only at hSw); go_simp; (try with_reducible rfl))
  simp only [Act.put, List.setIfInBounds_toArray, List.set_cons_zero, List.set_cons_succ]
  refine wpAnyH_take (i := 9) (v := ?v9) (by simp only [List.getElem?_toArray, List.getElem?_cons_zero, List.getElem?_cons_succ]; exact rfl) (by kernel_rfl) (by kernel_rfl) (by kernel_rfl) (by exact fun _ _ _ h => h) (Or.inl ⟨by rfl, ?y9⟩) hS ?r9
  case y9 => (intro w' hSw; (try dsimp only at hSw); go_simp; (try with_reducible rfl))
  simp only [Act.put, List.setIfInBounds_toArray, List.set_cons_zero, List.set_cons_succ]
  refine wpAnyH_take (i := 10) (v := ?v10) (by simp only [List.getElem?_toArray, List.getElem?_cons_zero, List.getElem?_cons_succ]; exact rfl) (by kernel_rfl) (by kernel_rfl) (by kernel_rfl) (by exact fun _ _ _ h => h) (Or.inl ⟨by rfl, ?y10⟩) hS ?r10
  case y10 => (intro w' hSw; (try dsimp only at hSw); go_simp; (try with_reducible rfl))
  simp only [Act.put, List.setIfInBounds_toArray, List.set_cons_zero, List.set_cons_succ]
  refine wpAnyH_take (i := 11) (v := ?v11) (by simp only [List.getElem?_toArray, List.getElem?_cons_zero, List.getElem?_cons_succ]; exact rfl) (by kernel_rfl) (by kernel_rfl) (by kernel_rfl) (by exact fun _ _ _ h => h) (Or.inl ⟨by rfl, ?y11⟩) hS ?r11
  case y11 => (intro w' hSw; (try dsimp only at hSw); go_simp; (try with_reducible rfl))
  simp only [Act.put, List.setIfInBounds_toArray, List.set_cons_zero, List.set_cons_succ]
  refine wpAnyH_take (i := 12) (v := ?v12) (by simp only [List.getElem?_toArray, List.getElem?_cons_zero, List.getElem?_cons_succ]; exact rfl) (by kernel_rfl) (by kernel_rfl) (by kernel_rfl) (by exact fun _ _ _ h => h) (Or.inl ⟨by rfl, ?y12⟩) hS ?r12
  case y12 => (intro w' hSw; (try dsimp only at hSw); go_simp; (try with_reducible rfl))
  simp only [Act.put, List.setIfInBounds_toArray, List.set_cons_zero, List.set_cons_succ]
  refine wpAnyH_take (i := 13) (v := ?v13) (by simp only [List.getElem?_toArray, List.getElem?_cons_zero, List.getElem?_cons_succ]; exact rfl) (by kernel_rfl) (by kernel_rfl) (by kernel_rfl) (by exact fun _ _ _ h => h) (Or.inl ⟨by rfl, ?y13⟩) hS ?r13
  case y13 => (intro w' hSw; (try dsimp only at hSw); go_simp; (try with_reducible rfl))
  simp only [Act.put, List.setIfInBounds_toArray, List.set_cons_zero, List.set_cons_succ]
  refine wpAnyH_take (i := 14) (v := ?v14) (by simp only [List.getElem?_toArray, List.getElem?_cons_zero, List.getElem?_cons_succ]; exact rfl) (by kernel_rfl) (by kernel_rfl) (by kernel_rfl) (by exact fun _ _ _ h => h) (Or.inl ⟨by rfl, ?y14⟩) hS ?r14
  case y14 => (intro w' hSw; (try dsimp only at hSw); go_simp; (try with_reducible rfl))
  simp only [Act.put, List.setIfInBounds_toArray, List.set_cons_zero, List.set_cons_succ]
  refine wpAnyH_take (i := 15) (v := ?v15) (by simp only [List.getElem?_toArray, List.getElem?_cons_zero, List.getElem?_cons_succ]; exact rfl) (by kernel_rfl) (by kernel_rfl) (by kernel_rfl) (by exact fun _ _ _ h => h) (Or.inl ⟨by rfl, ?y15⟩) hS ?r15
  case y15 => (intro w' hSw; (try dsimp only at hSw); go_simp; (try with_reducible rfl))
  simp only [Act.put, List.setIfInBounds_toArray, List.set_cons_zero, List.set_cons_succ]
  refine wpAnyH_take (i := 16) (v := ?v16) (by simp only [List.getElem?_toArray, List.getElem?_cons_zero, List.getElem?_cons_succ]; exact rfl) (by kernel_rfl) (by kernel_rfl) (by kernel_rfl) (by exact fun _ _ _ h => h) (Or.inl ⟨by rfl, ?y16⟩) hS ?r16
  case y16 => (intro w' hSw; (try dsimp only at hSw); go_simp; (try with_reducible rfl))
  simp only [Act.put, List.setIfInBounds_toArray, List.set_cons_zero, List.set_cons_succ]
  refine wpAnyH_take (i := 17) (v := ?v17) (by simp only [List.getElem?_toArray, List.getElem?_cons_zero, List.getElem?_cons_succ]; exact rfl) (by kernel_rfl) (by kernel_rfl) (by kernel_rfl) (by exact fun _ _ _ h => h) (Or.inl ⟨by rfl, ?y17⟩) hS ?r17
  case y17 => (intro w' hSw; (try dsimp only at hSw); go_simp; (try with_reducible rfl))
  simp only [Act.put, List.setIfInBounds_toArray, List.set_cons_zero, List.set_cons_succ]
  refine wpAnyH_take (i := 18) (v := ?v18) (by simp only [List.getElem?_toArray, List.getElem?_cons_zero, List.getElem?_cons_succ]; exact rfl) (by kernel_rfl) (by kernel_rfl) (by kernel_rfl) (by exact fun _ _ _ h => h) (Or.inl ⟨by rfl, ?y18⟩) hS ?r18
  case y18 => (intro w' hSw; (try dsimp only at hSw); go_simp; (try with_reducible rfl))
  simp only [Act.put, List.setIfInBounds_toArray, List.set_cons_zero, List.set_cons_succ]
  refine wpAnyH_take (i := 19) (v := ?v19) (by simp only [List.getElem?_toArray, List.getElem?_cons_zero, List.getElem?_cons_succ]; exact rfl) (by kernel_rfl) (by kernel_rfl) (by kernel_rfl) (by exact fun _ _ _ h => h) (Or.inl ⟨by rfl, ?y19⟩) hS ?r19
  case y19 => (intro w' hSw; (try dsimp only at hSw); go_simp; (try with_reducible rfl))
  simp only [Act.put, List.setIfInBounds_toArray, List.set_cons_zero, List.set_cons_succ]
  refine wpAnyH_take (i := 20) (v := ?v20) (by simp only [List.getElem?_toArray, List.getElem?_cons_zero, List.getElem?_cons_succ]; exact rfl) (by kernel_rfl) (by kernel_rfl) (by kernel_rfl) (by exact fun _ _ _ h => h) (Or.inl ⟨by rfl, ?y20⟩) hS ?r20
  case y20 => (intro w' hSw; (try dsimp only at hSw); go_simp; (try with_reducible rfl))
  simp only [Act.put, List.setIfInBounds_toArray, List.set_cons_zero, List.set_cons_succ]
  refine wpAnyH_take (i := 21) (v := ?v21) (by simp only [List.getElem?_toArray, List.getElem?_cons_zero, List.getElem?_cons_succ]; exact rfl) (by kernel_rfl) (by kernel_rfl) (by kernel_rfl) (by exact fun _ _ _ h => h) (Or.inl ⟨by rfl, ?y21⟩) hS ?r21
  case y21 => (intro w' hSw; (try dsimp only at hSw); go_simp; (try with_reducible rfl))
  simp only [Act.put, List.setIfInBounds_toArray, List.set_cons_zero, List.set_cons_succ]
  refine wpAnyH_take (i := 22) (v := ?v22) (by simp only [List.getElem?_toArray, List.getElem?_cons_zero, List.getElem?_cons_succ]; exact rfl) (by kernel_rfl) (by kernel_rfl) (by kernel_rfl) (by exact fun _ _ _ h => h) (Or.inl ⟨by rfl, ?y22⟩) hS ?r22
  case y22 => (intro w' hSw; (try dsimp only at hSw); go_simp; (try with_reducible rfl))
  simp only [Act.put, List.setIfInBounds_toArray, List.set_cons_zero, List.set_cons_succ]
  refine wpAnyH_take (i := 23) (v := ?v23) (by simp only [List.getElem?_toArray, List.getElem?_cons_zero, List.getElem?_cons_succ]; exact rfl) (by kernel_rfl) (by kernel_rfl) (by kernel_rfl) (by exact fun _ _ _ h => h) (Or.inl ⟨by rfl, ?y23⟩) hS ?r23
  case y23 => (intro w' hSw; (try dsimp only at hSw); go_simp; (try with_reducible rfl))
  simp only [Act.put, List.setIfInBounds_toArray, List.set_cons_zero, List.set_cons_succ]
  refine wpAnyH_take (i := 24) (v := ?v24) (by simp only [List.getElem?_toArray, List.getElem?_cons_zero, List.getElem?_cons_succ]; exact rfl) (by kernel_rfl) (by kernel_rfl) (by kernel_rfl) (by exact fun _ _ _ h => h) (Or.inl ⟨by rfl, ?y24⟩) hS ?r24
  case y24 => (intro w' hSw; (try dsimp only at hSw); go_simp; (try with_reducible rfl))
  simp only [Act.put, List.setIfInBounds_toArray, List.set_cons_zero, List.set_cons_succ]
  refine wpAnyH_take (i := 25) (v := ?v25) (by simp only [List.getElem?_toArray, List.getElem?_cons_zero, List.getElem?_cons_succ]; exact rfl) (by kernel_rfl) (by kernel_rfl) (by kernel_rfl) (by exact fun _ _ _ h => h) (Or.inl ⟨by rfl, ?y25⟩) hS ?r25
  case y25 => (intro w' hSw; (try dsimp only at hSw); go_simp; (try with_reducible rfl))
  simp only [Act.put, List.setIfInBounds_toArray, List.set_cons_zero, List.set_cons_succ]
  refine wpAnyH_take (i := 26) (v := ?v26) (by simp only [List.getElem?_toArray, List.getElem?_cons_zero, List.getElem?_cons_succ]; exact rfl) (by kernel_rfl) (by kernel_rfl) (by kernel_rfl) (by exact fun _ _ _ h => h) (Or.inl ⟨by rfl, ?y26⟩) hS ?r26
  case y26 => (intro w' hSw; (try dsimp only at hSw); go_simp; (try with_reducible rfl))
  simp only [Act.put, List.setIfInBounds_toArray, List.set_cons_zero, List.set_cons_succ]
  refine wpAnyH_take (i := 27) (v := ?v27) (by simp only [List.getElem?_toArray, List.getElem?_cons_zero, List.getElem?_cons_succ]; exact rfl) (by kernel_rfl) (by kernel_rfl) (by kernel_rfl) (by exact fun _ _ _ h => h) (Or.inl ⟨by rfl, ?y27⟩) hS ?r27
  case y27 => (intro w' hSw; (try dsimp only at hSw); go_simp; (try with_reducible rfl))
  simp only [Act.put, List.setIfInBounds_toArray, List.set_cons_zero, List.set_cons_succ]
  refine wpAnyH_take (i := 28) (v := ?v28) (by simp only [List.getElem?_toArray, List.getElem?_cons_zero, List.getElem?_cons_succ]; exact rfl) (by kernel_rfl) (by kernel_rfl) (by kernel_rfl) (by exact fun _ _ _ h => h) (Or.inl ⟨by rfl, ?y28⟩) hS ?r28
  case y28 => (intro w' hSw; (try dsimp only at hSw); go_simp; (try with_reducible rfl))
  simp only [Act.put, List.setIfInBounds_toArray, List.set_cons_zero, List.set_cons_succ]
  refine wpAnyH_ready (rs := [29]) (by kernel_rfl) (by simp) ?_
  refine AllReadyH.cons (by simp only [List.getElem?_toArray, List.getElem?_cons_zero, List.getElem?_cons_succ]; exact rfl) (fun K hK => ?_) AllReadyH.nil
  go_simp
  refine hK.out _ _ ?k29 (fun hS => ?s29)
  case k29 => exact HS1.out
  clear hK K
  try simp only [Act.put, List.setIfInBounds_toArray, List.set_cons_zero, List.set_cons_succ]
  refine wpAnyH_ready (rs := [30]) (by kernel_rfl) (by simp) ?_
  refine AllReadyH.cons (by simp only [List.getElem?_toArray, List.getElem?_cons_zero, List.getElem?_cons_succ]; exact rfl) (fun K hK => ?_) AllReadyH.nil
  go_simp
  refine hK.out _ _ ?k30 (fun hS => ?s30)
  case k30 => exact HS1.out
  clear hK K
  try simp only [Act.put, List.setIfInBounds_toArray, List.set_cons_zero, List.set_cons_succ]
  refine wpAnyH_take (i := 31) (v := ?v31) (by simp only [List.getElem?_toArray, List.getElem?_cons_zero, List.getElem?_cons_succ]; exact rfl) (by kernel_rfl) (by kernel_rfl) (by kernel_rfl) (by exact fun _ _ _ h => h) (Or.inl ⟨by rfl, ?y31⟩) hS ?r31
  case y31 => (intro w' hSw; (try dsimp only at hSw); go_simp; (try with_reducible rfl))
  simp only [Act.put, List.setIfInBounds_toArray, List.set_cons_zero, List.set_cons_succ]
  refine wpAnyH_take (i := 32) (v := ?v32) (by simp only [List.getElem?_toArray, List.getElem?_cons_zero, List.getElem?_cons_succ]; exact rfl) (by kernel_rfl) (by kernel_rfl) (by kernel_rfl) (by exact fun _ _ _ h => h) (Or.inl ⟨by rfl, ?y32⟩) hS ?r32
  case y32 => (intro w' hSw; (try dsimp only at hSw); go_simp; (try with_reducible rfl))
  simp only [Act.put, List.setIfInBounds_toArray, List.set_cons_zero, List.set_cons_succ]
  refine wpAnyH_take (i := 33) (v := ?v33) (by simp only [List.getElem?_toArray, List.getElem?_cons_zero, List.getElem?_cons_succ]; exact rfl) (by kernel_rfl) (by kernel_rfl) (by kernel_rfl) (by exact fun _ _ _ h => h) (Or.inl ⟨by rfl, ?y33⟩) hS ?r33
  case y33 => (intro w' hSw; (try dsimp only at hSw); go_simp; (try with_reducible rfl))
  simp only [Act.put, List.setIfInBounds_toArray, List.set_cons_zero, List.set_cons_succ]
  refine wpAnyH_done (by kernel_rfl) ?_ _
  go_wp2
  go_ret
  exact ⟨rfl, HS1.out.2.2.2⟩
end Go.Proofs.Ytlondopgibcikaa
