/- Layer 6's helpers: made, awake, many, room. Assets: bytes that are read. The walks of entrepotref01. The document's sector of a log. Layer 6's acts: how they lie in memory; long, sector. -/
import Derived.Test.YtlondopgibcikaaGreatRows
import Derived.Test.YtlondopgibcikaaGreatG01
import Derived.Test.YtlondopgibcikaaGreatG02
import Derived.Test.YtlondopgibcikaaGreatG03
import Derived.Test.YtlondopgibcikaaGreatG04
import Derived.Test.YtlondopgibcikaaGreatG05
import Derived.Test.YtlondopgibcikaaGreatG06
import Derived.Test.YtlondopgibcikaaGreatG07
import Derived.Test.YtlondopgibcikaaGreatG08
import Derived.Test.YtlondopgibcikaaGreatG09
import Derived.Test.YtlondopgibcikaaGreatG10
import Derived.Test.YtlondopgibcikaaGreatG13
import Derived.Test.YtlondopgibcikaaGreatG14
import Derived.Test.YtlondopgibcikaaGreatG15
import Derived.Test.YtlondopgibcikaaGreatG16
import Derived.WalkKit
import Derived.WalkSpells
import Derived.WalkLawsBesides
import Derived.Deep.RegionHeld3
import Derived.Deep.QuietTactic
import Derived.BigQuiet
namespace Go.Proofs.YtlondopgibcikaaGreat
open Go.RowKit Ent
section
variable {B : Nat} {w0 w w1 : World} {As : List Asset} {a : Nat} {d : Dev}
/-- one of them, in a world that has only more blocks -/
theorem St.open2 (h : St B w0 w As) (hb : Below w.heap.size w w1) (i : Nat) {A : Asset} (hi : As[i]? = some A) :
    ∃ F, A w1 F ∧ (∀ k, F k → B ≤ k ∧ k < w.heap.size) ∧ ∀ (w' : World) (A' : Asset) (F' : Nat → Prop), Keep F w1 w' → Good A' → A' w' F' → (∀ k, F' k → grow F w1 w' k) → St B w0 w' (As.set i A') := by
  obtain ⟨Fs, hl, ho, _⟩ := h.own
  obtain ⟨F, hA, hF, _, hcl⟩ := h.open i hi
  have hg : Good A := by
    obtain ⟨G, hG⟩ : ∃ G, Fs[i]? = some G := ⟨_, List.getElem?_eq_getElem (by rw [hl]; exact (List.getElem?_eq_some_iff.1 hi).1)⟩
    exact (ho i A G hi hG).1
  refine ⟨F, hg.keep hA (Keep.ofBelow (F := fun _ => False) hb) (fun _ _ h => h), hF, fun w' A' F' hk hg' ha' hF' => ?_⟩
  refine hcl w' A' F' ((Keep.ofBelow hb).trans hk) hg' ha' (fun k hk' => ?_)
  rcases hF' k hk' with h1 | h1
  · exact .inl h1
  · exact .inr ⟨Nat.le_trans hb.size h1.1, h1.2⟩
theorem St.log_write2 (h : St B w0 w As) (hb : Below w.heap.size w w1) (i : Nat) (hi : As[i]? = some (dev a d)) (f t g at_ : Int) (ao : Option Addr) (rn rc : Nat) (rec : List UInt8) (hrn : rn = rec.length) (hrc : rn ≤ rc) (hrm : rn ≤ 9223372036854775807) (hs : SB w1 ao rc rec) (hap : rec ≠ [] → ∀ x, ao = some x → x.block < B ∨ w.heap.size ≤ x.block) (hlo : d.loose.length ≤ 1073000000) (ha1 : -9223372036854775808 ≤ at_ ∧ at_ ≤ 9223372036854775807) :
    Calls Tryz.prog 73 #[ptr a, .agg #[.int .i64 f, .int .i64 t, .int .i64 g], .int .i64 at_, .slice ao rn rc] w1 fun e w' => e = .returned (.tuple #[.int .i64 (logWrite d f t g at_ rec).1.1, .int .i64 (logWrite d f t g at_ rec).1.2]) ∧ St B w0 w' (As.set i (dev a (logWrite d f t g at_ rec).2)) := by
  obtain ⟨F, hA, hF, hcl⟩ := h.open2 hb i hi
  refine (logWrite_any f t g at_ ao rn rc rec hrn hrc hrm w1 hs (fun hne x hx hF' => by rcases hap hne x hx with h | h <;> have := hF _ hF' <;> omega) hA (fun k hk => Nat.lt_of_lt_of_le (hF k hk).2 hb.size) hlo ha1).mono ?_
  rintro e w' ⟨he, hp, hk⟩
  exact ⟨he, hcl w' _ _ hk (good_dev _ _) hp (fun _ h => h)⟩
end
theorem LR.ofRange {w : World} {g : Nat} {vs : List Value} {L : List (List UInt8)} (hr : w.rangeAt g 0 vs) (hvs : ∀ (i : Nat) (l : List UInt8), L[i]? = some l → ∃ lo cap, vs[i]? = some (.slice lo l.length cap) ∧ l.length ≤ cap ∧ SB w lo cap l) : LR w (some ⟨g, 0, none⟩) L := by
  refine .inr ⟨_, _, rfl, fun i m hm => ?_⟩
  obtain ⟨lo, cap, h1, h2, h3⟩ := hvs i m hm
  exact ⟨lo, cap, hr i _ h1, h2, h3⟩
end Go.Proofs.YtlondopgibcikaaGreat
namespace Go.Proofs.YtlondopgibcikaaGreat
open Go.RowKit Ent
theorem sb_lt {w : World} {ao : Option Addr} {cap : Nat} {l : List UInt8} (h : SB w ao cap l) (hne : l ≠ []) : ∀ a, ao = some a → a.block < w.heap.size := by
  intro a ha
  rcases h with ⟨_, _, h⟩ | ⟨_, _, h⟩ | ⟨b, o, h1, h2⟩
  · exact absurd h hne
  · exact absurd h hne
  · rw [h1] at ha; injection ha with ha; subst ha
    obtain ⟨x, l', rfl⟩ := List.exists_cons_of_ne_nil hne
    exact World.block_lt_of_cell? w ⟨b, o + 0, none⟩ (h2 0 (.int .u8 (x.toNat : Int)) (by simp [bv]))
/-- bytes that are read -/
def sbA (ao : Option Addr) (cap : Nat) (l : List UInt8) : Asset := fun w F => SB w ao cap l ∧ ∀ x, ao = some x → F x.block
theorem good_sbA (ao : Option Addr) (cap : Nat) (l : List UInt8) : Good (sbA ao cap l) := ⟨fun h hk hG => ⟨h.1.keep hk (fun a ha => hG _ (h.2 a ha)), h.2⟩⟩
/-- the slices of a row that are read -/
def ReadRow (w : World) (vs : List Value) (L : List (List UInt8)) : Prop := vs.length = L.length ∧ ∀ (i : Nat) (l : List UInt8), L[i]? = some l → ∃ lo cap, vs[i]? = some (.slice lo l.length cap) ∧ l.length ≤ cap ∧ SB w lo cap l
theorem ReadRow.nil (w : World) : ReadRow w [] [] := ⟨rfl, fun i l h => by simp at h⟩
theorem ReadRow.snoc {w : World} {vs : List Value} {L : List (List UInt8)} (h : ReadRow w vs L) {lo : Option Addr} {n cap : Nat} {l : List UInt8} (hn : n = l.length) (hc : n ≤ cap) (hs : SB w lo cap l) : ReadRow w (vs ++ [.slice lo n cap]) (L ++ [l]) := by
  subst hn
  refine ⟨by simp [h.1], fun i m hm => ?_⟩
  by_cases hi : i < L.length
  · rw [List.getElem?_append_left hi] at hm
    obtain ⟨lo', cap', h1, h2, h3⟩ := h.2 i m hm
    exact ⟨lo', cap', by rw [List.getElem?_append_left (by rw [h.1]; exact hi)]; exact h1, h2, h3⟩
  · have hi' : i = L.length := by
      have := (List.getElem?_eq_some_iff.1 hm).1
      simp at this; omega
    subst hi'
    rw [List.getElem?_append_right (Nat.le_refl _), Nat.sub_self] at hm
    simp at hm
    subst hm
    exact ⟨lo, cap, by rw [List.getElem?_append_right (by rw [h.1]; exact Nat.le_refl _), h.1, Nat.sub_self]; rfl, hc, hs⟩
theorem ReadRow.below {w w' : World} {vs : List Value} {L : List (List UInt8)} (h : ReadRow w vs L) (hb : Below w.heap.size w w') : ReadRow w' vs L :=
  ⟨h.1, fun i l hl => by obtain ⟨lo, cap, h1, h2, h3⟩ := h.2 i l hl; exact ⟨lo, cap, h1, h2, h3.below hb⟩⟩
theorem ReadRow.lr {w : World} {base : Nat} {T : TypeId} {v : Value} {q : Nat} {vs : List Value} {L : List (List UInt8)} (h : ReadRow w vs L) (ho : w.ownsRow base T 1 v q vs) : ∃ ao cap, v = .slice ao q cap ∧ q = L.length ∧ LR w ao L := by
  have hl := ho.1
  rw [Nat.mul_one, h.1] at hl
  rcases ho.2 with ⟨rfl, rfl⟩ | ⟨g, cap, cur, rfl, _, hh, _, _, _, ht⟩
  · exact ⟨none, 0, rfl, hl.symm, .inl (List.eq_nil_of_length_eq_zero hl)⟩
  · refine ⟨_, cap, rfl, hl.symm, LR.ofRange (vs := vs) (fun j u hu => ?_) h.2⟩
    rw [Nat.zero_add, cell_of_row w g j cur _ _ hh]
    rw [← ht, List.getElem?_take] at hu
    split at hu
    · simpa using hu
    · cases hu
section
variable {B : Nat} {w0 w w1 : World} {As : List Asset} {a : Nat} {d : Dev}
theorem St.addSB (h : St B w0 w As) (hb : Below w.heap.size w w1) {ao : Option Addr} {cap : Nat} {l : List UInt8} (hs : SB w1 ao cap l) (hr : ∀ x, ao = some x → w.heap.size ≤ x.block ∧ x.block < w1.heap.size) : St B w0 w1 (As ++ [sbA ao cap l]) :=
  h.add hb (F := fun k => ∃ x, ao = some x ∧ k = x.block) (good_sbA ao cap l) ⟨hs, fun x hx => ⟨x, hx, rfl⟩⟩ (fun k ⟨x, hx, e⟩ => by rw [e]; exact hr x hx)
theorem St.sb (h : St B w0 w As) (i : Nat) {ao : Option Addr} {cap : Nat} {l : List UInt8} (hi : As[i]? = some (sbA ao cap l)) : SB w ao cap l := by
  obtain ⟨F, hA, _⟩ := h.open i hi
  exact hA.1
theorem St.dev_write3 (h : St B w0 w As) (i : Nat) (hi : As[i]? = some (dev a d)) (n : Int) (j : Nat) (hij : i ≠ j) (bo : Option Addr) (m c : Nat) (b : List UInt8) (hj : As[j]? = some (sbA bo c b)) (hm : m = b.length) (hlo : d.loose.length ≤ 1073741824) :
    Calls Tryz.prog 13 #[ptr a, .int .i64 n, .slice bo m c] w fun e w' => e = .returned (.int .i64 (d.write n b).1) ∧ St B w0 w' (As.set i (dev a (d.write n b).2)) := by
  obtain ⟨F, hA, hF, ho, hcl⟩ := h.open i hi
  obtain ⟨G, hG, _, hFG⟩ := ho j _ hij hj
  refine (lift_write n bo m c b hm w hG.1 (fun x hx hf => hFG _ hf (hG.2 x hx)) hlo hA).mono ?_
  rintro e w' ⟨he, hp, hk⟩
  exact ⟨he, hcl w' _ _ hk (good_dev _ _) hp (fun _ h => h)⟩
end
end Go.Proofs.YtlondopgibcikaaGreat
namespace Go.Proofs.YtlondopgibcikaaGreat
open Go.RowKit Ent
theorem rstep_int (r : R32) (h : bits BinOp.and IntKind.u32 (r.toNat : Int) 1 = 1) : bits BinOp.xor IntKind.u32 ((r.toNat : Int) / 2) 3988292384 = ((stp r).toNat : Int) := by
  have e1 : bits BinOp.and IntKind.u32 (r.toNat : Int) 1 = ((r &&& 1#32).toNat : Int) := and32 r 1#32
  have e2 : ((r.toNat : Int) / (2 : Int)) = ((r >>> 1).toNat : Int) := shr32 r 1 2 rfl
  have e3 : (3988292384 : Int) = (cpoly.toNat : Int) := rfl
  rw [e2, e3, xor32]
  unfold stp
  rw [if_pos]
  rw [e1, lsb_and] at h
  cases hb : r.getLsbD 0
  · rw [hb] at h; simp at h
  · rfl
theorem rstep_int0 (r : R32) (h : ¬ bits BinOp.and IntKind.u32 (r.toNat : Int) 1 = 1) : ((r.toNat : Int) / 2) = ((stp r).toNat : Int) := by
  have e1 : bits BinOp.and IntKind.u32 (r.toNat : Int) 1 = ((r &&& 1#32).toNat : Int) := and32 r 1#32
  have e2 : ((r.toNat : Int) / (2 : Int)) = ((r >>> 1).toNat : Int) := shr32 r 1 2 rfl
  rw [e2]
  unfold stp
  rw [if_neg]
  rw [e1, lsb_and] at h
  cases hb : r.getLsbD 0
  · simp
  · rw [hb] at h; simp at h
set_option maxRecDepth 100000 in
set_option maxHeartbeats 400000 in
theorem rpass_any (r : R32) (c : UInt8) (w : World) :
    Calls Tryz.prog 126 #[.int .u32 r.toNat, .int .u8 c.toNat] w fun e w' => e = .returned (.int .u32 (cpass r c).toNat) ∧ w = w' := by
  have hx := zb_int r c
  have hl := byte_lt c
  go_enter Tryz.func126, Tryz.ntmps126
  go_wp2
  go_loop [0, 5, 6] (fun x i _ => ∃ k : Nat, k ≤ 8 ∧ i = .int .i64 k ∧ x = .int .u32 (stps k (r ^^^ zb c)).toNat) (fun _ i _ => 8 - (intOf i).toNat)
  case atStart => exact ⟨0, Nat.zero_le _, rfl, by simp [stps]⟩
  case round =>
    clear hx hl
    obtain ⟨k, hk, rfl, rfl⟩ := hrel
    by_cases hlt : k < 8
    · have E := hid (stps_succ' k (r ^^^ zb c))
      generalize stps k (r ^^^ zb c) = q at *
      by_cases hb : bits BinOp.and IntKind.u32 (q.toNat : Int) 1 = 1
      · have hb' : (bits BinOp.and IntKind.u32 (q.toNat : Int) 1 == 1) = true := by simp [hb]
        have H := hid hb
        clear hb
        go_wp2
        go_round
        case rel => exact ⟨k + 1, by omega, by go_num, by rw [E.out, rstep_int q H.out]⟩
        case measure => simp [intOf]; omega
      · have hb' : (bits BinOp.and IntKind.u32 (q.toNat : Int) 1 == 1) = false := by simp [hb]
        have H := hid hb
        clear hb
        go_wp2
        go_round
        case rel => exact ⟨k + 1, by omega, by go_num, by rw [E.out, rstep_int0 q H.out]⟩
        case measure => simp [intOf]; omega
    · have hk8 : k = 8 := by omega
      subst hk8
      go_wp2
      go_ret
      exact ⟨rfl, rfl⟩
set_option maxRecDepth 100000 in
set_option maxHeartbeats 400000 in
theorem rmore_any (s : R32) (ao : Option Addr) (n cap : Nat) (l : List UInt8) (hn : n = l.length) (hm : n ≤ 1073741824) (w : World) (hl : SB w ao cap l) :
    Calls Tryz.prog 123 #[.int .u32 s.toNat, .slice ao n cap] w fun e w' => e = .returned (.int .u32 (cmore s l).toNat) ∧ w = w' := by
  subst hn
  have hN := not32 s
  obtain ⟨q, hq⟩ : ∃ q, ~~~ s = q := ⟨_, rfl⟩
  rw [hq] at hN
  have HQ := hid hq
  clear hq
  go_enter Tryz.func123, Tryz.ntmps123
  go_wp2
  go_loop [5, 6] (fun x i => ∃ k : Nat, k ≤ l.length ∧ i = .int .i64 k ∧ x = .int .u32 (regs (l.take k) q).toNat) (fun _ i => l.length - (intOf i).toNat)
  case atStart => exact ⟨0, Nat.zero_le _, rfl, rfl⟩
  case round =>
    clear hN
    obtain ⟨k, hk, rfl, rfl⟩ := hrel
    by_cases hlt : k < l.length
    · rcases hl with ⟨_, _, rfl⟩ | ⟨_, _, rfl⟩ | ⟨b, o, rfl, hr⟩
      · simp at hlt
      · simp at hlt
      · obtain ⟨x, hx⟩ : ∃ x, l[k]? = some x := ⟨l[k], by simp [hlt]⟩
        have hc := rangeAt_byte hr hx
        have E : Hid (regs (l.take (k + 1)) q = cpass (regs (l.take k) q) x) := by
          have : l.take (k + 1) = l.take k ++ [x] := by rw [List.take_add_one, hx]; rfl
          show regs (l.take (k + 1)) q = cpass (regs (l.take k) q) x
          rw [this, regs_append]; rfl
        clear hr hx
        go_wp2_with (go_at_call 126; ((with_reducible refine (rpass_any _ x _).mono ?_); rintro e w' ⟨rfl, rfl⟩))
        go_round
        case rel => exact ⟨k + 1, by omega, by go_num, by rw [E.out]⟩
        case measure => simp [intOf]; omega
    · have hkn : l.length ≤ k := by omega
      clear hl
      have E : Hid (l.take k = l) := List.take_of_length_le hkn
      go_wp2
      go_ret
      exact ⟨ret_int (by rw [E.out, not32]; unfold cmore; rw [HQ.out]), rfl⟩
theorem rmore_zero (ao : Option Addr) (n cap : Nat) (l : List UInt8) (hn : n = l.length) (hm : n ≤ 1073741824) (w : World) (hl : SB w ao cap l) :
    Calls Tryz.prog 123 #[.int .u32 0, .slice ao n cap] w fun e w' => e = .returned (.int .u32 (csum l).toNat) ∧ w = w' := rmore_any 0#32 ao n cap l hn hm w hl
theorem rsum_any (ao : Option Addr) (n cap : Nat) (l : List UInt8) (hn : n = l.length) (hm : n ≤ 1073741824) (w : World) (hl : SB w ao cap l) :
    Calls Tryz.prog 112 #[.slice ao n cap] w fun e w' => e = .returned (.int .u32 (csum l).toNat) ∧ w = w' := by
  subst hn
  go_enter Tryz.func112, Tryz.ntmps112
  go_wp2_with (go_at_call 123; ((with_reducible refine (rmore_zero ao _ cap l rfl hm _ hl).mono ?_); rintro e w1 ⟨rfl, rfl⟩))
  go_ret
  exact ⟨rfl, rfl⟩
end Go.Proofs.YtlondopgibcikaaGreat
namespace Go.Proofs.YtlondopgibcikaaGreat
open Go.RowKit Ent
theorem Blk.setN {w : World} {g : Nat} {T : TypeId} {l : List UInt8} (h : Blk w g T (bv l)) (i : Nat) {z : Int} {q : Nat} (hz : z = ((UInt8.ofNat q).toNat : Int)) : Blk (w.setCell ⟨g, i, none⟩ (.int .u8 z)) g T (bv (l.set i (UInt8.ofNat q))) := by
  rw [hz]; exact h.setB i _
def byteAt (n k : Nat) : UInt8 := UInt8.ofNat (n / 2 ^ (24 - 8 * k))
def secB1 (g i : Nat) : Nat → List UInt8
  | 0 => zr 64
  | k + 1 => ((secB1 g i k).set (4 + k) (byteAt g k)).set (8 + k) (byteAt i k)
theorem secB1_len (g i : Nat) : ∀ k, (secB1 g i k).length = 64
  | 0 => rfl
  | k + 1 => by rw [secB1, List.length_set, List.length_set, secB1_len g i k]
theorem secB1_all (g i : Nat) : secB1 g i 4 = mk2 g i := by
  simp [secB1, byteAt, mk2, zr, be4, List.replicate]
def secB3 (s : Nat) (l : List UInt8) : Nat → List UInt8
  | 0 => l
  | k + 1 => (secB3 s l k).set k (byteAt s k)
theorem secB3_len (s : Nat) (l : List UInt8) : ∀ k, (secB3 s l k).length = l.length
  | 0 => rfl
  | k + 1 => by rw [secB3, List.length_set, secB3_len s l k]
theorem secB3_all (s : Nat) (l : List UInt8) : secB3 s (zr 4 ++ l) 4 = be4 s ++ l := by
  simp [secB3, byteAt, zr, be4, List.replicate]
theorem putAt_step {l p : List UInt8} {i j : Nat} {x : UInt8} (hx : p[j]? = some x) (hl : i + j < l.length) : (putAt l i (p.take j)).set (i + j) x = putAt l i (p.take (j + 1)) := by
  have hj := (List.getElem?_eq_some_iff.1 hx).1
  have h1 : (p.take j).length = j := by simp; omega
  have h2 : (p.take (j + 1)).length = j + 1 := by simp; omega
  have h3 : (l.take i ++ p.take j).length = i + j := by simp; omega
  unfold putAt
  rw [h1, h2, List.drop_eq_getElem_cons hl, List.set_append_right _ _ (by rw [h3]; exact Nat.le_refl _), h3, Nat.sub_self, List.set_cons_zero, List.take_add_one, hx]
  simp [Nat.add_assoc]
theorem putAt_full (l p : List UInt8) (i : Nat) : putAt l i (p.take p.length) = putAt l i p := by rw [List.take_length]
theorem bz0 (n : Nat) (h : n < 4294967296) : (n : Int) / 16777216 = ((UInt8.ofNat (n / 2 ^ (24 - 8 * 0))).toNat : Int) := by
  have q : ((UInt8.ofNat (n / 16777216)).toNat : Int) = ((n / 16777216 % 256 : Nat) : Int) := by simp
  show _ = ((UInt8.ofNat (n / 16777216)).toNat : Int)
  rw [q]; omega
theorem bz1 (n : Nat) : (n : Int) / 65536 % 256 = ((UInt8.ofNat (n / 2 ^ (24 - 8 * 1))).toNat : Int) := by
  have q : ((UInt8.ofNat (n / 65536)).toNat : Int) = ((n / 65536 % 256 : Nat) : Int) := by simp
  show _ = ((UInt8.ofNat (n / 65536)).toNat : Int)
  rw [q]; omega
theorem bz2 (n : Nat) : (n : Int) / 256 % 256 = ((UInt8.ofNat (n / 2 ^ (24 - 8 * 2))).toNat : Int) := by
  have q : ((UInt8.ofNat (n / 256)).toNat : Int) = ((n / 256 % 256 : Nat) : Int) := by simp
  show _ = ((UInt8.ofNat (n / 256)).toNat : Int)
  rw [q]; omega
theorem bz3 (n : Nat) : (n : Int) % 256 = ((UInt8.ofNat (n / 2 ^ (24 - 8 * 3))).toNat : Int) := by
  have q : ((UInt8.ofNat (n / 1)).toNat : Int) = ((n / 1 % 256 : Nat) : Int) := by simp
  show _ = ((UInt8.ofNat (n / 1)).toNat : Int)
  rw [q]; omega
set_option maxRecDepth 100000 in
set_option maxHeartbeats 2000000 in
theorem rsector_any (gen index kind : Nat) (ao : Option Addr) (n c : Nat) (part : List UInt8) (hn : n = part.length) (h49 : n ≤ 49) (hg : gen < 2147483648) (hi : index < 2147483648) (hk : kind ≤ 255) (w : World) (hp : SB w ao c part) :
    Calls Tryz.prog 121 #[.int .i64 gen, .int .i64 index, .int .i64 kind, .slice ao n c] w fun e w' => ∃ g, e = .returned (.slice (some ⟨g, 0, none⟩) 64 64) ∧ Blk w' g 5 (bv (logSec gen index kind part)) ∧ w.heap.size ≤ g ∧ Below w.heap.size w w' := by
  have HN := hid hn; have HP := hid hp
  have HKI := hid (byte_small kind hk)
  have HNI := hid (byte_small n (by omega))
  obtain ⟨g, hgg⟩ : ∃ g, g = w.heap.size := ⟨_, rfl⟩
  have HG := hid hgg
  clear hn hp hgg
  go_enter Tryz.func121, Tryz.ntmps121
  go_wp2_with (refine wpl_makeZ rfl _ _ rfl 64 rfl rfl (by omega) ?_; intro w1 hb1 hm1; rw [← HG.out]; rw [← HG.out] at hm1; have H1 := hid hm1; have HB1 := hid hb1; clear hb1 hm1)
  go_loopw [10] (fun i wr => ∃ k : Nat, k ≤ 4 ∧ i = .int .i64 k ∧ Blk wr g 5 (bv (secB1 gen index k)) ∧ Below w.heap.size w wr) (fun i _ => 4 - (intOf i).toNat)
  case atStart => exact ⟨0, by omega, rfl, H1.out, HB1.out⟩
  case round =>
    obtain ⟨k, hk4, rfl, hm, hb⟩ := hrel
    have HM := hid hm; have HB := hid hb
    clear hm hb
    by_cases hlt : k < 4
    · rcases (by omega : k = 0 ∨ k = 1 ∨ k = 2 ∨ k = 3) with rfl | rfl | rfl | rfl
      · obtain ⟨v0, c0⟩ := blk_some HM.out (j := 4) (by rw [bv_length, secB1_len]; omega)
        have f0 := HM.out.free 4
        have HM1 := hid (HM.out.setN 4 (bz0 gen (by omega)))
        obtain ⟨v1, c1⟩ := blk_some HM1.out (j := 8) (by rw [bv_length, List.length_set, secB1_len]; omega)
        have f1 := HM1.out.free 8
        have HM2 := hid (HM1.out.setN 8 (bz0 index (by omega)))
        have HB2 := hid ((HB.out.setCell (p := ⟨g, 4, none⟩) (by rw [HG.out]; exact Nat.le_refl _) (.int .u8 ((gen : Int) / 16777216))).setCell (p := ⟨g, 8, none⟩) (by rw [HG.out]; exact Nat.le_refl _) (.int .u8 ((index : Int) / 16777216)))
        go_wp2
        go_roundw
        case rel => exact ⟨1, by omega, by go_num, HM2.out, HB2.out⟩
        case measure => simp [intOf]
      · obtain ⟨v0, c0⟩ := blk_some HM.out (j := 5) (by rw [bv_length, secB1_len]; omega)
        have f0 := HM.out.free 5
        have HM1 := hid (HM.out.setN 5 (bz1 gen))
        obtain ⟨v1, c1⟩ := blk_some HM1.out (j := 9) (by rw [bv_length, List.length_set, secB1_len]; omega)
        have f1 := HM1.out.free 9
        have HM2 := hid (HM1.out.setN 9 (bz1 index))
        have HB2 := hid ((HB.out.setCell (p := ⟨g, 5, none⟩) (by rw [HG.out]; exact Nat.le_refl _) (.int .u8 ((gen : Int) / 65536 % 256))).setCell (p := ⟨g, 9, none⟩) (by rw [HG.out]; exact Nat.le_refl _) (.int .u8 ((index : Int) / 65536 % 256)))
        go_wp2
        go_roundw
        case rel => exact ⟨2, by omega, by go_num, HM2.out, HB2.out⟩
        case measure => simp [intOf]
      · obtain ⟨v0, c0⟩ := blk_some HM.out (j := 6) (by rw [bv_length, secB1_len]; omega)
        have f0 := HM.out.free 6
        have HM1 := hid (HM.out.setN 6 (bz2 gen))
        obtain ⟨v1, c1⟩ := blk_some HM1.out (j := 10) (by rw [bv_length, List.length_set, secB1_len]; omega)
        have f1 := HM1.out.free 10
        have HM2 := hid (HM1.out.setN 10 (bz2 index))
        have HB2 := hid ((HB.out.setCell (p := ⟨g, 6, none⟩) (by rw [HG.out]; exact Nat.le_refl _) (.int .u8 ((gen : Int) / 256 % 256))).setCell (p := ⟨g, 10, none⟩) (by rw [HG.out]; exact Nat.le_refl _) (.int .u8 ((index : Int) / 256 % 256)))
        go_wp2
        go_roundw
        case rel => exact ⟨3, by omega, by go_num, HM2.out, HB2.out⟩
        case measure => simp [intOf]
      · obtain ⟨v0, c0⟩ := blk_some HM.out (j := 7) (by rw [bv_length, secB1_len]; omega)
        have f0 := HM.out.free 7
        have HM1 := hid (HM.out.setN 7 (bz3 gen))
        obtain ⟨v1, c1⟩ := blk_some HM1.out (j := 11) (by rw [bv_length, List.length_set, secB1_len]; omega)
        have f1 := HM1.out.free 11
        have HM2 := hid (HM1.out.setN 11 (bz3 index))
        have HB2 := hid ((HB.out.setCell (p := ⟨g, 7, none⟩) (by rw [HG.out]; exact Nat.le_refl _) (.int .u8 ((gen : Int) % 256))).setCell (p := ⟨g, 11, none⟩) (by rw [HG.out]; exact Nat.le_refl _) (.int .u8 ((index : Int) % 256)))
        go_wp2
        go_roundw
        case rel => exact ⟨4, by omega, by go_num, HM2.out, HB2.out⟩
        case measure => simp [intOf]
    · obtain rfl : k = 4 := by omega
      have HM2 : Hid (Blk wr g 5 (bv (mk2 gen index))) := hid (by rw [← secB1_all]; exact HM.out)
      have c12 : wr.cell? ⟨g, 12, none⟩ = some (.int .u8 0) := HM2.out.cell (j := 12) rfl
      have f12 := HM2.out.free 12
      have h4 := HM2.out.setB 12 (UInt8.ofNat kind)
      rw [← HKI.out] at h4
      have c13 : (wr.setCell ⟨g, 12, none⟩ (.int .u8 (kind : Int))).cell? ⟨g, 13, none⟩ = some (.int .u8 0) := h4.cell (j := 13) rfl
      have f13 := h4.free 13
      have h5 := h4.setB 13 (UInt8.ofNat n)
      rw [← HNI.out] at h5
      have H5 : Hid (Blk ((wr.setCell ⟨g, 12, none⟩ (.int .u8 (kind : Int))).setCell ⟨g, 13, none⟩ (.int .u8 (n : Int))) g 5 (bv (mk3 gen index kind part))) := hid (by rw [HN.out, mk3_of] at h5; rw [← HN.out] at h5; exact h5)
      have HB5 : Hid (Below w.heap.size w ((wr.setCell ⟨g, 12, none⟩ (.int .u8 (kind : Int))).setCell ⟨g, 13, none⟩ (.int .u8 (n : Int)))) := hid ((HB.out.setCell (p := ⟨g, 12, none⟩) (by rw [HG.out]; exact Nat.le_refl _) _).setCell (p := ⟨g, 13, none⟩) (by rw [HG.out]; exact Nat.le_refl _) _)
      have HL3 : Hid ((mk3 gen index kind part).length = 64) := hid rfl
      clear h4 h5
      go_wp2_with fail
      generalize (wr.setCell ⟨g, 12, none⟩ (.int .u8 (kind : Int))).setCell ⟨g, 13, none⟩ (.int .u8 (n : Int)) = w5 at *
      clear c12 f12 c13 f13
      go_loopw [11] (fun i wr => ∃ k : Nat, k ≤ n ∧ i = .int .i64 k ∧ Blk wr g 5 (bv (putAt (mk3 gen index kind part) 14 (part.take k))) ∧ Below w.heap.size w wr) (fun i _ => n - (intOf i).toNat)
      case atStart => exact ⟨0, Nat.zero_le _, rfl, by simpa [putAt] using H5.out, HB5.out⟩
      case round =>
        obtain ⟨k, hkn, rfl, hm, hb⟩ := hrel
        have HM := hid hm; have HB := hid hb
        clear hm hb
        by_cases hlt : k < n
        · obtain ⟨x, hx⟩ : ∃ x, part[k]? = some x := ⟨_, List.getElem?_eq_getElem (by rw [← HN.out]; exact hlt)⟩
          have hpl : putAt (mk3 gen index kind part) 14 (part.take k) = putAt (mk3 gen index kind part) 14 (part.take k) := rfl
          obtain ⟨b1, o1, rfl, cx⟩ := sb_at (HP.out.below HB.out) hx
          have hlen : (putAt (mk3 gen index kind part) 14 (part.take k)).length = 64 := by rw [putAt_len _ _ _ (by rw [HL3.out]; simp; omega), HL3.out]
          obtain ⟨v0, c0⟩ := blk_some HM.out (j := 14 + k) (by rw [bv_length, hlen]; omega)
          have f0 := HM.out.free (14 + k)
          have HS := hid (HM.out.setB (14 + k) x)
          have HS2 : Hid (Blk (wr.setCell ⟨g, 14 + k, none⟩ (.int .u8 (x.toNat : Int))) g 5 (bv (putAt (mk3 gen index kind part) 14 (part.take (k + 1))))) := hid (by
            have := HS.out
            rw [putAt_step hx (by rw [HL3.out]; omega)] at this
            exact this)
          have HB2 : Hid (Below w.heap.size w (wr.setCell ⟨g, 14 + k, none⟩ (.int .u8 (x.toNat : Int)))) := hid (HB.out.setCell (p := ⟨g, 14 + k, none⟩) (by rw [HG.out]; exact Nat.le_refl _) _)
          clear hpl hlen hx HS
          go_wp2
          go_roundw
          case rel => exact ⟨k + 1, by omega, by go_num, HS2.out, HB2.out⟩
          case measure => simp [intOf]; omega
        · obtain rfl : k = n := by omega
          have HM4 : Hid (Blk wr g 5 (bv (mk4 gen index kind part))) := hid (by
            have := HM.out
            rw [HN.out, putAt_full, mk4_of _ _ _ _ (by rw [← HN.out]; exact h49)] at this
            exact this)
          obtain ⟨v63, c63⟩ := blk_some HM4.out (j := 63) (by rw [bv_length]; simp [mk4]; omega)
          have f63 := HM4.out.free 63
          have H7 : Hid (Blk (wr.setCell ⟨g, 63, none⟩ (.int .u8 165)) g 5 (bv (mk5 gen index kind part))) := hid (by
            have := HM4.out.setB 63 165
            rw [mk5_of _ _ _ _ (by rw [← HN.out]; exact h49)] at this
            exact this)
          have HB7 : Hid (Below w.heap.size w (wr.setCell ⟨g, 63, none⟩ (.int .u8 165))) := hid (HB.out.setCell (p := ⟨g, 63, none⟩) (by rw [HG.out]; exact Nat.le_refl _) _)
          go_wp2_with fail
          generalize hw7 : wr.setCell ⟨g, 63, none⟩ (.int .u8 165) = w7 at *
          clear hw7 c63 f63
          refine (rsum_any (some ⟨g, 4, none⟩) 60 60 (secBody gen index kind part) (secBody_len (by rw [← HN.out]; exact h49)).symm (by omega) w7 (.inr (.inr ⟨g, 4, rfl, H7.out.range fun j v hv => by
            rw [bv_get, show (mk5 gen index kind part)[4 + j]? = (secBody gen index kind part)[j]? by rw [← mk5_drop, List.getElem?_drop], ← bv_get]; exact hv⟩))).mono ?_
          rintro e w' ⟨rfl, hw'⟩
          subst w'
          obtain ⟨s, hs⟩ : ∃ s, (csum (secBody gen index kind part)).toNat = s := ⟨_, rfl⟩
          have hsb : s < 4294967296 := by rw [← hs]; exact (csum (secBody gen index kind part)).isLt
          have HS := hid hs
          rw [hs]
          clear hs
          go_wp2_with fail
          have HL5 := hid (show (mk5 gen index kind part).length = 64 by rw [mk5, List.length_append, secBody_len (by rw [← HN.out]; exact h49)]; rfl)
          go_loopw [13] (fun i wr => ∃ k : Nat, k ≤ 4 ∧ i = .int .i64 k ∧ Blk wr g 5 (bv (secB3 s (mk5 gen index kind part) k)) ∧ Below w.heap.size w wr) (fun i _ => 4 - (intOf i).toNat)
          case atStart => exact ⟨0, by omega, rfl, H7.out, HB7.out⟩
          case round =>
            obtain ⟨k, hk4, rfl, hm, hb⟩ := hrel
            have HM := hid hm; have HB := hid hb
            clear hm hb
            by_cases hlt : k < 4
            · rcases (by omega : k = 0 ∨ k = 1 ∨ k = 2 ∨ k = 3) with rfl | rfl | rfl | rfl
              · obtain ⟨v0, c0⟩ := blk_some HM.out (j := 0) (by rw [bv_length, secB3_len, HL5.out]; omega)
                have f0 := HM.out.free 0
                have HM1 := hid (HM.out.setN 0 (bz0 s (by omega)))
                have HB2 := hid (HB.out.setCell (p := ⟨g, 0, none⟩) (by rw [HG.out]; exact Nat.le_refl _) (.int .u8 ((s : Int) / 16777216)))
                go_wp2
                go_roundw
                case rel => exact ⟨1, by omega, by go_num, HM1.out, HB2.out⟩
                case measure => simp [intOf]
              · obtain ⟨v0, c0⟩ := blk_some HM.out (j := 1) (by rw [bv_length, secB3_len, HL5.out]; omega)
                have f0 := HM.out.free 1
                have HM1 := hid (HM.out.setN 1 (bz1 s))
                have HB2 := hid (HB.out.setCell (p := ⟨g, 1, none⟩) (by rw [HG.out]; exact Nat.le_refl _) (.int .u8 ((s : Int) / 65536 % 256)))
                go_wp2
                go_roundw
                case rel => exact ⟨2, by omega, by go_num, HM1.out, HB2.out⟩
                case measure => simp [intOf]
              · obtain ⟨v0, c0⟩ := blk_some HM.out (j := 2) (by rw [bv_length, secB3_len, HL5.out]; omega)
                have f0 := HM.out.free 2
                have HM1 := hid (HM.out.setN 2 (bz2 s))
                have HB2 := hid (HB.out.setCell (p := ⟨g, 2, none⟩) (by rw [HG.out]; exact Nat.le_refl _) (.int .u8 ((s : Int) / 256 % 256)))
                go_wp2
                go_roundw
                case rel => exact ⟨3, by omega, by go_num, HM1.out, HB2.out⟩
                case measure => simp [intOf]
              · obtain ⟨v0, c0⟩ := blk_some HM.out (j := 3) (by rw [bv_length, secB3_len, HL5.out]; omega)
                have f0 := HM.out.free 3
                have HM1 := hid (HM.out.setN 3 (bz3 s))
                have HB2 := hid (HB.out.setCell (p := ⟨g, 3, none⟩) (by rw [HG.out]; exact Nat.le_refl _) (.int .u8 ((s : Int) % 256)))
                go_wp2
                go_roundw
                case rel => exact ⟨4, by omega, by go_num, HM1.out, HB2.out⟩
                case measure => simp [intOf]
            · obtain rfl : k = 4 := by omega
              have HF : Hid (Blk wr g 5 (bv (logSec gen index kind part))) := hid (by
                have := HM.out
                rw [show mk5 gen index kind part = zr 4 ++ secBody gen index kind part from rfl, secB3_all, ← HS.out] at this
                exact this)
              go_wp2
              go_ret
              exact ⟨g, rfl, HF.out, by rw [HG.out]; exact Nat.le_refl _, HB.out⟩
end Go.Proofs.YtlondopgibcikaaGreat
namespace Go.Proofs.YtlondopgibcikaaGreat
open Go.RowKit Ent
structure Act6 where
  kind : Int
  f : Int
  t : Int
  g : Int
  n : Int
  bo : Option Addr
  bc : Nat
  b : List UInt8
  ko : Option Addr
  kc : Nat
  keep : List Bool
def Act6.cells (a : Act6) : List Value := [.int .i64 a.kind, .int .i64 a.f, .int .i64 a.t, .int .i64 a.g, .int .i64 a.n, .slice a.bo a.b.length a.bc, .slice a.ko a.keep.length a.kc]
structure Act6.fits (w : World) (a : Act6) : Prop where
  k1 : -9223372036854775808 ≤ a.kind ∧ a.kind ≤ 9223372036854775807
  n1 : -9223372036854775808 ≤ a.n ∧ a.n ≤ 9223372036854775807
  sb : SB w a.bo a.bc a.b
  sc : a.b.length ≤ a.bc
  bl : BL w a.ko a.keep
theorem Act6.fits.below {w w' : World} {a : Act6} (h : a.fits w) (hb : Below w.heap.size w w') : a.fits w' := ⟨h.k1, h.n1, h.sb.below hb, h.sc, h.bl.below hb⟩
/-- acts that may be read -/
def AL6 (w : World) (ao : Option Addr) (l : List Act6) : Prop := l = [] ∨ ∃ b o, ao = some ⟨b, o, none⟩ ∧ ∀ i a, l[i]? = some a → a.fits w ∧ (a.b.length ≤ 9223372036854775807 ∧ a.keep.length ≤ 9223372036854775807) ∧ ∀ j v, a.cells[j]? = some v → w.cell? ⟨b, o + i * 7 + j, none⟩ = some v
theorem AL6.below {w w' : World} {ao : Option Addr} {l : List Act6} (h : AL6 w ao l) (hb : Below w.heap.size w w') : AL6 w' ao l := by
  rcases h with h | ⟨b, o, rfl, h⟩
  · exact .inl h
  · refine .inr ⟨b, o, rfl, fun i a ha => ⟨(h i a ha).1.below hb, (h i a ha).2.1, fun j v hv => ?_⟩⟩
    have hc := (h i a ha).2.2 j v hv
    rw [hb.cell (World.block_lt_of_cell? w _ hc)]; exact hc
theorem AL6.at {w : World} {ao : Option Addr} {l : List Act6} (h : AL6 w ao l) {i : Nat} {a : Act6} (ha : l[i]? = some a) : ∃ b o, ao = some ⟨b, o, none⟩ ∧ a.fits w ∧ (a.b.length ≤ 9223372036854775807 ∧ a.keep.length ≤ 9223372036854775807) ∧ ∀ j v, a.cells[j]? = some v → w.cell? ⟨b, o + i * 7 + j, none⟩ = some v := by
  rcases h with rfl | ⟨b, o, rfl, h⟩
  · simp at ha
  · exact ⟨b, o, rfl, h i a ha⟩
end Go.Proofs.YtlondopgibcikaaGreat
