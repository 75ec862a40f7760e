/-
  No cell of these rows narrows 'for every input' (looked for: loops, veiled, ifaces, maps, wideKeys, modest, calm, conditions, laid).
  DERIVED. THE GIVEN ROWS OF THIS SEAT. 19 by the template 'for every input the law returns true; each argument reads behind the call as it read before'; 0 by the template 'total and deterministic' (their statements: YtlondopgibcikaaTotals.lean).
  GIVEN WITH THE SEED: the statements are not yours to turn. If you find one false, say at which input.
  Laid BY PROGRAM, IN A SANDBOX (cutbox-rows.mjs): the forced cells as the released guide's own fill.sh prints them over the translation 063d3f6c3d0fe5d5… (all of the seat's roots in one cut). By AI agents, Wed Nov 11 2026. No macro, syntax, notation, axiom, sorry.
-/
import Derived.Test.YtlondopgibcikaaChecked
import GoSem.Claim
import GoSem.ClaimJoined
import GoSem.ClaimMapViews
import Derived.JoinedTies
import Derived.KernelRfl
namespace Go.Proofs.Ytlondopgibcikaa
/- THE CELL 'sum', in the pinned program and in every row, IS THE sha256 OF THE DUMP (.gsa) THAT YtlondopgibcikaaProg.lean LOADS. Nothing in Lean hashes anything: it is a label: what it is worth is what the hold of that sum in a sandbox is worth. -/
noncomputable def Try.pinned : Pinned := { name := "ytlondopgibcikaa", sum := "063d3f6c3d0fe5d59eb91f76b1cb9b07bea6eb293e7553dd67d67ac71b6cd2b4", checked := Try.checked }
namespace Rows
def none {H : Type} : Left H := { results := [], args := [] }

/-- 'entrepotlaw01.CrcSeals': WHATEVER THE INPUT: true; the input reads as it did. -/
def crcSealsSpec : ChangeSpec := { name := "crcSeals", fn := fun _ => fun
  | [d] => { results := [.lit (.bool true)], args := [d] }
  | _ => none }
def crcSealsRow : OpenClaim := { program := "ytlondopgibcikaa", sum := "063d3f6c3d0fe5d59eb91f76b1cb9b07bea6eb293e7553dd67d67ac71b6cd2b4", func := "entrepot/entrepotlaw01.CrcSeals", spec := "crcSeals", unfollowed := true, recurses := true, apart := false }
def CrcSealsSaid : Prop := crcSealsRow.holds Try.pinned (OpenSpec.ofChange crcSealsSpec)

/-- ITS FALSE NEIGHBOUR: 'it returns false'. Refute it at one input. -/
def crcSealsWrong : ChangeSpec := { name := "crcSeals", fn := fun _ => fun
  | [d] => { results := [.lit (.bool false)], args := [d] }
  | _ => none }
def CrcSealsWrongFalsely : Prop := crcSealsRow.holds Try.pinned (OpenSpec.ofChange crcSealsWrong)

/-- 'entrepotlaw01.CrcKnown': WHATEVER THE INPUT: true; the input reads as it did. -/
def crcKnownSpec : ChangeSpec := { name := "crcKnown", fn := fun _ => fun
  | [] => { results := [.lit (.bool true)], args := [] }
  | _ => none }
def crcKnownRow : OpenClaim := { program := "ytlondopgibcikaa", sum := "063d3f6c3d0fe5d59eb91f76b1cb9b07bea6eb293e7553dd67d67ac71b6cd2b4", func := "entrepot/entrepotlaw01.CrcKnown", spec := "crcKnown", unfollowed := true, recurses := true, apart := false }
def CrcKnownSaid : Prop := crcKnownRow.holds Try.pinned (OpenSpec.ofChange crcKnownSpec)

/-- ITS FALSE NEIGHBOUR: 'it returns false'. Refute it at one input. -/
def crcKnownWrong : ChangeSpec := { name := "crcKnown", fn := fun _ => fun
  | [] => { results := [.lit (.bool false)], args := [] }
  | _ => none }
def CrcKnownWrongFalsely : Prop := crcKnownRow.holds Try.pinned (OpenSpec.ofChange crcKnownWrong)

/-- 'entrepotlaw01.CrcParts': WHATEVER THE INPUT: true; the input reads as it did. -/
def crcPartsSpec : ChangeSpec := { name := "crcParts", fn := fun _ => fun
  | [d1, d2, d3] => { results := [.lit (.bool true)], args := [d1, d2, d3] }
  | _ => none }
def crcPartsRow : OpenClaim := { program := "ytlondopgibcikaa", sum := "063d3f6c3d0fe5d59eb91f76b1cb9b07bea6eb293e7553dd67d67ac71b6cd2b4", func := "entrepot/entrepotlaw01.CrcParts", spec := "crcParts", unfollowed := true, recurses := true, apart := false }
def CrcPartsSaid : Prop := crcPartsRow.holds Try.pinned (OpenSpec.ofChange crcPartsSpec)

/-- ITS FALSE NEIGHBOUR: 'it returns false'. Refute it at one input. -/
def crcPartsWrong : ChangeSpec := { name := "crcParts", fn := fun _ => fun
  | [d1, d2, d3] => { results := [.lit (.bool false)], args := [d1, d2, d3] }
  | _ => none }
def CrcPartsWrongFalsely : Prop := crcPartsRow.holds Try.pinned (OpenSpec.ofChange crcPartsWrong)

/-- 'entrepotlaw01.CrcDamage': WHATEVER THE INPUT: true; the input reads as it did. -/
def crcDamageSpec : ChangeSpec := { name := "crcDamage", fn := fun _ => fun
  | [d1, d2, d3] => { results := [.lit (.bool true)], args := [d1, d2, d3] }
  | _ => none }
def crcDamageRow : OpenClaim := { program := "ytlondopgibcikaa", sum := "063d3f6c3d0fe5d59eb91f76b1cb9b07bea6eb293e7553dd67d67ac71b6cd2b4", func := "entrepot/entrepotlaw01.CrcDamage", spec := "crcDamage", unfollowed := true, recurses := true, apart := false }
def CrcDamageSaid : Prop := crcDamageRow.holds Try.pinned (OpenSpec.ofChange crcDamageSpec)

/-- ITS FALSE NEIGHBOUR: 'it returns false'. Refute it at one input. -/
def crcDamageWrong : ChangeSpec := { name := "crcDamage", fn := fun _ => fun
  | [d1, d2, d3] => { results := [.lit (.bool false)], args := [d1, d2, d3] }
  | _ => none }
def CrcDamageWrongFalsely : Prop := crcDamageRow.holds Try.pinned (OpenSpec.ofChange crcDamageWrong)

/-- 'entrepotlaw05.DeviceKnown': WHATEVER THE INPUT: true; the input reads as it did. -/
def deviceKnownSpec : ChangeSpec := { name := "deviceKnown", fn := fun _ => fun
  | [] => { results := [.lit (.bool true)], args := [] }
  | _ => none }
def deviceKnownRow : OpenClaim := { program := "ytlondopgibcikaa", sum := "063d3f6c3d0fe5d59eb91f76b1cb9b07bea6eb293e7553dd67d67ac71b6cd2b4", func := "entrepot/entrepotlaw05.DeviceKnown", spec := "deviceKnown", unfollowed := true, recurses := true, apart := false }
def DeviceKnownSaid : Prop := deviceKnownRow.holds Try.pinned (OpenSpec.ofChange deviceKnownSpec)

/-- ITS FALSE NEIGHBOUR: 'it returns false'. Refute it at one input. -/
def deviceKnownWrong : ChangeSpec := { name := "deviceKnown", fn := fun _ => fun
  | [] => { results := [.lit (.bool false)], args := [] }
  | _ => none }
def DeviceKnownWrongFalsely : Prop := deviceKnownRow.holds Try.pinned (OpenSpec.ofChange deviceKnownWrong)

/-- 'entrepotlaw05.DeviceCrash': WHATEVER THE INPUT: true; the input reads as it did. -/
def deviceCrashSpec : ChangeSpec := { name := "deviceCrash", fn := fun _ => fun
  | [d1, d2, d3, d4] => { results := [.lit (.bool true)], args := [d1, d2, d3, d4] }
  | _ => none }
def deviceCrashRow : OpenClaim := { program := "ytlondopgibcikaa", sum := "063d3f6c3d0fe5d59eb91f76b1cb9b07bea6eb293e7553dd67d67ac71b6cd2b4", func := "entrepot/entrepotlaw05.DeviceCrash", spec := "deviceCrash", unfollowed := true, recurses := true, apart := false }
def DeviceCrashSaid : Prop := deviceCrashRow.holds Try.pinned (OpenSpec.ofChange deviceCrashSpec)

/-- ITS FALSE NEIGHBOUR: 'it returns false'. Refute it at one input. -/
def deviceCrashWrong : ChangeSpec := { name := "deviceCrash", fn := fun _ => fun
  | [d1, d2, d3, d4] => { results := [.lit (.bool false)], args := [d1, d2, d3, d4] }
  | _ => none }
def DeviceCrashWrongFalsely : Prop := deviceCrashRow.holds Try.pinned (OpenSpec.ofChange deviceCrashWrong)

/-- 'entrepotlaw05.DeviceFlush': WHATEVER THE INPUT: true; the input reads as it did. -/
def deviceFlushSpec : ChangeSpec := { name := "deviceFlush", fn := fun _ => fun
  | [d1, d2] => { results := [.lit (.bool true)], args := [d1, d2] }
  | _ => none }
def deviceFlushRow : OpenClaim := { program := "ytlondopgibcikaa", sum := "063d3f6c3d0fe5d59eb91f76b1cb9b07bea6eb293e7553dd67d67ac71b6cd2b4", func := "entrepot/entrepotlaw05.DeviceFlush", spec := "deviceFlush", unfollowed := true, recurses := true, apart := false }
def DeviceFlushSaid : Prop := deviceFlushRow.holds Try.pinned (OpenSpec.ofChange deviceFlushSpec)

/-- ITS FALSE NEIGHBOUR: 'it returns false'. Refute it at one input. -/
def deviceFlushWrong : ChangeSpec := { name := "deviceFlush", fn := fun _ => fun
  | [d1, d2] => { results := [.lit (.bool false)], args := [d1, d2] }
  | _ => none }
def DeviceFlushWrongFalsely : Prop := deviceFlushRow.holds Try.pinned (OpenSpec.ofChange deviceFlushWrong)

/-- 'entrepotlaw05.DeviceScript': WHATEVER THE INPUT: true; the input reads as it did. -/
def deviceScriptSpec : ChangeSpec := { name := "deviceScript", fn := fun _ => fun
  | [d1, d2] => { results := [.lit (.bool true)], args := [d1, d2] }
  | _ => none }
def deviceScriptRow : OpenClaim := { program := "ytlondopgibcikaa", sum := "063d3f6c3d0fe5d59eb91f76b1cb9b07bea6eb293e7553dd67d67ac71b6cd2b4", func := "entrepot/entrepotlaw05.DeviceScript", spec := "deviceScript", unfollowed := true, recurses := true, apart := false }
def DeviceScriptSaid : Prop := deviceScriptRow.holds Try.pinned (OpenSpec.ofChange deviceScriptSpec)

/-- ITS FALSE NEIGHBOUR: 'it returns false'. Refute it at one input. -/
def deviceScriptWrong : ChangeSpec := { name := "deviceScript", fn := fun _ => fun
  | [d1, d2] => { results := [.lit (.bool false)], args := [d1, d2] }
  | _ => none }
def DeviceScriptWrongFalsely : Prop := deviceScriptRow.holds Try.pinned (OpenSpec.ofChange deviceScriptWrong)

/-- 'entrepotlaw05.DeviceNone': WHATEVER THE INPUT: true; the input reads as it did. -/
def deviceNoneSpec : ChangeSpec := { name := "deviceNone", fn := fun _ => fun
  | [d1, d2] => { results := [.lit (.bool true)], args := [d1, d2] }
  | _ => none }
def deviceNoneRow : OpenClaim := { program := "ytlondopgibcikaa", sum := "063d3f6c3d0fe5d59eb91f76b1cb9b07bea6eb293e7553dd67d67ac71b6cd2b4", func := "entrepot/entrepotlaw05.DeviceNone", spec := "deviceNone", unfollowed := true, recurses := true, apart := false }
def DeviceNoneSaid : Prop := deviceNoneRow.holds Try.pinned (OpenSpec.ofChange deviceNoneSpec)

/-- ITS FALSE NEIGHBOUR: 'it returns false'. Refute it at one input. -/
def deviceNoneWrong : ChangeSpec := { name := "deviceNone", fn := fun _ => fun
  | [d1, d2] => { results := [.lit (.bool false)], args := [d1, d2] }
  | _ => none }
def DeviceNoneWrongFalsely : Prop := deviceNoneRow.holds Try.pinned (OpenSpec.ofChange deviceNoneWrong)

/-- 'entrepotlaw06.LogNeeds': WHATEVER THE INPUT: true; the input reads as it did. -/
def logNeedsSpec : ChangeSpec := { name := "logNeeds", fn := fun _ => fun
  | [d] => { results := [.lit (.bool true)], args := [d] }
  | _ => none }
def logNeedsRow : OpenClaim := { program := "ytlondopgibcikaa", sum := "063d3f6c3d0fe5d59eb91f76b1cb9b07bea6eb293e7553dd67d67ac71b6cd2b4", func := "entrepot/entrepotlaw06.LogNeeds", spec := "logNeeds", unfollowed := true, recurses := true, apart := false }
def LogNeedsSaid : Prop := logNeedsRow.holds Try.pinned (OpenSpec.ofChange logNeedsSpec)

/-- ITS FALSE NEIGHBOUR: 'it returns false'. Refute it at one input. -/
def logNeedsWrong : ChangeSpec := { name := "logNeeds", fn := fun _ => fun
  | [d] => { results := [.lit (.bool false)], args := [d] }
  | _ => none }
def LogNeedsWrongFalsely : Prop := logNeedsRow.holds Try.pinned (OpenSpec.ofChange logNeedsWrong)

/-- 'entrepotlaw06.LogNone': WHATEVER THE INPUT: true; the input reads as it did. -/
def logNoneSpec : ChangeSpec := { name := "logNone", fn := fun _ => fun
  | [d1, d2, d3] => { results := [.lit (.bool true)], args := [d1, d2, d3] }
  | _ => none }
def logNoneRow : OpenClaim := { program := "ytlondopgibcikaa", sum := "063d3f6c3d0fe5d59eb91f76b1cb9b07bea6eb293e7553dd67d67ac71b6cd2b4", func := "entrepot/entrepotlaw06.LogNone", spec := "logNone", unfollowed := true, recurses := true, apart := false }
def LogNoneSaid : Prop := logNoneRow.holds Try.pinned (OpenSpec.ofChange logNoneSpec)

/-- ITS FALSE NEIGHBOUR: 'it returns false'. Refute it at one input. -/
def logNoneWrong : ChangeSpec := { name := "logNone", fn := fun _ => fun
  | [d1, d2, d3] => { results := [.lit (.bool false)], args := [d1, d2, d3] }
  | _ => none }
def LogNoneWrongFalsely : Prop := logNoneRow.holds Try.pinned (OpenSpec.ofChange logNoneWrong)

/-- 'entrepotlaw06.LogKnown': WHATEVER THE INPUT: true; the input reads as it did. -/
def logKnownSpec : ChangeSpec := { name := "logKnown", fn := fun _ => fun
  | [] => { results := [.lit (.bool true)], args := [] }
  | _ => none }
def logKnownRow : OpenClaim := { program := "ytlondopgibcikaa", sum := "063d3f6c3d0fe5d59eb91f76b1cb9b07bea6eb293e7553dd67d67ac71b6cd2b4", func := "entrepot/entrepotlaw06.LogKnown", spec := "logKnown", unfollowed := true, recurses := true, apart := false }
def LogKnownSaid : Prop := logKnownRow.holds Try.pinned (OpenSpec.ofChange logKnownSpec)

/-- ITS FALSE NEIGHBOUR: 'it returns false'. Refute it at one input. -/
def logKnownWrong : ChangeSpec := { name := "logKnown", fn := fun _ => fun
  | [] => { results := [.lit (.bool false)], args := [] }
  | _ => none }
def LogKnownWrongFalsely : Prop := logKnownRow.holds Try.pinned (OpenSpec.ofChange logKnownWrong)

/-- 'entrepotlaw06.LogBack': WHATEVER THE INPUT: true; the input reads as it did. -/
def logBackSpec : ChangeSpec := { name := "logBack", fn := fun _ => fun
  | [d1, d2, d3, d4] => { results := [.lit (.bool true)], args := [d1, d2, d3, d4] }
  | _ => none }
def logBackRow : OpenClaim := { program := "ytlondopgibcikaa", sum := "063d3f6c3d0fe5d59eb91f76b1cb9b07bea6eb293e7553dd67d67ac71b6cd2b4", func := "entrepot/entrepotlaw06.LogBack", spec := "logBack", unfollowed := true, recurses := true, apart := false }
def LogBackSaid : Prop := logBackRow.holds Try.pinned (OpenSpec.ofChange logBackSpec)

/-- ITS FALSE NEIGHBOUR: 'it returns false'. Refute it at one input. -/
def logBackWrong : ChangeSpec := { name := "logBack", fn := fun _ => fun
  | [d1, d2, d3, d4] => { results := [.lit (.bool false)], args := [d1, d2, d3, d4] }
  | _ => none }
def LogBackWrongFalsely : Prop := logBackRow.holds Try.pinned (OpenSpec.ofChange logBackWrong)

/-- 'entrepotlaw06.LogInside': WHATEVER THE INPUT: true; the input reads as it did. -/
def logInsideSpec : ChangeSpec := { name := "logInside", fn := fun _ => fun
  | [d1, d2] => { results := [.lit (.bool true)], args := [d1, d2] }
  | _ => none }
def logInsideRow : OpenClaim := { program := "ytlondopgibcikaa", sum := "063d3f6c3d0fe5d59eb91f76b1cb9b07bea6eb293e7553dd67d67ac71b6cd2b4", func := "entrepot/entrepotlaw06.LogInside", spec := "logInside", unfollowed := true, recurses := true, apart := false }
def LogInsideSaid : Prop := logInsideRow.holds Try.pinned (OpenSpec.ofChange logInsideSpec)

/-- ITS FALSE NEIGHBOUR: 'it returns false'. Refute it at one input. -/
def logInsideWrong : ChangeSpec := { name := "logInside", fn := fun _ => fun
  | [d1, d2] => { results := [.lit (.bool false)], args := [d1, d2] }
  | _ => none }
def LogInsideWrongFalsely : Prop := logInsideRow.holds Try.pinned (OpenSpec.ofChange logInsideWrong)

/-- 'entrepotlaw06.LogTorn': WHATEVER THE INPUT: true; the input reads as it did. -/
def logTornSpec : ChangeSpec := { name := "logTorn", fn := fun _ => fun
  | [d1, d2, d3, d4] => { results := [.lit (.bool true)], args := [d1, d2, d3, d4] }
  | _ => none }
def logTornRow : OpenClaim := { program := "ytlondopgibcikaa", sum := "063d3f6c3d0fe5d59eb91f76b1cb9b07bea6eb293e7553dd67d67ac71b6cd2b4", func := "entrepot/entrepotlaw06.LogTorn", spec := "logTorn", unfollowed := true, recurses := true, apart := false }
def LogTornSaid : Prop := logTornRow.holds Try.pinned (OpenSpec.ofChange logTornSpec)

/-- ITS FALSE NEIGHBOUR: 'it returns false'. Refute it at one input. -/
def logTornWrong : ChangeSpec := { name := "logTorn", fn := fun _ => fun
  | [d1, d2, d3, d4] => { results := [.lit (.bool false)], args := [d1, d2, d3, d4] }
  | _ => none }
def LogTornWrongFalsely : Prop := logTornRow.holds Try.pinned (OpenSpec.ofChange logTornWrong)

/-- 'entrepotlaw06.LogActs': WHATEVER THE INPUT: true; the input reads as it did. -/
def logActsSpec : ChangeSpec := { name := "logActs", fn := fun _ => fun
  | [d1, d2] => { results := [.lit (.bool true)], args := [d1, d2] }
  | _ => none }
def logActsRow : OpenClaim := { program := "ytlondopgibcikaa", sum := "063d3f6c3d0fe5d59eb91f76b1cb9b07bea6eb293e7553dd67d67ac71b6cd2b4", func := "entrepot/entrepotlaw06.LogActs", spec := "logActs", unfollowed := true, recurses := true, apart := false }
def LogActsSaid : Prop := logActsRow.holds Try.pinned (OpenSpec.ofChange logActsSpec)

/-- ITS FALSE NEIGHBOUR: 'it returns false'. Refute it at one input. -/
def logActsWrong : ChangeSpec := { name := "logActs", fn := fun _ => fun
  | [d1, d2] => { results := [.lit (.bool false)], args := [d1, d2] }
  | _ => none }
def LogActsWrongFalsely : Prop := logActsRow.holds Try.pinned (OpenSpec.ofChange logActsWrong)

/-- 'entrepotlaw07.VaultNone': WHATEVER THE INPUT: true; the input reads as it did. -/
def vaultNoneSpec : ChangeSpec := { name := "vaultNone", fn := fun _ => fun
  | [d] => { results := [.lit (.bool true)], args := [d] }
  | _ => none }
def vaultNoneRow : OpenClaim := { program := "ytlondopgibcikaa", sum := "063d3f6c3d0fe5d59eb91f76b1cb9b07bea6eb293e7553dd67d67ac71b6cd2b4", func := "entrepot/entrepotlaw07.VaultNone", spec := "vaultNone", unfollowed := true, recurses := true, apart := false }
def VaultNoneSaid : Prop := vaultNoneRow.holds Try.pinned (OpenSpec.ofChange vaultNoneSpec)

/-- ITS FALSE NEIGHBOUR: 'it returns false'. Refute it at one input. -/
def vaultNoneWrong : ChangeSpec := { name := "vaultNone", fn := fun _ => fun
  | [d] => { results := [.lit (.bool false)], args := [d] }
  | _ => none }
def VaultNoneWrongFalsely : Prop := vaultNoneRow.holds Try.pinned (OpenSpec.ofChange vaultNoneWrong)

/-- 'entrepotlaw07.VaultKnown': WHATEVER THE INPUT: true; the input reads as it did. -/
def vaultKnownSpec : ChangeSpec := { name := "vaultKnown", fn := fun _ => fun
  | [] => { results := [.lit (.bool true)], args := [] }
  | _ => none }
def vaultKnownRow : OpenClaim := { program := "ytlondopgibcikaa", sum := "063d3f6c3d0fe5d59eb91f76b1cb9b07bea6eb293e7553dd67d67ac71b6cd2b4", func := "entrepot/entrepotlaw07.VaultKnown", spec := "vaultKnown", unfollowed := true, recurses := true, apart := false }
def VaultKnownSaid : Prop := vaultKnownRow.holds Try.pinned (OpenSpec.ofChange vaultKnownSpec)

/-- ITS FALSE NEIGHBOUR: 'it returns false'. Refute it at one input. -/
def vaultKnownWrong : ChangeSpec := { name := "vaultKnown", fn := fun _ => fun
  | [] => { results := [.lit (.bool false)], args := [] }
  | _ => none }
def VaultKnownWrongFalsely : Prop := vaultKnownRow.holds Try.pinned (OpenSpec.ofChange vaultKnownWrong)

/-- 'entrepotlaw07.VaultCrash': WHATEVER THE INPUT: true; the input reads as it did. -/
def vaultCrashSpec : ChangeSpec := { name := "vaultCrash", fn := fun _ => fun
  | [d1, d2, d3] => { results := [.lit (.bool true)], args := [d1, d2, d3] }
  | _ => none }
def vaultCrashRow : OpenClaim := { program := "ytlondopgibcikaa", sum := "063d3f6c3d0fe5d59eb91f76b1cb9b07bea6eb293e7553dd67d67ac71b6cd2b4", func := "entrepot/entrepotlaw07.VaultCrash", spec := "vaultCrash", unfollowed := true, recurses := true, apart := false }
def VaultCrashSaid : Prop := vaultCrashRow.holds Try.pinned (OpenSpec.ofChange vaultCrashSpec)

/-- ITS FALSE NEIGHBOUR: 'it returns false'. Refute it at one input. -/
def vaultCrashWrong : ChangeSpec := { name := "vaultCrash", fn := fun _ => fun
  | [d1, d2, d3] => { results := [.lit (.bool false)], args := [d1, d2, d3] }
  | _ => none }
def VaultCrashWrongFalsely : Prop := vaultCrashRow.holds Try.pinned (OpenSpec.ofChange vaultCrashWrong)

/- THE SECOND FORM. 'bulk': how many values and letters a reading holds, each counted each time it is reached (what is shared counts as often as it is met; a slice's spare places count too). A statement '..UptoSaid' is the law's where the arguments, and the package variables that the reading takes, are together of bulk at most 1048576: NARROWER than '..Said'. Prove '..Said' where nothing that the law and all that it calls make is longer than what came in: it says more and counts as full. Else prove '..UptoSaid'. A law counts once. -/
mutual
def uptoBulk {H : Type} : DataW H → Nat
  | .lit (.string bytes) => bytes.length + 1
  | .lit _ => 1
  | .nil => 1
  | .ptr d => uptoBulk d + 1
  | .slice elems spare => uptoBulkAll elems + uptoBulkAll spare + 1
  | .agg parts => uptoBulkAll parts + 1
  | .iface _ d => uptoBulk d + 1
  | .map entries => uptoBulkEntries entries + 1
  | .held _ => 1
def uptoBulkAll {H : Type} : List (DataW H) → Nat
  | [] => 0
  | d :: r => uptoBulk d + uptoBulkAll r
def uptoBulkEntries {H : Type} : List (Lit × DataW H) → Nat
  | [] => 0
  | x :: r => uptoBulkEntry x + uptoBulkEntries r
def uptoBulkEntry {H : Type} : Lit × DataW H → Nat
  | (.string bytes, d) => bytes.length + uptoBulk d + 1
  | (_, d) => uptoBulk d + 1
 end
def uptoSmall : (H : Type) → List (DataW H) → Bool := fun _ ds => decide (uptoBulkAll ds ≤ 1048576)
def OpenSpec.upto (s : _root_.Go.ChangeSpec) : _root_.Go.OpenSpec := { _root_.Go.OpenSpec.ofChange s with cond := some uptoSmall }

/-- 'entrepotlaw01.CrcSeals', WHERE WHAT IT READS IS OF BULK AT MOST 1048576: true; the input reads as it did. -/
def crcSealsUptoRow : OpenClaim := { program := "ytlondopgibcikaa", sum := "063d3f6c3d0fe5d59eb91f76b1cb9b07bea6eb293e7553dd67d67ac71b6cd2b4", func := "entrepot/entrepotlaw01.CrcSeals", spec := "crcSeals", unfollowed := true, recurses := true, apart := false, narrowed := true }
def CrcSealsUptoSaid : Prop := crcSealsUptoRow.holds Try.pinned (OpenSpec.upto crcSealsSpec)

/-- 'entrepotlaw01.CrcKnown', WHERE WHAT IT READS IS OF BULK AT MOST 1048576: true; the input reads as it did. -/
def crcKnownUptoRow : OpenClaim := { program := "ytlondopgibcikaa", sum := "063d3f6c3d0fe5d59eb91f76b1cb9b07bea6eb293e7553dd67d67ac71b6cd2b4", func := "entrepot/entrepotlaw01.CrcKnown", spec := "crcKnown", unfollowed := true, recurses := true, apart := false, narrowed := true }
def CrcKnownUptoSaid : Prop := crcKnownUptoRow.holds Try.pinned (OpenSpec.upto crcKnownSpec)

/-- 'entrepotlaw01.CrcParts', WHERE WHAT IT READS IS OF BULK AT MOST 1048576: true; the input reads as it did. -/
def crcPartsUptoRow : OpenClaim := { program := "ytlondopgibcikaa", sum := "063d3f6c3d0fe5d59eb91f76b1cb9b07bea6eb293e7553dd67d67ac71b6cd2b4", func := "entrepot/entrepotlaw01.CrcParts", spec := "crcParts", unfollowed := true, recurses := true, apart := false, narrowed := true }
def CrcPartsUptoSaid : Prop := crcPartsUptoRow.holds Try.pinned (OpenSpec.upto crcPartsSpec)

/-- 'entrepotlaw01.CrcDamage', WHERE WHAT IT READS IS OF BULK AT MOST 1048576: true; the input reads as it did. -/
def crcDamageUptoRow : OpenClaim := { program := "ytlondopgibcikaa", sum := "063d3f6c3d0fe5d59eb91f76b1cb9b07bea6eb293e7553dd67d67ac71b6cd2b4", func := "entrepot/entrepotlaw01.CrcDamage", spec := "crcDamage", unfollowed := true, recurses := true, apart := false, narrowed := true }
def CrcDamageUptoSaid : Prop := crcDamageUptoRow.holds Try.pinned (OpenSpec.upto crcDamageSpec)

/-- 'entrepotlaw05.DeviceKnown', WHERE WHAT IT READS IS OF BULK AT MOST 1048576: true; the input reads as it did. -/
def deviceKnownUptoRow : OpenClaim := { program := "ytlondopgibcikaa", sum := "063d3f6c3d0fe5d59eb91f76b1cb9b07bea6eb293e7553dd67d67ac71b6cd2b4", func := "entrepot/entrepotlaw05.DeviceKnown", spec := "deviceKnown", unfollowed := true, recurses := true, apart := false, narrowed := true }
def DeviceKnownUptoSaid : Prop := deviceKnownUptoRow.holds Try.pinned (OpenSpec.upto deviceKnownSpec)

/-- 'entrepotlaw05.DeviceCrash', WHERE WHAT IT READS IS OF BULK AT MOST 1048576: true; the input reads as it did. -/
def deviceCrashUptoRow : OpenClaim := { program := "ytlondopgibcikaa", sum := "063d3f6c3d0fe5d59eb91f76b1cb9b07bea6eb293e7553dd67d67ac71b6cd2b4", func := "entrepot/entrepotlaw05.DeviceCrash", spec := "deviceCrash", unfollowed := true, recurses := true, apart := false, narrowed := true }
def DeviceCrashUptoSaid : Prop := deviceCrashUptoRow.holds Try.pinned (OpenSpec.upto deviceCrashSpec)

/-- 'entrepotlaw05.DeviceFlush', WHERE WHAT IT READS IS OF BULK AT MOST 1048576: true; the input reads as it did. -/
def deviceFlushUptoRow : OpenClaim := { program := "ytlondopgibcikaa", sum := "063d3f6c3d0fe5d59eb91f76b1cb9b07bea6eb293e7553dd67d67ac71b6cd2b4", func := "entrepot/entrepotlaw05.DeviceFlush", spec := "deviceFlush", unfollowed := true, recurses := true, apart := false, narrowed := true }
def DeviceFlushUptoSaid : Prop := deviceFlushUptoRow.holds Try.pinned (OpenSpec.upto deviceFlushSpec)

/-- 'entrepotlaw05.DeviceScript', WHERE WHAT IT READS IS OF BULK AT MOST 1048576: true; the input reads as it did. -/
def deviceScriptUptoRow : OpenClaim := { program := "ytlondopgibcikaa", sum := "063d3f6c3d0fe5d59eb91f76b1cb9b07bea6eb293e7553dd67d67ac71b6cd2b4", func := "entrepot/entrepotlaw05.DeviceScript", spec := "deviceScript", unfollowed := true, recurses := true, apart := false, narrowed := true }
def DeviceScriptUptoSaid : Prop := deviceScriptUptoRow.holds Try.pinned (OpenSpec.upto deviceScriptSpec)

/-- 'entrepotlaw05.DeviceNone', WHERE WHAT IT READS IS OF BULK AT MOST 1048576: true; the input reads as it did. -/
def deviceNoneUptoRow : OpenClaim := { program := "ytlondopgibcikaa", sum := "063d3f6c3d0fe5d59eb91f76b1cb9b07bea6eb293e7553dd67d67ac71b6cd2b4", func := "entrepot/entrepotlaw05.DeviceNone", spec := "deviceNone", unfollowed := true, recurses := true, apart := false, narrowed := true }
def DeviceNoneUptoSaid : Prop := deviceNoneUptoRow.holds Try.pinned (OpenSpec.upto deviceNoneSpec)

/-- 'entrepotlaw06.LogNeeds', WHERE WHAT IT READS IS OF BULK AT MOST 1048576: true; the input reads as it did. -/
def logNeedsUptoRow : OpenClaim := { program := "ytlondopgibcikaa", sum := "063d3f6c3d0fe5d59eb91f76b1cb9b07bea6eb293e7553dd67d67ac71b6cd2b4", func := "entrepot/entrepotlaw06.LogNeeds", spec := "logNeeds", unfollowed := true, recurses := true, apart := false, narrowed := true }
def LogNeedsUptoSaid : Prop := logNeedsUptoRow.holds Try.pinned (OpenSpec.upto logNeedsSpec)

/-- 'entrepotlaw06.LogNone', WHERE WHAT IT READS IS OF BULK AT MOST 1048576: true; the input reads as it did. -/
def logNoneUptoRow : OpenClaim := { program := "ytlondopgibcikaa", sum := "063d3f6c3d0fe5d59eb91f76b1cb9b07bea6eb293e7553dd67d67ac71b6cd2b4", func := "entrepot/entrepotlaw06.LogNone", spec := "logNone", unfollowed := true, recurses := true, apart := false, narrowed := true }
def LogNoneUptoSaid : Prop := logNoneUptoRow.holds Try.pinned (OpenSpec.upto logNoneSpec)

/-- 'entrepotlaw06.LogKnown', WHERE WHAT IT READS IS OF BULK AT MOST 1048576: true; the input reads as it did. -/
def logKnownUptoRow : OpenClaim := { program := "ytlondopgibcikaa", sum := "063d3f6c3d0fe5d59eb91f76b1cb9b07bea6eb293e7553dd67d67ac71b6cd2b4", func := "entrepot/entrepotlaw06.LogKnown", spec := "logKnown", unfollowed := true, recurses := true, apart := false, narrowed := true }
def LogKnownUptoSaid : Prop := logKnownUptoRow.holds Try.pinned (OpenSpec.upto logKnownSpec)

/-- 'entrepotlaw06.LogBack', WHERE WHAT IT READS IS OF BULK AT MOST 1048576: true; the input reads as it did. -/
def logBackUptoRow : OpenClaim := { program := "ytlondopgibcikaa", sum := "063d3f6c3d0fe5d59eb91f76b1cb9b07bea6eb293e7553dd67d67ac71b6cd2b4", func := "entrepot/entrepotlaw06.LogBack", spec := "logBack", unfollowed := true, recurses := true, apart := false, narrowed := true }
def LogBackUptoSaid : Prop := logBackUptoRow.holds Try.pinned (OpenSpec.upto logBackSpec)

/-- 'entrepotlaw06.LogInside', WHERE WHAT IT READS IS OF BULK AT MOST 1048576: true; the input reads as it did. -/
def logInsideUptoRow : OpenClaim := { program := "ytlondopgibcikaa", sum := "063d3f6c3d0fe5d59eb91f76b1cb9b07bea6eb293e7553dd67d67ac71b6cd2b4", func := "entrepot/entrepotlaw06.LogInside", spec := "logInside", unfollowed := true, recurses := true, apart := false, narrowed := true }
def LogInsideUptoSaid : Prop := logInsideUptoRow.holds Try.pinned (OpenSpec.upto logInsideSpec)

/-- 'entrepotlaw06.LogTorn', WHERE WHAT IT READS IS OF BULK AT MOST 1048576: true; the input reads as it did. -/
def logTornUptoRow : OpenClaim := { program := "ytlondopgibcikaa", sum := "063d3f6c3d0fe5d59eb91f76b1cb9b07bea6eb293e7553dd67d67ac71b6cd2b4", func := "entrepot/entrepotlaw06.LogTorn", spec := "logTorn", unfollowed := true, recurses := true, apart := false, narrowed := true }
def LogTornUptoSaid : Prop := logTornUptoRow.holds Try.pinned (OpenSpec.upto logTornSpec)

/-- 'entrepotlaw06.LogActs', WHERE WHAT IT READS IS OF BULK AT MOST 1048576: true; the input reads as it did. -/
def logActsUptoRow : OpenClaim := { program := "ytlondopgibcikaa", sum := "063d3f6c3d0fe5d59eb91f76b1cb9b07bea6eb293e7553dd67d67ac71b6cd2b4", func := "entrepot/entrepotlaw06.LogActs", spec := "logActs", unfollowed := true, recurses := true, apart := false, narrowed := true }
def LogActsUptoSaid : Prop := logActsUptoRow.holds Try.pinned (OpenSpec.upto logActsSpec)

/-- 'entrepotlaw07.VaultNone', WHERE WHAT IT READS IS OF BULK AT MOST 1048576: true; the input reads as it did. -/
def vaultNoneUptoRow : OpenClaim := { program := "ytlondopgibcikaa", sum := "063d3f6c3d0fe5d59eb91f76b1cb9b07bea6eb293e7553dd67d67ac71b6cd2b4", func := "entrepot/entrepotlaw07.VaultNone", spec := "vaultNone", unfollowed := true, recurses := true, apart := false, narrowed := true }
def VaultNoneUptoSaid : Prop := vaultNoneUptoRow.holds Try.pinned (OpenSpec.upto vaultNoneSpec)

/-- 'entrepotlaw07.VaultKnown', WHERE WHAT IT READS IS OF BULK AT MOST 1048576: true; the input reads as it did. -/
def vaultKnownUptoRow : OpenClaim := { program := "ytlondopgibcikaa", sum := "063d3f6c3d0fe5d59eb91f76b1cb9b07bea6eb293e7553dd67d67ac71b6cd2b4", func := "entrepot/entrepotlaw07.VaultKnown", spec := "vaultKnown", unfollowed := true, recurses := true, apart := false, narrowed := true }
def VaultKnownUptoSaid : Prop := vaultKnownUptoRow.holds Try.pinned (OpenSpec.upto vaultKnownSpec)

/-- 'entrepotlaw07.VaultCrash', WHERE WHAT IT READS IS OF BULK AT MOST 1048576: true; the input reads as it did. -/
def vaultCrashUptoRow : OpenClaim := { program := "ytlondopgibcikaa", sum := "063d3f6c3d0fe5d59eb91f76b1cb9b07bea6eb293e7553dd67d67ac71b6cd2b4", func := "entrepot/entrepotlaw07.VaultCrash", spec := "vaultCrash", unfollowed := true, recurses := true, apart := false, narrowed := true }
def VaultCrashUptoSaid : Prop := vaultCrashUptoRow.holds Try.pinned (OpenSpec.upto vaultCrashSpec)

end Rows
end Go.Proofs.Ytlondopgibcikaa
