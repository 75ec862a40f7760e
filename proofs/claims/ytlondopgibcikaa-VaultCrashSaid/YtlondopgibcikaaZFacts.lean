/- The closed facts on the program as a whole that every row of this seat asks for, each proved once. -/
import Derived.Test.YtlondopgibcikaaRows
import Derived.ProofKit
namespace Go.Proofs.Ytlondopgibcikaa
theorem pf_laid : laidOutB Try.prog = true := by kernel_rfl
theorem pf_maps : mapsRowed Try.prog = true := by kernel_rfl
theorem pf_keys : Try.prog.plainKeys = true := by kernel_rfl
theorem pf_heard : Try.prog.stopsHeard = true := by kernel_rfl
theorem pf_may : Try.prog.mayEnter = true := by kernel_rfl
theorem pf_lifts : Try.prog.liftsFinal = false := by kernel_rfl
theorem pf_make : Try.prog.make = some .cut := by kernel_rfl
end Go.Proofs.Ytlondopgibcikaa
