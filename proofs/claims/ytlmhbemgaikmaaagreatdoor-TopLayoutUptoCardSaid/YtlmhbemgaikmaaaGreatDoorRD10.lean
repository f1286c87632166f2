
import Derived.Test.YtlmhbemgaikmaaaGreatDoorGr2
set_option linter.unusedVariables false
set_option linter.unusedSimpArgs false
set_option linter.unusedSectionVars false
set_option linter.deprecated false
namespace Go.Ab
open Go.Proofs Go.Proofs.YtlmhbemgaikmaaaGreatDoor
set_option maxRecDepth 100000
theorem rd_bool : Reads Tryz.prog 4 (fun _ : Bool => True) (fun b => [.bool b]) (fun _ => 0) := reads_bool Tryz.underlying4 (by kernel_rfl)
end Go.Ab
