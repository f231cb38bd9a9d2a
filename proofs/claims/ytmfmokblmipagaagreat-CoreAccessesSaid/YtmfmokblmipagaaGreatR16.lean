/-
  Texts NumUn.
-/
import Derived.Test.YtmfmokblmipagaaGreatR09
import Derived.Deep.QuietTactic
import Derived.BigQuiet
set_option linter.unusedSimpArgs false
set_option linter.unusedVariables false
set_option maxHeartbeats 8000000
open Pl
namespace Go.Proofs.YtmfmokblmipagaaGreat
open Go.RowKit Nm
end Go.Proofs.YtmfmokblmipagaaGreat
