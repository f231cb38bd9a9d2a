/-
  plaitref08.Un: the whole contract.
-/
import Derived.Test.YtnjhojjpajnbhaaWidR8
import Derived.Test.YtnjhojjpajnbhaaWidR16
import Derived.Test.YtnjhojjpajnbhaaWidR32
import Derived.Test.YtnjhojjpajnbhaaWidRP
import Derived.Test.YtnjhojjpajnbhaaWidRN
set_option linter.unusedSimpArgs false
set_option linter.unusedVariables false
namespace Go.Proofs.Ytnjhojjpajnbhaa
open Go.RowKit Pl


theorem run_any (op : Int) (v : Vec) (w : World) :
    Calls Try.prog 11 #[.int .i64 op, .agg (cells v)] w fun e w' => e = .returned (.tuple #[.agg (cells (unW op v).1), .int .i64 (unW op v).2]) ∧ Below w.heap.size w w' := by
  unfold unW
  split
  · have : op = 64903 ∨ op = 64904 ∨ op = 64905 ∨ op = 64906 := by omega
    rcases this with rfl | rfl | rfl | rfl
    · exact run_row8_0 v w
    · exact run_row8_1 v w
    · exact run_row8_2 v w
    · exact run_row8_3 v w
  split
  · have : op = 64935 ∨ op = 64936 ∨ op = 64937 ∨ op = 64938 := by omega
    rcases this with rfl | rfl | rfl | rfl
    · exact run_row16_0 v w
    · exact run_row16_1 v w
    · exact run_row16_2 v w
    · exact run_row16_3 v w
  split
  · have : op = 64967 ∨ op = 64968 ∨ op = 64969 ∨ op = 64970 := by omega
    rcases this with rfl | rfl | rfl | rfl
    · exact run_row32_0 v w
    · exact run_row32_1 v w
    · exact run_row32_2 v w
    · exact run_row32_3 v w
  split
  · rename_i h; subst h; exact run_pair0 v w
  split
  · rename_i h; subst h; exact run_pair1 v w
  split
  · rename_i h; subst h; exact run_pair2 v w
  split
  · rename_i h; subst h; exact run_pair3 v w
  · exact run_none op v w (by omega)

end Go.Proofs.Ytnjhojjpajnbhaa
