/-
  Names for repeated steps.
-/
import Derived.Carry
import Derived.ChangeKeysEq
import Derived.Deep.MidRow
import Derived.Handy
import Derived.Lib.Hide
import Derived.OpenShut
import Derived.ProofKit
import Derived.StillTail
import Derived.Test.YtmfmokblmipagaaGreatRows
import Derived.WalkKit
import Derived.WalkLawsBesides
import Derived.WalkSpells
set_option linter.unusedSimpArgs false
set_option linter.unusedVariables false
set_option maxHeartbeats 8000000
namespace Pl
open Go Go.RowKit
theorem z5 {α : Type _} {l : List α} {i : Nat} {a : α} : l.toArray.setIfInBounds i a = (l.set i a).toArray := List.setIfInBounds_toArray ..
theorem z6 {α : Type _} {a b : α} {l : List α} : (a :: l).set 0 b = b :: l := List.set_cons_zero
theorem z7 {α : Type _} {a b : α} {n : Nat} {l : List α} : (a :: l).set (n + 1) b = a :: l.set n b := List.set_cons_succ
theorem zP {α : Type _} {a b : List α} : (a ++ b).length = a.length + b.length := List.length_append
theorem zN {α : Type _} {a : α} {l : List α} : (a :: l).length = l.length + 1 := List.length_cons
theorem zM {α : Type _} : ([] : List α).length = 0 := List.length_nil
theorem zL {α β : Type _} {f : α → β} {l : List α} : (l.map f).length = l.length := List.length_map f
theorem zH {α : Type _} {l : List α} : l.reverse.length = l.length := List.length_reverse
theorem zF {α : Type _} {a : α} {l : List α} {i : Nat} : (a :: l).take (i + 1) = a :: l.take i := List.take_succ_cons
theorem zE {α : Type _} {l : List α} : l.take 0 = [] := List.take_zero
theorem zD {α : Type _} {a : α} {l : List α} {i : Nat} : (a :: l).drop (i + 1) = l.drop i := List.drop_succ_cons
theorem zC {α : Type _} {l : List α} : l.drop 0 = l := List.drop_zero
end Pl
