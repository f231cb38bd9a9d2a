/-
  A region that draws its order: operations under a guard.
-/
import Derived.Test.YtlcndenbnokcjaaDo
set_option linter.unusedSimpArgs false
set_option linter.unusedVariables false
namespace Pl
open Go Go.RowKit
section
variable {P : Program} {ops : Array Oper} {md : Region.Mode} {S : World → Prop}
theorem wpD_skip {L : Act → Prop} {o : Oper} {rest : List Oper} {a : Act} (hg : Region.wanted o (yielded ops a.tmps) = false)
    (hr : wpD P ops S L rest (a.put o.dst undef)) : wpD P ops S L (o :: rest) a :=
  ⟨undef, .inr ⟨hg, rfl⟩, hr⟩
theorem wpD_pureg {L : Act → Prop} {o : Oper} {rest : List Oper} {v : Value} {a : Act} (hg : Region.wanted o (yielded ops a.tmps) = true) (h : ∀ w, (execOp a.eval o).run P w = .ok (.value v) w)
    (hr : wpD P ops S L rest (a.put o.dst v)) : wpD P ops S L (o :: rest) a :=
  ⟨v, .inl ⟨hg, fun w hS => ⟨w, .inl ⟨h w, hS⟩⟩⟩, hr⟩
end
end Pl
