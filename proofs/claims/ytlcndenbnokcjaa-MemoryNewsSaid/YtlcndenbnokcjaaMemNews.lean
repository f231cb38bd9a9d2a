/-
  The walk of plaitlaw10.MemoryNews.
-/
import Derived.Test.YtlcndenbnokcjaaMemR
set_option linter.unusedSimpArgs false
set_option linter.unusedVariables false
namespace Go.Proofs.Ytlcndenbnokcjaa
open Go.RowKit Pl

theorem news_walk (l m : Int) (w : World) (hl : -9223372036854775808 ≤ l ∧ l ≤ 9223372036854775807) (hm : -9223372036854775808 ≤ m ∧ m ≤ 9223372036854775807) :
    Calls Try.prog 3 #[.int .i64 l, .int .i64 m] w fun e w' => e = .returned (.bool true) ∧ Below w.heap.size w w' := by
  by_cases he : newE l m = 0
  · have N1 := Lib.hid (fun W => new_k l m W hl hm he)
    have N2 := Lib.hid (fun W => rnew_k l m W hl hm he)
    clear he
    go_enter Try.func3, Try.ntmps3
    go_wp2_with (go_at_call 12; (with_reducible refine (awake10 _).mono ?_); rintro e u ⟨rfl, hb⟩)
    refine (N1.out _).mono ?_
    rintro e u1 ⟨o, rfl, hf⟩
    go_wp2_with fail
    refine (N2.out _).mono ?_
    rintro e u2 ⟨o2, rfl, hf2⟩
    go_wp2_with fail
    refine (pages_k o u2 (hf.mem.below hf2.bel)).mono ?_
    rintro e u3 ⟨rfl, rfl⟩
    go_wp2_with fail
    refine (rpages_k o2 _ hf2.mem).mono ?_
    rintro e u4 ⟨rfl, rfl⟩
    rw [hf.hn, hf2.hn]
    go_wp2_with fail
    go_ret
    exact ⟨rfl, Below.trans hb ((hf.bel.trans (hf2.bel.mono hf.bel.size)).mono hb.size)⟩
  · have N1 := Lib.hid (fun W => new_err l m W hl hm he)
    have N2 := Lib.hid (fun W => rnew_err l m W hl hm he)
    generalize newE l m = E at *
    clear he
    go_enter Try.func3, Try.ntmps3
    go_wp2_with (go_at_call 12; (with_reducible refine (awake10 _).mono ?_); rintro e u ⟨rfl, hb⟩)
    refine (N1.out _).mono ?_
    rintro e u1 ⟨rfl, rfl⟩
    go_wp2_with fail
    refine (N2.out _).mono ?_
    rintro e u2 ⟨rfl, rfl⟩
    go_wp2_with fail
    refine (pages_nil _).mono ?_
    rintro e u3 ⟨rfl, rfl⟩
    go_wp2_with fail
    refine (rpages_nil _).mono ?_
    rintro e u4 ⟨rfl, rfl⟩
    go_wp2_with fail
    go_ret
    exact ⟨rfl, hb⟩

end Go.Proofs.Ytlcndenbnokcjaa
