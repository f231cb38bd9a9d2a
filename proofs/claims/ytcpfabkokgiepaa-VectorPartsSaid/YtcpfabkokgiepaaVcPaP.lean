/-
  For every opcode and two vectors plaitlaw09.VectorParts returns true; no condition. (It is proved of the program's text over the formal model.)
-/
import Derived.Test.YtcpfabkokgiepaaVqParts
import Derived.Test.YtcpfabkokgiepaaOpen
import Derived.Deep.Slices
import Derived.Deep.MidRow
set_option linter.unusedSimpArgs false
set_option linter.unusedVariables false
namespace Go.Proofs.Ytcpfabkokgiepaa
open Go.RowKit Go.ChangeShapes Go.WideShapes Go.ChangeAt Pl

theorem doM_snd (m : Vec × Int) : (doM m).2 = m.2 := by
  unfold doM
  split
  · next h => exact h.symm
  · rfl
theorem sh_u (op : Int) (a : Vec) (n : Nat) (w : World) (ho : -9223372036854775808 ≤ op ∧ op ≤ 9223372036854775807) :
    Calls Try.prog 24 #[.int .i64 op, .agg (cells a), .int .u32 ((n : Int) % 4294967296)] w fun e w' => e = .returned (.tuple #[.agg (cells (shV op a (n % 4294967296)).1), .int .i64 (shV op a (n % 4294967296)).2]) ∧ Below w.heap.size w w' := by
  have h := sh_p op a (n % 4294967296) w ho (Nat.mod_lt _ (by decide))
  rwa [show ((n % 4294967296 : Nat) : Int) = (n : Int) % 4294967296 by omega] at h
theorem te_u (op : Int) (a : Vec) (w : World) (ho : -9223372036854775808 ≤ op ∧ op ≤ 9223372036854775807) :
    Calls Try.prog 28 #[.int .i64 op, .agg (cells a)] w fun e w' => e = .returned (.tuple #[.int .u32 ((testV op a).1.toNat : Nat), .int .i64 (testV op a).2]) ∧ Below w.heap.size w w' := by
  have h := test_any op a w ho
  rwa [show (((testV op a).1.toNat : Nat) : Int) = (testV op a).1 from Int.toNat_of_nonneg (testV_range op a).1]
theorem parts_any (op : Int) (a b : Vec) (w : World) (ho : -9223372036854775808 ≤ op ∧ op ≤ 9223372036854775807) :
    Calls Try.prog 6 #[.int .i64 op, .agg (cells a), .agg (cells b)] w fun e w' => e = .returned (.bool true) ∧ Below w.heap.size w w' := by
  obtain ⟨U, hU⟩ : ∃ U : Nat, IntKind.u64.wrap op = (U : Int) := ⟨(op % 18446744073709551616).toNat, by rw [IntKind.wrap_u64]; omega⟩
  obtain ⟨κ, hκ⟩ : ∃ κ, U % 256 = κ := ⟨_, rfl⟩
  have hk : κ < 256 := by omega
  have hop : -9223372036854775808 ≤ (64768 + (κ : Int)) ∧ (64768 + (κ : Int)) ≤ 9223372036854775807 := by omega
  have hop2 : 64768 ≤ (64768 + (κ : Int)) ∧ (64768 + (κ : Int)) ≤ 65023 := by omega
  have hlt2 : ∀ x ∈ [getN a 64 0, getN a 64 1], x < 18446744073709551616 := by
    simp only [List.mem_cons, List.not_mem_nil, or_false]; rintro x hx; rcases hx with rfl | rfl <;> exact getN_lt _ 64 _
  have hlt4 : ∀ x ∈ [getN a 64 0, getN a 64 1, getN b 64 0, getN b 64 1], x < 18446744073709551616 := by
    simp only [List.mem_cons, List.not_mem_nil, or_false]; rintro x hx; rcases hx with rfl | rfl | rfl | rfl <;> exact getN_lt _ 64 _
  have hmt := testV_range (64768 + (κ : Int)) a
  refine parts_k (unV (64768 + (κ : Int)) a).1 (unW (64768 + (κ : Int)) a).1 (bitsL (64768 + (κ : Int)) [a]).1 (binV (64768 + (κ : Int)) a b).1 (binW (64768 + (κ : Int)) a b).1 (cmpV (64768 + (κ : Int)) a b).1 (bitsL (64768 + (κ : Int)) [a, b]).1 (shV (64768 + (κ : Int)) a (getN b 64 0 % 4294967296)).1 (splatV ((64768 + (κ : Int)) - 64768) (getN b 64 1)).1 (replV ((64768 + (κ : Int)) - 64768) 1 a (getN b 64 0)).1 (shufV b a b).1 (swizV a b)
    (unV (64768 + (κ : Int)) a).2 (unW (64768 + (κ : Int)) a).2 (bitsL (64768 + (κ : Int)) [a]).2 (binV (64768 + (κ : Int)) a b).2 (binW (64768 + (κ : Int)) a b).2 (cmpV (64768 + (κ : Int)) a b).2 (bitsL (64768 + (κ : Int)) [a, b]).2 (shV (64768 + (κ : Int)) a (getN b 64 0 % 4294967296)).2 (splatV ((64768 + (κ : Int)) - 64768) (getN b 64 1)).2 (replV ((64768 + (κ : Int)) - 64768) 1 a (getN b 64 0)).2 (extV ((64768 + (κ : Int)) - 64768) 1 a).2 (testV (64768 + (κ : Int)) a).2 (shufV b a b).2
    (doV (64768 + (κ : Int)) 1 0 0 [getN a 64 0, getN a 64 1]).2 (extV ((64768 + (κ : Int)) - 64768) 1 a).1 (testV (64768 + (κ : Int)) a).1.toNat (doV (64768 + (κ : Int)) 1 0 0 [getN a 64 0, getN a 64 1]).1 (doM (shufV b a b)).1 op U κ a b w hU hκ
    (fun W => un_p (64768 + (κ : Int)) a W hop) (fun W => un_any (64768 + (κ : Int)) a W hop) (fun W v h => bits_p (64768 + (κ : Int)) v [a] W hop h (by simp)) (fun W => bin_p (64768 + (κ : Int)) a b W hop) (fun W => bin_any (64768 + (κ : Int)) a b W hop) (fun W => cmp_any (64768 + (κ : Int)) a b W hop) (fun W v h => bits_p (64768 + (κ : Int)) v [a, b] W hop h (by simp))
    (fun W => sh_u (64768 + (κ : Int)) a (getN b 64 0) W hop) (fun W => splat_z (64768 + (κ : Int)) (getN b 64 1) W hop2) (fun W => repl_z (64768 + (κ : Int)) 1 a (getN b 64 0) W hop2) (fun W => ext_z (64768 + (κ : Int)) 1 a W hop2) (fun W => te_u (64768 + (κ : Int)) a W hop) (fun W => shuffle_k b a b W) (fun W => swizzle_k a b W)
    (fun W lv V h hv => halves_k V (64768 + (κ : Int)) 0 0 0 lv [getN a 64 0, getN a 64 1] W hop hv (by simp only [List.mem_cons, List.not_mem_nil, or_false]; rintro x hx; rcases hx with rfl | rfl <;> exact getN_lt _ 64 _) (by replace h : f1 (64768 + (κ : Int)) a = (V, 0) := h; rw [parts_un κ hk a (by rw [h]), h]))
    (fun W lv V h hv => halves_k V (64768 + (κ : Int)) 0 0 0 lv [getN a 64 0, getN a 64 1, getN b 64 0, getN b 64 1] W hop hv (by simp only [List.mem_cons, List.not_mem_nil, or_false]; rintro x hx; rcases hx with rfl | rfl | rfl | rfl <;> exact getN_lt _ 64 _) (by replace h : f2 (64768 + (κ : Int)) a b = (V, 0) := h; rw [parts_bi κ hk a b (by rw [h]), h]))
    (fun W lv V h hv => halves_k V (64768 + (κ : Int)) 0 0 0 lv [getN a 64 0, getN a 64 1, getN b 64 0] W hop hv (by simp only [List.mem_cons, List.not_mem_nil, or_false]; rintro x hx; rcases hx with rfl | rfl | rfl <;> exact getN_lt _ 64 _) (by replace h : shV (64768 + (κ : Int)) a (getN b 64 0 % 4294967296) = (V, 0) := h; rw [parts_sh κ hk a (getN b 64 0) (by rw [h]), h]))
    (fun W lv V h hv => halves_k V (64768 + (κ : Int)) 0 0 0 lv [getN b 64 1] W hop hv (by simp only [List.mem_cons, List.not_mem_nil, or_false]; rintro x hx; rcases hx with rfl <;> exact getN_lt _ 64 _) (by replace h : splatV ((64768 + (κ : Int)) - 64768) (getN b 64 1) = (V, 0) := h; rw [parts_sp κ hk (getN b 64 1) (getN_lt _ 64 _) (by rw [h]), h]))
    (fun W lv V h hv => halves_k V (64768 + (κ : Int)) 1 0 0 lv [getN a 64 0, getN a 64 1, getN b 64 0] W hop hv (by simp only [List.mem_cons, List.not_mem_nil, or_false]; rintro x hx; rcases hx with rfl | rfl | rfl <;> exact getN_lt _ 64 _) (by replace h : replV ((64768 + (κ : Int)) - 64768) 1 a (getN b 64 0) = (V, 0) := h; rw [parts_re κ hk a (getN b 64 0) (getN_lt _ 64 _) (by rw [h]), h]))
    (fun W lv V h hv => halves_k V 64782 0 0 0 lv [getN a 64 0, getN a 64 1, getN b 64 0, getN b 64 1] W (by decide) hv (by simp only [List.mem_cons, List.not_mem_nil, or_false]; rintro x hx; rcases hx with rfl | rfl | rfl | rfl <;> exact getN_lt _ 64 _) (by injection h with h1 _; subst h1; exact parts_swiz a b))
    (fun W lv hv => do_val (64768 + (κ : Int)) 1 0 0 lv _ _ _ W hop hv hlt2 rfl)
    (fun W lv hv => do_val 64781 0 (getN b 64 0) (getN b 64 1) lv _ _ _ W (by decide) hv hlt4 (by rw [parts_shuf]; exact Prod.ext rfl (doM_snd _)))
    (by omega) (fun h => ?_) (fun h => ?_)
  · rw [parts_nu κ hk a h]
    exact ⟨rfl, rfl⟩
  · unfold doM
    rw [if_pos h]


set_option maxRecDepth 100000 in
theorem vectorParts_lifted (os : Os) (started : os.Started) (H : Type) (enc : TypeId × Value → H) :
    ReturnsInHanded {} Try.checked os 6 .any (Rows.vectorPartsSpec.pre6 enc Try.prog Try.f6 Rows.vectorPartsRow.domain false) (Rows.vectorPartsSpec.post enc Try.prog Try.f6 false true false false) := by
  refine returnsInHanded_of_change (C := Try.checked) Try.own started (by kernel_rfl) Try.func6
    (ChangeSpec.witness6 (enc := enc) (C := Try.checked) false ⟨#[], #[.int .i64 0, .agg (cells 0), .agg (cells 0)], []⟩ 8 (by kernel_rfl) (by kernel_rfl) (by kernel_rfl) (by kernel_rfl)) ?_
  intro W base args ds gs before hval0 hW hcnd _
  have hval : ∀ (j : Nat) t v, Try.f6.params[j]? = some t → args[j]? = some v → Value.okWide Try.prog W .any base t v := hval0
  have hW' := hW
  obtain ⟨p, q, hA0, hV, rfl, hfz, hnd⟩ := hW
  have hA : DataW.TrodAll enc Try.prog W 0 (fun _ => true) true Try.f6.params.toList args.toList ds p := hA0
  rw [Try.params6] at hA hval
  obtain ⟨v0, v1, v2, d0, d1, d2, p0, p1, p2, rfl, rfl, rfl, h0, h1, h2⟩ := trodAll_three hA
  obtain ⟨rfl, rfl⟩ := trodVars_none hV
  clear hA0 hval0
  have k0 := h0
  obtain ⟨x0, rfl, e0, f0, w0⟩ := open_int Try.underlying3 (hval 0 3 v0 rfl rfl) k0
  obtain ⟨x1, rfl⟩ := open_vec (hval 1 45 v1 rfl rfl) h1
  obtain ⟨x2, rfl⟩ := open_vec (hval 2 45 v2 rfl rfl) h2
  simp only [List.append_nil] at hW'
  have laid : laidOutB Try.prog = true := by kernel_rfl
  refine (parts_any x0 x1 x2 W (bounds_i64 w0)).mono fun e W' ⟨he, hb⟩ => ?_
  subst he
  exact ⟨_, rfl, _, _, _, [], _, [], hW', trodAll_mk1 (shut_bool Try.underlying4 _), trodAll_mk3 (Below.trod laid (by kernel_rfl) (of_decide_eq_true (by kernel_rfl)) h0 hb (fun x hx => hW'.lt x (by simp [hx]))) (Below.trod laid (by kernel_rfl) (of_decide_eq_true (by kernel_rfl)) h1 hb (fun x hx => hW'.lt x (by simp [hx]))) (Below.trod laid (by kernel_rfl) (of_decide_eq_true (by kernel_rfl)) h2 hb (fun x hx => hW'.lt x (by simp [hx]))), rfl, hb.frame _, fun h => by cases h⟩

theorem vectorParts_holds : Rows.VectorPartsSaid :=
  OpenClaim.holds_of_wide 6 Try.f6 rfl rfl rfl rfl rfl rfl rfl ⟨rfl, rfl, rfl, rfl, rfl⟩ rfl rfl rfl rfl rfl (by kernel_rfl) Try.func6 (by kernel_rfl)
    (of_decide_eq_true (by kernel_rfl)) (by unfold Func.isWrapper; rw [if_neg (of_decide_eq_false (by kernel_rfl))]; exact ⟨rfl, rfl⟩)
    (fun os started H enc _ => vectorParts_lifted os started H enc)
#print axioms vectorParts_holds

end Go.Proofs.Ytcpfabkokgiepaa
