/- For every opcode and all vectors a and b plaittop.CoreLanes returns true; no condition but the row's own list of tables. (It is proved of the program's text over the formal model.) -/
import Derived.ProofKit
import Derived.Carry
import Derived.OpenShut
import Derived.Test.YtebpijlmeemfaaaGreatDoorCards
import Derived.Test.YtebpijlmeemfaaaGreatDoorTie
import Derived.WalkKit
import Derived.Deep.DeepHandedRow
import Derived.Lib.LaidTab
import Derived.Test.YtebpijlmeemfaaaGreatDoorA02
import Derived.Test.YtebpijlmeemfaaaGreatDoorB20
import Derived.Test.YtebpijlmeemfaaaGreatDoorC01
import Derived.Test.YtebpijlmeemfaaaGreatDoorC02
import Derived.Test.YtebpijlmeemfaaaGreatDoorC03
import Derived.Test.YtebpijlmeemfaaaGreatDoorC04
import Derived.Test.YtebpijlmeemfaaaGreatDoorC05
import Derived.Test.YtebpijlmeemfaaaGreatDoorC06
import Derived.Test.YtebpijlmeemfaaaGreatDoorC07
import Derived.Test.YtebpijlmeemfaaaGreatDoorC08
import Derived.Test.YtebpijlmeemfaaaGreatDoorC09
import Derived.Test.YtebpijlmeemfaaaGreatDoorD1
import Derived.Test.YtebpijlmeemfaaaGreatDoorD3
set_option linter.all false
set_option linter.unusedSectionVars false
set_option linter.unusedSimpArgs false
set_option linter.unusedVariables false
section
set_option maxRecDepth 100000
namespace Go.Proofs.YtebpijlmeemfaaaGreatDoor
open Go.RowKit Go.ChangeShapes Go.WideShapes Go.ChangeAt Pl
theorem vec_of_ints (f : Nat → Nat) : ∃ v : Vec, ∀ i, i < 16 → getN v 8 i = f i % 256 :=
 ⟨buildOn 0 8 f 16, fun i hi => by rw [getN_buildOn _ _ _ _ _ (by decide), if_pos hi]⟩
theorem open_vec {H : Type} {enc : TypeId × Value → H} {w : World} {spare : Nat → Bool} {held : Bool} {base b0 : Nat} {r : Reach} {v : Value} {d : DataW H} {p : List MemPlace}
  (hv : Value.okWide Tryz.prog w r b0 23 v) (h : DataW.Trod enc Tryz.prog w base spare held 23 v d p) : ∃ u : Vec, v = .agg (cells u) := by
 have hu : Tryz.prog.underlying 5 = some (.int .u8) := by kernel_rfl
 have hc1 : Tryz.prog.cellsOf 5 = 1 := by kernel_rfl
 have hc16 : Tryz.prog.cellsOf 23 = 16 := by kernel_rfl
 unfold Value.okWide at hv
 rw [vunder] at hv
 obtain ⟨cs, rfl, hsz, _⟩ := hv
 rw [hc16] at hsz
 obtain ⟨fuel, hf⟩ := h
 obtain ⟨xs, m, _, _, _, hl, hx⟩ := DataW.trod_array vunder hf
 simp only [Value.cells, hc1, Nat.mul_one] at hx
 have hcell : ∀ i, i < 16 → ∃ a : Nat, a < 256 ∧ cs[i]? = some (.int .u8 (a : Int)) := fun i hi => by
  have h1 := hx i hi
  have hci : (cs.toList.drop i).take 1 = [cs[i]'(by omega)] := by
   rw [List.drop_eq_getElem_cons (by simpa using (by omega : i < cs.size))]
   simp
  rw [hci, List.getElem?_eq_getElem (by omega)] at h1
  obtain ⟨a, e, _, wf⟩ := DataW.trod_int hu h1
  simp at e
  have hb := bounds_u8 wf
  refine ⟨a.toNat, by omega, ?_⟩
  rw [Array.getElem?_eq_getElem (by omega), e, Int.toNat_of_nonneg hb.1]
 obtain ⟨u, hu2⟩ := vec_of_ints (fun i => match cs[i]? with | some (.int _ a) => a.toNat | _ => 0)
 refine ⟨u, ?_⟩
 refine congrArg Value.agg ?_
 apply Array.ext_getElem?
 intro i
 by_cases hi : i < 16
 ·obtain ⟨a, ha, hca⟩ := hcell i hi
  have h2 := hu2 i hi
  rw [hca] at h2
  rw [getElem?_cells u i hi, hca]
  unfold byteV
  have h3 : bitsAt u (8 * i) 8 = a := by
   have : getN u 8 i = a := by rw [h2]; simp; omega
   exact this
  rw [h3]
 ·rw [Array.getElem?_eq_none (by omega), Array.getElem?_eq_none (by simp; omega)]
theorem Tryz.own : ownKnob Tryz.prog.godebug = none := by kernel_rfl
theorem bounds_u8 {x : Int} (h : (Lit.int .u8 x).wf = true) : 0 ≤ x ∧ x < 256 := by
 simp [Lit.wf, IntKind.min, IntKind.max, IntKind.signed, IntKind.bits] at h
 exact ⟨by omega, by omega⟩
end Go.Proofs.YtebpijlmeemfaaaGreatDoor
end
section
set_option maxRecDepth 100000
namespace Ev
theorem mid_all (a b : Nat → Nat) : ∀ k ∈ kA, outA (evA k a b) = expA k a b := by
 unfold kA
 intro k hk
 simp only [List.mem_cons, List.not_mem_nil, or_false] at hk
 rcases hk with rfl | rfl | rfl | rfl | rfl | rfl | rfl | rfl | rfl | rfl | rfl | rfl | rfl | rfl | rfl | rfl | rfl | rfl | rfl | rfl | rfl | rfl | rfl | rfl | rfl | rfl | rfl | rfl | rfl | rfl | rfl | rfl | rfl | rfl | rfl | rfl | rfl | rfl | rfl | rfl | rfl | rfl | rfl | rfl | rfl | rfl | rfl | rfl | rfl | rfl | rfl | rfl | rfl | rfl | rfl | rfl | rfl | rfl | rfl | rfl | rfl | rfl | rfl | rfl | rfl | rfl | rfl | rfl | rfl | rfl | rfl | rfl | rfl | rfl | rfl | rfl | rfl | rfl | rfl | rfl | rfl | rfl | rfl | rfl | rfl | rfl | rfl | rfl | rfl | rfl | rfl | rfl | rfl
 ·exact mid13 a b
 ·exact mid14 a b
 ·exact mid35 a b
 ·exact mid36 a b
 ·exact mid37 a b
 ·exact mid38 a b
 ·exact mid39 a b
 ·exact mid40 a b
 ·exact mid41 a b
 ·exact mid42 a b
 ·exact mid43 a b
 ·exact mid44 a b
 ·exact mid45 a b
 ·exact mid46 a b
 ·exact mid47 a b
 ·exact mid48 a b
 ·exact mid49 a b
 ·exact mid50 a b
 ·exact mid51 a b
 ·exact mid52 a b
 ·exact mid53 a b
 ·exact mid54 a b
 ·exact mid55 a b
 ·exact mid56 a b
 ·exact mid57 a b
 ·exact mid58 a b
 ·exact mid59 a b
 ·exact mid60 a b
 ·exact mid61 a b
 ·exact mid62 a b
 ·exact mid63 a b
 ·exact mid64 a b
 ·exact mid78 a b
 ·exact mid79 a b
 ·exact mid80 a b
 ·exact mid81 a b
 ·exact mid101 a b
 ·exact mid102 a b
 ·exact mid110 a b
 ·exact mid111 a b
 ·exact mid112 a b
 ·exact mid113 a b
 ·exact mid114 a b
 ·exact mid115 a b
 ·exact mid118 a b
 ·exact mid119 a b
 ·exact mid120 a b
 ·exact mid121 a b
 ·exact mid123 a b
 ·exact mid130 a b
 ·exact mid133 a b
 ·exact mid134 a b
 ·exact mid142 a b
 ·exact mid143 a b
 ·exact mid144 a b
 ·exact mid145 a b
 ·exact mid146 a b
 ·exact mid147 a b
 ·exact mid149 a b
 ·exact mid150 a b
 ·exact mid151 a b
 ·exact mid152 a b
 ·exact mid153 a b
 ·exact mid155 a b
 ·exact mid156 a b
 ·exact mid157 a b
 ·exact mid158 a b
 ·exact mid159 a b
 ·exact mid174 a b
 ·exact mid177 a b
 ·exact mid181 a b
 ·exact mid182 a b
 ·exact mid183 a b
 ·exact mid184 a b
 ·exact mid185 a b
 ·exact mid186 a b
 ·exact mid188 a b
 ·exact mid189 a b
 ·exact mid190 a b
 ·exact mid191 a b
 ·exact mid206 a b
 ·exact mid209 a b
 ·exact mid213 a b
 ·exact mid214 a b
 ·exact mid215 a b
 ·exact mid216 a b
 ·exact mid217 a b
 ·exact mid218 a b
 ·exact mid219 a b
 ·exact mid220 a b
 ·exact mid221 a b
 ·exact mid222 a b
 ·exact mid223 a b
end Ev
end
section
set_option maxRecDepth 100000
namespace Go.Proofs.YtebpijlmeemfaaaGreatDoor
open Go.RowKit Go.ChangeShapes Go.WideShapes Go.ChangeAt Pl
theorem coreLanes_walk (op : Int) (a b : Vec) (w : World) (ho : -9223372036854775808 ≤ op ∧ op ≤ 9223372036854775807) : Calls Tryz.prog 3 #[.int .i64 op, .agg (cells a), .agg (cells b)] w fun e w' => e = .returned (.bool true) ∧ Below w.heap.size w w' :=
 lanes_k op a b w ho fun p q k hk => Ev.mid_all p q k hk
theorem own : ownKnob Tryz.prog.godebug = none := by kernel_rfl
theorem op_bounds {x : Int} (h : (Lit.int .i64 x).wf = true) : -9223372036854775808 ≤ x ∧ x ≤ 9223372036854775807 := by
 simp [Lit.wf, IntKind.min, IntKind.max, IntKind.signed, IntKind.bits] at h
 exact ⟨by omega, by omega⟩
theorem contract (H : Type) (enc : TypeId × Value → H) (W : World) (base : Nat) (args : Array Value) (ds gs : List (DataW H)) (before : List MemPlace)
  (hval : ∀ (j : Nat) t v, Tryz.f3.params[j]? = some t → args[j]? = some v → Value.okWide Tryz.prog W .any base t v)
  (hW : DataW.Whole enc Tryz.prog Tryz.f3.params.toList Rows.coreLanesSpec.vars false W args.toList ds gs before) :
  Calls Tryz.prog 3 args W fun e W' => ∃ v, e = .returned v ∧ Rows.coreLanesSpec.post enc Tryz.prog Tryz.f3 false true false false W args v W' := by
 have hW' := hW
 obtain ⟨p, q, hA0, hV, rfl, hfz, hnd⟩ := hW
 have hA : DataW.TrodAll enc Tryz.prog W 0 (fun _ => true) true Tryz.f3.params.toList args.toList ds p := hA0
 rw [Tryz.params3] at hA hval
 obtain ⟨v0, v1, v2, d0, d1, d2, p0, p1, p2, rfl, rfl, rfl, h0, h1, h2⟩ := trodAll_three hA
 obtain ⟨rfl, rfl⟩ := trodVars_none hV
 clear hA0
 have k0 := h0
 obtain ⟨x0, rfl, e0, f0, w0⟩ := open_int Tryz.underlying3 (hval 0 3 v0 rfl rfl) k0
 obtain ⟨x1, rfl⟩ := open_vec (hval 1 23 v1 rfl rfl) h1
 obtain ⟨x2, rfl⟩ := open_vec (hval 2 23 v2 rfl rfl) h2
 simp only [List.append_nil] at hW'
 have laid : laidOutB Tryz.prog = true := j2
 refine (coreLanes_walk x0 x1 x2 W (op_bounds w0)).mono fun e W' ⟨he, hb⟩ => ?_
 subst he
 exact ⟨_, rfl, _, _, _, [], _, [], hW', trodAll_mk1 (shut_bool Tryz.underlying4 _), trodAll_mk3 (Below.trod laid (by kernel_rfl) (of_decide_eq_true (by kernel_rfl)) h0 hb (fun x hx => hW'.lt x (by simp [hx]))) (Below.trod laid (by kernel_rfl) (of_decide_eq_true (by kernel_rfl)) h1 hb (fun x hx => hW'.lt x (by simp [hx]))) (Below.trod laid (by kernel_rfl) (of_decide_eq_true (by kernel_rfl)) h2 hb (fun x hx => hW'.lt x (by simp [hx]))), rfl, hb.frame _, fun h => by cases h⟩
def cells1 {H : Type} : DataW H → List Value
 | .lit (.int k n) => [.int k n]
 | _ => []
def cells2 {H : Type} : DataW H → List Value
 | .agg l => l.flatMap fun d => match d with
  | .agg m => m.flatMap cells1
  | d => cells1 d
 | _ => []
def lay (cs : Array Value) : Obj → Obj
 | .cells _ t frozen => .cells cs t frozen
 | o => o
noncomputable def laidWorld (os : Os) : World :=
 { World.holding Tryz.prog os ⟨#[], #[], []⟩ with heap := (((((World.holding Tryz.prog os ⟨#[], #[], []⟩).heap.modify 0 (lay (cells2 Rows.laid_unicode_utf8_first).toArray)).modify 1 (lay (cells2 (H := Unit) Rows.laid_unicode_utf8_acceptRanges).toArray)).modify 2 (lay (cells2 (H := Unit) Rows.laid_math_bits_deBruijn32tab).toArray)).modify 3 (lay (cells2 (H := Unit) Rows.laid_math_bits_deBruijn64tab).toArray)) }
def zeroV : Value := .agg #[.int .u8 0, .int .u8 0, .int .u8 0, .int .u8 0, .int .u8 0, .int .u8 0, .int .u8 0, .int .u8 0, .int .u8 0, .int .u8 0, .int .u8 0, .int .u8 0, .int .u8 0, .int .u8 0, .int .u8 0, .int .u8 0]
def zeroD {H : Type} : DataW H := .agg [.lit (.int .u8 0), .lit (.int .u8 0), .lit (.int .u8 0), .lit (.int .u8 0), .lit (.int .u8 0), .lit (.int .u8 0), .lit (.int .u8 0), .lit (.int .u8 0), .lit (.int .u8 0), .lit (.int .u8 0), .lit (.int .u8 0), .lit (.int .u8 0), .lit (.int .u8 0), .lit (.int .u8 0), .lit (.int .u8 0), .lit (.int .u8 0)]
theorem laid_met (os : Os) : laidMet Tryz.prog Rows.coreLanesRow.laid ((laidWorld os).forCall (fun _ _ => 0) ⟨#[], #[.int .i64 0, zeroV, zeroV], []⟩).memory :=
 laidMet_of_run' 8 (by kernel_rfl) (by kernel_rfl)
theorem reads (os : Os) {H : Type} (enc : TypeId × Value → H) : ∃ places, DataW.whole enc Tryz.prog ((laidWorld os).forCall (fun _ _ => 0) ⟨#[], #[.int .i64 0, zeroV, zeroV], []⟩).memory Tryz.f3.params.toList Rows.coreLanesSpec.vars false (#[.int .i64 0, zeroV, zeroV] : Array Value).toList 8 = some ([.lit (.int .i64 0), zeroD, zeroD], [], places) :=
 ⟨[], by kernel_rfl⟩
set_option maxRecDepth 100000 in
theorem lifted (os : Os) (started : os.Started) (H : Type) (enc : TypeId × Value → H) (I : Stop.Interp) :
  ReturnsInHanded {} Tryz.checked os 3 .any ((OpenSpec.ofChange Rows.coreLanesSpec).preRow enc Tryz.prog Tryz.f3 Rows.coreLanesRow.domain false Rows.coreLanesRow.laid) (((OpenSpec.ofChange Rows.coreLanesSpec).at I).post enc Tryz.prog Tryz.f3 false true false false) := by
 obtain ⟨places, hx⟩ := reads os enc
 refine returnsInHanded_of_row (C := Tryz.checked) (s := OpenSpec.ofChange Rows.coreLanesSpec) own started (by kernel_rfl) Tryz.func3
  (witness_row_at (enc := enc) (C := Tryz.checked) false (laidWorld os) #[.int .i64 0, zeroV, zeroV] rfl (by kernel_rfl) (by kernel_rfl) (by kernel_rfl)
   (OpenSpec.preRow_of_cond 8 hx (by kernel_rfl) (fun k hk => by cases hk) (by kernel_rfl) (laid_met os))) ?_
 intro W base args ds gs before hval hW _ _ _ hL _ _
 exact contract H enc W base args ds gs before hval hW
theorem coreLanes_said : Rows.CoreLanesSaid :=
 OpenClaim.holds_of_cond 3 Tryz.f3 rfl rfl rfl rfl rfl rfl rfl ⟨rfl, rfl, rfl, rfl, rfl⟩ rfl rfl rfl rfl rfl (by kernel_rfl) Tryz.func3 closed
  (of_decide_eq_true (by kernel_rfl)) (by unfold Func.isWrapper; rw [if_neg (of_decide_eq_false (by kernel_rfl))]; exact ⟨rfl, rfl⟩)
  (fun os started H enc _ I => by rw [OpenClaim.pre_eq_preRow]; exact lifted os started H enc I)
theorem plain (f : FuncId) (fn : Func) (hf : Tryz.pinned.checked.prog.funcNamed "plait/plaittop.CoreLanes" = some f) (hfn : Tryz.pinned.checked.prog.funcs[f]? = some fn) :
  false = Tryz.pinned.checked.prog.looks [] ∧ ∀ (j : Nat) t, fn.params[j]? = some t → Tryz.pinned.checked.prog.wantsStandIn t = false := by
 obtain rfl : f = 3 := Option.some.inj ((show Tryz.prog.funcNamed "plait/plaittop.CoreLanes" = some 3 by kernel_rfl).symm.trans hf) |>.symm
 obtain rfl : fn = Tryz.f3 := (Option.some.inj (Tryz.func3.symm.trans hfn)).symm
 refine ⟨by kernel_rfl, fun j t ht => ?_⟩
 rw [Tryz.params3] at ht
 have hm : t ∈ [3, 23, 23] := by simpa using Array.mem_of_getElem? ht
 have hall : ([3, 23, 23].all fun u => !Tryz.prog.wantsStandIn u) = true := by kernel_rfl
 exact (show Tryz.prog.wantsStandIn t = false by simpa using List.all_eq_true.1 hall t hm)
theorem coreLanes_card : Rows.CoreLanesCardSaid :=
 Claim7.holds_tied_plain_at .later [] _ _ _ _ coreLanes_said (fun _ h => by cases h) (by kernel_rfl) (fun _ h => by cases h) coreLanes_row_tie rfl ⟨rfl, rfl⟩ (by kernel_rfl) rfl plain (by kernel_rfl)
end Go.Proofs.YtebpijlmeemfaaaGreatDoor
end
