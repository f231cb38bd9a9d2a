/- A part of the proof that plaittop.CoreLanes returns true. -/
import Derived.Test.YtebpijlmeemfaaaGreatDoorB20
import Derived.Test.YtebpijlmeemfaaaGreatDoorB21
set_option linter.all false
set_option linter.unusedSectionVars false
set_option linter.unusedSimpArgs false
set_option linter.unusedVariables false
section
set_option maxRecDepth 100000
namespace Ev
open Go Go.Proofs
theorem max50 (w : World) : (Builtin.max_ #[3, 3] 3 #[.int .i64 ((50 : Nat) : Int), .int .i64 0]).run Tryz.prog w = .ok (.int .i64 ((50 : Nat) : Int)) w := by kernel_rfl
theorem min50 (w : World) : (Builtin.min_ #[3, 3] 3 #[.int .i64 ((50 : Nat) : Int), .int .i64 100000]).run Tryz.prog w = .ok (.int .i64 ((50 : Nat) : Int)) w := by kernel_rfl
theorem bld50 (w : World) (M : Nat) : (Instr.build 140 #[(0, .pointer (some ⟨M, 0, none⟩)), (1, .int .i64 ((50 : Nat) : Int))]).run Tryz.prog w = .ok (.agg #[.pointer (some ⟨M, 0, none⟩), .int .i64 ((50 : Nat) : Int), .int .i64 ((0 : Nat) : Int), .int .i64 ((0 : Nat) : Int), .int .i64 ((0 : Nat) : Int)]) w := by kernel_rfl
theorem run_max0 {o : Oper} {a : Act} {w : World} (x : Operand) (ht : o.type = 3) (ho : o.op = .call { callee := .builtin .max, args := #[x, .const (.int .i64 0)], argTypes := #[3, 3] }) (hx : a.eval x = .int .i64 ((50 : Nat) : Int)) : (execOp a.eval o).run Tryz.prog w = .ok (.value (.int .i64 ((50 : Nat) : Int))) w := by
 have h := max50 w
 have hc : a.eval (.const (.int .i64 0)) = .int .i64 0 := rfl
 unfold execOp
 simp only [ho, resolve, invoke, builtin, Sem.run_bind, Sem.run_pure, Result.andThen_ok, List.map_toArray, List.map_cons, List.map_nil, hx, hc, ht, h]
theorem run_min0 {o : Oper} {a : Act} {w : World} (x : Operand) (ht : o.type = 3) (ho : o.op = .call { callee := .builtin .min, args := #[x, .const (.int .i64 100000)], argTypes := #[3, 3] }) (hx : a.eval x = .int .i64 ((50 : Nat) : Int)) : (execOp a.eval o).run Tryz.prog w = .ok (.value (.int .i64 ((50 : Nat) : Int))) w := by
 have h := min50 w
 have hc : a.eval (.const (.int .i64 100000)) = .int .i64 100000 := rfl
 unfold execOp
 simp only [ho, resolve, invoke, builtin, Sem.run_bind, Sem.run_pure, Result.andThen_ok, List.map_toArray, List.map_cons, List.map_nil, hx, hc, ht, h]
theorem run_bld {o : Oper} {a : Act} {w : World} (x y : Operand) (ho : o.op = .build 140 #[(0, x), (1, y)]) {M : Nat} (hx : a.eval x = .pointer (some ⟨M, 0, none⟩)) (hy : a.eval y = .int .i64 ((50 : Nat) : Int)) : (execOp a.eval o).run Tryz.prog w = .ok (.value (.agg #[.pointer (some ⟨M, 0, none⟩), .int .i64 ((50 : Nat) : Int), .int .i64 ((0 : Nat) : Int), .int .i64 ((0 : Nat) : Int), .int .i64 ((0 : Nat) : Int)])) w := by
 have h := bld50 w M
 unfold execOp
 simp only [ho, Sem.run_bind, Sem.run_pure, Result.andThen_ok, List.map_toArray, List.map_cons, List.map_nil, hx, hy, h]
theorem run_bx {o : Oper} {a : Act} {w : World} (x : Operand) (ho : o.op = .box 140 x) {l : Array Value} (hx : a.eval x = .agg l) (hl : l.size = 5) : (execOp a.eval o).run Tryz.prog w = .ok (.value (.pointer (some ⟨w.heap.size, 0, none⟩))) (w.alloc (.cells l 140)) := by
 unfold execOp
 simp only [ho, hx]
 rfl
theorem run_as {o : Oper} {a : Act} {w : World} (x : Operand) (ho : o.op = .assign x) {v : Value} (hx : a.eval x = v) : (execOp a.eval o).run Tryz.prog w = .ok (.value v) w := by
 unfold execOp
 simp only [ho, hx, Sem.run_bind, Sem.run_pure, Result.andThen_ok]
theorem wpL_val {ops : Array Oper} {rest : List Oper} {o : Oper} {a : Act} {w w' : World} {Q : Exit → Act → World → Prop} {v : Value} (hg : o.guard = none) (h : (execOp a.eval o).run Tryz.prog w = .ok (.value v) w') (hK : wpList Tryz.prog ops Q rest (a.put o.dst v) w') : wpList Tryz.prog ops Q (o :: rest) a w := by
 refine wpList_plain hg fun K hK2 => ?_
 unfold Oper.wp
 rw [h]
 exact hK2 _ _ hK
noncomputable def c13 : Code := Tryz.f13.body.getD .skip
noncomputable def run5 (M : Nat) : Array Value := #[.pointer (some ⟨M, 0, none⟩), .int .i64 ((50 : Nat) : Int), .int .i64 ((0 : Nat) : Int), .int .i64 ((0 : Nat) : Int), .int .i64 ((0 : Nat) : Int)]
theorem reg18 {a : Act} {w : World} {M : Nat} (sz : a.tmps.size = 129) (e0 : a.eval (.tmp 0) = .pointer (some ⟨M, 0, none⟩)) (e3 : a.eval (.tmp 3) = .int .i64 ((50 : Nat) : Int)) {Q : Exit → Act → World → Prop}
  (hQ : ∀ a' : Act, a'.tmps.size = 129 → a'.defers = a.defers → a'.eval (.tmp 12) = .pointer (some ⟨w.heap.size, 0, none⟩) → a'.eval (.tmp 1) = a.eval (.tmp 1) → a'.eval (.tmp 8) = a.eval (.tmp 8) → a'.eval (.tmp 9) = a.eval (.tmp 9) → Q .normal a' (w.alloc (.cells (run5 M) 140))) : (headC (tail c13 4)).wp Tryz.prog Q a w := by
 unfold c13
 dsimp only [Tryz.f13, tail, headC, Option.getD]
 refine wp_region_list ?_
 refine wpL_val rfl (run_mv (.tmp 0) rfl e0) ?_
 refine wpL_val rfl (run_mv (.tmp 3) rfl (v := .int .i64 ((50 : Nat) : Int)) (by simp (decide := true) [Act.eval_put_same, Act.eval_put_ne, Act.size_put, sz, e0, e3])) ?_
 refine wpL_val rfl (run_max0 (.tmp 94) rfl rfl (by simp (decide := true) [Act.eval_put_same, Act.eval_put_ne, Act.size_put, sz, e0, e3])) ?_
 refine wpL_val rfl (run_min0 (.tmp 95) rfl rfl (by simp (decide := true) [Act.eval_put_same, Act.eval_put_ne, Act.size_put, sz, e0, e3])) ?_
 refine wpL_val rfl (run_bld (.tmp 93) (.tmp 96) rfl (M := M) (by simp (decide := true) [Act.eval_put_same, Act.eval_put_ne, Act.size_put, sz, e0, e3]) (by simp (decide := true) [Act.eval_put_same, Act.eval_put_ne, Act.size_put, sz, e0, e3])) ?_
 refine wpL_val rfl (run_bx (.tmp 97) rfl (l := run5 M) (by simp (decide := true) [Act.eval_put_same, Act.eval_put_ne, Act.size_put, sz, e0, e3, run5]) rfl) ?_
 refine wpL_val rfl (run_as (.tmp 98) rfl (v := .pointer (some ⟨w.heap.size, 0, none⟩)) (by simp (decide := true) [Act.eval_put_same, Act.eval_put_ne, Act.size_put, sz, e0, e3])) ?_
 refine wpList_nil (hQ _ ?_ ?_ ?_ ?_ ?_ ?_)
 ·simp only [Act.size_put, sz]
 ·simp only [Act.defers_put']
 all_goals simp (decide := true) [Act.eval_put_same, Act.eval_put_ne, Act.size_put, sz, e0, e3]
theorem run_call3 {o : Oper} {a : Act} {w : World} (g : Nat) (hg : g = 43) (x y z : Operand) {T : Array TypeId} (ho : o.op = .call { callee := .value (.func g), args := #[x, y, z], argTypes := T }) {v1 v2 v3 : Value} (hx : a.eval x = v1) (hy : a.eval y = v2) (hz : a.eval z = v3) : (execOp a.eval o).run Tryz.prog w = .ok (.enter g #[v1, v2, v3]) w := by
 subst hx hy hz hg
 have h1 : (execOp a.eval o).run Tryz.prog w = (callFunc 43 #[a.eval x, a.eval y, a.eval z]).run Tryz.prog w := by
  unfold execOp
  simp only [ho]
  simp [resolve, invoke, go_sem, show a.eval (.func 43) = .func (.func 43) #[] #[] from rfl]
 rw [h1]
 obtain ⟨fn, hf, hn, hb⟩ : ∃ fn, Tryz.prog.funcs[43]? = some fn ∧ (fn.name == "runtime.NumGoroutine") = false ∧ fn.body.isNone = false := ⟨Tryz.f43, Tryz.func43, by kernel_rfl, by kernel_rfl⟩
 simp only [callFunc, program, Sem.run_bind, Sem.run, hf, hn, hb]
 rfl
theorem reg19 {a : Act} {w : World} {v1 v2 v3 : Value} (sz : a.tmps.size = 129) (e12 : a.eval (.tmp 12) = v1) (e1 : a.eval (.tmp 1) = v2) (e9 : a.eval (.tmp 9) = v3) {T : Value → World → Prop} (hc : Calls Tryz.prog 43 #[v1, v2, v3] w fun en w' => ∃ v, en = .returned v ∧ T v w') {Q : Exit → Act → World → Prop}
  (hQ : ∀ (a' : Act) (w' : World) (v : Value), T v w' → a'.tmps.size = 129 → a'.defers = a.defers → a'.eval (.tmp 12) = v1 → a'.eval (.tmp 13) = v → a'.eval (.tmp 8) = a.eval (.tmp 8) → Q .normal a' w') : (headC (tail c13 5)).wp Tryz.prog Q a w := by
 unfold c13
 dsimp only [Tryz.f13, tail, headC, Option.getD]
 refine wp_region_list ?_
 refine wpL_val rfl (run_mv (.tmp 12) rfl e12) ?_
 refine wpL_val rfl (run_mv (.tmp 1) rfl (v := v2) (by simp (decide := true) [Act.eval_put_same, Act.eval_put_ne, Act.size_put, sz, e12, e1, e9])) ?_
 refine wpL_val rfl (run_mv (.tmp 9) rfl (v := v3) (by simp (decide := true) [Act.eval_put_same, Act.eval_put_ne, Act.size_put, sz, e12, e1, e9])) ?_
 refine wpList_plain rfl fun K hK => ?_
 unfold Oper.wp
 rw [run_call3 43 rfl (.tmp 99) (.tmp 100) (.tmp 101) rfl (v1 := v1) (v2 := v2) (v3 := v3) (by simp (decide := true) [Act.eval_put_same, Act.eval_put_ne, Act.size_put, sz, e12, e1, e9]) (by simp (decide := true) [Act.eval_put_same, Act.eval_put_ne, Act.size_put, sz, e12, e1, e9]) (by simp (decide := true) [Act.eval_put_same, Act.eval_put_ne, Act.size_put, sz, e12, e1, e9]), Oper.upon_enter]
 refine hc.mono fun e w' hh => ?_
 obtain ⟨v, rfl, hi⟩ := hh
 refine hK _ _ (wpL_val rfl (run_as (.tmp 102) rfl (v := v) (by simp (decide := true) [Act.eval_put_same, Act.eval_put_ne, Act.size_put, sz, e12, e1, e9])) ?_)
 refine wpList_nil (hQ _ _ v hi ?_ ?_ ?_ ?_ ?_)
 ·simp only [Act.size_put, sz]
 ·simp only [Act.defers_put']
 all_goals simp (decide := true) [Act.eval_put_same, Act.eval_put_ne, Act.size_put, sz, e12, e1, e9]
theorem c13_eq : c13 = ((List.range 4).map fun i => headC (tail c13 i)).foldr Code.seq (.seq (headC (tail c13 4)) (.seq (headC (tail c13 5)) (tail c13 6))) := by kernel_rfl
end Ev
end
section
set_option maxRecDepth 100000
namespace Ev
open Go Go.Proofs
noncomputable def t13 : T := Tr.set (Tr.set (Tr.set (Tr.set .nil 0 (.p (.one (.ptr 6 0)))) 1 (.p (.one (i64c 0)))) 2 (.p (.one .snil))) 3 (.p (.one (i64c 50)))
noncomputable def rows13 (k : Nat) : List (Nat × Row) := [(3, rowOf [.any, i64c 0, i64c 0, i64c 0] 100 7), (6, rowOf [.sl 8 0 1 (.known k), .sl 3 0 1 (.minus 0), .ptr 7 0, .ptr 10 0, .any, .any, .any, .any, .any, .any, .any, .any, .any, .any, .any, .bool false] 127 16), (7, rowOf [] 109 16), (8, rowOf [.snil, .any] 39 2), (10, rowOf [] 137 3)]
noncomputable def pre13 : List Code := (List.range 4).map fun i => headC (tail c13 i)
noncomputable def ev13 (k : Nat) : R CSt := evList ty2 (evCall ty2 fns2 rnExt 5000 4) (2 ^ 96) 1000 (2 ^ 200) 50 pre13 t13 1000 (hOf (rows13 k))
def isS (v : Option AV) : Bool := match v with
 | some (.p (.one .snil)) => true
 | _ => false
theorem isS_spec {v : Option AV} (h : isS v = true) : v = some (.p (.one .snil)) := by
 unfold isS at h
 split at h
 ·rfl
 ·cases h
noncomputable def isPO (v : Option AV) (n : Nat) : Bool := match v with
 | some (.p (.one c)) => isP c n
 | _ => false
theorem isPO_spec {v : Option AV} {n : Nat} (h : isPO v n = true) : v = some (.p (.one (.ptr n 0))) := by
 unfold isPO at h
 split at h
 ·rw [isP_spec h]
 ·cases h
noncomputable def isJO (v : Option AV) (n : Nat) : Bool := match v with
 | some (.p (.one c)) => isJ c n
 | _ => false
theorem isJO_spec {v : Option AV} {n : Nat} (h : isJO v n = true) : v = some (.p (.one (i64c n))) := by
 unfold isJO at h
 split at h
 ·rw [isJ_spec h]; rfl
 ·cases h
noncomputable def out13 (r : R CSt) : Option (Nat × Bool × List Nat × List CV) := match r with
 | .ok ⟨e, t, _⟩ h l => (match Tr.get t 8 with
  | some (.p (.one (.ptr i 0))) => (match h.find i with
   | some r1 => some (exN e, isPO (Tr.get t 0) 6 && (isJO (Tr.get t 1) 0 && (isJO (Tr.get t 3) 50 && (isS (Tr.get t 9) && (okRow r1 68 4 && (Nat.beq r1.n 4 && Nat.ble 1000 i))))), l.w, r1.cells 4 0)
   | none => none)
  | _ => none)
 | .no => none
theorem run13 (k : Nat) : out13 (ev13 k) = some (0, true, [], [i64c 0, .int .u32 (.ofNat 0), .snil, i64c 0]) := by kernel_rfl
theorem ok13 : pre13.all (okCode 129) = true := by kernel_rfl
def mP (T k N cN S H : Nat) : List (Option Value) := [some (.slice (some ⟨T, 0, none⟩) 1 k), some (.slice (some ⟨N, 0, none⟩) 1 cN), some (.pointer (some ⟨S, 0, none⟩)), some (.pointer (some ⟨H, 0, none⟩)), none, none, none, none, none, none, none, none, none, none, none, some (.bool false)]
theorem RowC.cells4 {e : Env} {id : Nat} {r : Row} {w : World} {b c : Nat} {arr : Array Value} {fr : Nat × Nat} (hc : RowC e id r w b c arr fr) (hn : r.n = 4) : ∀ k, k < 4 → ∃ x, arr[k]? = some x ∧ (r.at k).rel e x := fun k hk => hc.cell k (by rw [hn]; exact hk)
theorem pre13_wp {M N S T H k cM cN cS cT cH : Nat} {a : Act} {w : World} (hsz : a.tmps.size = 129) (h0 : a.tmps[0]? = some (.pointer (some ⟨M, 0, none⟩))) (h1 : a.tmps[1]? = some (.int .i64 ((0 : Nat) : Int))) (h2 : a.tmps[2]? = some (.slice none 0 0)) (h3 : a.tmps[3]? = some (.int .i64 ((50 : Nat) : Int)))
  (hN : Pre w N 100 (cN * 7) [none, some (.int .i64 ((0 : Nat) : Int)), some (.int .i64 ((0 : Nat) : Int)), some (.int .i64 ((0 : Nat) : Int))]) (hM : Pre w M 127 (cM * 16) (mP T k N cN S H)) (hS : Pre w S 109 (cS * 16) []) (hT : Pre w T 39 (cT * 2) [some (.slice none 0 0), none]) (hH : Pre w H 137 (cH * 3) []) {K : Code} {Q : Exit → Act → World → Prop}
  (hQ : ∀ (a' : Act) (w' : World) (O cO : Nat) (arr : Array Value), a'.tmps.size = 129 → a'.defers = a.defers → a'.tmps[0]? = some (.pointer (some ⟨M, 0, none⟩)) → a'.tmps[1]? = some (.int .i64 ((0 : Nat) : Int)) → a'.tmps[3]? = some (.int .i64 ((50 : Nat) : Int)) → a'.tmps[8]? = some (.pointer (some ⟨O, 0, none⟩)) → a'.tmps[9]? = some (.slice none 0 0) →
   w'.heap[O]? = some (.cells arr 68 (0, 0)) → arr.size = cO * 4 → 4 ≤ arr.size → arr[0]? = some (.int .i64 ((0 : Nat) : Int)) → arr[1]? = some (.int .u32 ((0 : Nat) : Int)) → arr[2]? = some (.slice none 0 0) → arr[3]? = some (.int .i64 ((0 : Nat) : Int)) → w.heap.size ≤ O →
   (∀ k, k < w.heap.size → w'.heap[k]? = w.heap[k]?) → w.heap.size ≤ w'.heap.size → w'.os = w.os → w'.tape = w.tape → w'.output = w.output → K.wp Tryz.prog Q a' w') : (pre13.foldr Code.seq K).wp Tryz.prog Q a w := by
 have ho := run13 k
 unfold out13 at ho
 split at ho
 ·rename_i ex t n h l hev
  split at ho
  ·rename_i i g8
   split at ho
   ·rename_i r1 hr1
    simp only [Option.some.injEq, Prod.mk.injEq] at ho
    obtain ⟨o1, o2, o3, o4⟩ := ho
    simp only [Bool.and_eq_true] at o2
    obtain ⟨b1, b2, b3, b4, b5, b6, b7⟩ := o2
    have g0 := isPO_spec b1
    have g1 := isJO_spec b2
    have g3 := isJO_spec b3
    have g9 := isS_spec b4
    have k1 := okRow_spec b5
    have n1 := Nat.eq_of_beq_eq_true b6
    have hi := Nat.le_of_ble_eq_true b7
    have hex : ex = .normal := by cases ex <;> simp [exN] at o1 ⊢
    subst hex
    let e0 : Env := fun n => if n = 3 then some (N, cN) else if n = 6 then some (M, cM) else if n = 7 then some (S, cS) else if n = 8 then some (T, cT) else if n = 10 then some (H, cH) else none
    have e0n : ∀ id, id ≠ 3 → id ≠ 6 → id ≠ 7 → id ≠ 8 → id ≠ 10 → e0 id = none := fun id q1 q2 q3 q4 q5 => by show (if id = 3 then _ else if id = 6 then _ else if id = 7 then _ else if id = 8 then _ else if id = 10 then _ else none) = none; rw [if_neg q1, if_neg q2, if_neg q3, if_neg q4, if_neg q5]
    have hrow : ∀ y ∈ rows13 k, RowOK e0 y.1 y.2 w := fun y hy => by
     unfold rows13 at hy
     simp only [List.mem_cons, List.not_mem_nil, or_false] at hy
     rcases hy with rfl | rfl | rfl | rfl | rfl
     ·obtain ⟨arr, x1, x2, x3, x4⟩ := hN
      refine rowOf_ok (b := N) (c := cN) rfl x1 (by rw [x2]) (by rw [x2]; exact Nat.le_trans (by simp [mP]) x3) (by simp) fun i c hc => ?_
      match i, hc with
      | 0, hc => cases hc; obtain ⟨y, y1, y2, y3⟩ := x4 0 _ rfl; exact ⟨y, y1, y2⟩
      | 1, hc => cases hc; obtain ⟨y, y1, y2, y3⟩ := x4 1 _ rfl; exact ⟨y, y1, y3 _ rfl⟩
      | 2, hc => cases hc; obtain ⟨y, y1, y2, y3⟩ := x4 2 _ rfl; exact ⟨y, y1, y3 _ rfl⟩
      | 3, hc => cases hc; obtain ⟨y, y1, y2, y3⟩ := x4 3 _ rfl; exact ⟨y, y1, y3 _ rfl⟩
     ·obtain ⟨arr, x1, x2, x3, x4⟩ := hM
      refine rowOf_ok (b := M) (c := cM) rfl x1 (by rw [x2]) (by rw [x2]; exact Nat.le_trans (by simp [mP]) x3) (by simp) fun i c hc => ?_
      match i, hc with
      | 0, hc => cases hc; obtain ⟨y, y1, y2, y3⟩ := x4 0 _ rfl; exact ⟨y, y1, T, cT, rfl, y3 _ rfl⟩
      | 1, hc => cases hc; obtain ⟨y, y1, y2, y3⟩ := x4 1 _ rfl; exact ⟨y, y1, N, cN, rfl, y3 _ rfl⟩
      | 2, hc => cases hc; obtain ⟨y, y1, y2, y3⟩ := x4 2 _ rfl; exact ⟨y, y1, S, cS, rfl, y3 _ rfl⟩
      | 3, hc => cases hc; obtain ⟨y, y1, y2, y3⟩ := x4 3 _ rfl; exact ⟨y, y1, H, cH, rfl, y3 _ rfl⟩
      | 4, hc => cases hc; obtain ⟨y, y1, y2, y3⟩ := x4 4 _ rfl; exact ⟨y, y1, y2⟩
      | 5, hc => cases hc; obtain ⟨y, y1, y2, y3⟩ := x4 5 _ rfl; exact ⟨y, y1, y2⟩
      | 6, hc => cases hc; obtain ⟨y, y1, y2, y3⟩ := x4 6 _ rfl; exact ⟨y, y1, y2⟩
      | 7, hc => cases hc; obtain ⟨y, y1, y2, y3⟩ := x4 7 _ rfl; exact ⟨y, y1, y2⟩
      | 8, hc => cases hc; obtain ⟨y, y1, y2, y3⟩ := x4 8 _ rfl; exact ⟨y, y1, y2⟩
      | 9, hc => cases hc; obtain ⟨y, y1, y2, y3⟩ := x4 9 _ rfl; exact ⟨y, y1, y2⟩
      | 10, hc => cases hc; obtain ⟨y, y1, y2, y3⟩ := x4 10 _ rfl; exact ⟨y, y1, y2⟩
      | 11, hc => cases hc; obtain ⟨y, y1, y2, y3⟩ := x4 11 _ rfl; exact ⟨y, y1, y2⟩
      | 12, hc => cases hc; obtain ⟨y, y1, y2, y3⟩ := x4 12 _ rfl; exact ⟨y, y1, y2⟩
      | 13, hc => cases hc; obtain ⟨y, y1, y2, y3⟩ := x4 13 _ rfl; exact ⟨y, y1, y2⟩
      | 14, hc => cases hc; obtain ⟨y, y1, y2, y3⟩ := x4 14 _ rfl; exact ⟨y, y1, y2⟩
      | 15, hc => cases hc; obtain ⟨y, y1, y2, y3⟩ := x4 15 _ rfl; exact ⟨y, y1, y3 _ rfl⟩
     ·obtain ⟨arr, x1, x2, x3, x4⟩ := hS
      exact rowOf_ok (b := S) (c := cS) rfl x1 (by rw [x2]) (by simp) (by simp) fun i c hc => by simp at hc
     ·obtain ⟨arr, x1, x2, x3, x4⟩ := hT
      refine rowOf_ok (b := T) (c := cT) rfl x1 (by rw [x2]) (by rw [x2]; exact Nat.le_trans (by simp [mP]) x3) (by simp) fun i c hc => ?_
      match i, hc with
      | 0, hc => cases hc; obtain ⟨y, y1, y2, y3⟩ := x4 0 _ rfl; exact ⟨y, y1, y3 _ rfl⟩
      | 1, hc => cases hc; obtain ⟨y, y1, y2, y3⟩ := x4 1 _ rfl; exact ⟨y, y1, y2⟩
     ·obtain ⟨arr, x1, x2, x3, x4⟩ := hH
      exact rowOf_ok (b := H) (c := cH) rfl x1 (by rw [x2]) (by simp) (by simp) fun i c hc => by simp at hc
    have hsim : Sim e0 (hOf (rows13 k)) w := by
     refine sim_list _ (fun id hid => ?_) hrow ?_
     ·have m : ∀ n, n ∈ [3, 6, 7, 8, 10] → id ≠ n := by
       intro n hn hh
       have : ∃ y ∈ rows13 k, y.1 = n := by
        unfold rows13
        simp only [List.mem_cons, List.not_mem_nil, or_false] at hn
        rcases hn with rfl | rfl | rfl | rfl | rfl <;> simp
       obtain ⟨y, hy, hy1⟩ := this
       exact hid y hy (by rw [hy1, hh])
      exact e0n id (m 3 (by simp)) (m 6 (by simp)) (m 7 (by simp)) (m 8 (by simp)) (m 10 (by simp))
     ·intro y hy z hz hkx hky b c c' q1 q2
      obtain ⟨A1, g1, z1⟩ := rowC_elem (hrow y hy) hkx q1
      obtain ⟨A2, g2, z2⟩ := rowC_elem (hrow z hz) hky q2
      have hel : y.2.elem = z.2.elem := by rw [z1] at z2; injection (Option.some.inj z2)
      unfold rows13 at hy hz
      simp only [List.mem_cons, List.not_mem_nil, or_false] at hy hz
      rcases hy with rfl | rfl | rfl | rfl | rfl <;> rcases hz with rfl | rfl | rfl | rfl | rfl <;> first | rfl | (simp [rowOf] at hel)
    have htr : TRel e0 t13 a := by
     refine ⟨fun k v hv => ?_⟩
     unfold t13 at hv
     rcases Tr.get_set_some _ _ _ _ _ hv with ⟨rfl, rfl⟩ | ⟨_, hv⟩
     ·exact ⟨_, h3, rfl⟩
     rcases Tr.get_set_some _ _ _ _ _ hv with ⟨rfl, rfl⟩ | ⟨_, hv⟩
     ·exact ⟨_, h2, rfl⟩
     rcases Tr.get_set_some _ _ _ _ _ hv with ⟨rfl, rfl⟩ | ⟨_, hv⟩
     ·exact ⟨_, h1, rfl⟩
     rcases Tr.get_set_some _ _ _ _ _ hv with ⟨rfl, rfl⟩ | ⟨_, hv⟩
     ·exact ⟨_, h0, M, cM, rfl, rfl⟩
     ·cases hv
    refine list_wp (nt := 129) (opctx rnTab_ok 5000 4) (pow_pos 4) mixed_ok (by omega) pre13 t13 1000 (hOf (rows13 k)) _ _ h _ (Nat.le_refl _) hev (fun c hc => List.all_eq_true.1 ok13 c hc) e0 w a hsim htr (by omega) fun e' w' a' s1 s2 s3 s4 s5 => ?_
    obtain ⟨v0, v0a, v0b⟩ := s2.tmp 0 _ g0
    obtain ⟨v1, v1a, v1b⟩ := s2.tmp 1 _ g1
    obtain ⟨v3, v3a, v3b⟩ := s2.tmp 3 _ g3
    obtain ⟨v8, v8a, v8b⟩ := s2.tmp 8 _ g8
    obtain ⟨v9, v9a, v9b⟩ := s2.tmp 9 _ g9
    obtain ⟨_, _, z0, rfl⟩ := v0b
    rw [s3.ext 6 (M, cM) rfl] at z0; cases z0
    have v1b : v1 = _ := v1b
    have v3b : v3 = _ := v3b
    have v9b : v9 = _ := v9b
    subst v1b v3b v9b
    obtain ⟨O, cO, z8, rfl⟩ := v8b
    obtain ⟨b1', _, arr1, fr1, hc1⟩ := (s1.row i r1 hr1).row (by rw [k1.1]; rfl)
    have y1 := hc1.he; rw [z8] at y1; cases y1
    have fz1 := hc1.fz k1.1; subst fz1
    have hsz1 := hc1.sz; rw [k1.2.2] at hsz1
    have hb1 := hc1.hb; rw [k1.2.1] at hb1
    have cg : ∀ k, k < 4 → some (r1.at k) = ([i64c 0, .int .u32 (.ofNat 0), .snil, i64c 0] : List CV)[k]? := fun k hk => by
     rw [← o4, cells_get, if_pos hk, Nat.zero_add]
    obtain ⟨x0, x0a, x0b⟩ := hc1.cells4 n1 0 (by omega)
    obtain ⟨x1, x1a, x1b⟩ := hc1.cells4 n1 1 (by omega)
    obtain ⟨x2, x2a, x2b⟩ := hc1.cells4 n1 2 (by omega)
    obtain ⟨x3, x3a, x3b⟩ := hc1.cells4 n1 3 (by omega)
    rw [Option.some.inj (cg 0 (by omega))] at x0b
    rw [Option.some.inj (cg 1 (by omega))] at x1b
    rw [Option.some.inj (cg 2 (by omega))] at x2b
    rw [Option.some.inj (cg 3 (by omega))] at x3b
    have x0b : x0 = _ := x0b
    have x1b : x1 = _ := x1b
    have x2b : x2 = _ := x2b
    have x3b : x3 = _ := x3b
    subst x0b x1b x2b x3b
    have hOn : w.heap.size ≤ O := by
     rcases s3.new i O cO (e0n i (by omega) (by omega) (by omega) (by omega) (by omega)) z8 with q | ⟨k, hk, c3, q⟩
     ·exact q
     ·rcases hk with hk | hk
      ·rw [o3] at hk; cases hk
      ·rw [e0n k (by omega) (by omega) (by omega) (by omega) (by omega)] at q; cases q
    refine hQ a' w' O cO arr1 (by omega) s5 v0a v1a v3a v8a v9a hb1 hsz1 (by have := hc1.le; rw [n1] at this; exact this) x0a x1a x2a x3a hOn (fun k hk => ?_) s3.size s3.os s3.tape s3.output
    refine s3.block k hk fun id hid c hh => ?_
    rcases hid with hid | hid
    ·rw [o3] at hid; cases hid
    ·rw [e0n id (by omega) (by omega) (by omega) (by omega) (by omega)] at hh; cases hh
   ·cases ho
  ·cases ho
 ·cases ho
end Ev
end
section
set_option maxRecDepth 100000
namespace Ev
open Go Go.Proofs
noncomputable def tE : T := Tr.set (Tr.set (Tr.set .nil 8 (.p (.one (.ptr 11 0)))) 12 (.p (.one (.ptr 2 0)))) 13 (.p (.one .any))
noncomputable def rowsR (n : Nat) : List (Nat × Row) := [(2, rowOf [.ptr 6 0, i64c n, i64c 0, i64c 0, i64c 0] 140 5), (6, rowOf [] 127 16), (11, rowOf [i64c 0, .int .u32 (.ofNat 0), .snil, i64c 0] 68 4)]
noncomputable def evZ (n : Nat) : R CSt := evCode ty2 (evCall ty2 fns2 rnExt 5000 4) (2 ^ 96) 1000 (2 ^ 200) 50 (tail c13 6) tE 1000 (hOf (rowsR n))
noncomputable def outZ (r : R CSt) : Option (Nat × Bool × List Nat × List CV) := match r with
 | .ok ⟨e, t, _⟩ h l => (match h.find 11 with
  | some r1 => some (exN e, isPO (Tr.get t 8) 11 && (okRow r1 68 4 && Nat.beq r1.n 4), l.w, r1.cells 4 0)
  | none => none)
 | .no => none
theorem runZ (n : Nat) : outZ (evZ n) = some (1, true, [11], [i64c 0, .int .u32 (.ofNat 0), .any, i64c n]) := by kernel_rfl
theorem okZ : okCode 129 (tail c13 6) = true := by kernel_rfl
theorem ounder : ∃ fs, Tryz.prog.underlying 68 = some (.struct fs) := ⟨_, rfl⟩
theorem osize (a b c d : Value) : (Tryz.prog.info? 68).map (·.size) = some ([a, b, c, d] : List Value).length := by kernel_rfl
theorem results_o {tmps : Array Value} {w : World} {O : Nat} {arr : Array Value} {x0 x1 x2 x3 : Value} (h8 : tmps[8]? = some (.pointer (some ⟨O, 0, none⟩))) (hb : w.heap[O]? = some (.cells arr 68 (0, 0))) (h0 : arr[0]? = some x0) (h1 : arr[1]? = some x1) (h2 : arr[2]? = some x2) (h3 : arr[3]? = some x3) :
  (results Tryz.f13 tmps).run Tryz.prog w = .ok (.agg #[x0, x1, x2, x3]) w := by
 obtain ⟨fs, hf⟩ := ounder
 have hr : w.rangeAt O 0 [x0, x1, x2, x3] := fun j v hj => by
  simp only [World.cell?, hb, Nat.zero_add]
  match j, hj with
  | 0, hj => cases hj; simpa using h0
  | 1, hj => cases hj; simpa using h1
  | 2, hj => cases hj; simpa using h2
  | 3, hj => cases hj; simpa using h3
 have hl := run_loadVar_mid w O 0 68 _ _ hr hf rfl (osize x0 x1 x2 x3)
 have hres : Tryz.f13.results = #[.cell 8 68] := by kernel_rfl
 have hg : tmps.getD 8 undef = .pointer (some ⟨O, 0, none⟩) := by rw [Array.getD_eq_getD_getElem?, h8]; rfl
 simp [results, hres, h8, asAddr, hl, Sem.run_bind]
theorem post_wp {M R O cO n cM : Nat} {arr : Array Value} {v13 : Value} {a : Act} {w : World} (hsz : a.tmps.size = 129) (hdf : a.defers = []) (h8 : a.tmps[8]? = some (.pointer (some ⟨O, 0, none⟩))) (h12 : a.tmps[12]? = some (.pointer (some ⟨R, 0, none⟩))) (h13 : a.tmps[13]? = some v13) (hv : One v13)
  (hR : w.heap[R]? = some (.cells #[.pointer (some ⟨M, 0, none⟩), .int .i64 (n : Int), .int .i64 ((0 : Nat) : Int), .int .i64 ((0 : Nat) : Int), .int .i64 ((0 : Nat) : Int)] 140 (0, 0))) (hM : Pre w M 127 (cM * 16) [])
  (hO : w.heap[O]? = some (.cells arr 68 (0, 0))) (ho1 : arr.size = cO * 4) (ho2 : 4 ≤ arr.size) (a0 : arr[0]? = some (.int .i64 ((0 : Nat) : Int))) (a1 : arr[1]? = some (.int .u32 ((0 : Nat) : Int))) (a2 : arr[2]? = some (.slice none 0 0)) (a3 : arr[3]? = some (.int .i64 ((0 : Nat) : Int)))
  {E : Ending → World → Prop} (hE : ∀ (w' : World) (v : Value), One v → (∀ k, k < w.heap.size → k ≠ O → w'.heap[k]? = w.heap[k]?) → w.heap.size ≤ w'.heap.size → w'.os = w.os → w'.tape = w.tape → w'.output = w.output → E (.returned (.agg #[.int .i64 ((0 : Nat) : Int), .int .u32 ((0 : Nat) : Int), v, .int .i64 (n : Int)])) w') : (tail c13 6).wp Tryz.prog (bodyPost Tryz.prog Tryz.f13 E) a w := by
 have ho := runZ n
 unfold outZ at ho
 split at ho
 ·rename_i ex t nn h l hev
  split at ho
  ·rename_i r1 hr1
   simp only [Option.some.injEq, Prod.mk.injEq] at ho
   obtain ⟨o1, o2, o3, o4⟩ := ho
   simp only [Bool.and_eq_true] at o2
   obtain ⟨b1, b5, b6⟩ := o2
   have g8 := isPO_spec b1
   have k1 := okRow_spec b5
   have n1 := Nat.eq_of_beq_eq_true b6
   have hex : ex = .ret := by cases ex <;> simp [exN] at o1 ⊢
   subst hex
   obtain ⟨ma, m1, m2, m3, m4⟩ := hM
   let e0 : Env := fun n => if n = 2 then some (R, 1) else if n = 6 then some (M, cM) else if n = 11 then some (O, cO) else none
   have e0n : ∀ id, id ≠ 2 → id ≠ 6 → id ≠ 11 → e0 id = none := fun id q1 q2 q3 => by show (if id = 2 then _ else if id = 6 then _ else if id = 11 then _ else none) = none; rw [if_neg q1, if_neg q2, if_neg q3]
   have hrow : ∀ y ∈ rowsR n, RowOK e0 y.1 y.2 w := fun y hy => by
    unfold rowsR at hy
    simp only [List.mem_cons, List.not_mem_nil, or_false] at hy
    rcases hy with rfl | rfl | rfl
    ·refine rowOf_ok (b := R) (c := 1) rfl hR rfl (by simp) (by simp) fun i c hc => ?_
     match i, hc with
     | 0, hc => cases hc; exact ⟨_, rfl, M, cM, rfl, rfl⟩
     | 1, hc => cases hc; exact ⟨_, rfl, rfl⟩
     | 2, hc => cases hc; exact ⟨_, rfl, rfl⟩
     | 3, hc => cases hc; exact ⟨_, rfl, rfl⟩
     | 4, hc => cases hc; exact ⟨_, rfl, rfl⟩
    ·exact rowOf_ok (b := M) (c := cM) rfl m1 (by rw [m2]) (by simp) (by simp) fun i c hc => by simp at hc
    ·refine rowOf_ok (b := O) (c := cO) rfl hO ho1 (by simp; omega) (by simp) fun i c hc => ?_
     match i, hc with
     | 0, hc => cases hc; exact ⟨_, a0, rfl⟩
     | 1, hc => cases hc; exact ⟨_, a1, rfl⟩
     | 2, hc => cases hc; exact ⟨_, a2, rfl⟩
     | 3, hc => cases hc; exact ⟨_, a3, rfl⟩
   have hsim : Sim e0 (hOf (rowsR n)) w := by
    refine sim_list _ (fun id hid => ?_) hrow ?_
    ·have m : ∀ k, k ∈ [2, 6, 11] → id ≠ k := by
      intro k hn hh
      have : ∃ y ∈ rowsR n, y.1 = k := by
       unfold rowsR
       simp only [List.mem_cons, List.not_mem_nil, or_false] at hn
       rcases hn with rfl | rfl | rfl <;> simp
      obtain ⟨y, hy, hy1⟩ := this
      exact hid y hy (by rw [hy1, hh])
     exact e0n id (m 2 (by simp)) (m 6 (by simp)) (m 11 (by simp))
    ·intro y hy z hz hkx hky b c c' q1 q2
     obtain ⟨A1, g1, z1⟩ := rowC_elem (hrow y hy) hkx q1
     obtain ⟨A2, g2, z2⟩ := rowC_elem (hrow z hz) hky q2
     have hel : y.2.elem = z.2.elem := by rw [z1] at z2; injection (Option.some.inj z2)
     unfold rowsR at hy hz
     simp only [List.mem_cons, List.not_mem_nil, or_false] at hy hz
     rcases hy with rfl | rfl | rfl <;> rcases hz with rfl | rfl | rfl <;> first | rfl | (simp [rowOf] at hel)
   have htr : TRel e0 tE a := by
    refine ⟨fun k v hv' => ?_⟩
    unfold tE at hv'
    rcases Tr.get_set_some _ _ _ _ _ hv' with ⟨rfl, rfl⟩ | ⟨_, hv'⟩
    ·exact ⟨_, h13, hv⟩
    rcases Tr.get_set_some _ _ _ _ _ hv' with ⟨rfl, rfl⟩ | ⟨_, hv'⟩
    ·exact ⟨_, h12, R, 1, rfl, rfl⟩
    rcases Tr.get_set_some _ _ _ _ _ hv' with ⟨rfl, rfl⟩ | ⟨_, hv'⟩
    ·exact ⟨_, h8, O, cO, rfl, rfl⟩
    ·cases hv'
   refine (code_wp (nt := 129) (opctx rnTab_ok 5000 4) (pow_pos 4) mixed_ok (by omega) 50).1 (tail c13 6) tE 1000 (hOf (rowsR n)) _ h _ (Nat.le_refl _) hev okZ e0 w a hsim htr (by rw [hsz]; omega) _ fun e' w' a' s1 s2 s3 s4 s5 => ?_
   obtain ⟨v8, v8a, v8b⟩ := s2.tmp 8 _ g8
   obtain ⟨_, _, z8, rfl⟩ := v8b
   rw [s3.ext 11 (O, cO) rfl] at z8; cases z8
   obtain ⟨b1', _, arr1, fr1, hc1⟩ := (s1.row 11 r1 hr1).row (by rw [k1.1]; rfl)
   have y1 := hc1.he; rw [s3.ext 11 (O, cO) rfl] at y1; cases y1
   have fz1 := hc1.fz k1.1; subst fz1
   have hb1 := hc1.hb; rw [k1.2.1] at hb1
   have cg : ∀ k, k < 4 → some (r1.at k) = ([i64c 0, .int .u32 (.ofNat 0), .any, i64c n] : List CV)[k]? := fun k hk => by
    rw [← o4, cells_get, if_pos hk, Nat.zero_add]
   obtain ⟨x0, x0a, x0b⟩ := hc1.cells4 n1 0 (by omega)
   obtain ⟨x1, x1a, x1b⟩ := hc1.cells4 n1 1 (by omega)
   obtain ⟨x2, x2a, x2b⟩ := hc1.cells4 n1 2 (by omega)
   obtain ⟨x3, x3a, x3b⟩ := hc1.cells4 n1 3 (by omega)
   rw [Option.some.inj (cg 0 (by omega))] at x0b
   rw [Option.some.inj (cg 1 (by omega))] at x1b
   rw [Option.some.inj (cg 2 (by omega))] at x2b
   rw [Option.some.inj (cg 3 (by omega))] at x3b
   have x0b : x0 = _ := x0b
   have x1b : x1 = _ := x1b
   have x2b : One x2 := x2b
   have x3b : x3 = _ := x3b
   subst x0b x1b x3b
   refine ⟨by rw [s5]; exact hdf, _, results_o v8a hb1 x0a x1a x2a x3a, hE w' x2 x2b (fun k hk hkO => ?_) s3.size s3.os s3.tape s3.output⟩
   refine s3.block k hk fun id hid c hh => ?_
   rcases hid with hid | hid
   ·rw [o3] at hid
    have : id = 11 := List.mem_singleton.1 hid
    subst this
    have hh : some (O, cO) = some (k, c) := hh
    cases hh
    exact hkO rfl
   ·rw [e0n id (by omega) (by omega) (by omega)] at hh; cases hh
  ·cases ho
 ·cases ho
end Ev
end
section
set_option maxRecDepth 100000
namespace Ev
open Go Go.Proofs
def Wk : List (Option Value) → List (Option Value) → Prop
 | [], _ => True
 | none :: l, _ :: k => Wk l k
 | some y :: l, o :: k => o = some y ∧ Wk l k
 | _ :: _, [] => False
theorem Wk.get : ∀ {l k : List (Option Value)}, Wk l k → l.length ≤ k.length ∧ ∀ (i : Nat) (o : Option Value), l[i]? = some o → ∃ o2, k[i]? = some o2 ∧ ∀ y, o = some y → o2 = some y
 | [], k, _ => ⟨by simp, fun i o h => by simp at h⟩
 | none :: l, o1 :: k, h => by
  obtain ⟨h1, h2⟩ := Wk.get (l := l) (k := k) h
  refine ⟨by simpa using h1, fun i o hi => ?_⟩
  cases i with
  | zero => exact ⟨o1, rfl, fun y hy => by simp at hi; rw [← hi] at hy; cases hy⟩
  | succ i => exact h2 i o (by simpa using hi)
 | some y1 :: l, o1 :: k, h => by
  obtain ⟨h1, h2⟩ := Wk.get (l := l) (k := k) h.2
  refine ⟨by simpa using h1, fun i o hi => ?_⟩
  cases i with
  | zero => exact ⟨o1, rfl, fun y hy => by simp at hi; rw [h.1, hi]; exact hy⟩
  | succ i => exact h2 i o (by simpa using hi)
theorem Pre.weak {w : World} {b e s : Nat} {k l : List (Option Value)} (h : Pre w b e s k) (hw : Wk l k) : Pre w b e s l := by
 obtain ⟨arr, h1, h2, h3, h4⟩ := h
 obtain ⟨g1, g2⟩ := hw.get
 refine ⟨arr, h1, h2, Nat.le_trans g1 h3, fun i o hi => ?_⟩
 obtain ⟨o2, q1, q2⟩ := g2 i o hi
 obtain ⟨x, x1, x2, x3⟩ := h4 i o2 q1
 exact ⟨x, x1, x2, fun y hy => x3 y (q2 y hy)⟩
theorem Pre.wkk {w w' : World} {b e s : Nat} {k l : List (Option Value)} (h : Pre w b e s k) (hk : w'.heap[b]? = w.heap[b]?) (hw : Wk l k) : Pre w' b e s l := Pre.keep (Pre.weak h hw) hk
theorem ev_of {a : Act} {j : Nat} {v : Value} (h : a.tmps[j]? = some v) : a.eval (.tmp j) = v := by
 simp [Act.eval, Array.getD_eq_getD_getElem?, h]
theorem tmp_of {a : Act} {j : Nat} {v : Value} (h : j < a.tmps.size) (he : a.eval (.tmp j) = v) : a.tmps[j]? = some v := by
 rw [← he]
 simp [Act.eval, Array.getD_eq_getD_getElem?, h]
theorem al_old (w : World) (o : Obj) (k : Nat) (h : k < w.heap.size) : (w.alloc o).heap[k]? = w.heap[k]? := by
 show (w.heap.push o)[k]? = _
 rw [Array.getElem?_push, if_neg (by omega)]
theorem al_new (w : World) (o : Obj) : (w.alloc o).heap[w.heap.size]? = some o := by
 show (w.heap.push o)[w.heap.size]? = _
 rw [Array.getElem?_push, if_pos rfl]
theorem al_size (w : World) (o : Obj) : (w.alloc o).heap.size = w.heap.size + 1 := by
 show (w.heap.push o).size = _
 rw [Array.size_push]
theorem run_k {f : FB} {w : World} {m X N cX T k H cT cH : Nat} {cs : List Ln.C} {s1 : PS} {β : Nat → Nat} (hm : m ∈ mS)
  (hN : Pre w f.N 100 (f.cN * 7) [some (.int .i64 (-1)), some (.int .i64 ((0 : Nat) : Int)), some (.int .i64 ((0 : Nat) : Int)), some (.int .i64 ((0 : Nat) : Int)), some (.int .i64 (m : Int)), some (.slice (some ⟨X, 0, none⟩) N cX)])
  (hM : Pre w f.M 127 (f.cM * 16) (mP T k f.N f.cN f.S H)) (hS : Pre w f.S 109 (f.cS * 16) (pS ++ [some (.pointer (some ⟨f.m, 0, none⟩))])) (hm2 : Pre w f.m 123 (f.cm * 2) [some (.slice (some ⟨f.q, 0, none⟩) 65536 65536)]) (hT : Pre w T 39 (cT * 2) [some (.slice none 0 0), none]) (hH : Pre w H 137 (cH * 3) []) (bt : Bt w f.q f.cq β)
  (hlen : N = cs.length + 1) (hNN : N < 100000) (hX : ∃ arr c, w.heap[X]? = some (.cells arr 133 (0, 0)) ∧ arr.size = c * 3) (hcs : Lies w X (cs ++ [(15, 0, 0)])) (tr : Tr8 cs ⟨[], zeros m, true, 50, β⟩ s1) (hV : s1.V = []) (hnil : s1.nil = false) (hm1 : s1.L.length ∈ mS) :
  Calls Tryz.prog 13 #[.pointer (some ⟨f.M, 0, none⟩), .int .i64 ((0 : Nat) : Int), .slice none 0 0, .int .i64 ((50 : Nat) : Int)] w fun en w' => (∃ v, One v ∧ en = .returned (.agg #[.int .i64 ((0 : Nat) : Int), .int .u32 ((0 : Nat) : Int), v, .int .i64 (s1.fuel : Int)])) ∧ Bt w' f.q f.cq s1.β ∧ (∀ k, k < w.heap.size → k ≠ f.q → w'.heap[k]? = w.heap[k]?) ∧ w.heap.size ≤ w'.heap.size ∧ w'.os = w.os ∧ w'.tape = w.tape ∧ w'.output = w.output := by
 have lt : ∀ {b e s : Nat} {l : List (Option Value)}, Pre w b e s l → b < w.heap.size := fun ⟨arr, h, _⟩ => blk_lt h
 have lN := lt hN
 have lM := lt hM
 have lS := lt hS
 have lm := lt hm2
 have lq : f.q < w.heap.size := by obtain ⟨arr, h, _⟩ := bt; exact blk_lt h
 obtain ⟨xa, xc, xh, xs⟩ := hX
 have lX : X < w.heap.size := blk_lt xh
 have hXq : X ≠ f.q := fun h => by
  obtain ⟨arr, h1, _⟩ := bt
  rw [h, h1] at xh; injection (Option.some.inj xh) with _ z; cases z
 refine calls_of_wp (fn := Tryz.f13) (c := c13) Tryz.func13 (by kernel_rfl) ?_
 rw [c13_eq]
 refine pre13_wp (M := f.M) (N := f.N) (S := f.S) (T := T) (H := H) (k := k) (by rw [Array.size_append, Array.size_replicate]; kernel_rfl) (by simp) (by simp) (by simp) (by simp) (hN.weak ⟨rfl, rfl, rfl, trivial⟩) hM (hS.weak trivial) hT hH ?_
 intro a1 w1 O cO arr p1 p2 t0 t1 t3 t8 t9 hO o1 o2 r0 r1 r2 r3 lO keep1 size1 os1 tape1 out1
 refine wp_seq (reg18 (M := f.M) p1 (ev_of t0) (ev_of t3) ?_)
 intro a2 q1 q2 q12 qq1 q8 q9
 have W2k : ∀ b, b < w.heap.size → (w1.alloc (.cells (run5 f.M) 140)).heap[b]? = w.heap[b]? := fun b hb => (al_old _ _ _ (by omega)).trans (keep1 b hb)
 have A : Ahead { f with R := w1.heap.size } w1 m X N cX β (w1.alloc (.cells (run5 f.M) 140)) := by
  refine ⟨Pre.wkk hN (W2k _ lN) ⟨rfl, rfl, rfl, rfl, trivial⟩, Pre.wkk hM (W2k _ lM) ⟨rfl, rfl, trivial⟩, al_new _ _, ⟨Pre.wkk hN (W2k _ lN) ⟨rfl, trivial⟩, Pre.wkk hM (W2k _ lM) ⟨rfl, trivial⟩, hS.keep (W2k _ lS), hm2.keep (W2k _ lm)⟩, Bt.keep bt (W2k _ lq), fun b hb _ => al_old _ _ _ hb, by rw [al_size]; omega, rfl, rfl, rfl, Nat.le_refl _, ?_⟩
  exact ⟨by show f.N < _; omega, by show f.M < _; omega, by show f.S < _; omega, by show f.m < _; omega, by show f.q < _; omega⟩
 have hcx : CX { f with R := w1.heap.size } X N cX w1 := ⟨Pre.wkk hN (keep1 _ lN) ⟨rfl, trivial⟩, xa, xc, (keep1 _ lX).trans xh, xs⟩
 have hcs1 : Lies w1 X (cs ++ [(15, 0, 0)]) := fun j c hc => rangeAt_keep (keep1 _ lX) (hcs j c hc)
 have hcall := call_k (f := { f with R := w1.heap.size }) hm A hlen hNN hcx ⟨by omega, hXq⟩ hcs1 tr hV hnil hm1
 refine wp_seq (reg19 (v1 := .pointer (some ⟨w1.heap.size, 0, none⟩)) (v2 := .int .i64 ((0 : Nat) : Int)) (v3 := .slice none 0 0) q1 q12 (qq1.trans (ev_of t1)) (q9.trans (ev_of t9)) (T := fun v W => One v ∧ Done { f with R := w1.heap.size } w1 s1.fuel s1.β W) (hcall.mono ?_) ?_)
 ·rintro en W ⟨⟨b, rfl⟩, hd⟩
  exact ⟨_, rfl, ⟨rfl, rfl⟩, hd⟩
 ·intro a3 W3 v ⟨hv, hd⟩ y1 y2 y12 y13 y8
  have kO : W3.heap[O]? = some (.cells arr 68 (0, 0)) := (hd.keep O (blk_lt hO) (by show O ≠ f.q; omega)).trans hO
  have k3 : ∀ b, b < w.heap.size → b ≠ f.q → W3.heap[b]? = w.heap[b]? := fun b hb hq => (hd.keep b (by omega) hq).trans (keep1 b hb)
  have hMq : f.M ≠ f.q := fun h => by
   obtain ⟨arr, h1, _⟩ := bt
   obtain ⟨ma, m1, _⟩ := hM
   rw [h, h1] at m1; injection (Option.some.inj m1) with _ z; cases z
  have hR : W3.heap[w1.heap.size]? = some (.cells #[.pointer (some ⟨f.M, 0, none⟩), .int .i64 (s1.fuel : Int), .int .i64 ((0 : Nat) : Int), .int .i64 ((0 : Nat) : Int), .int .i64 ((0 : Nat) : Int)] 140 (0, 0)) := hd.run
  refine post_wp (M := f.M) y1 (by rw [y2, q2, p2]) (tmp_of (by omega) (y8.trans (q8.trans (ev_of t8)))) (tmp_of (by omega) y12) (tmp_of (by omega) y13) hv hR (Pre.wkk hM (k3 _ lM hMq) trivial) kO o1 o2 r0 r1 r2 r3 ?_
  intro W4 v4 hv4 keep4 size4 os4 tape4 out4
  have sz1 : w1.heap.size ≤ W3.heap.size := hd.size
  refine ⟨⟨v4, hv4, rfl⟩, Bt.keep hd.byt (keep4 _ (by show f.q < _; omega) (by show f.q ≠ O; omega)), fun b hb hq => (keep4 b (by omega) (by omega)).trans (k3 b hb hq), by omega, os4.trans (hd.os.trans os1), tape4.trans (hd.tape.trans tape1), out4.trans (hd.output.trans out1)⟩
end Ev
end
section
set_option maxRecDepth 100000
namespace Ev
open Go Go.Proofs
theorem lenC : kA.all (fun k => Nat.blt ((allC k).length + 1) 100000) = true := by kernel_rfl
end Ev
end
