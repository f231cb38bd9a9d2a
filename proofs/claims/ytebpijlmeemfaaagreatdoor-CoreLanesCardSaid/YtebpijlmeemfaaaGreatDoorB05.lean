/- A part of the proof that plaittop.CoreLanes returns true. -/
import Derived.Stop.AnyFormat
import Derived.Test.YtebpijlmeemfaaaGreatDoorB04
set_option linter.all false
set_option linter.unusedSectionVars false
set_option linter.unusedSimpArgs false
set_option linter.unusedVariables false
section
namespace Ev
open Go
theorem fold_lay (off : Nat) : ∀ (l : List Value) (k : Nat) (cells : Array Value), off + k + l.length ≤ cells.size →
  (l.zipIdx k).foldl (fun cs (p : Value × Nat) => cs.setIfInBounds (off + p.2) p.1) cells = (cells.toList.take (off + k) ++ l ++ cells.toList.drop (off + k + l.length)).toArray
 | [], k, cells, h => by simp
 | v :: l, k, cells, h => by
  have h' : off + (k + 1) + l.length ≤ (cells.setIfInBounds (off + k) v).size := by simp at h ⊢; omega
  rw [List.zipIdx_cons, List.foldl_cons, fold_lay off l (k + 1) _ h']
  congr 1
  have hlt : off + k < cells.toList.length := by simp at h ⊢; omega
  simp only [Array.toList_setIfInBounds, List.length_cons]
  have e1 : (cells.toList.set (off + k) v).take (off + k + 1) = cells.toList.take (off + k) ++ [v] := by
   rw [List.take_add_one, List.getElem?_set_self hlt, List.take_set_of_le (Nat.le_refl _)]; rfl
  rw [show off + k + (l.length + 1) = off + (k + 1) + l.length by omega, show off + (k + 1) = off + k + 1 by omega, e1, List.drop_set_of_lt (by omega)]
  simp
theorem fold_lay0 (off : Nat) (vs cells : Array Value) (h : off + vs.size ≤ cells.size) :
  vs.zipIdx.foldl (fun cs (p : Value × Nat) => cs.setIfInBounds (off + p.2) p.1) cells = (cells.toList.take off ++ vs.toList ++ cells.toList.drop (off + vs.size)).toArray := by
 have := fold_lay off vs.toList 0 cells (by simpa using h)
 rw [← Array.foldl_toList, Array.toList_zipIdx]
 simpa using this
abbrev PrtRel (e : Env) (a : Nat × PV) (b : Nat × Value) : Prop := a.1 = b.1 ∧ a.2.rel e b.2
theorem fill_rel {e : Env} (place : Nat → Option (Nat × Nat)) : ∀ (l : List (Nat × PV)) (l' : List (Nat × Value)) (cells : List CV) (cs : Array Value) (m : List CV),
  All2 (PrtRel e) l l' → All2 (CV.rel e) cells cs.toList → fill place cells l = some m → ∃ m' : Array Value, Instr.fill place cs l' = some m' ∧ All2 (CV.rel e) m m'.toList
 | [], [], cells, cs, m, _, hc, h => by cases h; exact ⟨cs, rfl, hc⟩
 | (i, v) :: l, (i', x) :: l', cells, cs, m, hl, hc, h => by
  obtain ⟨⟨rfl, hv⟩, hl⟩ := hl
  simp only [fill] at h
  have hvc := hv.cells
  have hvl := hvc.length
  have hcl := hc.length
  simp only [Array.length_toList] at hvl hcl
  split at h
  ·cases h
  ·rename_i off size hp
   split at h
   ·rename_i hsz
    split at h
    ·rename_i m1 hm1
     unfold lay at hm1
     split at hm1
     ·rename_i hle
      cases hm1
      have hle' : off + x.cells.size ≤ cs.size := by omega
      have hstep := fold_lay0 off x.cells cs hle'
      have hrel : All2 (CV.rel e) (cells.take off ++ v.cells ++ cells.drop (off + v.cells.length)) (cs.toList.take off ++ x.cells.toList ++ cs.toList.drop (off + x.cells.size)) := by
       rw [← hvl]
       exact ((hc.take off).app hvc).app (hc.drop _)
      obtain ⟨m', h1, h2⟩ := fill_rel place l l' _ (cs.toList.take off ++ x.cells.toList ++ cs.toList.drop (off + x.cells.size)).toArray m hl hrel h
      refine ⟨m', ?_, h2⟩
      simp only [Instr.fill, hp]
      rw [if_neg (by simp; omega)]
      rw [show (x.cells.zipIdx.foldl (fun cs (x : Value × Nat) => match x with | (c, j) => cs.setIfInBounds (off + j) c) cs) = _ from hstep]
      exact h1
     ·cases hm1
    ·cases h
   ·cases h
theorem cat_fill {e : Env} (z : Nat) : ∀ (n i : Nat) (l : List (Nat × PV)) (l' : List (Nat × Value)) (cs : Array Value) (m : List CV),
  All2 (PrtRel e) l l' → cs.size = (i + n) * z → catP z n i l = some m → ∃ m' : List Value, Instr.fill (fun k => some (k * z, z)) cs l' = some (cs.toList.take (i * z) ++ m').toArray ∧ All2 (CV.rel e) m m' ∧ m.length = n * z
 | 0, i, [], [], cs, m, _, hs, h => by
  cases h
  refine ⟨[], ?_, trivial, by simp⟩
  simp only [Instr.fill, List.append_nil]
  rw [List.take_of_length_le (by simp [hs])]
 | n + 1, i, (j, v) :: l, (j', x) :: l', cs, m, hl, hs, h => by
  obtain ⟨⟨hj, hv⟩, hl⟩ := hl
  simp only at hj hv
  simp only [catP] at h
  have hvc := hv.cells
  have hvl := hvc.length
  simp only [Array.length_toList] at hvl
  split at h
  ·rename_i hji
   split at h
   ·rename_i hsz
    split at h
    ·rename_i m1 hm1
     cases h
     subst hji
     subst hj
     have hmul : (j + (n + 1)) * z = j * z + z + n * z := by rw [Nat.add_mul, Nat.add_mul]; omega
     have hmul2 : (j + 1) * z = j * z + z := by rw [Nat.add_mul]; omega
     have hle : j * z + x.cells.size ≤ cs.size := by rw [hs, hmul, ← hvl, hsz]; omega
     have hstep := fold_lay0 (j * z) x.cells cs hle
     have hsz2 : (cs.toList.take (j * z) ++ x.cells.toList ++ cs.toList.drop (j * z + x.cells.size)).toArray.size = (j + 1 + n) * z := by
      simp only [List.size_toArray, List.length_append, List.length_take, List.length_drop, Array.length_toList]
      rw [show j + 1 + n = j + (n + 1) by omega, ← hs]
      omega
     obtain ⟨m', h1, h2, h3⟩ := cat_fill z n (j + 1) l l' _ m1 hl hsz2 hm1
     refine ⟨x.cells.toList ++ m', ?_, hvc.app h2, by rw [List.length_append, hsz, h3, Nat.add_mul]; omega⟩
     simp only [Instr.fill]
     rw [if_neg (by simp; omega)]
     rw [show (x.cells.zipIdx.foldl (fun cs (y : Value × Nat) => match y with | (c, k) => cs.setIfInBounds (j * z + k) c) cs) = _ from hstep, h1]
     congr 2
     rw [← List.append_assoc]
     congr 1
     have ht : (cs.toList.take (j * z)).length = j * z := by rw [List.length_take, Array.length_toList]; omega
     show ((cs.toList.take (j * z) ++ x.cells.toList) ++ cs.toList.drop (j * z + x.cells.size)).take ((j + 1) * z) = _
     have ht2 : (cs.toList.take (j * z) ++ x.cells.toList).length = (j + 1) * z := by rw [List.length_append, ht, hmul2, Array.length_toList, ← hvl, hsz]
     rw [← ht2, List.take_left]
    ·cases h
   ·cases h
  ·cases h
section
variable {P : Program} {ty : Nat → Option TI} (hty : ∀ t i, ty t = some i → tiOf P t = some i) {e : Env} {h : H} {w : World} (hs : Sim e h w)
 {ρ : Operand → Option AV} {σ : Operand → Value} (ho : ORel e ρ σ) {lo hi : Nat}
theorem run_places (fields : Array Field) (hf : fieldsOk P (.struct fields) = true) : (fields.mapM fun f => do pure (f.offset, ← Go.sizeOf f.type) : Sem (Array (Nat × Nat))).run P w = .ok (fields.map fun f => (f.offset, P.cellsOf f.type)) w := by
 have key : ∀ l : List Field, (∀ f ∈ l, (P.underlying f.type).isSome = true) → (l.mapM fun f => do pure (f.offset, ← Go.sizeOf f.type) : Sem (List (Nat × Nat))).run P w = .ok (l.map fun f => (f.offset, P.cellsOf f.type)) w := by
  intro l
  induction l with
  | nil => intro _; rfl
  | cons f l ih =>
   intro hl
   have h1 := hl f (List.mem_cons_self ..)
   have hinfo : ∃ i, P.info? f.type = some i := by
    unfold Program.underlying at h1
    split at h1
    ·rename_i hh; exact ⟨_, hh⟩
    ·rename_i hh; exact ⟨_, hh⟩
    ·cases h1
   obtain ⟨i, hi⟩ := hinfo
   have h2 : (Go.sizeOf f.type).run P w = .ok (P.cellsOf f.type) w := by simp [Go.sizeOf, typeInfo, hi, Program.cellsOf]
   rw [List.mapM_cons]
   simp only [Sem.run_bind, h2, Result.andThen_ok, Sem.run_pure, ih (fun f hf => hl f (List.mem_cons_of_mem _ hf)), List.map_cons]
 have hf' : fields.toList.all (fun f => (P.underlying f.type).isSome) = true := hf
 have := key fields.toList (fun f hm => List.all_eq_true.1 hf' f hm)
 rw [Array.mapM_eq_mapM_toList]
 simp only [map_eq_pure_bind, Sem.run_bind, this, Result.andThen_ok, Sem.run_pure]
 congr 1
 apply Array.ext'
 simp
theorem parts_arr {ps : Array (Nat × Operand)} : (ps.map fun (i, x) => (i, σ x)).toList = ps.toList.map fun (i, x) => (i, σ x) := by simp
include hty hs ho in
theorem sm_build (t : Nat) (ps : Array (Nat × Operand)) : SM P lo hi e h w (evBuild ty ρ t ps.toList) (Instr.build t (ps.map fun (i, x) => (i, σ x))) := by
 unfold evBuild
 split
 ·rename_i i l h1 hl
  have ht := TF.of (hty _ _ h1)
  obtain ⟨d, hk, hu⟩ := ht.underlying
  obtain ⟨z, hz, hz2⟩ := ht.zeroValue w
  have hp := parts_rel ho hl
  split
  ·rename_i fs hki
   rw [hk] at hki
   cases d <;> first | (cases hki; done) | skip
   rename_i fields
   cases hki
   obtain ⟨d', hd', hk'⟩ := ht.und
   have hdd : d' = .struct fields := by
    have := hu w
    rw [run_underlying hd'] at this
    cases this; rfl
   subst hdd
   have hf := ht.fok _ hd'
   refine SM.pvO hs fun v hv => ?_
   split at hv
   ·rename_i m hm
    cases hv
    have hpl : (fun (k : Nat) => match (fields.toList.map (fieldTI P))[k]? with | some (a, b, _) => some (a, b) | none => none) = fun (k : Nat) => (fields.map fun f => (f.offset, P.cellsOf f.type))[k]? := by
     funext k
     simp only [List.getElem?_map, Array.getElem?_map, Array.getElem?_toList]
     cases hfk : fields[k]? with
     | none => rfl
     | some f =>
      have : (P.underlying f.type).isSome = true := by
       have hf' : fields.toList.all (fun f => (P.underlying f.type).isSome) = true := hf
       have hall : ∀ f ∈ fields.toList, (P.underlying f.type).isSome = true := fun f hm => List.all_eq_true.1 hf' f hm
       exact hall f (by
        have := Array.getElem?_toList (xs := fields) (i := k)
        rw [hfk] at this
        exact List.mem_of_getElem? this)
      simp only [Option.map_some, fieldTI]
      cases hu2 : P.underlying f.type with
      | none => rw [hu2] at this; cases this
      | some d => rfl
    obtain ⟨m', k1, k2⟩ := fill_rel (e := e) _ l _ i.zero z.cells m hp (hz2 e) ((congrArg (fun p => fill p i.zero l) hpl).symm.trans hm)
    refine ⟨.agg m', ?_, m'.toList, k2, by simp⟩
    simp only [Instr.build, Sem.run_bind, hz, Result.andThen_ok, Sem.run_pure, hu, run_places fields hf, parts_arr, k1]
   ·cases hv
  ·rename_i n e' hki
   rw [hk] at hki
   cases d <;> first | (cases hki; done) | skip
   cases hki
   split
   ·rename_i j hj
    have hj := TF.of (hty _ _ hj)
    refine SM.pvO hs fun v hv => ?_
    split at hv
    ·rename_i m hm
     cases hv
     have key : ∃ m' : Array Value, Instr.fill (fun k => some (k * j.size, j.size)) z.cells (ps.toList.map fun (i, x) => (i, σ x)) = some m' ∧ All2 (CV.rel e) m m'.toList := by
      unfold fillN at hm
      split at hm
      ·rename_i hzl
       have hzl := Nat.eq_of_beq_eq_true hzl
       split at hm
       ·rename_i m2 hm2
        cases hm
        have hzs := (hz2 e).length
        simp only [Array.length_toList] at hzs
        obtain ⟨m', k1, k2, k3⟩ := cat_fill (e := e) j.size _ 0 l _ z.cells m hp (by rw [Nat.zero_add, ← hzs]; exact hzl) hm2
        exact ⟨_, k1, by simpa using k2⟩
       ·exact fill_rel (e := e) _ l _ i.zero z.cells m hp (hz2 e) hm
      ·cases hm
     obtain ⟨m', k1, k2⟩ := key
     refine ⟨.agg m', ?_, m'.toList, k2, by simp⟩
     simp only [Instr.build, Sem.run_bind, hz, Result.andThen_ok, Sem.run_pure, hu, hj.sizeOf, parts_arr, k1]
    ·cases hv
   ·exact .fail
  ·exact .fail
 ·exact .fail
theorem elemTI_some {s e' : Nat} {te : TI} (hty : ∀ t i, ty t = some i → tiOf P t = some i) (h : elemTI ty s = some (e', te)) : P.underlying s = some (.slice e') ∧ TF P e' te := by
 unfold elemTI at h
 split at h
 ·rename_i e2 _ h1
  split at h
  ·rename_i te2 h2
   cases h
   have ht := TF.of (hty _ _ h1)
   obtain ⟨d, hd, hk⟩ := ht.und
   simp only at hk
   cases d <;> first | (cases hk; done) | skip
   cases hk
   exact ⟨hd, TF.of (hty _ _ h2)⟩
  ·cases h
 ·cases h
include hty hs ho in
theorem sm_buildSlice (t len : Nat) (ps : Array (Nat × Operand)) : SM P lo hi e h w (evBuildSlice ty ρ lo t len ps.toList) (Instr.buildSlice t len (ps.map fun (i, x) => (i, σ x))) := by
 unfold evBuildSlice
 split
 ·rename_i e' j l h1 hl
  obtain ⟨hu, hj⟩ := elemTI_some hty h1
  have hp := parts_rel ho hl
  split
  ·rename_i m hm
   intro v h' l' hrun
   have hm2 : m.length ≤ 1000000 := by
    unfold newR at hrun
    split at hrun
    ·rename_i hb; exact Nat.le_of_ble_eq_true hb
    ·cases hrun
   obtain ⟨z, hz, hz2⟩ := hj.zeroValue w
   have hzs := (hz2 e).length
   simp only [Array.length_toList, hj.len] at hzs
   obtain ⟨m', k1, k2, k3⟩ := cat_fill (e := e) j.size len 0 l (ps.toList.map fun (i, x) => (i, σ x)) ((Array.range (len * j.size)).map fun i => (if len * j.size = 0 then #[] else z.cells)[i % (if len * j.size = 0 then #[] else z.cells).size]!) m hp (by simp) hm
   have hle : ¬ (len * j.size > 2 ^ 24) := by rw [← k3]; omega
   refine SM.newRow (hi := hi) (v := .sl lo 0 len (.known len)) hs m' k2 len k3 (.slice (some ⟨w.heap.size, 0, none⟩) len len) (fun e1 h1 => ⟨_, _, h1, rfl⟩) ?_ v h' l' hrun
   simp only [Nat.zero_mul, List.take_zero, List.nil_append] at k1
   by_cases h0 : len * j.size = 0
   ·rw [if_pos h0] at k1
    simp only [Instr.buildSlice, Sem.run_bind, run_underlying hu, Result.andThen_ok, hj.sizeOf, hle, if_false, if_pos h0, Sem.run_pure, parts_arr]
    rw [show Instr.fill _ _ _ = _ from k1]
    simp [newRow, newObj, Sem.run]
   ·rw [if_neg h0] at k1
    simp only [Instr.buildSlice, Sem.run_bind, run_underlying hu, Result.andThen_ok, hj.sizeOf, hle, if_false, if_neg h0, Sem.run_pure, hz, parts_arr]
    rw [show Instr.fill _ _ _ = _ from k1]
    simp [newRow, newObj, Sem.run]
  ·exact .fail
 ·exact .fail
theorem rep_get {α : Type} (zero : List α) : ∀ (m i : Nat), i < m * zero.length → (List.replicate m zero).flatten[i]? = zero[i % zero.length]?
 | 0, i, h => by simp at h
 | m + 1, i, h => by
  rw [List.replicate_succ, List.flatten_cons]
  by_cases hi : i < zero.length
  ·rw [List.getElem?_append_left hi, Nat.mod_eq_of_lt hi]
  ·have hmul : (m + 1) * zero.length = m * zero.length + zero.length := by rw [Nat.add_mul]; omega
   rw [List.getElem?_append_right (by omega), rep_get zero m _ (by omega), ← Nat.mod_eq_sub_mod (by omega)]
theorem zeros_rel {e : Env} {zero : List CV} {z : Array Value} (hz : All2 (CV.rel e) zero z.toList) (m : Nat) : All2 (CV.rel e) (List.replicate m zero).flatten ((Array.range (m * z.size)).map (z[· % z.size]!)).toList := by
 have hl := hz.length
 simp only [Array.length_toList] at hl
 refine All2.of_get (by simp [hl]) fun i a b ha hb => ?_
 have hi : i < m * zero.length := by
  rcases Nat.lt_or_ge i (m * zero.length) with h | h
  ·exact h
  ·rw [List.getElem?_eq_none (by simpa using h)] at ha; cases ha
 rw [rep_get zero m i hi] at ha
 obtain ⟨y, h1, h2⟩ := hz.get _ _ ha
 have hi2 : i < m * z.size := by rw [← hl]; exact hi
 have hb' : b = z[i % z.size]! := by
  simp only [Array.toList_map, Array.toList_range, List.getElem?_map, List.getElem?_range hi2, Option.map_some, Option.some.injEq] at hb
  exact hb.symm
 rw [hl, Array.getElem?_toList] at h1
 rw [hb', Array.getElem!_eq_getD, Array.getD_eq_getD_getElem?, h1]
 exact h2
theorem rep_one {α : Type} (z : α) : ∀ m, (List.replicate m [z]).flatten = List.replicate m z
 | 0 => rfl
 | m + 1 => by rw [List.replicate_succ, List.flatten_cons, rep_one z m]; rfl
theorem run_mk {t e' : Nat} {j : TI} (hu : P.underlying t = some (.slice e')) (hj : TF P e' j) (hby : j.bytes ≤ 100000000) {z : Value} (hz : (zeroValue e').run P w = .ok z w) {kn km : IntKind} {n m : Int} (h0 : 0 ≤ n) (h1 : n ≤ m) (h2 : m ≤ 1000000) :
  (Instr.makeSlice t (.int kn n) (.int km m)).run P w = .ok (.slice (some ⟨w.heap.size, 0, none⟩) n.toNat m.toNat) { w with heap := w.heap.push (.cells ((Array.range (m.toNat * j.size)).map (z.cells[· % z.cells.size]!)) e' (0, 0)) } := by
 obtain ⟨info, hinfo, hb, hsi⟩ := hj.typeInfo w
 have hwn : IntKind.i64.wrap n = n := by unfold IntKind.wrap; simp [IntKind.bits, IntKind.signed]; omega
 have hwm : IntKind.i64.wrap m = m := by unfold IntKind.wrap; simp [IntKind.bits, IntKind.signed]; omega
 have hbig : ¬ ((info.bytes : Int) * m > 2 ^ 48) := by
  rw [hb]
  have : (j.bytes : Int) * m ≤ 100000000 * 1000000 := Int.mul_le_mul (by omega) (by omega) (by omega) (by omega)
  omega
 have hask : ∀ k, (askRoom k).run P w = .ok () w := by intro k; unfold askRoom; split <;> rfl
 have hc : ¬ (((m < 0 ∨ 281474976710656 < (info.bytes : Int) * m) ∨ n < 0) ∨ m < n) := by omega
 by_cases hz0 : m.toNat * j.size = 0
 ·simp [Instr.makeSlice, run_underlying hu, asInt, asIntOf, hinfo, hwn, hwm, hj.sizeOf, hask, hz0]
  rw [if_neg hc]
  simp [newRow, newObj, Sem.run]
  congr 2
  apply Array.ext'
  simp only [Array.toList_map, Array.toList_range, List.range_zero, List.map_nil]
 ·simp [Instr.makeSlice, run_underlying hu, asInt, asIntOf, hinfo, hwn, hwm, hj.sizeOf, hask, hz0, hz]
  rw [if_neg hc]
  simp [newRow, newObj, Sem.run]
include hty hs ho in
theorem sm_makeSlice (t : Nat) (l c : Operand) : SM P lo hi e h w (evMakeSlice ty ρ lo t l c) (Instr.makeSlice t (σ l) (σ c)) := by
 unfold evMakeSlice
 split
 ·rename_i e' j n m h1 hn hm
  obtain ⟨hu, hj⟩ := elemTI_some hty h1
  obtain ⟨kn, hn'⟩ := evI_rel ho hn
  obtain ⟨km, hm'⟩ := evI_rel ho hm
  split
  ·rename_i hb
   obtain ⟨z, hz, hz2⟩ := hj.zeroValue w
   obtain ⟨info, hinfo, hby, hsi⟩ := hj.typeInfo w
   have hzs := (hz2 e).length
   simp only [Array.length_toList, hj.len] at hzs
   split
   ·rename_i hbt
    have hbt := Nat.le_of_ble_eq_true hbt
    have hwn : IntKind.i64.wrap n = n := by unfold IntKind.wrap; simp [IntKind.bits, IntKind.signed]; omega
    have hwm : IntKind.i64.wrap m = m := by unfold IntKind.wrap; simp [IntKind.bits, IntKind.signed]; omega
    have hrun : ∀ X : Array Value, ((Array.range (m.toNat * j.size)).map (z.cells[· % z.cells.size]!)) = X → (Instr.makeSlice t (σ l) (σ c)).run P w = .ok (.slice (some ⟨w.heap.size, 0, none⟩) n.toNat m.toNat) { w with heap := w.heap.push (.cells X e' (0, 0)) } := by
     intro X hX
     subst hX
     rw [hn', hm']
     exact run_mk hu hj hbt hz hb.1 hb.2.1 hb.2.2
    have hzr := zeros_rel (e := e) (hz2 e) m.toNat
    rw [← hzs] at hzr
    have hmt : m.toNat ≤ 1000000 := by omega
    split
    ·rename_i z0 hz0
     have hsz1 : j.size = 1 := by rw [← hj.len, hz0]; rfl
     rw [hz0] at hzr
     rw [rep_one] at hzr
     have hrow : ∀ hid : h.find lo = none, RowC (e.set lo (w.heap.size, m.toNat)) lo ⟨.live, m.toNat, z0, .nil, e', j.size⟩ { w with heap := w.heap.push (.cells ((Array.range (m.toNat * j.size)).map (z.cells[· % z.cells.size]!)) e' (0, 0)) } w.heap.size m.toNat ((Array.range (m.toNat * j.size)).map (z.cells[· % z.cells.size]!)) (0, 0) := by
      intro hid
      refine ⟨Env.set_same .., by show (w.heap.push _)[w.heap.size]? = _; simp, by simp, by simp [hsz1], fun _ => rfl, fun i hi => ?_⟩
      have hi' : i < m.toNat := hi
      obtain ⟨x, h1, h2⟩ := hzr.get i z0 (by rw [List.getElem?_replicate, if_pos hi'])
      rw [hzs] at h1
      refine ⟨x, by rw [← hzs] at h1; rw [hzs, ← Array.getElem?_toList]; rw [← hzs]; exact h1, ?_⟩
      exact h2.ext (Env.set_ext (hs.dom lo hid))
     refine SM.new (e1 := e.set lo (w.heap.size, m.toNat)) (w1 := { w with heap := w.heap.push (.cells ((Array.range (m.toNat * j.size)).map (z.cells[· % z.cells.size]!)) e' (0, 0)) }) (fun hid => hs.new hid rfl fun _ => hrow hid) (fun hid => Stp.fresh _ (hs.dom lo hid)) fun v' h' l' hid hh => ?_
     cases hh
     exact ⟨_, _, e.set lo (w.heap.size, m.toNat), hrun _ rfl, hs.new hid rfl fun _ => hrow hid, .refl _ _ _ _ _, _, _, Env.set_same .., rfl⟩
    ·refine SM.newRow (v := .sl lo 0 n.toNat (.known m.toNat)) hs _ hzr m.toNat (by simp [hj.len]) (.slice (some ⟨w.heap.size, 0, none⟩) n.toNat m.toNat) (fun e1 h1 => ⟨_, _, h1, rfl⟩) ?_
     rw [Array.toArray_toList]
     exact hrun _ (by rw [hzs])
   ·exact .fail
  ·exact .fail
 ·exact .fail
end
end Ev
end
section
namespace Ev
open Go
def OI (x : Option Int) (v : Option Value) : Prop := (x = none ∧ v = none) ∨ ∃ n k, x = some n ∧ v = some (.int k n)
theorem run_bound {P : Program} {w : World} {k : IntKind} {n : Int} {y : Nat} {code : BoundsCode} (h0 : 0 ≤ n) (h1 : n ≤ y) : (Instr.sliceBound (.int k n) y code).run P w = .ok n.toNat w := by
 simp [Instr.sliceBound, asIntOf, h0, h1]
theorem run_bounds {P : Program} {w : World} {b : Bool} {len c : Nat} {lo hi mx : Option Int} {lv hv mv : Option Value} (h1 : OI lo lv) (h2 : OI hi hv) (h3 : OI mx mv)
  (h : 0 ≤ orI lo 0 ∧ orI lo 0 ≤ orI hi len ∧ orI hi len ≤ orI mx c ∧ orI mx c ≤ c) (hm : mx.isSome = true → hi.isSome = true) :
  (Instr.sliceBounds b len c lv hv mv).run P w = .ok ((orI lo 0).toNat, (orI hi len).toNat, (orI mx c).toNat) w := by
 obtain ⟨a1, a2, a3, a4⟩ := h
 rcases h3 with ⟨rfl, rfl⟩ | ⟨m, k3, rfl, rfl⟩
 ·rcases h2 with ⟨rfl, rfl⟩ | ⟨n, k2, rfl, rfl⟩
  ·rcases h1 with ⟨rfl, rfl⟩ | ⟨l, k1, rfl, rfl⟩
   ·simp [Instr.sliceBounds, orI]
   ·simp only [orI] at *
    simp [Instr.sliceBounds, orI, run_bound a1 a2]
  ·rcases h1 with ⟨rfl, rfl⟩ | ⟨l, k1, rfl, rfl⟩
   ·simp only [orI] at *
    simp [Instr.sliceBounds, orI, run_bound a2 a3]
   ·simp only [orI] at *
    have e1 : ((n.toNat : Nat) : Int) = n := by omega
    simp [Instr.sliceBounds, orI, run_bound (show 0 ≤ n by omega) a3, run_bound (y := n.toNat) a1 (by omega)]
 ·rcases h2 with ⟨rfl, rfl⟩ | ⟨n, k2, rfl, rfl⟩
  ·simp at hm
  ·rcases h1 with ⟨rfl, rfl⟩ | ⟨l, k1, rfl, rfl⟩
   ·simp only [orI] at *
    simp [Instr.sliceBounds, orI, run_bound (show 0 ≤ m by omega) a4, run_bound (y := m.toNat) a2 (by omega)]
   ·simp only [orI] at *
    simp [Instr.sliceBounds, orI, run_bound (show 0 ≤ m by omega) a4, run_bound (y := m.toNat) (show 0 ≤ n by omega) (by omega), run_bound (y := n.toNat) a1 (by omega)]
theorem bounds_ok {lo hi mx : Option Int} {len c : Nat} (h : boundsOk lo hi mx len c = true) : (0 ≤ orI lo 0 ∧ orI lo 0 ≤ orI hi len ∧ orI hi len ≤ orI mx c ∧ orI mx c ≤ c) ∧ (mx.isSome = true → hi.isSome = true) := by
 unfold boundsOk at h
 split at h
 ·exact ⟨⟨of_decide_eq_true (by assumption), of_decide_eq_true (by assumption), of_decide_eq_true (by assumption), of_decide_eq_true (by assumption)⟩, fun hh => by cases hh⟩
 ·exact ⟨⟨of_decide_eq_true (by assumption), of_decide_eq_true (by assumption), of_decide_eq_true (by assumption), of_decide_eq_true (by assumption)⟩, fun _ => rfl⟩
 ·cases h
section
variable {P : Program} {ty : Nat → Option TI} (hty : ∀ t i, ty t = some i → tiOf P t = some i) {e : Env} {h : H} {w : World} (hs : Sim e h w)
 {ρ : Operand → Option AV} {σ : Operand → Value} (ho : ORel e ρ σ) {lo hi : Nat}
include ho in
theorem evOI_rel {x : Option Operand} {n : Option Int} (h : evOI ρ x = some n) : OI n (x.map σ) := by
 unfold evOI at h
 split at h
 ·cases h; exact .inl ⟨rfl, rfl⟩
 ·split at h
  ·rename_i n hn
   cases h
   obtain ⟨k, hk⟩ := evI_rel ho hn
   exact .inr ⟨n, k, rfl, by simp [hk]⟩
  ·cases h
theorem toNat_eq_iff {a b : Int} (h1 : 0 ≤ a) (h2 : 0 ≤ b) : (a.toNat = b.toNat) ↔ a = b := by omega
include hs in
theorem sm_cut {size id off len c : Nat} {l' h' m' : Option Int} {s : Sem Value} {b cc : Nat} (he : e id = some (b, cc))
  (hrun : (0 ≤ orI l' 0 ∧ orI l' 0 ≤ orI h' len ∧ orI h' len ≤ orI m' c ∧ orI m' c ≤ c) ∧ (m'.isSome = true → h'.isSome = true) →
   s.run P w = .ok (.slice (some ⟨b, if orI m' c = orI l' 0 then off else off + (orI l' 0).toNat * size, none⟩) ((orI h' len).toNat - (orI l' 0).toNat) ((orI m' c).toNat - (orI l' 0).toNat)) w) :
  SM P lo hi e h w (cutKnown size id off len c l' h' m') s := by
 unfold cutKnown
 split
 ·rename_i hb
  exact SM.one hs ⟨b, cc, he, rfl⟩ (hrun (bounds_ok hb))
 ·exact .fail
include hty hs ho in
theorem sm_slice (t : Nat) (x : Operand) (lx hx mx : Option Operand) : SM P lo hi e h w (evSliceOp ty ρ t x lx hx mx) (Instr.sliceAt t (σ x) (lx.map σ) (hx.map σ) (mx.map σ)) := by
 unfold evSliceOp
 split
 ·rename_i i c lo' hi' mx' h1 hc hl hh hm
  obtain ⟨d, hk, hu⟩ := (TF.of (hty _ _ h1)).underlying
  have hcr := evC_rel ho hc
  have ol := evOI_rel ho hl
  have oh := evOI_rel ho hh
  have om := evOI_rel ho hm
  split
  ·rename_i el hki
   rw [hk] at hki
   cases d <;> first | (cases hki; done) | skip
   cases hki
   split
   ·rename_i j hj
    have hj := TF.of (hty _ _ hj)
    unfold evSlice
    split
    ·split
     ·rename_i hb
      obtain ⟨hb, hb2⟩ := bounds_ok hb
      rw [show σ x = _ from hcr]
      refine SM.one (v := .snil) hs rfl ?_
      have := run_bounds (P := P) (w := w) (b := true) ol oh om hb hb2
      have e0 : ((0 : Nat) : Int) = 0 := rfl
      have e1 : (orI mx' ((0 : Nat) : Int)).toNat = 0 := by have := hb.2.2.2; omega
      have e2 : (orI hi' ((0 : Nat) : Int)).toNat = 0 := by have := hb.2.2.2; omega
      have e3 : (orI lo' 0).toNat = 0 := by have := hb.2.2.2; omega
      rw [e1, e2, e3] at this
      simp only [Instr.sliceAt, Sem.run_bind, hu, Result.andThen_ok, Instr.slice, this, hj.sizeOf, Sem.run_pure]
      rfl
     ·exact .fail
    ·rename_i id off len cc
     obtain ⟨b, c2, he, hxx⟩ := hcr
     refine sm_cut hs he fun hb => ?_
     have := run_bounds (P := P) (w := w) (b := true) ol oh om hb.1 hb.2
     rw [hxx]
     have hiff := toNat_eq_iff (a := orI mx' cc) (b := orI lo' 0) (by omega) (by omega)
     simp only [Instr.sliceAt, Sem.run_bind, hu, Result.andThen_ok, Instr.slice, Cap.val, this, hj.sizeOf, Sem.run_pure, Option.map_some, addr_add, hiff]
     split <;> rfl
    ·rename_i id off len k
     obtain ⟨b, c2, he, hxx⟩ := hcr
     refine SM.rd hs fun r b' c' arr fr hr hrd hrc => ?_
     have hbb : b' = b ∧ c' = c2 := by have := hrc.he; rw [he] at this; cases this; exact ⟨rfl, rfl⟩
     obtain ⟨rfl, rfl⟩ := hbb
     have hsz := hrc.sz
     have hle := hrc.le
     have hfit : ∀ n : Nat, k * j.size + n * j.size ≤ r.n → 0 < j.size → r.size = j.size → k + n ≤ c' := by
      intro n h1 h2 h3
      have : (k + n) * j.size ≤ c' * j.size := by rw [Nat.add_mul]; rw [h3] at hsz; omega
      exact Nat.le_of_mul_le_mul_right this h2
     split
     ·split
      ·rename_i hb
       obtain ⟨⟨hb1, hb2, hb3⟩, ⟨hb4, hb5⟩, hb6, hb7⟩ := hb
       have hm0 : mx.map σ = none := (om.resolve_right (by rintro ⟨_, _, h, _⟩; cases h)).2
       have hhc : k + (orI hi' len).toNat ≤ c' := hfit _ (by rw [← hb1]; exact hb6) hb2 hb3
       have := run_bounds (P := P) (w := w) (b := true) (len := len) (c := c' - k) ol oh om ⟨hb4, hb5, by show orI hi' len ≤ ((c' - k : Nat) : Int); omega, Int.le_refl _⟩ (fun hh => by cases hh)
       have hml : (c' - k = (orI lo' 0).toNat) → orI lo' 0 = 0 := by
        intro heq
        rcases hb7 with h0 | h0
        ·exact h0
        ·have h1 : k * j.size + (orI lo' 0).toNat * j.size < c' * j.size := by rw [← hb1]; rw [hb3] at hsz; omega
         rw [← Nat.add_mul] at h1
         have := Nat.lt_of_mul_lt_mul_right h1
         omega
       refine SM.one (x := .slice (some ⟨b', off + (orI lo' 0).toNat * j.size, none⟩) ((orI hi' len).toNat - (orI lo' 0).toNat) (c' - (k + (orI lo' 0).toNat))) hs ⟨b', c', he, rfl⟩ ?_
       rw [hxx]
       simp only [Instr.sliceAt, Sem.run_bind, hu, Result.andThen_ok, Instr.slice, Cap.val, this, hj.sizeOf, Sem.run_pure, Option.map_some, addr_add]
       have e1 : (orI none ((c' - k : Nat) : Int)).toNat = c' - k := by simp [orI]
       rw [e1, Nat.sub_sub]
       by_cases heq : c' - k = (orI lo' 0).toNat
       ·rw [if_pos heq, hml heq]; simp
       ·rw [if_neg heq]
      ·split
       ·rename_i hb
        obtain ⟨⟨hb1, hb2, hb3⟩, ⟨hb4, hb5⟩, hb6, hb7⟩ := hb
        have hhc : k + (orI hi' len).toNat ≤ c' := hfit _ (by rw [← hb1]; exact hb6) hb2 hb3
        have := run_bounds (P := P) (w := w) (b := true) (len := len) (c := c' - k) ol oh om ⟨hb4, hb5, by show orI hi' len ≤ ((c' - k : Nat) : Int); omega, Int.le_refl _⟩ (fun hh => by cases hh)
        rw [hxx]
        have e0 : (orI hi' len).toNat - (orI lo' 0).toNat = 0 := by rw [hb7]; exact Nat.sub_self _
        refine SM.one (v := .emp) (x := .slice (some (if (orI none ((c' - k : Nat) : Int)).toNat = (orI lo' 0).toNat then ⟨b', off, none⟩ else ⟨b', off + (orI lo' 0).toNat * j.size, none⟩)) 0 ((orI none ((c' - k : Nat) : Int)).toNat - (orI lo' 0).toNat)) hs ⟨_, _, rfl⟩ ?_
        simp only [Instr.sliceAt, Sem.run_bind, hu, Result.andThen_ok, Instr.slice, Cap.val, this, hj.sizeOf, Sem.run_pure, Option.map_some, addr_add, e0]
        split <;> rfl
       ·exact .fail
     ·rename_i m
      split
      ·rename_i hb
       obtain ⟨⟨hb1, hb2, hb3⟩, ⟨hb4, hb5⟩, ⟨hb6, hb7⟩, hb8⟩ := hb
       have hhc : k + m.toNat ≤ c' := hfit _ (by rw [← hb1]; exact hb8) hb2 hb3
       have := run_bounds (P := P) (w := w) (b := true) (len := len) (c := c' - k) ol oh om ⟨hb4, hb5, hb6, by show m ≤ ((c' - k : Nat) : Int); omega⟩ (fun _ => hb7)
       refine SM.one (x := .slice (some ⟨b', if m = orI lo' 0 then off else off + (orI lo' 0).toNat * j.size, none⟩) ((orI hi' len).toNat - (orI lo' 0).toNat) (m.toNat - (orI lo' 0).toNat)) hs ⟨b', c', he, rfl⟩ ?_
       have hiff := toNat_eq_iff (a := m) (b := orI lo' 0) (by omega) (by omega)
       rw [hxx]
       simp only [Instr.sliceAt, Sem.run_bind, hu, Result.andThen_ok, Instr.slice, Cap.val, this, hj.sizeOf, Sem.run_pure, Option.map_some, addr_add]
       have e1 : orI (some m) ((c' - k : Nat) : Int) = m := rfl
       rw [e1]
       simp only [hiff]
       split <;> rfl
      ·exact .fail
    ·exact .fail
   ·exact .fail
  ·rename_i n el id off hki
   rw [hk] at hki
   cases d <;> first | (cases hki; done) | skip
   cases hki
   obtain ⟨b, c2, he, hxx⟩ := hcr
   split
   ·rename_i j hj
    have hj := TF.of (hty _ _ hj)
    refine sm_cut hs he fun hb => ?_
    have := run_bounds (P := P) (w := w) (b := false) ol oh om hb.1 hb.2
    have hiff := toNat_eq_iff (a := orI mx' n) (b := orI lo' 0) (by omega) (by omega)
    rw [hxx]
    simp only [Instr.sliceAt, Sem.run_bind, hu, Result.andThen_ok, Instr.sureAddr, this, hj.sizeOf, Sem.run_pure, addr_add, hiff]
    split <;> rfl
   ·exact .fail
  ·rename_i a id off hki
   rw [hk] at hki
   cases d <;> first | (cases hki; done) | skip
   cases hki
   obtain ⟨b, c2, he, hxx⟩ := hcr
   split
   ·rename_i j0 hj0
    obtain ⟨d0, hk0, hu0⟩ := (TF.of (hty _ _ hj0)).underlying
    split
    ·rename_i n el hki0
     rw [hk0] at hki0
     cases d0 <;> first | (cases hki0; done) | skip
     cases hki0
     split
     ·rename_i j hj
      have hj := TF.of (hty _ _ hj)
      refine sm_cut hs he fun hb => ?_
      have := run_bounds (P := P) (w := w) (b := false) ol oh om hb.1 hb.2
      have hiff := toNat_eq_iff (a := orI mx' n) (b := orI lo' 0) (by omega) (by omega)
      rw [hxx]
      simp only [Instr.sliceAt, Sem.run_bind, hu, Result.andThen_ok, Instr.slice, asAddr, hu0, this, hj.sizeOf, Sem.run_pure, addr_add, hiff]
      split <;> rfl
     ·exact .fail
    ·exact .fail
   ·exact .fail
  ·exact .fail
 ·exact .fail
end
end Ev
end
section
namespace Ev
open Go
section
variable {P : Program} {ty : Nat → Option TI} (hty : ∀ t i, ty t = some i → tiOf P t = some i) {e : Env} {h : H} {w : World} (hs : Sim e h w) {lo hi : Nat}
include hty hs
theorem sm_len {t u : Nat} {x : PV} {X : Value} (hx : x.rel e X) : SM P lo hi e h w (evLen ty t x) (Builtin.len_ #[t] u #[X]) := by
 unfold evLen
 split
 ·exact .fail
 ·rename_i i h1
  obtain ⟨d, hk, hu⟩ := (TF.of (hty _ _ h1)).underlying
  split
  ·rename_i el id off n c hki
   rw [hk] at hki
   cases d <;> first | (cases hki; done) | skip
   obtain ⟨b, c2, he, rfl⟩ := hx
   exact SM.one hs rfl (by simp [Builtin.len_, hu, goInt])
  ·rename_i el hki
   rw [hk] at hki
   cases d <;> first | (cases hki; done) | skip
   cases hx
   exact SM.one hs rfl (by simp [Builtin.len_, hu, goInt])
  ·rename_i el hki
   rw [hk] at hki
   cases d <;> first | (cases hki; done) | skip
   obtain ⟨a, c, rfl⟩ := hx
   exact SM.one hs rfl (by simp [Builtin.len_, hu, goInt])
  ·rename_i hki
   rw [hk] at hki
   cases d <;> first | (cases hki; done) | skip
   cases hx
   exact SM.one hs rfl (by simp [Builtin.len_, hu, goInt])
  ·rename_i n el hki
   rw [hk] at hki
   cases d <;> first | (cases hki; done) | skip
   cases hki
   exact SM.one hs rfl (by simp [Builtin.len_, hu, goInt])
  ·rename_i el hki
   rw [hk] at hki
   cases d <;> first | (cases hki; done) | skip
   cases hki
   split
   ·rename_i j0 hj0
    obtain ⟨d0, hk0, hu0⟩ := (TF.of (hty _ _ hj0)).underlying
    split
    ·rename_i n el2 hki0
     rw [hk0] at hki0
     cases d0 <;> first | (cases hki0; done) | skip
     cases hki0
     exact SM.one hs rfl (by simp [Builtin.len_, hu, hu0, goInt])
    ·exact .fail
   ·exact .fail
  ·exact .fail
theorem sm_cap {t u : Nat} {x : PV} {X : Value} (hx : x.rel e X) : SM P lo hi e h w (evCap ty t x) (Builtin.cap_ #[t] u #[X]) := by
 unfold evCap
 split
 ·exact .fail
 ·rename_i i h1
  obtain ⟨d, hk, hu⟩ := (TF.of (hty _ _ h1)).underlying
  split
  ·rename_i el id off n c hki
   rw [hk] at hki
   cases d <;> first | (cases hki; done) | skip
   obtain ⟨b, c2, he, rfl⟩ := hx
   exact SM.one hs rfl (by simp [Builtin.cap_, hu, goInt, Cap.val])
  ·rename_i el hki
   rw [hk] at hki
   cases d <;> first | (cases hki; done) | skip
   cases hx
   exact SM.one hs rfl (by simp [Builtin.cap_, hu, goInt])
  ·exact .fail
omit hty in
theorem sm_elems {size : Nat} {x : CV} {X : Value} {k : Nat → List CV → M AV} {s : Sem Value} (hx : x.rel e X)
  (hk : ∀ n cs (xs : List Value), All2 (CV.rel e) cs xs → xs.length = n * size → (Builtin.lenOf X).run P w = .ok n w → (∀ W : World, W.heap = w.heap → ∀ m, m ≤ n → (Builtin.firstCells size m X).run P W = .ok (xs.take (m * size)).toArray W) → SM P lo hi e h w (k n cs) s) :
  SM P lo hi e h w (elems size x k) s := by
 unfold elems
 split
 ·cases hx
  refine hk 0 [] [] trivial (by simp) (by simp [Builtin.lenOf]) fun W _ m hm => ?_
  have : m = 0 := by omega
  subst this
  simp [Builtin.firstCells]
 ·obtain ⟨a, c, rfl⟩ := hx
  refine hk 0 [] [] trivial (by simp) (by simp [Builtin.lenOf]) fun W _ m hm => ?_
  have : m = 0 := by omega
  subst this
  simp [Builtin.firstCells, loadCells, loadCellsFrom]
 ·rename_i id off len c
  obtain ⟨b, c2, he, rfl⟩ := hx
  refine SM.rd hs fun r b' c' arr fr hr hrd hrc => ?_
  have hbb : b' = b := by have := hrc.he; rw [he] at this; cases this; rfl
  subst hbb
  split
  ·rename_i cs hcut
   obtain ⟨h1, rfl⟩ := cut_some hcut
   obtain ⟨xs, k1, k2, k3⟩ := hrc.cells _ _ h1
   refine hk len _ xs k1 k2 (by simp [Builtin.lenOf]) fun W hW m hm => ?_
   have hmm : m * size ≤ len * size := Nat.mul_le_mul_right _ hm
   refine run_firstCells_some (P := P) W size m ⟨b', off, none⟩ len _ _ (by rw [List.length_take]; omega) fun j v hj => ?_
   rw [addr_add]
   have : w.cell? ⟨b', off + j, none⟩ = some v := by
    refine (k3 j v ?_).1
    rw [List.getElem?_take] at hj
    split at hj
    ·exact hj
    ·cases hj
   simpa [World.cell?, hW] using this
  ·exact .fail
 ·exact .fail
omit hty in
theorem sm_min {u : Nat} {k k' : IntKind} {x y : Int} {ts : Array Nat} : SM P lo hi e h w (one (.int k (if y < x then y else x))) (Builtin.min_ ts u #[.int k x, .int k' y]) :=
 SM.one hs rfl (by simp [Builtin.min_, Builtin.min2])
omit hty in
theorem sm_max {u : Nat} {k k' : IntKind} {x y : Int} {ts : Array Nat} : SM P lo hi e h w (one (.int k (if x < y then y else x))) (Builtin.max_ ts u #[.int k x, .int k' y]) :=
 SM.one hs rfl (by simp [Builtin.max_, Builtin.max2])
def AppSrc (P : Program) (w : World) (el : Nat) (te : TI) (d : TypeDesc) (Y : Value) (n : Nat) (news : List Value) : Prop :=
 ((∀ k, d ≠ .int k) ∧ (Builtin.lenOf Y).run P w = .ok n w ∧ ∀ W : World, W.heap = w.heap → (Builtin.firstCells te.size n Y).run P W = .ok news.toArray W) ∨
  ((∃ k, d = .int k) ∧ (∃ k, Y = .int k n) ∧ n ≤ 1000000 ∧ te.bytes ≤ 100000000 ∧ ∃ z, (∀ W, (zeroValue el).run P W = .ok z W) ∧ z.cells.size = te.size ∧ news.toArray = Builtin.zeroCells z.cells n)
omit hty hs in
theorem app_room {t tx u el : Nat} {te : TI} {d : TypeDesc} (hu : P.underlying t = some (.slice el)) (hj : TF P el te) (hx : P.underlying tx = some d) {Y : Value} {n : Nat} {news : List Value}
  (hk : AppSrc P w el te d Y n news)
  (base : Option Addr) (sLen sCap : Nat) (hroom : sLen + n ≤ sCap) :
  (Builtin.append_ #[t, tx] u #[.slice base sLen sCap, Y]).run P w = (match base with | none => .ok (.slice none (sLen + n) sCap) w | some a => ((storeCells (a.add (sLen * te.size)) news).run P w).andThen fun _ w' => .ok (.slice base (sLen + n) sCap) w') := by
 obtain ⟨info, hinfo, hby, hsi⟩ := hj.typeInfo w
 have hsz : ∀ W, (Go.sizeOf el).run P W = .ok te.size W := fun W => hj.sizeOf W
 rcases hk with ⟨h1, h2, h3⟩ | ⟨⟨k, rfl⟩, ⟨k', rfl⟩, h2, h3, z, hz, hzs, hnews⟩
 ·have h3 := h3 w rfl
  have hzf : (match d with | .int _ => true | _ => false) = false := by
   cases d <;> first | rfl | exact absurd rfl (h1 _)
  cases base with
  | none => simp [Builtin.append_, run_underlying hu, run_underlying hx, hsz, hzf, h2, hroom, h3]
  | some a => simp [Builtin.append_, run_underlying hu, run_underlying hx, hsz, hzf, h2, hroom, h3]
 ·have hwn : IntKind.i64.wrap (n : Int) = n := by unfold IntKind.wrap; simp [IntKind.bits, IntKind.signed]; omega
  have hbig : ¬ (281474976710656 < (n : Int) * (info.bytes : Int)) := by
   rw [hby]
   have : (n : Int) * (te.bytes : Int) ≤ 1000000 * 100000000 := Int.mul_le_mul (by omega) (by omega) (by omega) (by omega)
   omega
  have hneg : ¬ ((n : Int) < 0) := by omega
  by_cases h0 : n * te.size = 0
  ·have hn0 : news = [] := by
    have : news.toArray = #[] := by
     rw [hnews]
     apply Array.ext'
     unfold Builtin.zeroCells
     rw [hzs, h0]
     simp
    simpa using this
   cases base with
   | none => simp [Builtin.append_, run_underlying hu, run_underlying hx, hsz, asInt, asIntOf, hwn, hneg, hbig, hinfo, hroom, h0]
   | some a => simp [Builtin.append_, run_underlying hu, run_underlying hx, hsz, asInt, asIntOf, hwn, hneg, hbig, hinfo, hroom, h0, hn0]
  ·cases base with
   | none => simp [Builtin.append_, run_underlying hu, run_underlying hx, hsz, asInt, asIntOf, hwn, hneg, hbig, hinfo, hroom, h0, hz]
   | some a =>
    have : (Builtin.zeroCells z.cells n).toList = news := by rw [← hnews]
    simp [Builtin.append_, run_underlying hu, run_underlying hx, hsz, asInt, asIntOf, hwn, hneg, hbig, hinfo, hroom, h0, hz, this]
omit hty hs in
theorem app_grow {t tx u el : Nat} {te : TI} {d : TypeDesc} (hu : P.underlying t = some (.slice el)) (hj : TF P el te) (hx : P.underlying tx = some d) {Y : Value} {n : Nat} {news : List Value}
  (hk : AppSrc P w el te d Y n news) (base : Option Addr) (sLen sCap : Nat) (hg : sCap < sLen + n) (hle : sLen + n ≤ 1000000) (hbt : te.bytes ≤ 100000000) {olds : List Value}
  (ho : ∀ W : World, W.heap = w.heap → (Builtin.firstCells te.size sLen (.slice base sLen sCap)).run P W = .ok olds.toArray W) :
  ∃ z : Value, z.cells.size = te.size ∧ (Builtin.append_ #[t, tx] u #[.slice base sLen sCap, Y]).run P w = .ok (.slice (some ⟨w.heap.size, 0, none⟩) (sLen + n) (grownCap w (sLen + n) sCap el)) (w.drew.alloc (.cells (olds.toArray ++ news.toArray ++ Builtin.zeroCells z.cells (grownCap w (sLen + n) sCap el - (sLen + n))) el)) := by
 obtain ⟨info, hinfo, hby, hsi⟩ := hj.typeInfo w
 have hsz : ∀ W, (Go.sizeOf el).run P W = .ok te.size W := fun W => hj.sizeOf W
 have hinfo : ∀ W, (typeInfo el).run P W = .ok info W := by
  intro W
  obtain ⟨i2, z2, q1, q2, q3, q4, q5⟩ := hj.ex
  simp only [Go.typeInfo, Sem.run_bind, program, Sem.run, Result.andThen_ok, q1] at hinfo ⊢
  cases hinfo
  rfl
 obtain ⟨z, hz, hzr⟩ : ∃ z, (∀ W, (zeroValue el).run P W = .ok z W) ∧ ∀ e, All2 (CV.rel e) te.zero z.cells.toList := by
  obtain ⟨i2, z2, q1, q2, q3, q4, q5⟩ := hj.ex
  exact ⟨z2, fun W => by simp [Go.zeroValue, Go.typeInfo, q1, q2], fun e => cvsOf_rel q5⟩
 have hzs : z.cells.size = te.size := by have := (hzr (fun _ => none)).length; rw [hj.len] at this; simpa using this.symm
 have hn : ¬ (sLen + n ≤ sCap) := by omega
 have h63' : ¬ (9223372036854775807 < ((sLen : Int) + (n : Int))) := by omega
 have h48' : ¬ (281474976710656 < Builtin.nextslicecap (sLen + n) sCap * info.bytes) := by
  have := growslice_fits (bytes := te.bytes) hg (by
   have : (sLen + n) * te.bytes ≤ 1000000 * 100000000 := Nat.mul_le_mul hle hbt
   omega)
  rw [hby]; omega
 have hod := ho w.drew rfl
 have hask : ∀ k W, (askRoom k).run P W = .ok () W := by intro k W; unfold askRoom; split <;> rfl
 refine ⟨z, hzs, ?_⟩
 rcases hk with ⟨h1, h2, h3⟩ | ⟨⟨k, rfl⟩, ⟨k', rfl⟩, h2, h3, z', hz', hzs', hnews⟩
 ·have h3 := h3 w.drew rfl
  have hzf : (match d with | .int _ => true | _ => false) = false := by
   cases d <;> first | rfl | exact absurd rfl (h1 _)
  simp [Builtin.append_, run_underlying hu, run_underlying hx, hsz, hzf, h2, hn, h3, h63', h48', Question.forced, hod, hz, hinfo, hask, newRow, grownCap]
  congr 2
  apply Array.ext'
  simp [List.append_assoc]
 ·have hwn : IntKind.i64.wrap (n : Int) = n := by unfold IntKind.wrap; simp [IntKind.bits, IntKind.signed]; omega
  have hbig : ¬ (281474976710656 < (n : Int) * (info.bytes : Int)) := by
   rw [hby]
   have : (n : Int) * (te.bytes : Int) ≤ 1000000 * 100000000 := Int.mul_le_mul (by omega) (by omega) (by omega) (by omega)
   omega
  have hneg : ¬ ((n : Int) < 0) := by omega
  have hzz : z' = z := by
   have := hz' w
   rw [hz w] at this
   cases this; rfl
  subst hzz
  by_cases h0 : n * te.size = 0
  ·have hn0 : news = [] := by
    have : news.toArray = #[] := by
     rw [hnews]
     apply Array.ext'
     unfold Builtin.zeroCells
     rw [hzs, h0]
     simp
    simpa using this
   simp [Builtin.append_, run_underlying hu, run_underlying hx, hsz, asInt, asIntOf, hwn, hneg, hbig, hinfo, hn, h0, hn0, h63', h48', Question.forced, hod, hz, hask, newRow, grownCap]
  ·have hzc : Builtin.zeroCells z'.cells n = news.toArray := hnews.symm
   simp [Builtin.append_, run_underlying hu, run_underlying hx, hsz, asInt, asIntOf, hwn, hneg, hbig, hinfo, hn, h0, h63', h48', Question.forced, hod, hz, hask, newRow, grownCap, hzc]
   congr 2
   apply Array.ext'
   simp [List.append_assoc]
end
end Ev
end
