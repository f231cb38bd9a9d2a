/-
  Texts TaA, TaE.
-/
import Derived.Test.YtmfmokblmipagaaGreatR04
import Derived.Test.YtmfmokblmipagaaGreatR05
import Derived.Test.YtmfmokblmipagaaGreatR08
import Derived.Test.YtmfmokblmipagaaGreatR11
import Derived.Deep.Cut
import Derived.Maps.AppendAt
set_option linter.unusedSimpArgs false
set_option linter.unusedVariables false
set_option maxHeartbeats 8000000
open Pl
section
namespace Go.Proofs.YtmfmokblmipagaaGreat
open Go.RowKit Pl
def celR (c : Cel) : List Value := [.int .i64 (c.op : Int), .int .i64 (c.a : Int), .int .u64 (c.n : Int)]
def celsR (l : List Cel) : List Value := l.flatMap celR
theorem celsR_append (l m : List Cel) : celsR (l ++ m) = celsR l ++ celsR m := by simp [celsR]
theorem length_celsR (l : List Cel) : (celsR l).length = l.length * 3 := by
 induction l with
 | nil => rfl
 | cons c l ih => simp only [celsR, List.flatMap_cons, List.length_append] at ih ⊢; rw [ih]; simp [celR]; omega
theorem celsR_one (l : List Cel) : ∀ u ∈ celsR l, u.oneCell' = true := fun u hu => by
 simp only [celsR, List.mem_flatMap] at hu
 obtain ⟨c, _, hc⟩ := hu
 simp only [celR, List.mem_cons, List.not_mem_nil, or_false] at hc
 rcases hc with rfl | rfl | rfl <;> rfl
theorem celInfo : (Tryz.prog.info? 130).map (fun i => (i.zero, i.size, i.bytes)) = some (some (.agg #[.int .i64 0, .int .i64 0, .int .u64 0]), 3, 24) := by kernel_rfl
structure Chg (A : Nat) (R : Option Nat) (u u2 : World) : Prop where
 os : u2.os = u.os
 tape : u2.tape = u.tape
 output : u2.output = u.output
 size : u.heap.size ≤ u2.heap.size
 block : ∀ k, k < u.heap.size → k ≠ A → some k ≠ R → u2.heap[k]? = u.heap[k]?
theorem Chg.refl (A : Nat) (R : Option Nat) (u : World) : Chg A R u u := ⟨rfl, rfl, rfl, Nat.le_refl _, fun _ _ _ _ => rfl⟩
def Frsh (u : World) (R R2 : Option Nat) : Prop := ∀ n, R2 = some n → R = some n ∨ u.heap.size ≤ n
theorem Chg.trans {A : Nat} {R R2 : Option Nat} {a b c : World} (h : Chg A R a b) (k : Chg A R2 b c) (hr : Frsh a R R2) : Chg A R a c :=
 ⟨k.os.trans h.os, k.tape.trans h.tape, k.output.trans h.output, Nat.le_trans h.size k.size, fun i hi hA hR => (k.block i (Nat.lt_of_lt_of_le hi h.size) hA (fun e => by
  rcases hr i e.symm with h1 | h1
  ·exact hR h1.symm
  ·omega)).trans (h.block i hi hA hR)⟩
theorem Chg.below {A : Nat} {R : Option Nat} {a b c : World} (h : Chg A R a b) (k : Below b.heap.size b c) : Chg A R a c :=
 ⟨k.os.trans h.os, k.tape.trans h.tape, k.output.trans h.output, Nat.le_trans h.size k.size, fun i hi hA hR => (k.block i (Nat.lt_of_lt_of_le hi h.size)).trans (h.block i hi hA hR)⟩
theorem Chg.to_below {A : Nat} {R : Option Nat} {B : Nat} {w a b : World} (h : Chg A R a b) (hb : Below B w a) (hB : B ≤ a.heap.size) (hA : B ≤ A) (hR : ∀ n, R = some n → B ≤ n) : Below B w b :=
 hb.trans ⟨h.os, h.tape, h.output, h.size, fun k hk => h.block k (by omega) (by omega) (fun e => by have := hR k e.symm; omega)⟩
structure TA (A : Nat) (l : List Cel) (b k : Nat) (R : Option Nat) (u : World) : Prop where
 ex : ∃ v, u.heap[A]? = some (.cells #[v, .int .i64 (b : Int), .int .i64 (k : Int)] 92 (0, 0)) ∧ u.ownsRow 0 130 3 v l.length (celsR l) ∧ v.ownBlock = R ∧ R ≠ some A
structure TR (A : Nat) (R : Option Nat) (u : World) (l : List Cel) (b k : Nat) (u2 : World) : Prop where
 ex : ∃ R2, TA A l b k R2 u2 ∧ Chg A R u u2 ∧ Frsh u R R2
theorem TA.start {A : Nat} {R : Option Nat} {l : List Cel} {b k : Nat} {u : World} (h : TA A l b k R u) : TR A R u l b k u := ⟨R, h, Chg.refl _ _ _, fun n hn => .inl hn⟩
theorem TA.below {A : Nat} {R : Option Nat} {l : List Cel} {b k : Nat} {u u2 : World} (h : TA A l b k R u) (hb : Below u.heap.size u u2) : TA A l b k R u2 := by
 obtain ⟨v, h1, h2, h3, h4⟩ := h.ex
 exact ⟨v, blk_keep h1 hb, h2.kept (grown_of_below (r := none) hb) (by
  rcases h2.2 with ⟨rfl, _⟩ | ⟨g, cap, cur, rfl, _⟩
  ·exact .inl rfl
  ·exact .inr (by simp [Value.ownBlock])), h3, h4⟩
theorem TR.below {A : Nat} {R : Option Nat} {l : List Cel} {b k : Nat} {u u2 u3 : World} (h : TR A R u l b k u2) (hb : Below u2.heap.size u2 u3) : TR A R u l b k u3 := by
 obtain ⟨R2, h1, h2, h3⟩ := h.ex
 exact ⟨R2, h1.below hb, h2.below hb, h3⟩
theorem TR.alloc {A : Nat} {R : Option Nat} {l : List Cel} {b k : Nat} {u u2 : World} (h : TR A R u l b k u2) (o : Obj) : TR A R u l b k (u2.alloc o) := h.below ((Below.refl _ _).alloc (Nat.le_refl _) o)
theorem TR.trans {A : Nat} {R R2 : Option Nat} {l : List Cel} {b k : Nat} {u u2 u3 : World} (c : Chg A R u u2) (f : Frsh u R R2) (h : TR A R2 u2 l b k u3) : TR A R u l b k u3 := by
 obtain ⟨R3, h1, h2, h3⟩ := h.ex
 refine ⟨R3, h1, c.trans h2 f, fun n hn => ?_⟩
 rcases h3 n hn with h4 | h4
 ·exact f n h4
 ·exact .inr (Nat.le_trans c.size h4)
theorem TR.get {A : Nat} {R : Option Nat} {l : List Cel} {b k : Nat} {u u2 : World} {x : Nat} {o : Obj} (h : TR A R u l b k u2) (hx : u.heap[x]? = some o) (hA : x ≠ A) (hR : some x ≠ R) : u2.heap[x]? = some o := by
 obtain ⟨R2, h1, h2, h3⟩ := h.ex
 exact (h2.block x (block_lt hx) hA hR).trans hx
theorem TR.size {A : Nat} {R : Option Nat} {l : List Cel} {b k : Nat} {u u2 : World} (h : TR A R u l b k u2) : u.heap.size ≤ u2.heap.size := by
 obtain ⟨R2, h1, h2, h3⟩ := h.ex
 exact h2.size
theorem TR.row {A : Nat} {R : Option Nat} {l : List Cel} {b k : Nat} {u u2 : World} (h : TR A R u l b k u2) : ∃ v, u2.heap[A]? = some (.cells #[v, .int .i64 (b : Int), .int .i64 (k : Int)] 92 (0, 0)) ∧ u2.ownsRow 0 130 3 v l.length (celsR l) := by
 obtain ⟨R2, h1, h2, h3⟩ := h.ex
 obtain ⟨v, h4, h5, _⟩ := h1.ex
 exact ⟨v, h4, h5⟩
theorem TR.step {A : Nat} {R : Option Nat} {l l2 : List Cel} {b k k2 : Nat} {u u2 : World} {f : FuncId} {args : Array Value} {E : Ending} (T : TR A R u l b k u2)
 (h : ∀ R2, TA A l b k R2 u2 → Calls Tryz.prog f args u2 fun e u3 => e = E ∧ TR A R2 u2 l2 b k2 u3) : Calls Tryz.prog f args u2 fun e u3 => e = E ∧ TR A R u l2 b k2 u3 := by
 obtain ⟨R2, h1, h2, h3⟩ := T.ex
 exact (h R2 h1).mono fun e u3 hh => ⟨hh.1, TR.trans h2 h3 hh.2⟩
theorem isAgg_cels (w : World) : (isAgg 34).run Tryz.prog w = .ok false w := by kernel_rfl
theorem size_cels : (Tryz.prog.info? 34).map (·.size) = some 1 := by kernel_rfl
theorem app_cel {ops : Array Oper} {rest : List Oper} {o : Oper} {a : Act} {w : World} {Q : Exit → Act → World → Prop} (hgd : o.guard = none) (s x : Operand) (ho : o.op = .call { callee := .builtin .append, args := #[s, x], argTypes := #[34, 34] })
 (base : Nat) (v : Value) (xs new : List Cel) (hs : a.eval s = v) (hown : w.ownsRow base 130 3 v xs.length (celsR xs)) (X m c : Nat) (hm : m = new.length)
 (hx : a.eval x = .slice (some ⟨X, 0, none⟩) m c) (hb : w.heap[X]? = some (.cells (celsR new).toArray 130 (0, 0))) (hsm : xs.length ≤ 1000) (hsm2 : new.length ≤ 1000) (hbase : base ≤ w.heap.size)
 (h : ∀ v' w', w'.ownsRow base 130 3 v' (xs ++ new).length (celsR (xs ++ new)) → w.grownBy w' v.ownBlock → (∃ ad n c, v' = .slice ad n c) → (∀ b, v'.ownBlock = some b → v.ownBlock = some b ∨ b = w.heap.size) → wpList Tryz.prog ops Q rest (a.put o.dst v') w') : wpList Tryz.prog ops Q (o :: rest) a w := by
 refine wpList_plain hgd fun K hK => ?_
 obtain ⟨i, hi, hz0, hz1, hz2⟩ := info_parts celInfo
 obtain ⟨v', w', hr, h2, h3, h4, h5⟩ := run_append_own_at (P := Tryz.prog) w base 34 o.type 130 i (.agg #[.int .i64 0, .int .i64 0, .int .u64 0]) 3 24 Tryz.underlying34 hi hz0 hz1 hz2 (by simp [Value.cells]) (by decide) v xs.length (celsR xs) hown ⟨X, 0, none⟩ m c (celsR new) (by rw [length_celsR, hm])
  (fun j u hj => by
   rw [show (⟨X, 0, none⟩ : Addr).add j = ⟨X, j, none⟩ by first | rfl | (simp [Addr.add]; done) | (simp [Addr.add]; exact fun h => h.symm), cell_of_row w X j _ _ _ hb]
   simpa using hj) (celsR_one new) (by unfold maxLen; omega) (by omega) hbase
 unfold Oper.wp execOp
 simp only [ho, resolve, invoke, builtin, Sem.run_bind, Sem.run_pure, Result.andThen_ok, List.map_toArray, List.map_cons, List.map_nil, hs, hx, hr]
 refine hK _ _ (h v' w' (by rw [celsR_append, List.length_append, ← hm]; exact h2) h3 ?_ (fun b e => ?_))
 ·rcases h2.2 with ⟨rfl, _⟩ | ⟨g, cap, cur, rfl, _⟩
  ·exact ⟨_, _, _, rfl⟩
  ·exact ⟨_, _, _, rfl⟩
 ·rcases h5 with h5 | h5
  ·exact .inl (h5 ▸ e)
  ·rw [h5] at e; injection e with e; exact .inr e.symm
set_option maxRecDepth 100000 in
theorem put_k (A b k X m c : Nat) (l new : List Cel) (R : Option Nat) (u : World) (h : TA A l b k R u) (hm : m = new.length) (hX : u.heap[X]? = some (.cells (celsR new).toArray 130 (0, 0))) (h1 : l.length ≤ 1000) (h2 : m ≤ 1000) :
 Calls Tryz.prog 79 #[.pointer (some ⟨A, 0, none⟩), .slice (some ⟨X, 0, none⟩) m c] u fun e u' => e = .returned (.tuple #[]) ∧ TR A R u (l ++ new) b k u' := by
 obtain ⟨v, ho, hown, hR, hne⟩ := h.ex
 have hlt := block_lt ho
 clear h
 subst hR hm
 go_enter Tryz.func79, Tryz.ntmps79
 go_wp2_with (first | ((with_reducible refine load_w ?_ 34 isAgg_cels _ rfl _ _ rfl _ _ ho _ rfl ?_); (focus rfl)) | (at_builtin; refine app_cel rfl _ _ rfl 0 v l new rfl hown X _ c rfl rfl hX h1 h2 (Nat.zero_le _) ?_; intro v' u1 hown1 g1 hs1 hb1) | (refine store_fld rfl 34 size_cels _ _ rfl A 0 rfl v' rfl (by obtain ⟨_, _, _, rfl⟩ := hs1; rfl) (by obtain ⟨_, _, _, rfl⟩ := hs1; rfl) _ _ ((g1.block A hlt (fun e => hne e.symm)).trans ho) (by simp) ?_; intro u2 g2 s2 ho2))
 go_end0
 have hR1 : v'.ownBlock ≠ some A := fun e => by
  rcases hb1 A e with e2 | e2
  ·exact hne e2
  ·omega
 refine ⟨rfl, v'.ownBlock, ⟨v', by simpa using ho2, hown1.kept g2 (.inr hR1), rfl, hR1⟩, ?_, fun n hn => ?_⟩
 ·exact ⟨g2.os.trans g1.os, g2.tape.trans g1.tape, g2.output.trans g1.output, Nat.le_trans g1.size g2.size, fun i hi hA hR => (g2.block i (Nat.lt_of_lt_of_le hi g1.size) (fun e => hA (by injection e))).trans (g1.block i hi hR)⟩
 ·rcases hb1 n hn with e2 | e2
  ·exact .inl e2
  ·exact .inr (by omega)
structure IL (A : Nat) (R : Option Nat) (u : World) (v : Value) (xs : List Nat) : Prop where
 ex : ∃ ad c, v = .slice ad xs.length c ∧ (xs = [] ∨ ∃ (g : Nat) (cur : Array Value) (T : TypeId), ad = some ⟨g, 0, none⟩ ∧ u.heap[g]? = some (.cells cur T (0, 0)) ∧ g ≠ A ∧ some g ≠ R ∧ ∀ (i x : Nat), xs[i]? = some x → cur[i]? = some (Value.int .i64 (x : Int)))
theorem IL.at {A : Nat} {R : Option Nat} {u u2 : World} {v : Value} {xs : List Nat} {l : List Cel} {b k : Nat} (h : IL A R u v xs) (T : TR A R u l b k u2) (i x : Nat) (hx : xs[i]? = some x) : ∃ g c, v = .slice (some ⟨g, 0, none⟩) xs.length c ∧ u2.cell? ⟨g, i, none⟩ = some (.int .i64 (x : Int)) := by
 obtain ⟨ad, c, e, h⟩ := h.ex
 rcases h with rfl | ⟨g, cur, T0, rfl, hg, hA, hR, hc⟩
 ·simp at hx
 ·exact ⟨g, c, e, by rw [cell_of_row u2 g i _ _ _ (T.get hg hA hR)]; exact hc i x hx⟩
theorem IL.len {A : Nat} {R : Option Nat} {u : World} {v : Value} {xs : List Nat} (h : IL A R u v xs) : ∃ ad c, v = .slice ad xs.length c := by
 obtain ⟨ad, c, e, _⟩ := h.ex
 exact ⟨ad, c, e⟩
def opc (x : Nat) : Cel := ⟨x, 0, 0⟩
set_option maxRecDepth 100000 in
theorem op_k (A b k : Nat) (l : List Cel) (v : Value) (xs : List Nat) (R : Option Nat) (u : World) (h : TA A l b k R u) (hI : IL A R u v xs) (h1 : l.length + xs.length ≤ 1000) :
 Calls Tryz.prog 57 #[.pointer (some ⟨A, 0, none⟩), v] u fun e u' => e = .returned (.tuple #[]) ∧ TR A R u (l ++ xs.map opc) b k u' := by
 have T0 := Lib.hid h.start
 have HI := Lib.hid hI
 obtain ⟨ad, c, rfl⟩ := hI.len
 clear h hI
 obtain ⟨n, hn⟩ : ∃ n, n = xs.length := ⟨_, rfl⟩
 have HN := Lib.hid hn
 rw [← hn] at h1 ⊢
 clear hn
 go_enter Tryz.func57, Tryz.ntmps57
 go_wp2_with fail
 go_loopw [8] (fun iv wr => ∃ j : Nat, j ≤ n ∧ iv = .int .i64 j ∧ Hid (TR A R u (l ++ (xs.take j).map opc) b k wr)) (fun iv _ => n - (intOf iv).toNat)
 case atStart => exact ⟨0, Nat.zero_le _, rfl, Lib.hid (by simpa using T0.out)⟩
 case round =>
  obtain ⟨j, hj, rfl, hT⟩ := hrel
  by_cases hlt : j < n
  ·have hjl : j < xs.length := by rw [← HN.out]; exact hlt
   obtain ⟨x, hx⟩ : ∃ x, xs[j]? = some x := ⟨_, List.getElem?_eq_getElem hjl⟩
   obtain ⟨g, c2, e, hc⟩ := HI.out.at hT.out j x hx
   injection e with e1 e2 e3
   subst e1
   have HX := Lib.hid hx
   clear hx hjl e2 e3
   have h9 : (l ++ (xs.take j).map opc).length ≤ 1000 := by simp only [List.length_append, List.length_map, List.length_take]; omega
   go_wp2_with (go_at_call 79; refine Calls.mono (TR.step (hT.out.alloc _) fun R2 h => put_k A b k _ _ _ _ [opc x] R2 _ h rfl (heap_alloc_new _ _) h9 (by decide)) ?_; rintro e u2 ⟨rfl, hT2⟩)
   refine ⟨⟨j + 1, by omega, by first | rfl | simp, Lib.hid ?_⟩, by simp [intOf]; omega⟩
   rw [List.append_assoc, ← List.map_singleton (f := opc), ← List.map_append] at hT2
   rw [List.take_add_one, HX.out]
   exact hT2
  ·obtain rfl : j = n := by omega
   go_wp2_with fail
   go_end0
   have := hT.out
   rw [HN.out, List.take_length] at this
   exact ⟨rfl, this⟩
def getc (x : Nat) : Cel := ⟨32, x, 0⟩
set_option maxRecDepth 100000 in
theorem get_k (A b k : Nat) (l : List Cel) (v : Value) (xs : List Nat) (R : Option Nat) (u : World) (h : TA A l b k R u) (hI : IL A R u v xs) (h1 : l.length + xs.length ≤ 1000) :
 Calls Tryz.prog 38 #[.pointer (some ⟨A, 0, none⟩), v] u fun e u' => e = .returned (.tuple #[]) ∧ TR A R u (l ++ xs.map getc) b k u' := by
 have T0 := Lib.hid h.start
 have HI := Lib.hid hI
 obtain ⟨ad, c, rfl⟩ := hI.len
 clear h hI
 obtain ⟨n, hn⟩ : ∃ n, n = xs.length := ⟨_, rfl⟩
 have HN := Lib.hid hn
 rw [← hn] at h1 ⊢
 clear hn
 go_enter Tryz.func38, Tryz.ntmps38
 go_wp2_with fail
 go_loopw [8] (fun iv wr => ∃ j : Nat, j ≤ n ∧ iv = .int .i64 j ∧ Hid (TR A R u (l ++ (xs.take j).map getc) b k wr)) (fun iv _ => n - (intOf iv).toNat)
 case atStart => exact ⟨0, Nat.zero_le _, rfl, Lib.hid (by simpa using T0.out)⟩
 case round =>
  obtain ⟨j, hj, rfl, hT⟩ := hrel
  by_cases hlt : j < n
  ·have hjl : j < xs.length := by rw [← HN.out]; exact hlt
   obtain ⟨x, hx⟩ : ∃ x, xs[j]? = some x := ⟨_, List.getElem?_eq_getElem hjl⟩
   obtain ⟨g, c2, e, hc⟩ := HI.out.at hT.out j x hx
   injection e with e1 e2 e3
   subst e1
   have HX := Lib.hid hx
   clear hx hjl e2 e3
   have h9 : (l ++ (xs.take j).map getc).length ≤ 1000 := by simp only [List.length_append, List.length_map, List.length_take]; omega
   go_wp2_with (go_at_call 79; refine Calls.mono (TR.step (hT.out.alloc _) fun R2 h => put_k A b k _ _ _ _ [getc x] R2 _ h rfl (heap_alloc_new _ _) h9 (by decide)) ?_; rintro e u2 ⟨rfl, hT2⟩)
   refine ⟨⟨j + 1, by omega, by first | rfl | simp, Lib.hid ?_⟩, by simp [intOf]; omega⟩
   rw [List.append_assoc, ← List.map_singleton (f := getc), ← List.map_append] at hT2
   rw [List.take_add_one, HX.out]
   exact hT2
  ·obtain rfl : j = n := by omega
   go_wp2_with fail
   go_end0
   have := hT.out
   rw [HN.out, List.take_length] at this
   exact ⟨rfl, this⟩
def setc (x : Nat) : Cel := ⟨33, x, 0⟩
set_option maxRecDepth 100000 in
theorem set_k (A b k : Nat) (l : List Cel) (v : Value) (xs : List Nat) (R : Option Nat) (u : World) (h : TA A l b k R u) (hI : IL A R u v xs) (h1 : l.length + xs.length ≤ 1000) :
 Calls Tryz.prog 66 #[.pointer (some ⟨A, 0, none⟩), v] u fun e u' => e = .returned (.tuple #[]) ∧ TR A R u (l ++ xs.reverse.map setc) b k u' := by
 have T0 := Lib.hid h.start
 have HI := Lib.hid hI
 obtain ⟨ad, c, rfl⟩ := hI.len
 clear h hI
 obtain ⟨n, hn⟩ : ∃ n, n = xs.length := ⟨_, rfl⟩
 have HN := Lib.hid hn
 rw [← hn] at h1 ⊢
 clear hn
 have e0 : IntKind.i64.wrap ((n : Int) - 1) = (n : Int) - 1 := IntWalk.i64_in _ (by omega)
 go_enter Tryz.func66, Tryz.ntmps66
 go_wp2_with fail
 go_loopw [4] (fun iv wr => ∃ j : Nat, j ≤ n ∧ iv = .int .i64 ((j : Int) - 1) ∧ Hid (TR A R u (l ++ (xs.drop j).reverse.map setc) b k wr)) (fun iv _ => (intOf iv + 1).toNat)
 case atStart => exact ⟨n, Nat.le_refl _, rfl, Lib.hid (by rw [HN.out, List.drop_length]; simpa using T0.out)⟩
 case round =>
  obtain ⟨j, hj, rfl, hT⟩ := hrel
  by_cases hlt : 0 < j
  ·obtain ⟨i, rfl⟩ : ∃ i, j = i + 1 := ⟨j - 1, by omega⟩
   have hjl : i < xs.length := by rw [← HN.out]; omega
   obtain ⟨x, hx⟩ : ∃ x, xs[i]? = some x := ⟨_, List.getElem?_eq_getElem hjl⟩
   obtain ⟨g, c2, e, hc⟩ := HI.out.at hT.out i x hx
   injection e with e1 e2 e3
   subst e1
   have HX := Lib.hid hx
   clear hx hjl e2 e3
   have h9 : (l ++ (xs.drop (i + 1)).reverse.map setc).length ≤ 1000 := by have := HN.out; simp only [List.length_append, List.length_map, List.length_reverse, List.length_drop]; omega
   have ei : ((i + 1 : Nat) : Int) - 1 = (i : Int) := by omega
   rw [ei]
   clear ei
   have hi2 : i < n := by omega
   have e1 : IntKind.i64.wrap ((i : Int) - 1) = (i : Int) - 1 := IntWalk.i64_in _ (by omega)
   go_wp2_with (go_at_call 79; refine Calls.mono (TR.step (hT.out.alloc _) fun R2 h => put_k A b k _ _ _ _ [setc x] R2 _ h rfl (heap_alloc_new _ _) h9 (by decide)) ?_; rintro e u2 ⟨rfl, hT2⟩)
   refine ⟨⟨i, by omega, by first | rfl | simp, Lib.hid ?_⟩, by first | (simp [intOf]; done) | (simp [intOf]; omega)⟩
   rw [List.append_assoc, ← List.map_singleton (f := setc), ← List.map_append] at hT2
   have hd : xs.drop i = x :: xs.drop (i + 1) := by
    have hq := HX.out
    obtain ⟨h3, h4⟩ := List.getElem?_eq_some_iff.1 hq
    rw [List.drop_eq_getElem_cons h3, h4]
   rw [hd, List.reverse_cons]
   exact hT2
  ·obtain rfl : j = 0 := by omega
   have e1 : (((0 : Nat) : Int) - 1) = -1 := rfl
   rw [e1]
   clear e1
   go_wp2_with fail
   go_end0
   exact ⟨rfl, hT.out⟩
def numc (x : Nat) : Cel := ⟨66, 0, x⟩
theorem TA.lt {A : Nat} {R : Option Nat} {l : List Cel} {b k : Nat} {u : World} (h : TA A l b k R u) : A < u.heap.size ∧ ∀ n, R = some n → n < u.heap.size := by
 obtain ⟨v, h1, h2, h3, h4⟩ := h.ex
 refine ⟨block_lt h1, fun n hn => ?_⟩
 rcases h2.2 with ⟨rfl, _⟩ | ⟨g, cap, cur, rfl, _, hg, _⟩
 ·subst h3; simp [Value.ownBlock] at hn
 ·subst h3
  simp only [Value.ownBlock, Option.some.injEq] at hn
  subst hn
  exact block_lt hg
theorem TR.step2 {A : Nat} {R : Option Nat} {l l2 : List Cel} {b k k2 : Nat} {u u2 : World} {f : FuncId} {args : Array Value} {E : Ending} {v : Value} {xs : List Nat} (T : TR A R u l b k u2) (hI : IL A R u v xs)
 (h : ∀ R2, TA A l b k R2 u2 → IL A R2 u2 v xs → Calls Tryz.prog f args u2 fun e u3 => e = E ∧ TR A R2 u2 l2 b k2 u3) : Calls Tryz.prog f args u2 fun e u3 => e = E ∧ TR A R u l2 b k2 u3 := by
 obtain ⟨R2, h1, h2, h3⟩ := T.ex
 refine (h R2 h1 ?_).mono fun e u3 hh => ⟨hh.1, TR.trans h2 h3 hh.2⟩
 obtain ⟨ad, c, e, hi⟩ := hI.ex
 refine ⟨ad, c, e, hi.imp id fun ⟨g, cur, T0, e1, hg, hA, hR, hc⟩ => ⟨g, cur, T0, e1, (h2.block g (block_lt hg) hA hR).trans hg, hA, fun e => ?_, hc⟩⟩
 rcases h3 g e.symm with h4 | h4
 ·exact hR h4.symm
 ·exact absurd (block_lt hg) (by omega)
theorem IL.below {A : Nat} {R : Option Nat} {u u2 : World} {v : Value} {xs : List Nat} (h : IL A R u v xs) (hb : Below u.heap.size u u2) : IL A R u2 v xs := by
 obtain ⟨ad, c, e, hi⟩ := h.ex
 exact ⟨ad, c, e, hi.imp id fun ⟨g, cur, T0, e1, hg, hA, hR, hc⟩ => ⟨g, cur, T0, e1, blk_keep hg hb, hA, hR, hc⟩⟩
theorem IL.nil (A : Nat) (R : Option Nat) (u : World) : IL A R u (.slice none 0 0) [] := ⟨none, 0, rfl, .inl rfl⟩
theorem IL.new {A : Nat} {R : Option Nat} {u : World} {l : List Cel} {b k : Nat} (h : TA A l b k R u) (xs : List Nat) (cs : Array Value) (T : TypeId) (n c : Nat) (hn : n = xs.length) (hc : ∀ (i x : Nat), xs[i]? = some x → cs[i]? = some (Value.int .i64 (x : Int))) : IL A R (u.alloc (.cells cs T)) (.slice (some ⟨u.heap.size, 0, none⟩) n c) xs :=
 ⟨some ⟨u.heap.size, 0, none⟩, c, by rw [hn], .inr ⟨_, cs, T, rfl, heap_alloc_new _ _, Nat.ne_of_gt h.lt.1, fun e => by have := h.lt.2 _ e.symm; omega, hc⟩⟩
theorem TA.alloc {A : Nat} {R : Option Nat} {l : List Cel} {b k : Nat} {u : World} (h : TA A l b k R u) (o : Obj) : TA A l b k R (u.alloc o) := h.below ((Below.refl _ _).alloc (Nat.le_refl _) o)
set_option maxRecDepth 100000 in
theorem num_k (A b k x : Nat) (l : List Cel) (v : Value) (xs : List Nat) (R : Option Nat) (u : World) (h : TA A l b k R u) (hI : IL A R u v xs) (h1 : l.length + xs.length + 1 ≤ 1000) :
 Calls Tryz.prog 44 #[.pointer (some ⟨A, 0, none⟩), .int .u64 (x : Int), v] u fun e u' => e = .returned (.tuple #[]) ∧ TR A R u (l ++ numc x :: xs.map opc) b k u' := by
 have T0 := Lib.hid h.start
 have HI := Lib.hid hI
 clear h hI
 go_enter Tryz.func44, Tryz.ntmps44
 go_wp2_with (first | (go_at_call 79; refine Calls.mono (TR.step (T0.out.alloc _) fun R2 h => put_k A b k _ _ _ _ [numc x] R2 _ h rfl (heap_alloc_new _ _) (by omega) (by decide)) ?_; rintro e u2 ⟨rfl, hT2⟩) | (go_at_call 57; refine Calls.mono (TR.step2 hT2 HI.out fun R2 h hi => op_k A b k _ _ _ R2 _ h hi (by simp only [List.length_append, List.length_singleton]; omega)) ?_; rintro e u3 ⟨rfl, hT3⟩))
 go_end0
 rw [List.append_assoc] at hT3
 exact ⟨rfl, hT3⟩
end Go.Proofs.YtmfmokblmipagaaGreat
end
section
namespace Go.Proofs.YtmfmokblmipagaaGreat
open Go.RowKit Pl
def Tab19 (op t g : Int) : Prop := ∀ W, Calls Tryz.prog 85 #[.int .i64 op] W fun e w' => e = .returned (.tuple #[.int .i64 t, .int .i64 g]) ∧ Below W.heap.size W w'
theorem tab_32 : Tab19 32 0 1 := fun W => table_hit 32 0 1 6 W (by decide) (by decide) rfl rfl rfl
theorem tab_33 : Tab19 33 1 0 := fun W => table_hit 33 1 0 7 W (by decide) (by decide) rfl rfl rfl
theorem tab_66 : Tab19 66 0 1 := fun W => table_hit 66 0 1 22 W (by decide) (by decide) rfl rfl rfl
theorem tab_ld {op : Nat} (h : ldC op ≠ 0) : Tab19 op 1 1 := fun W => by
 have : op = 41 ∨ op = 49 ∨ op = 51 ∨ op = 53 := by
  unfold ldC at h
  repeat (first | omega | (split at h; omega))
 rcases this with rfl | rfl | rfl | rfl
 ·exact table_hit 41 1 1 12 W (by decide) (by decide) rfl rfl rfl
 all_goals exact table_ld _ W (by decide) (by decide)
theorem tab_st {op : Nat} (h : stC op ≠ 0) : Tab19 op 2 0 := fun W => by
 have : op = 55 ∨ op = 60 ∨ op = 61 ∨ op = 62 := by
  unfold stC at h
  repeat (first | omega | (split at h; omega))
 rcases this with rfl | rfl | rfl | rfl
 ·exact table_hit 55 2 0 14 W (by decide) (by decide) rfl rfl rfl
 ·exact table_hit 60 2 0 17 W (by decide) (by decide) rfl rfl rfl
 ·exact table_hit 61 2 0 18 W (by decide) (by decide) rfl rfl rfl
 ·exact table_hit 62 2 0 19 W (by decide) (by decide) rfl rfl rfl
theorem tab_bin {op : Nat} (h : 124 ≤ op ∧ op ≤ 138) : Tab19 op 2 1 := fun W => table_bin _ W (fun j hj => by
 have : rows19.getD (j * 3) 0 ≤ 66 ∨ rows19.getD (j * 3) 0 = 257 := by
  have : ∀ j, j < 24 → rows19.getD (j * 3) 0 ≤ 66 ∨ rows19.getD (j * 3) 0 = 257 := by decide
  exact this j hj
 omega) (by omega)
set_option maxRecDepth 100000 in
theorem scalar_k (op t g : Int) (w : World) (H : Tab19 op t g) (ht : 0 ≤ t) : Calls Tryz.prog 53 #[.int .i64 op] w fun e w' => e = .returned (.bool true) ∧ Below w.heap.size w w' := by
 have HT : Hid (∀ W, Calls Tryz.prog 85 #[.int .i64 op] W fun e w' => e = .returned (.tuple #[.int .i64 t, .int .i64 g]) ∧ Below W.heap.size W w') := H
 clear H
 go_enter Tryz.func53, Tryz.ntmps53
 go_wp2_with (go_at_call 85; (with_reducible refine (HT.out _).mono ?_); rintro e u ⟨rfl, hb⟩)
 go_ret
 exact ⟨rfl, hb⟩
set_option maxRecDepth 100000 in
theorem effects_k (sg fs : Value) (f op a n t g : Int) (w : World) (H : Tab19 op t g) (ht : 0 ≤ t) (h : op ≠ 15 ∧ op ≠ 16 ∧ op ≠ 17 ∧ op ≠ 256) : Calls Tryz.prog 86 #[.agg #[sg, fs], .int .i64 f, .agg #[.int .i64 op, .int .i64 a, .int .u64 n]] w fun e w' => e = .returned (.tuple #[.int .i64 t, .int .i64 g]) ∧ Below w.heap.size w w' := by
 have HT : Hid (∀ W, Calls Tryz.prog 85 #[.int .i64 op] W fun e w' => e = .returned (.tuple #[.int .i64 t, .int .i64 g]) ∧ Below W.heap.size W w') := H
 clear H
 have t1 : (op == 15) = false := beq_eq_false_iff_ne.2 h.1
 have t2 : (op == 16) = false := beq_eq_false_iff_ne.2 h.2.1
 have t3 : (op == 17) = false := beq_eq_false_iff_ne.2 h.2.2.1
 have t4 : (op == 256) = false := beq_eq_false_iff_ne.2 h.2.2.2
 clear h
 go_enter Tryz.func86, Tryz.ntmps86
 go_wp2_with (go_at_call 85; (with_reducible refine (HT.out _).mono ?_); rintro e u ⟨rfl, hb⟩)
 first | go_ret2 | go_ret
 exact ⟨rfl, ((Below.refl _ _).alloc (Nat.le_refl _) _).trans ((((Below.refl _ _).alloc (by simp) _).trans (hb.mono (by simp; omega))))⟩
set_option maxRecDepth 100000 in
theorem where_k (sb : Nat) (k : Int) (w : World) (h : w.cell? ⟨sb, 13, none⟩ = some (.slice none 0 0)) : Calls Tryz.prog 103 #[.pointer (some ⟨sb, 0, none⟩), .int .i64 k] w fun e w' => e = .returned (.tuple #[.int .i64 0, .int .i64 0, .bool false]) ∧ w' = w := by
 by_cases hk : k < 0
 ·have d : decide (k < 0) = true := decide_eq_true hk
  clear hk
  go_enter Tryz.func103, Tryz.ntmps103
  go_wp2_with fail
  go_ret3
  exact ⟨rfl, rfl⟩
 ·have d : decide (k < 0) = false := decide_eq_false hk
  clear hk
  go_enter Tryz.func103, Tryz.ntmps103
  go_wp2_with fail
  go_loopw [7] (fun iv wr => iv = .int .i64 0 ∧ wr = w) (fun _ _ => 0)
  case atStart => exact ⟨rfl, rfl⟩
  case round =>
   obtain ⟨rfl, rfl⟩ := hrel
   go_wp2_with fail
   go_ret3
   exact ⟨rfl, rfl⟩
set_option maxRecDepth 100000 in
theorem slot_k (sb : Nat) (k : Int) (w : World) (h : w.cell? ⟨sb, 13, none⟩ = some (.slice none 0 0)) : Calls Tryz.prog 87 #[.pointer (some ⟨sb, 0, none⟩), .int .i64 k] w fun e w' => e = .returned (.tuple #[.int .u64 0, .bool false]) ∧ w' = w := by
 have H := Lib.hid (where_k sb k w h)
 go_enter Tryz.func87, Tryz.ntmps87
 go_wp2_with (go_at_call 103; (with_reducible refine (H.out).mono ?_); rintro e u ⟨rfl, rfl⟩)
 first | go_ret2 | go_ret
 exact ⟨rfl, rfl⟩
end Go.Proofs.YtmfmokblmipagaaGreat
end
