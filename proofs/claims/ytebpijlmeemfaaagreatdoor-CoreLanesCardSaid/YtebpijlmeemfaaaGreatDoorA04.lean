/- A part of the proof that plaittop.CoreLanes returns true. -/
import Derived.Test.YtebpijlmeemfaaaGreatDoorA01
import Derived.Test.YtebpijlmeemfaaaGreatDoorA02
import Derived.Test.YtebpijlmeemfaaaGreatDoorA03
set_option linter.all false
set_option linter.unusedSectionVars false
set_option linter.unusedSimpArgs false
set_option linter.unusedVariables false
section
namespace Go.Proofs.YtebpijlmeemfaaaGreatDoor
open Go.RowKit Pl
theorem putAt_comm (v : Vec) (s l x s' l' x' : Nat) (h : s + l ≤ 128) (h' : s' + l' ≤ 128) (hd : s' + l' ≤ s ∨ s + l ≤ s') : putAt (putAt v s l x) s' l' x' = putAt (putAt v s' l' x') s l x := by
 apply vec_ext
 intro j _
 rw [testBit_putAt _ _ _ _ _ h', testBit_putAt _ _ _ _ _ h, testBit_putAt _ _ _ _ _ h, testBit_putAt _ _ _ _ _ h']
 by_cases h1 : s ≤ j ∧ j < s + l
 ·rw [if_pos h1, if_pos h1, if_neg (by omega)]
 ·rw [if_neg h1, if_neg h1]
theorem join_step (k lo hi : Nat) (hk : k < 8) : putAt (putAt (putAt (putAt 0 0 (8 * k) lo) 64 (8 * k) hi) (8 * k) 8 (lo / 2 ^ (8 * k))) (8 * (8 + k)) 8 (hi / 2 ^ (8 * k)) = putAt (putAt 0 0 (8 * (k + 1)) lo) 64 (8 * (k + 1)) hi := by
 have e := putAt_more 0 0 (8 * k) 8 lo (by omega)
 rw [Nat.zero_add] at e
 rw [putAt_comm _ 64 (8 * k) hi (8 * k) 8 _ (by omega) (by omega) (by omega), e, show 8 * (8 + k) = 64 + 8 * k by omega, putAt_more _ _ _ _ _ (by omega)]
 rfl
set_option maxRecDepth 100000 in
theorem split_k (v : Vec) (w : World) :
  Calls Tryz.prog 5 #[.agg (cells v)] w fun e w' => e = .returned (.agg #[.int .u64 (getN v 64 0 : Nat), .int .u64 (getN v 64 1 : Nat)]) ∧ Below w.heap.size w w' := by
 go_enter Tryz.func5, Tryz.ntmps5
 go_wp2_with fail
 obtain ⟨W, hW⟩ : ∃ W, W = (w.alloc (.cells (cells v) 23)).alloc (.cells #[.int .u64 0, .int .u64 0] 28) := ⟨_, rfl⟩
 have hB : W.heap[w.heap.size]? = some (.cells (cells v) 23 (0, 0)) := hW ▸ heap_alloc2_old _ _ _
 have hO : W.heap[w.heap.size + 1]? = some (.cells #[.int .u64 0, .int .u64 0] 28 (0, 0)) := hW ▸ heap_alloc2_new _ _ _
 have hZ : Below w.heap.size w W := hW ▸ ((Below.refl _ _).alloc (Nat.le_refl _) _).alloc (by simp) _
 rw [← hW]
 clear hW
 have hLt := block_lt hB
 refine region_do (fun u => Below W.heap.size W u) 5 (by kernel_rfl) (by kernel_rfl) (Below.refl _ _).drew ?_
 simp only [List.take_succ_cons, List.take_zero, List.drop_succ_cons, List.drop_zero]
 repeat (first | (refine wpD_pure (v := ?_) rfl (fun u => ?_) ?_; rotate_left; (focus (go_simp; (try with_reducible rfl); done)); simp only [Act.put, zqA, zqB, zqC]) | (refine wpD_call (v := .int .u64 (bitsAt v (8 * 0) (8 * 8) : Nat)) rfl 20 ?_ (fun u => ?_) (fun u hS => ?_) ?_; rotate_left 1; (focus (go_simp; (try with_reducible rfl); done)); (focus (refine (half_any v _ _ 8 _ u (by omega) (by omega) (hS.block _ hLt |>.trans hB)).mono ?_; rintro e u2 ⟨rfl, rfl⟩; exact ⟨rfl, hS⟩)); simp only [Act.put, zqA, zqB, zqC]) | (refine wpD_call (v := .int .u64 (bitsAt v (8 * 8) (8 * 8) : Nat)) rfl 20 ?_ (fun u => ?_) (fun u hS => ?_) ?_; rotate_left 1; (focus (go_simp; (try with_reducible rfl); done)); (focus (refine (half_any v _ _ 8 _ u (by omega) (by omega) (hS.block _ hLt |>.trans hB)).mono ?_; rintro e u2 ⟨rfl, rfl⟩; exact ⟨rfl, hS⟩)); simp only [Act.put, zqA, zqB, zqC]))
 refine wpD_nil fun u hS => ?_
 have hO1 := (hS.block _ (block_lt hO)).trans hO
 have hc0 : u.cell? ⟨w.heap.size + 1, 0, none⟩ = some (.int .u64 0) := by rw [cell_of_row u _ 0 _ _ _ hO1]; rfl
 have hc1 : u.cell? ⟨w.heap.size + 1, 1, none⟩ = some (.int .u64 0) := by rw [cell_of_row u _ 1 _ _ _ hO1]; rfl
 have hf0 := frozen_of_row u (w.heap.size + 1) 0 _ _ hO1
 have hf1 := frozen_of_row u (w.heap.size + 1) 1 _ _ hO1
 go_wp2_with fail
 obtain ⟨fs, hund⟩ : ∃ fs, Tryz.prog.underlying 28 = some (.struct fs) := ⟨_, rfl⟩
 have hE : ((u.setCell ⟨w.heap.size + 1, 0, none⟩ (.int .u64 (bitsAt v 0 64 : Nat))).setCell ⟨w.heap.size + 1, 1, none⟩ (.int .u64 (bitsAt v 64 64 : Nat))).heap[w.heap.size + 1]? = some (.cells #[.int .u64 (bitsAt v 0 64 : Nat), .int .u64 (bitsAt v 64 64 : Nat)] 28 (0, 0)) := by
  rw [heap_setCell_same _ _ _ _ _ _ (heap_setCell_same _ _ _ _ _ _ hO1)]
  rfl
 refine bodyPost_ret (results_cell_row rfl _ _ (w.heap.size + 1) _ _ _ _ rfl hE hund rfl (by kernel_rfl)) rfl ⟨rfl, ?_⟩
 exact hZ.trans (((hS.mono hZ.size).setCell (by simp) _).setCell (by simp) _)
set_option maxRecDepth 100000 in
theorem join_k (lo hi : Nat) (w : World) :
  Calls Tryz.prog 48 #[.agg #[.int .u64 (lo : Nat), .int .u64 (hi : Nat)]] w fun e w' => e = .returned (.agg (cells (setN (setN 0 64 0 lo) 64 1 hi))) ∧ Below w.heap.size w w' := by
 go_enter Tryz.func48, Tryz.ntmps48
 go_wp2_with fail
 rw [← cells_zero]
 obtain ⟨W, hW⟩ : ∃ W, W = ((w.alloc (.cells #[.int .u64 (lo : Nat), .int .u64 (hi : Nat)] 28)).alloc (.cells (cells 0) 23)).alloc (.cells (cells 0) 23) := ⟨_, rfl⟩
 have hB : W.heap[w.heap.size]? = some (.cells #[.int .u64 (lo : Nat), .int .u64 (hi : Nat)] 28 (0, 0)) := hW ▸ heap_alloc3_0 _ _ _ _
 have hR : W.heap[w.heap.size + 1]? = some (.cells (cells 0) 23 (0, 0)) := hW ▸ heap_alloc3_1 _ _ _ _
 have hO : W.heap[w.heap.size + 1 + 1]? = some (.cells (cells 0) 23 (0, 0)) := hW ▸ heap_alloc3_2 _ _ _ _
 have hZ : Below w.heap.size w W := hW ▸ below_alloc3 _ _ _ _
 rw [← hW]
 clear hW
 go_loopw [5] (fun iv wr => ∃ k : Nat, k ≤ 8 ∧ iv = .int .i64 (k : Int) ∧ Sets W (w.heap.size + 1 + 1) (putAt (putAt 0 0 (8 * k) lo) 64 (8 * k) hi) wr) (fun iv _ => 8 - (intOf iv).toNat)
 case atStart => exact ⟨0, Nat.zero_le _, rfl, by rw [putAt_zero _ _ _ (by omega), putAt_zero _ _ _ (by omega)]; exact Sets.refl hO⟩
 case round =>
  obtain ⟨k, hk, rfl, hs⟩ := hrel
  have hB' := (hs.other _ (show w.heap.size ≠ w.heap.size + 1 + 1 by omega)).trans hB
  have hc0 : wr.cell? ⟨w.heap.size, 0, none⟩ = some (.int .u64 (lo : Nat)) := by rw [cell_of_row wr _ 0 _ _ _ hB']; rfl
  have hc1 : wr.cell? ⟨w.heap.size, 1, none⟩ = some (.int .u64 (hi : Nat)) := by rw [cell_of_row wr _ 1 _ _ _ hB']; rfl
  by_cases hlt : k < 8
  ·have hz1 := Lib.hid (show (lo : Int) / 2 ^ (8 * k) % 256 = ((lo / 2 ^ (8 * k) % 256 : Nat) : Int) by simp)
   have hz2 := Lib.hid (show (hi : Int) / 2 ^ (8 * k) % 256 = ((hi / 2 ^ (8 * k) % 256 : Nat) : Int) by simp)
   go_wp2_with (first | ((with_reducible refine store_byte rfl _ _ rfl (w.heap.size + 1 + 1) k _ (lo / 2 ^ (8 * k)) rfl rfl _ hs.this (by omega) hz1.out ?_); intro wp hp; have hBp := (hp.other _ (show w.heap.size ≠ w.heap.size + 1 + 1 by omega)).trans hB'; have hcp : wp.cell? ⟨w.heap.size, 1, none⟩ = some (.int .u64 (hi : Nat)) := (by rw [cell_of_row wp _ 1 _ _ _ hBp]; rfl)) | (with_reducible refine store_byte rfl _ _ rfl (w.heap.size + 1 + 1) (8 + k) _ (hi / 2 ^ (8 * k)) rfl rfl _ hp.this (by omega) hz2.out ?_; intro wq hq))
   go_roundw
   case rel =>
    refine ⟨k + 1, by omega, by go_num, ?_⟩
    have := (hs.trans hp).trans hq
    rw [join_step k lo hi (by omega)] at this
    exact this
   case measure => (simp [intOf] <;> omega)
  ·obtain rfl : k = 8 := by omega
   have hR' : wr.heap[w.heap.size + 1]? = some (.cells (cells 0) 23 (0, 0)) := (hs.other _ (by omega)).trans hR
   go_wp2_with (first | (with_reducible refine load_vec rfl _ rfl _ rfl _ hs.this ?_) | (with_reducible refine store_vec rfl _ _ rfl (w.heap.size + 1) _ rfl rfl _ hR' ?_; intro wq hq))
   refine bodyPost_ret (results_cell_row rfl _ _ (w.heap.size + 1) _ _ _ _ rfl hq.this vunder rfl (vsize _)) rfl ⟨rfl, hZ.trans ((hs.below.mono (by omega)).trans (hq.below.mono (by omega)))⟩
end Go.Proofs.YtebpijlmeemfaaaGreatDoor
end
section
namespace Pl
open Go
def joinV (lo hi : Nat) : Vec := setN (setN 0 64 0 lo) 64 1 hi
def takeV : List Int → List Nat → Option (List Vec)
 | [], [] => some []
 | [], _ :: _ => none
 | t :: ts, hs =>
  if t = 123 then
   match hs with
   | lo :: hi :: r => (takeV ts r).map (joinV lo hi :: ·)
   | _ => none
  else if t = 127 ∨ t = 126 then
   match hs with
   | lo :: r => (takeV ts r).map (joinV (if t = 127 then lo % 4294967296 else lo) 0 :: ·)
   | _ => none
  else none
def vcells (l : List Vec) : List Value := l.flatMap fun v => (cells v).toList
theorem length_vcells (l : List Vec) : (vcells l).length = l.length * 16 := by
 induction l with
 | nil => rfl
 | cons v l ih =>
  unfold vcells at ih ⊢
  rw [List.flatMap_cons, List.length_append, ih]
  have : (cells v).toList.length = 16 := by simp
  rw [this, List.length_cons]
  omega
theorem vcells_append (l : List Vec) (v : Vec) : vcells (l ++ [v]) = vcells l ++ (cells v).toList := by simp [vcells]
end Pl
namespace Go.Proofs.YtebpijlmeemfaaaGreatDoor
open Go.RowKit Pl
structure LView (k : IntKind) (w : World) (v : Value) (l : List Int) : Prop where
 ex : ∃ ad c, v = .slice ad l.length c ∧ l.length ≤ c ∧ (l.length = 0 ∨ ∃ b off, ad = some ⟨b, off, none⟩ ∧ b < w.heap.size ∧ ∀ i z, l[i]? = some z → w.cell? ⟨b, off + i, none⟩ = some (.int k z))
theorem LView.below {k : IntKind} {w w1 : World} {v : Value} {l : List Int} (h : LView k w v l) (hb : Below w.heap.size w w1) : LView k w1 v l := by
 obtain ⟨ad, c, e, hc, h⟩ := h.ex
 refine ⟨ad, c, e, hc, h.imp id fun ⟨b, off, e1, hlt, hx⟩ => ⟨b, off, e1, Nat.lt_of_lt_of_le hlt hb.size, fun i z hi => ?_⟩⟩
 have := hx i z hi
 unfold World.cell? at this ⊢
 rw [hb.block b hlt]
 exact this
theorem LView.of_own {w : World} {B : Nat} {v : Value} {l : List Int} (h : w.ownsRow B 3 1 v l.length (l.map (Value.int .i64))) : LView .i64 w v l := by
 rcases h.2 with ⟨rfl, h0⟩ | ⟨g, cap, cur, rfl, _, hg, hn, _, hs, ht⟩
 ·exact ⟨none, 0, by rw [h0], by omega, .inl h0⟩
 ·refine ⟨_, cap, rfl, hn, .inr ⟨g, 0, rfl, block_lt hg, fun i z hi => ?_⟩⟩
  have hlt := (List.getElem?_eq_some_iff.1 hi).1
  rw [Nat.zero_add, cell_of_row w g i _ _ _ hg]
  have h2 : (cur.toList.take (l.length * 1))[i]? = some (.int .i64 z) := by rw [ht, List.getElem?_map, hi]; rfl
  rw [List.getElem?_take, if_pos (by omega)] at h2
  simpa using h2
theorem LView.cut {k : IntKind} {w : World} {ad : Option Addr} {n c : Nat} {l : List Int} (hh : LView k w (.slice ad n c) l) (j : Nat) (hj : j ≤ l.length) :
  LView k w (.slice (if c = j then ad else ad.map (·.add j)) (n - j) (c - j)) (l.drop j) := by
 obtain ⟨ad', c', e, hc, h⟩ := hh.ex
 injection e with e1 e2 e3
 subst e1 e2 e3
 refine ⟨_, _, by rw [List.length_drop], by rw [List.length_drop]; omega, ?_⟩
 by_cases h0 : l.length = j
 ·left; rw [List.length_drop]; omega
 ·obtain ⟨b, off, rfl, hlt, hx⟩ := h.resolve_left (by omega)
  right
  rw [if_neg (by omega)]
  refine ⟨b, off + j, by simp [Go.Addr.add_mid], hlt, fun i z hi => ?_⟩
  rw [List.getElem?_drop] at hi
  rw [Nat.add_assoc]
  exact hx _ z hi
theorem LView.get {k : IntKind} {w : World} {v : Value} {l : List Int} (h : LView k w v l) (i : Nat) (hi : i < l.length) : ∃ b off c, v = .slice (some ⟨b, off, none⟩) l.length c ∧ l.length ≤ c ∧ b < w.heap.size ∧ ∀ i z, l[i]? = some z → w.cell? ⟨b, off + i, none⟩ = some (.int k z) := by
 obtain ⟨ad, c, e, hc, h⟩ := h.ex
 obtain ⟨b, off, rfl, hlt, hx⟩ := h.resolve_left (by omega)
 exact ⟨b, off, c, e, hc, hlt, hx⟩
theorem vecInfo : (Tryz.prog.info? 23).map (fun i => (i.zero, i.size, i.bytes)) = some (some (.agg (cells 0)), 16, 16) := by kernel_rfl
theorem lay_one (v : Vec) : Array.foldl (fun cs x => cs.setIfInBounds x.2 x.1) (#[.int .u8 0, .int .u8 0, .int .u8 0, .int .u8 0, .int .u8 0, .int .u8 0, .int .u8 0, .int .u8 0, .int .u8 0, .int .u8 0, .int .u8 0, .int .u8 0, .int .u8 0, .int .u8 0, .int .u8 0, .int .u8 0] : Array Value) (cells v).zipIdx 0 16 = cells v := by kernel_rfl
theorem app_vec1 {ops : Array Oper} {rest : List Oper} {o : Oper} {a : Act} {w : World} {Q : Exit → Act → World → Prop} (hgd : o.guard = none) (s x : Operand) (ho : o.op = .call { callee := .builtin .append, args := #[s, x], argTypes := #[89, 89] })
  (base : Nat) (v : Value) (xs : List Vec) (z : Vec) (b c : Nat) (hs : a.eval s = v) (hown : w.ownsRow base 23 16 v xs.length (vcells xs))
  (hx : a.eval x = .slice (some ⟨b, 0, none⟩) 1 c) (hb : w.heap[b]? = some (.cells (cells z) 23 (0, 0)))
  (hsm : xs.length ≤ 1000) (hbase : base ≤ w.heap.size)
  (h : ∀ v' w', w'.ownsRow base 23 16 v' (xs ++ [z]).length (vcells (xs ++ [z])) → w.grownBy w' v.ownBlock → wpList Tryz.prog ops Q rest (a.put o.dst v') w') : wpList Tryz.prog ops Q (o :: rest) a w := by
 refine wpList_plain hgd fun K hK => ?_
 obtain ⟨i, hi, hz0, hz1, hz2⟩ := info_parts vecInfo
 obtain ⟨v', w', hr, h2, h3, _, _⟩ := run_append_own_at (P := Tryz.prog) w base 89 o.type 23 i (.agg (cells 0)) 16 16 Tryz.underlying89 hi hz0 hz1 hz2 (by simp [Value.cells]) (by decide) v xs.length (vcells xs) hown ⟨b, 0, none⟩ 1 c (cells z).toList (by simp)
  (fun j u hj => by
   rw [show (⟨b, 0, none⟩ : Addr).add j = ⟨b, j, none⟩ by first | rfl | (simp [Addr.add]; done) | (simp [Addr.add]; exact fun h => h.symm), cell_of_row w b j _ _ _ hb]
   simpa using hj) (fun u hu => by
   obtain ⟨j, hj, rfl⟩ := List.getElem_of_mem hu
   simp [cells, byteV, Value.oneCell']) (by unfold maxLen; omega) (by omega) hbase
 unfold Oper.wp execOp
 simp only [ho, resolve, invoke, builtin, Sem.run_bind, Sem.run_pure, Result.andThen_ok, List.map_toArray, List.map_cons, List.map_nil, hs, hx, hr]
 exact hK _ _ (h v' w' (by rw [vcells_append, List.length_append]; exact h2) h3)
end Go.Proofs.YtebpijlmeemfaaaGreatDoor
end
section
namespace Go.Proofs.YtebpijlmeemfaaaGreatDoor
open Go.RowKit Pl
theorem size_si : ∀ u, (sizeOf (Tryz.prog.elem 34)).run Tryz.prog u = .ok 1 u := fun u => by kernel_rfl
theorem under_si : Tryz.prog.underlying 34 = some (.slice (Tryz.prog.elem 34)) := by kernel_rfl
theorem size_su : ∀ u, (sizeOf (Tryz.prog.elem 30)).run Tryz.prog u = .ok 1 u := fun u => by kernel_rfl
theorem under_su : Tryz.prog.underlying 30 = some (.slice (Tryz.prog.elem 30)) := by kernel_rfl
theorem and_low (n : Nat) (h : n < 18446744073709551616) : bits BinOp.and IntKind.u64 (n : Int) 4294967295 = ((n % 4294967296 : Nat) : Int) := by
 have := u64_and_nat n 4294967295 h (by decide)
 rw [show ((4294967295 : Nat) : Int) = 4294967295 from rfl] at this
 rw [this, show (4294967295 : Nat) = 2 ^ 32 - 1 from rfl, Nat.and_two_pow_sub_one_eq_mod]
theorem takeV_step (o : Option (List Vec)) (z : Vec) (vs : List Vec) : (o.map (z :: ·)).map (vs ++ ·) = o.map ((vs ++ [z]) ++ ·) := by cases o <;> simp
theorem takeV_two (ts : List Int) (lo hi : Nat) (r : List Nat) : takeV (123 :: ts) (lo :: hi :: r) = (takeV ts r).map (joinV lo hi :: ·) := by simp [takeV]
theorem takeV_i32 (ts : List Int) (lo : Nat) (r : List Nat) : takeV (127 :: ts) (lo :: r) = (takeV ts r).map (joinV (lo % 4294967296) 0 :: ·) := by simp [takeV]
theorem takeV_i64 (ts : List Int) (lo : Nat) (r : List Nat) : takeV (126 :: ts) (lo :: r) = (takeV ts r).map (joinV lo 0 :: ·) := by simp [takeV]
theorem cut_2 {w : World} {b off c lo hi : Nat} {r : List Nat} (h : LView .u64 w (.slice (some ⟨b, off, none⟩) ((lo :: hi :: r).map (Nat.cast : Nat → Int)).length c) ((lo :: hi :: r).map Nat.cast)) :
  LView .u64 w (.slice (if c = 2 then some ⟨b, off, none⟩ else some ⟨b, off + 2, none⟩) r.length (c - 2)) (r.map Nat.cast) := by
 have := h.cut 2 (by simp)
 simpa [Go.Addr.add_mid] using this
theorem cut_1 {w : World} {b off c lo : Nat} {r : List Nat} (h : LView .u64 w (.slice (some ⟨b, off, none⟩) ((lo :: r).map (Nat.cast : Nat → Int)).length c) ((lo :: r).map Nat.cast)) :
  LView .u64 w (.slice (if c = 1 then some ⟨b, off, none⟩ else some ⟨b, off + 1, none⟩) r.length (c - 1)) (r.map Nat.cast) := by
 have := h.cut 1 (by simp)
 simpa [Go.Addr.add_mid] using this
theorem takeV_bad (t : Int) (ts : List Int) (hs : List Nat) (h1 : t ≠ 123) (h2 : t ≠ 127) (h3 : t ≠ 126) : takeV (t :: ts) hs = none := by
 unfold takeV
 rw [if_neg h1, if_neg (by omega)]
theorem isAgg_u64 (w : World) : (isAgg 26).run Tryz.prog w = .ok false w := by kernel_rfl
theorem ownv_below {u u1 : World} {B : Nat} {v : Value} {n : Nat} {xs : List Value} (h : u.ownsRow B 23 16 v n xs) (hb : Below u.heap.size u u1) : u1.ownsRow B 23 16 v n xs :=
 h.kept (grown_of_below (r := none) hb) (by
  cases hv : v.ownBlock with
  | none => exact .inl rfl
  | some k => exact .inr (fun e => by cases e))
set_option maxHeartbeats 4000000 in
set_option maxRecDepth 100000 in
theorem take_k (types : List Int) (tv hv : Value) (hs : List Nat) (w : World) (hT : LView .i64 w tv types) (hH : LView .u64 w hv (hs.map Nat.cast)) (hlt : ∀ x ∈ hs, x < 18446744073709551616) (hty : types.length ≤ 100) (hr : ∀ t ∈ types, 0 ≤ t ∧ t ≤ 255) :
  Calls Tryz.prog 23 #[tv, hv] w fun e w' => Below w.heap.size w w' ∧
   (takeV types hs = none → e = .returned (.tuple #[.slice none 0 0, .int .i64 1])) ∧
   ∀ vs, takeV types hs = some vs → ∃ v, e = .returned (.tuple #[v, .int .i64 0]) ∧ w'.ownsRow w.heap.size 23 16 v vs.length (vcells vs) := by
 obtain ⟨tad, tc, rfl, htc, hT2⟩ := hT.ex
 have HT := Lib.hid hT
 have HH := Lib.hid hH
 have HL := Lib.hid hlt
 have HR := Lib.hid hr
 clear hT hH hlt hr hT2
 go_enter Tryz.func23, Tryz.ntmps23
 go_wp2_with fail
 go_loopw [1, 6, 13] (fun hv1 ov iv wr => ∃ (i : Nat) (hs1 : List Nat) (vs1 : List Vec), i ≤ types.length ∧ iv = .int .i64 i ∧ LView .u64 w hv1 (hs1.map Nat.cast) ∧ Hid (∀ x ∈ hs1, x < 18446744073709551616) ∧ wr.ownsRow w.heap.size 23 16 ov vs1.length (vcells vs1) ∧ vs1.length = i ∧
  Hid (takeV types hs = (takeV (types.drop i) hs1).map (vs1 ++ ·)) ∧ Below w.heap.size w wr) (fun _ _ iv _ => types.length - (intOf iv).toNat)
 case atStart => exact ⟨0, hs, [], Nat.zero_le _, rfl, HH.out, HL, World.ownsRow_nil _ _ _ _, rfl, Lib.hid (by simp), Below.refl _ _⟩
 case round =>
  obtain ⟨wo, hwo⟩ : ∃ x, x = wr := ⟨_, rfl⟩
  subst hwo
  obtain ⟨i, hs1, vs1, hi, rfl, hv2, HL1, hown, hvl, HE, hb⟩ := hrel
  by_cases hlt : i < types.length
  ·obtain ⟨tb, toff, tc2, te, htc3, htb, htx⟩ := (HT.out.below hb).get i hlt
   injection te with te1 te2 te3
   subst te1 te3
   obtain ⟨t, ht⟩ : ∃ t, types[i]? = some t := ⟨_, List.getElem?_eq_getElem hlt⟩
   have hct := htx i t ht
   have htr := HR.out t (List.mem_of_getElem? ht)
   have hdr : types.drop i = t :: types.drop (i + 1) := by
    rw [List.drop_eq_getElem_cons hlt]
    rw [List.getElem?_eq_getElem hlt] at ht
    injection ht with ht
    rw [ht]
   have HD := Lib.hid hdr
   have HTX := Lib.hid ht
   clear htx hdr ht
   obtain ⟨ad, c, rfl, hc, _⟩ := hv2.ex
   obtain ⟨ad', c', he, _, hx⟩ := (hv2.below hb).ex
   injection he with he1 he2 he3
   subst he1 he3
   rw [List.length_map] at hc ⊢
   have HV2 := Lib.hid hv2
   clear hv2
   by_cases h123 : t = 123
   ·subst h123
    match hs1, HL1, HE, HV2, hx, hc with
    | [], HL1, HE, HV2, hx, hc =>
     have hE := HE.out
     rw [HD.out] at hE
     have hE3 : takeV types hs = none := by rw [hE]; simp [takeV]
     have HE2 := Lib.hid hE3
     clear hE hE3 hx
     go_wp2_with (first | (with_reducible refine ix1 rfl 34 size_si under_si _ _ rfl tb toff _ _ rfl _ rfl i rfl hlt ?_) | (with_reducible refine ld1 rfl 3 isAgg_int _ rfl _ rfl _ hct ?_))
     go_ret2
     exact ⟨hb, fun _ => rfl, fun vs h => by rw [HE2.out] at h; cases h⟩
    | [lo], HL1, HE, HV2, hx, hc =>
     have hE := HE.out
     rw [HD.out] at hE
     have hE3 : takeV types hs = none := by rw [hE]; simp [takeV]
     have HE2 := Lib.hid hE3
     clear hE hE3 hx
     go_wp2_with (first | (with_reducible refine ix1 rfl 34 size_si under_si _ _ rfl tb toff _ _ rfl _ rfl i rfl hlt ?_) | (with_reducible refine ld1 rfl 3 isAgg_int _ rfl _ rfl _ hct ?_))
     go_ret2
     exact ⟨hb, fun _ => rfl, fun vs h => by rw [HE2.out] at h; cases h⟩
    | lo :: hi :: r, HL1, HE, HV2, hx, hc =>
     obtain ⟨b, off, rfl, hbl, hxx⟩ := hx.resolve_left (by simp)
     have hx0 : wo.cell? ⟨b, off, none⟩ = some (.int .u64 (lo : Int)) := hxx 0 lo rfl
     have hb0 : lo < 18446744073709551616 := HL1.out lo (by simp)
     have hx1 : wo.cell? ⟨b, off + 1, none⟩ = some (.int .u64 (hi : Int)) := hxx 1 hi rfl
     have hb1 : hi < 18446744073709551616 := HL1.out hi (by simp)
     clear hxx hx
     have hob := hown.lt
     have HOB := Lib.hid hob
     clear hob
     go_wp2_with (first | (with_reducible refine ix1 rfl 34 size_si under_si _ _ rfl tb toff _ _ rfl _ rfl i rfl hlt ?_) | (with_reducible refine ld1 rfl 3 isAgg_int _ rfl _ rfl _ hct ?_) | (go_at_call 48; refine (join_k lo hi _).mono ?_; rintro e u2 ⟨rfl, hb2⟩; have hb3 := below_new hb (Nat.le_refl _) _ hb2; have hwu := below_new (Below.refl wo.heap.size wo) (Nat.le_refl _) _ hb2) | (at_builtin; rw [lay_one]; refine app_vec1 rfl _ _ rfl w.heap.size _ vs1 (setN (setN 0 64 0 lo) 64 1 hi) _ _ rfl ((ownv_below hown hwu).alloc _) rfl (heap_alloc_new _ _) (by omega) (by have := hb3.size; simp; omega) ?_; intro v5 x5 ho5 hg5))
     have hb6 : Below w.heap.size w x5 := (hb3.alloc hb3.size _).trans (grown_below hg5 (by have := hb3.size; simp; omega) (fun g e => (HOB.out g e).1))
     exact ⟨⟨i + 1, r, vs1 ++ [joinV lo hi], by omega, by go_num, cut_2 HV2.out, Lib.hid (fun x hx => HL1.out x (by simp [hx])), ho5, by simp [hvl], Lib.hid (by rw [HE.out, HD.out, takeV_two, takeV_step]), hb6⟩, by simp [intOf]; omega⟩
   ·have q123 : (t == 123) = false := by simp [h123]
    have H123 := Lib.hid h123
    clear h123
    by_cases h127 : t = 127
    ·subst h127
     match hs1, HL1, HE, HV2, hx, hc with
     | [], HL1, HE, HV2, hx, hc =>
      have hE := HE.out
      rw [HD.out] at hE
      have hE3 : takeV types hs = none := by rw [hE]; simp [takeV]
      have HE2 := Lib.hid hE3
      clear hE hE3 hx
      go_wp2_with (first | (with_reducible refine ix1 rfl 34 size_si under_si _ _ rfl tb toff _ _ rfl _ rfl i rfl hlt ?_) | (with_reducible refine ld1 rfl 3 isAgg_int _ rfl _ rfl _ hct ?_))
      go_ret2
      exact ⟨hb, fun _ => rfl, fun vs h => by rw [HE2.out] at h; cases h⟩
     | lo :: r, HL1, HE, HV2, hx, hc =>
      obtain ⟨b, off, rfl, hbl, hxx⟩ := hx.resolve_left (by simp)
      have hx0 : wo.cell? ⟨b, off, none⟩ = some (.int .u64 (lo : Int)) := hxx 0 lo rfl
      have hb0 : lo < 18446744073709551616 := HL1.out lo (by simp)
      clear hxx hx
      obtain ⟨mk, hmk⟩ : ∃ m, m = lo % 4294967296 := ⟨_, rfl⟩
      have hand : bits BinOp.and IntKind.u64 (lo : Int) 4294967295 = (mk : Int) := by rw [hmk]; exact and_low _ hb0
      have HMK := Lib.hid hmk
      clear hmk
      have hob := hown.lt
      have HOB := Lib.hid hob
      clear hob
      go_wp2_with (first | (with_reducible refine ix1 rfl 34 size_si under_si _ _ rfl tb toff _ _ rfl _ rfl i rfl hlt ?_) | (with_reducible refine ld1 rfl 3 isAgg_int _ rfl _ rfl _ hct ?_) | (go_at_call 48; refine (join_k mk 0 _).mono ?_; rintro e u2 ⟨rfl, hb2⟩; have hb3 := below_new hb (Nat.le_refl _) _ hb2; have hwu := below_new (Below.refl wo.heap.size wo) (Nat.le_refl _) _ hb2) | (at_builtin; rw [lay_one]; refine app_vec1 rfl _ _ rfl w.heap.size _ vs1 (setN (setN 0 64 0 mk) 64 1 0) _ _ rfl ((ownv_below hown hwu).alloc _) rfl (heap_alloc_new _ _) (by omega) (by have := hb3.size; simp; omega) ?_; intro v5 x5 ho5 hg5))
      have hb6 : Below w.heap.size w x5 := (hb3.alloc hb3.size _).trans (grown_below hg5 (by have := hb3.size; simp; omega) (fun g e => (HOB.out g e).1))
      exact ⟨⟨i + 1, r, vs1 ++ [joinV mk 0], by omega, by go_num, cut_1 HV2.out, Lib.hid (fun x hx => HL1.out x (by simp [hx])), ho5, by simp [hvl], Lib.hid (by rw [HE.out, HD.out, takeV_i32, ← HMK.out, takeV_step]), hb6⟩, by simp [intOf]; omega⟩
    ·have q127 : (t == 127) = false := by simp [h127]
     have H127 := Lib.hid h127
     clear h127
     by_cases h126 : t = 126
     ·subst h126
      match hs1, HL1, HE, HV2, hx, hc with
      | [], HL1, HE, HV2, hx, hc =>
       have hE := HE.out
       rw [HD.out] at hE
       have hE3 : takeV types hs = none := by rw [hE]; simp [takeV]
       have HE2 := Lib.hid hE3
       clear hE hE3 hx
       go_wp2_with (first | (with_reducible refine ix1 rfl 34 size_si under_si _ _ rfl tb toff _ _ rfl _ rfl i rfl hlt ?_) | (with_reducible refine ld1 rfl 3 isAgg_int _ rfl _ rfl _ hct ?_))
       go_ret2
       exact ⟨hb, fun _ => rfl, fun vs h => by rw [HE2.out] at h; cases h⟩
      | lo :: r, HL1, HE, HV2, hx, hc =>
       obtain ⟨b, off, rfl, hbl, hxx⟩ := hx.resolve_left (by simp)
       have hx0 : wo.cell? ⟨b, off, none⟩ = some (.int .u64 (lo : Int)) := hxx 0 lo rfl
       have hb0 : lo < 18446744073709551616 := HL1.out lo (by simp)
       clear hxx hx
       have hob := hown.lt
       have HOB := Lib.hid hob
       clear hob
       go_wp2_with (first | (with_reducible refine ix1 rfl 34 size_si under_si _ _ rfl tb toff _ _ rfl _ rfl i rfl hlt ?_) | (with_reducible refine ld1 rfl 3 isAgg_int _ rfl _ rfl _ hct ?_) | (go_at_call 48; refine (join_k lo 0 _).mono ?_; rintro e u2 ⟨rfl, hb2⟩; have hb3 := below_new hb (Nat.le_refl _) _ hb2; have hwu := below_new (Below.refl wo.heap.size wo) (Nat.le_refl _) _ hb2) | (at_builtin; rw [lay_one]; refine app_vec1 rfl _ _ rfl w.heap.size _ vs1 (setN (setN 0 64 0 lo) 64 1 0) _ _ rfl ((ownv_below hown hwu).alloc _) rfl (heap_alloc_new _ _) (by omega) (by have := hb3.size; simp; omega) ?_; intro v5 x5 ho5 hg5))
       have hb6 : Below w.heap.size w x5 := (hb3.alloc hb3.size _).trans (grown_below hg5 (by have := hb3.size; simp; omega) (fun g e => (HOB.out g e).1))
       exact ⟨⟨i + 1, r, vs1 ++ [joinV lo 0], by omega, by go_num, cut_1 HV2.out, Lib.hid (fun x hx => HL1.out x (by simp [hx])), ho5, by simp [hvl], Lib.hid (by rw [HE.out, HD.out, takeV_i64, takeV_step]), hb6⟩, by simp [intOf]; omega⟩
     ·have q126 : (t == 126) = false := by simp [h126]
      have hE := HE.out
      rw [HD.out, takeV_bad _ _ _ H123.out H127.out h126] at hE
      have HE2 := Lib.hid hE
      clear hE h126
      go_wp2_with (first | (with_reducible refine ix1 rfl 34 size_si under_si _ _ rfl tb toff _ _ rfl _ rfl i rfl hlt ?_) | (with_reducible refine ld1 rfl 3 isAgg_int _ rfl _ rfl _ hct ?_))
      go_ret2
      exact ⟨hb, fun _ => rfl, fun vs h => by rw [HE2.out] at h; cases h⟩
  ·obtain rfl : i = types.length := by omega
   have hd0 : takeV (types.drop types.length) hs1 = takeV [] hs1 := by rw [List.drop_length]
   match hs1, HE, hv2 with
   | [], HE, hv2 =>
    obtain ⟨ad, c, rfl, hc, hx⟩ := hv2.ex
    clear hx hc hv2
    have hE : takeV types hs = some vs1 := by rw [HE.out, hd0]; simp [takeV]
    have HE2 := Lib.hid hE
    clear hE hd0
    go_wp2_with fail
    go_ret2
    exact ⟨hb, (fun h => by rw [HE2.out] at h; cases h), fun vs h => by rw [HE2.out] at h; injection h with h; subst h; exact ⟨_, rfl, hown⟩⟩
   | x :: r, HE, hv2 =>
    obtain ⟨ad, c, rfl, hc, hx⟩ := hv2.ex
    clear hx hc hv2
    have hE : takeV types hs = none := by rw [HE.out, hd0]; simp [takeV]
    have HE2 := Lib.hid hE
    clear hE hd0
    go_wp2_with fail
    go_ret2
    exact ⟨hb, fun _ => rfl, fun vs h => by rw [HE2.out] at h; cases h⟩
end Go.Proofs.YtebpijlmeemfaaaGreatDoor
end
