/-
  Texts VcDl, VcRf, VcRt.
-/
import Derived.Test.YtmfmokblmipagaaGreatR04
import Derived.Test.YtmfmokblmipagaaGreatR05
set_option linter.unusedSimpArgs false
set_option linter.unusedVariables false
set_option maxHeartbeats 8000000
open Pl
section
namespace Go.Proofs.YtmfmokblmipagaaGreat
open Go.RowKit Pl
theorem run_ldc {o : Oper} {a : Act} {w : World} (T : TypeId) (ha : ∀ w, (isAgg T).run Tryz.prog w = .ok false w) (x : Operand) (ho : o.op = .load T x) (g j : Nat) (hx : a.eval x = .pointer (some ⟨g, j, none⟩)) (z : Value) (h : w.cell? ⟨g, j, none⟩ = some z) :
 (execOp a.eval o).run Tryz.prog w = .ok (.value z) w := by
 have ha := ha w
 unfold execOp
 simp only [ho, hx, Instr.loadAt, Instr.sureAddr, Sem.run_bind, Sem.run_pure, Result.andThen_ok]
 simp [loadVar, Sem.run_bind, ha, h, go_sem]
theorem all5 (a b : Int) (p : Bool) {s t : Value} (hs : s.oneCell' = true) (ht : t.oneCell' = true) : (#[.int .i64 a, .int .i64 b, .bool p, s, t] : Array Value).all (·.oneCell') = true := by
 rw [← Array.all_toList]
 show ([Value.int .i64 a, .int .i64 b, .bool p, s, t].all (·.oneCell')) = true
 rw [List.all_cons, List.all_cons, List.all_cons, List.all_cons, List.all_cons, hs, ht]
 rfl
theorem cell_b {w u : World} {g o : Nat} {v : Value} (h : w.cell? ⟨g, o, none⟩ = some v) (hlt : g < w.heap.size) (hb : Below w.heap.size w u) : u.cell? ⟨g, o, none⟩ = some v := by
 unfold World.cell? at h ⊢
 rw [hb.block g hlt]
 exact h
end Go.Proofs.YtmfmokblmipagaaGreat
namespace Pl
open Go
open Go.Proofs.YtmfmokblmipagaaGreat
def inRow (op : Int) (r : Row) : Bool := decide (r.fr ≤ op ∧ op ≤ r.to)
def vrowAt (op : Int) : Option Row := (rowsOf op).find? (inRow op)
def tyIn (r : Row) : List Int := (sigOf r.sig).2.1
def tyOut (r : Row) : List Int := (sigOf r.sig).2.2
theorem find_first {α : Type} (P : α → Bool) : ∀ (l : List α) (i : Nat) (r : α), l[i]? = some r → P r = true → (∀ j, j < i → ∀ q, l[j]? = some q → P q = false) → l.find? P = some r
 | [], i, r, h, _, _ => by cases h
 | x :: l, 0, r, h, hp, _ => by injection h with h; subst h; rw [List.find?_cons, hp]
 | x :: l, i + 1, r, h, hp, hn => by
   have := hn 0 (Nat.succ_pos _) x rfl
   rw [List.find?_cons, this]
   exact find_first P l i r h hp (fun j hj q hq => hn (j + 1) (Nat.succ_lt_succ hj) q hq)
theorem inRow_t {op : Int} {r : Row} : inRow op r = true ↔ r.fr ≤ op ∧ op ≤ r.to := by simp [inRow]
theorem inRow_f {op : Int} {r : Row} : inRow op r = false ↔ ¬ (r.fr ≤ op ∧ op ≤ r.to) := by simp [inRow]
end Pl
end
section
namespace Go.Proofs.YtmfmokblmipagaaGreat
open Go.RowKit Pl
end Go.Proofs.YtmfmokblmipagaaGreat
namespace Pl
open Go
def dig (c : UInt8) : Nat := if 97 ≤ c.toNat then c.toNat - 97 + 10 else (c.toNat + 208) % 256
def numOf (base : Nat) (l : List UInt8) : Nat := l.foldl (fun n c => n * base + dig c) 0
theorem dig_lt (c : UInt8) : dig c < 256 := by
 have := c.toNat_lt
 unfold dig
 split <;> omega
theorem numOf_snoc (base : Nat) (l : List UInt8) (c : UInt8) : numOf base (l ++ [c]) = numOf base l * base + dig c := by simp [numOf, List.foldl_append]
theorem numOf_step (base : Nat) (l : List UInt8) (i : Nat) (c : UInt8) (h : l[i]? = some c) : numOf base (l.take (i + 1)) = numOf base (l.take i) * base + dig c := by
 rw [List.take_add_one, h]
 exact numOf_snoc base _ c
theorem fold_lt (base : Nat) (hb : base ≤ 16) : ∀ (l : List UInt8) (n0 k : Nat), n0 < 272 ^ k → l.foldl (fun n c => n * base + dig c) n0 < 272 ^ (k + l.length)
 | [], n0, k, h => h
 | c :: l, n0, k, h => by
   rw [List.foldl_cons, List.length_cons, show k + (l.length + 1) = (k + 1) + l.length by omega]
   refine fold_lt base hb l _ (k + 1) ?_
   have h2 := dig_lt c
   have h3 : n0 * base ≤ n0 * 16 := Nat.mul_le_mul_left _ hb
   rw [Nat.pow_succ]
   omega
theorem numOf_lt (base : Nat) (hb : base ≤ 16) (l : List UInt8) (n : Nat) (h : l.length ≤ n) : numOf base l < 272 ^ n := by
 have h1 := fold_lt base hb l 0 0 (by decide)
 rw [Nat.zero_add] at h1
 exact Nat.lt_of_lt_of_le h1 (Nat.pow_le_pow_right (by decide) h)
def tyC (c : UInt8) : List Int := if c = 105 then [127] else if c = 108 then [126] else if c = 118 then [123] else []
def tyS (l : List UInt8) : List Int := l.flatMap tyC
theorem tyS_step (l : List UInt8) (i : Nat) (c : UInt8) (h : l[i]? = some c) : tyS (l.take (i + 1)) = tyS (l.take i) ++ tyC c := by
 rw [List.take_add_one, h]
 simp [tyS]
theorem tyC_len (c : UInt8) : (tyC c).length ≤ 1 := by unfold tyC; split; · simp
                                                       ·split; · simp
                                                        ·split <;> simp
theorem tyS_len (l : List UInt8) : (tyS l).length ≤ l.length := by
 induction l with
 | nil => simp [tyS]
 | cons c l ih =>
   have := tyC_len c
   unfold tyS at ih ⊢
   rw [List.flatMap_cons, List.length_append, List.length_cons]
   omega
def wAt (s : List UInt8) : Nat → List (List UInt8) × Nat
 | 0 => ([], 0)
 | i + 1 => if i = s.length ∨ s[i]? = some 32 then ((wAt s i).1 ++ [(s.take i).drop (wAt s i).2], i + 1) else wAt s i
def wordsOf (s : List UInt8) : List (List UInt8) := (wAt s (s.length + 1)).1
theorem wAt_le (s : List UInt8) (i : Nat) : (wAt s i).2 ≤ i ∧ (wAt s i).1.length ≤ i := by
 induction i with
 | zero => exact ⟨Nat.le_refl _, Nat.le_refl _⟩
 | succ i ih =>
   unfold wAt
   split
   ·exact ⟨Nat.le_refl _, by simp; omega⟩
   ·omega
end Pl
namespace Go.Proofs.YtmfmokblmipagaaGreat
open Go.RowKit Pl
theorem num_hi (x : Nat) (c : UInt8) (hx : x < 10000000000000000) (h : (97 : Int) ≤ (c.toNat : Int)) : wrap64 (wrap64 (x : Int) + (((c.toNat : Int) - 97) % 256 + 10)) = ((x + dig c : Nat) : Int) := by
 have := c.toNat_lt
 unfold dig
 rw [if_pos (by omega)]
 generalize c.toNat = d at *
 unfold wrap64
 omega
theorem num_lo (x : Nat) (c : UInt8) (hx : x < 10000000000000000) (h : ¬ (97 : Int) ≤ (c.toNat : Int)) : wrap64 (wrap64 (x : Int) + ((c.toNat : Int) - 48) % 256) = ((x + dig c : Nat) : Int) := by
 have := c.toNat_lt
 unfold dig
 rw [if_neg (by omega)]
 generalize c.toNat = d at *
 unfold wrap64
 omega
theorem ne_byte {c d : UInt8} (h : c ≠ d) : ((c.toNat : Int) == (d.toNat : Int)) = false := by
 rw [beq_eq_false_iff_ne]
 intro e
 exact h (UInt8.toNat_inj.1 (by omega))
set_option maxRecDepth 100000 in
theorem number_s (l : List UInt8) (base : Nat) (w : World) (hb : base ≤ 16) (hl : l.length ≤ 6) : Calls Tryz.prog 47 #[.string ⟨l.toArray⟩, .int .i64 base] w fun e w' => e = .returned (.int .i64 (numOf base l : Nat)) ∧ Below w.heap.size w w' := by
 obtain ⟨r, hr⟩ : ∃ r, r = numOf base l := ⟨_, rfl⟩
 rw [← hr]
 have HR := Lib.hid hr
 clear hr
 go_enter Tryz.func47, Tryz.ntmps47
 go_wp2_with fail
 go_loopw [5, 6] (fun nv iv wr => ∃ (i m : Nat), i ≤ l.length ∧ iv = .int .i64 i ∧ nv = .int .i64 m ∧ Hid (m = numOf base (l.take i)) ∧ m < 404961208827904 ∧ Below w.heap.size w wr) (fun _ iv _ => l.length - (intOf iv).toNat)
 case atStart => exact ⟨0, 0, Nat.zero_le _, rfl, rfl, Lib.hid rfl, by decide, Below.refl _ _⟩
 case round =>
  obtain ⟨i, m, hi, rfl, rfl, HM, hm, hbl⟩ := hrel
  have hls : (ByteArray.mk l.toArray).size = l.length := rfl
  by_cases hlt : i < l.length
  ·obtain ⟨c, hc⟩ : ∃ c, l[i]? = some c := ⟨_, List.getElem?_eq_getElem hlt⟩
   have hstep := numOf_step base l i c hc
   rw [← HM.out] at hstep
   have hlt6 : numOf base (l.take (i + 1)) < 404961208827904 := numOf_lt base hb (l.take (i + 1)) 6 (by rw [List.length_take]; omega)
   have hget : ∀ h, (ByteArray.mk l.toArray)[i]'h = c := fun h => by
    have := (List.getElem?_eq_some_iff.1 hc).2
    exact this
   have hmb : m * base ≤ m * 16 := Nat.mul_le_mul_left _ hb
   have HS := Lib.hid hstep
   have HL := Lib.hid hlt6
   have HG := Lib.hid hget
   have HB := Lib.hid hmb
   clear hstep hlt6 hget hmb hc
   go_wp2_with fail
   all_goals
    refine ⟨⟨i + 1, m * base + dig c, by omega, by go_num, ?_, Lib.hid HS.out.symm, by rw [← HS.out]; exact HL.out, hbl⟩, by (simp [intOf] <;> omega)⟩
    have hb1 := HB.out
    have hcc := c.toNat_lt
    rw [HG.out] at *
    rw [← Int.natCast_mul]
    generalize m * base = x at hb1 ⊢
    first | exact congrArg (Value.int .i64) (num_hi x c (by omega) (by omega)) | exact congrArg (Value.int .i64) (num_lo x c (by omega) (by omega))
  ·obtain rfl : i = l.length := by omega
   obtain rfl : m = r := by rw [HM.out, List.take_length, HR.out]
   clear HM HR
   go_wp2_with fail
   go_ret
   exact ⟨rfl, hbl⟩
set_option maxRecDepth 100000 in
theorem types_s (l : List UInt8) (w : World) (hl : l.length ≤ 100) : Calls Tryz.prog 48 #[.string ⟨l.toArray⟩] w fun e w' => ∃ v, e = .returned v ∧ w'.ownsRow w.heap.size 3 1 v (tyS l).length ((tyS l).map (Value.int .i64)) ∧ Below w.heap.size w w' := by
 obtain ⟨i0, hi0, hz0, hz1, hz2⟩ := info_parts intInfo
 have hls : (ByteArray.mk l.toArray).size = l.length := rfl
 go_enter Tryz.func48, Tryz.ntmps48
 go_wp2_with fail
 go_loopw [3, 4] (fun ov iv wr => ∃ i : Nat, i ≤ l.length ∧ iv = .int .i64 i ∧ wr.ownsRow w.heap.size 3 1 ov (tyS (l.take i)).length ((tyS (l.take i)).map (Value.int .i64)) ∧ Below w.heap.size w wr) (fun _ iv _ => l.length - (intOf iv).toNat)
 case atStart => exact ⟨0, Nat.zero_le _, rfl, World.ownsRow_nil _ _ _ _, Below.refl _ _⟩
 case round =>
  obtain ⟨wo, hwo⟩ : ∃ x, x = wr := ⟨_, rfl⟩
  subst hwo
  obtain ⟨i, hi, rfl, hown, hbl⟩ := hrel
  by_cases hlt : i < l.length
  ·obtain ⟨c, hc⟩ : ∃ c, l[i]? = some c := ⟨_, List.getElem?_eq_getElem hlt⟩
   have hstep := tyS_step l i c hc
   have hget : ∀ h, (ByteArray.mk l.toArray)[i]'h = c := fun h => by
    have := (List.getElem?_eq_some_iff.1 hc).2
    exact this
   have hln : (tyS (l.take i)).length ≤ 1000 := by have h1 := tyS_len (l.take i); rw [List.length_take] at h1; omega
   have HOB := Lib.hid hown.lt
   have HLN := Lib.hid hln
   clear hln hc
   skip
   by_cases h1 : c = 105
   ·subst h1
    have HS : Hid (tyS (l.take i) ++ [127] = tyS (l.take (i + 1))) := Lib.hid hstep.symm
    clear hstep
    as_aux_lemma =>
    go_wp2_with (first | (at_builtin; refine app_int1 rfl _ _ rfl i0 hi0 hz0 hz1 hz2 w.heap.size _ (tyS (l.take i)) 127 _ _ rfl (hown.alloc _) rfl (heap_alloc_new _ _) HLN.out (by have := hbl.size; simp; omega) ?_; intro v5 x5 ho5 hg5 _ _ _))
    exact ⟨⟨i + 1, by omega, by go_num, HS.out ▸ ho5, (hbl.alloc hbl.size _).trans (grown_below hg5 (by have := hbl.size; simp; omega) (fun g e => (HOB.out g e).1))⟩, by (simp [intOf] <;> omega)⟩
   ·by_cases h2 : c = 108
    ·subst h2
     have HS : Hid (tyS (l.take i) ++ [126] = tyS (l.take (i + 1))) := Lib.hid hstep.symm
     clear hstep h1
     as_aux_lemma =>
     go_wp2_with (first | (at_builtin; refine app_int1 rfl _ _ rfl i0 hi0 hz0 hz1 hz2 w.heap.size _ (tyS (l.take i)) 126 _ _ rfl (hown.alloc _) rfl (heap_alloc_new _ _) HLN.out (by have := hbl.size; simp; omega) ?_; intro v5 x5 ho5 hg5 _ _ _))
     exact ⟨⟨i + 1, by omega, by go_num, HS.out ▸ ho5, (hbl.alloc hbl.size _).trans (grown_below hg5 (by have := hbl.size; simp; omega) (fun g e => (HOB.out g e).1))⟩, by (simp [intOf] <;> omega)⟩
    ·by_cases h3 : c = 118
     ·subst h3
      have HS : Hid (tyS (l.take i) ++ [123] = tyS (l.take (i + 1))) := Lib.hid hstep.symm
      clear hstep h1 h2
      as_aux_lemma =>
      go_wp2_with (first | (at_builtin; refine app_int1 rfl _ _ rfl i0 hi0 hz0 hz1 hz2 w.heap.size _ (tyS (l.take i)) 123 _ _ rfl (hown.alloc _) rfl (heap_alloc_new _ _) HLN.out (by have := hbl.size; simp; omega) ?_; intro v5 x5 ho5 hg5 _ _ _))
      exact ⟨⟨i + 1, by omega, by go_num, HS.out ▸ ho5, (hbl.alloc hbl.size _).trans (grown_below hg5 (by have := hbl.size; simp; omega) (fun g e => (HOB.out g e).1))⟩, by (simp [intOf] <;> omega)⟩
     ·have HS : Hid (tyS (l.take i) = tyS (l.take (i + 1))) := Lib.hid (by rw [hstep]; unfold tyC; rw [if_neg h1, if_neg h2, if_neg h3, List.append_nil])
      have k1 : ((c.toNat : Int) == 105) = false := ne_byte h1
      have k2 : ((c.toNat : Int) == 108) = false := ne_byte h2
      have k3 : ((c.toNat : Int) == 118) = false := ne_byte h3
      clear hstep h1 h2 h3
      as_aux_lemma =>
      go_wp2_with fail
      exact ⟨⟨i + 1, by omega, by go_num, HS.out ▸ hown, hbl⟩, by (simp [intOf] <;> omega)⟩
  ·obtain rfl : i = l.length := by omega
   rw [List.take_length] at hown
   go_wp2_with fail
   go_ret
   exact ⟨_, rfl, hown, hbl⟩
def sV (x : List UInt8) : Value := .string ⟨x.toArray⟩
theorem cut_str (l : List UInt8) (f i : Nat) : Value.string ((ByteArray.mk l.toArray).extract f i) = sV ((l.take i).drop f) := by
 unfold sV
 refine congrArg Value.string (ByteArray.ext ?_)
 rw [ByteArray.data_extract, List.extract_toArray, List.drop_take]
theorem strInfo : (Tryz.prog.info? 9).map (fun i => (i.zero, i.size, i.bytes)) = some (some (sV []), 1, 16) := by kernel_rfl
theorem app_str {ops : Array Oper} {rest : List Oper} {o : Oper} {a : Act} {w : World} {Q : Exit → Act → World → Prop} (hgd : o.guard = none) (s x : Operand) (ho : o.op = .call { callee := .builtin .append, args := #[s, x], argTypes := #[106, 106] })
 (base : Nat) (v : Value) (xs : List (List UInt8)) (z : List UInt8) (zv : Value) (hzv : zv = sV z) (hs : a.eval s = v) (hown : w.ownsRow base 9 1 v xs.length (xs.map sV)) (b c : Nat)
 (hx : a.eval x = .slice (some ⟨b, 0, none⟩) 1 c) (hb : w.heap[b]? = some (.cells #[zv] 9 (0, 0))) (hsm : xs.length ≤ 1000) (hbase : base ≤ w.heap.size)
 (h : ∀ v' w', w'.ownsRow base 9 1 v' (xs ++ [z]).length ((xs ++ [z]).map sV) → w.grownBy w' v.ownBlock → wpList Tryz.prog ops Q rest (a.put o.dst v') w') : wpList Tryz.prog ops Q (o :: rest) a w := by
 subst hzv
 refine wpList_plain hgd fun K hK => ?_
 obtain ⟨i, hi, hz0, hz1, hz2⟩ := info_parts strInfo
 obtain ⟨v', w', hr, h2, h3, _, _⟩ := run_append_own_at (P := Tryz.prog) w base 106 o.type 9 i (sV []) 1 16 Tryz.underlying106 hi hz0 hz1 hz2 rfl (by decide) v xs.length (xs.map sV) hown ⟨b, 0, none⟩ 1 c [sV z] rfl
  (fun j u hj => by
   rw [Go.Addr.add_mid, Nat.zero_add, cell_of_row w b j _ _ _ hb]
   simpa using hj) (fun u hu => by
   obtain rfl : u = sV z := by simpa using hu
   rfl) (by unfold maxLen; omega) (by omega) hbase
 unfold Oper.wp execOp
 simp only [ho, resolve, invoke, builtin, Sem.run_bind, Sem.run_pure, Result.andThen_ok, List.map_toArray, List.map_cons, List.map_nil, hs, hx, hr]
 exact hK _ _ (h v' w' (by rw [List.map_append, List.length_append]; exact h2) h3)
theorem owns_str {w : World} {B : Nat} {v : Value} {l : List (List UInt8)} (h : w.ownsRow B 9 1 v l.length (l.map sV)) : ∀ k, v.ownBlock = some k → B ≤ k ∧ k < w.heap.size := fun k e => by
 rcases h.2 with ⟨rfl, _⟩ | ⟨g, cap, cur, rfl, hB, hg, _⟩
 ·cases e
 ·injection e with e; subst e; exact ⟨hB, block_lt hg⟩
set_option maxRecDepth 100000 in
theorem words_s (l : List UInt8) (w : World) (hl : l.length ≤ 100) : Calls Tryz.prog 46 #[.string ⟨l.toArray⟩] w fun e w' => ∃ v, e = .returned v ∧ w'.ownsRow w.heap.size 9 1 v (wordsOf l).length ((wordsOf l).map sV) ∧ Below w.heap.size w w' := by
 have hls : (ByteArray.mk l.toArray).size = l.length := rfl
 go_enter Tryz.func46, Tryz.ntmps46
 go_wp2_with fail
 go_loopw [3, 4, 5] (fun ov fv iv wr => ∃ (i f : Nat) (xs : List (List UInt8)), i ≤ l.length + 1 ∧ iv = .int .i64 i ∧ fv = .int .i64 f ∧ f ≤ i ∧ Hid (wAt l i = (xs, f)) ∧ wr.ownsRow w.heap.size 9 1 ov xs.length (xs.map sV) ∧ Below w.heap.size w wr) (fun _ _ iv _ => l.length + 1 - (intOf iv).toNat)
 case atStart => exact ⟨0, 0, [], Nat.zero_le _, rfl, rfl, Nat.le_refl _, Lib.hid rfl, World.ownsRow_nil _ _ _ _, Below.refl _ _⟩
 case round =>
  obtain ⟨wo, hwo⟩ : ∃ x, x = wr := ⟨_, rfl⟩
  subst hwo
  obtain ⟨i, f, xs, hi, rfl, rfl, hf, HW, hown, hbl⟩ := hrel
  have hxl : xs.length ≤ 1000 := by
   have := (wAt_le l i).2
   rw [HW.out] at this
   replace this : xs.length ≤ i := this
   omega
  have HXL := Lib.hid hxl
  have HOB := Lib.hid (owns_str hown)
  clear hxl
  by_cases hlt : i ≤ l.length
  ·by_cases hc : i = l.length ∨ l[i]? = some 32
   ·have HS : Hid (wAt l (i + 1) = (xs ++ [(l.take i).drop f], i + 1)) := Lib.hid (by rw [wAt, if_pos hc, HW.out])
    by_cases he : i = l.length
    ·subst he
     skip
     as_aux_lemma =>
     go_wp2_with (first | (at_builtin; refine app_str rfl _ _ rfl w.heap.size _ xs ((l.take _).drop f) _ (cut_str l f _) rfl (hown.alloc _) _ _ rfl (heap_alloc_new _ _) HXL.out (by have := hbl.size; simp; omega) ?_; intro v5 x5 ho5 hg5))
     skip
     exact ⟨⟨l.length + 1, l.length + 1, _, by omega, by go_num, by go_num, Nat.le_refl _, HS, ho5, (hbl.alloc hbl.size _).trans (grown_below hg5 (by have := hbl.size; simp; omega) (fun g e => (HOB.out g e).1))⟩, by (simp [intOf] <;> omega)⟩
    ·have hc2 := hc.resolve_left he
     have hget : ∀ h, (ByteArray.mk l.toArray)[i]'h = 32 := fun h => (List.getElem?_eq_some_iff.1 hc2).2
     have hlt2 : i < l.length := by omega
     clear hc hc2
     as_aux_lemma =>
     go_wp2_with (first | (at_builtin; refine app_str rfl _ _ rfl w.heap.size _ xs ((l.take _).drop f) _ (cut_str l f _) rfl (hown.alloc _) _ _ rfl (heap_alloc_new _ _) HXL.out (by have := hbl.size; simp; omega) ?_; intro v5 x5 ho5 hg5))
     exact ⟨⟨i + 1, i + 1, _, by omega, by go_num, by go_num, Nat.le_refl _, HS, ho5, (hbl.alloc hbl.size _).trans (grown_below hg5 (by have := hbl.size; simp; omega) (fun g e => (HOB.out g e).1))⟩, by (simp [intOf] <;> omega)⟩
   ·have HS : Hid (wAt l (i + 1) = (xs, f)) := Lib.hid (by rw [wAt, if_neg hc, HW.out])
    have hlt2 : i < l.length := by
     rcases Nat.lt_or_ge i l.length with h | h
     ·exact h
     ·exact absurd (.inl (by omega)) hc
    obtain ⟨c, hcc⟩ : ∃ c, l[i]? = some c := ⟨_, List.getElem?_eq_getElem hlt2⟩
    have hget : ∀ h, (ByteArray.mk l.toArray)[i]'h = c := fun h => (List.getElem?_eq_some_iff.1 hcc).2
    have k1 : ((c.toNat : Int) == 32) = false := ne_byte (d := 32) (fun e => hc (.inr (by rw [hcc, e])))
    clear hc hcc
    as_aux_lemma =>
    go_wp2_with fail
    exact ⟨⟨i + 1, f, xs, by omega, by go_num, rfl, by omega, HS, hown, hbl⟩, by (simp [intOf] <;> omega)⟩
  ·obtain rfl : i = l.length + 1 := by omega
   have hE : wordsOf l = xs := by unfold wordsOf; rw [HW.out]
   rw [← hE] at hown
   clear hE
   go_wp2_with fail
   go_ret
   exact ⟨_, rfl, hown, hbl⟩
end Go.Proofs.YtmfmokblmipagaaGreat
end
section
namespace Go.Proofs.YtmfmokblmipagaaGreat
open Go.RowKit Pl
end Go.Proofs.YtmfmokblmipagaaGreat
namespace Pl
open Go
open Go.Proofs.YtmfmokblmipagaaGreat
def rowsT : List (List UInt8) := [
 [48, 32, 48, 32, 49, 32, 48, 32, 45],
 [49, 32, 49, 32, 49, 32, 48, 32, 58],
 [50, 32, 52, 32, 50, 32, 48, 32, 45],
 [53, 32, 53, 32, 49, 32, 48, 32, 45],
 [98, 32, 98, 32, 49, 32, 48, 32, 45],
 [99, 32, 100, 32, 51, 32, 48, 32, 45],
 [101, 32, 101, 32, 52, 32, 48, 32, 45],
 [102, 32, 102, 32, 49, 32, 48, 32, 45],
 [49, 48, 32, 49, 48, 32, 53, 32, 48, 32, 45],
 [49, 49, 32, 49, 49, 32, 54, 32, 48, 32, 45],
 [49, 97, 32, 49, 98, 32, 49, 32, 48, 32, 45],
 [50, 48, 32, 50, 52, 32, 53, 32, 48, 32, 45],
 [50, 56, 32, 50, 56, 32, 55, 32, 50, 32, 105, 58, 105],
 [50, 57, 32, 50, 57, 32, 55, 32, 51, 32, 105, 58, 108],
 [50, 99, 32, 50, 100, 32, 55, 32, 48, 32, 105, 58, 105],
 [50, 101, 32, 50, 102, 32, 55, 32, 49, 32, 105, 58, 105],
 [51, 48, 32, 51, 49, 32, 55, 32, 48, 32, 105, 58, 108],
 [51, 50, 32, 51, 51, 32, 55, 32, 49, 32, 105, 58, 108],
 [51, 52, 32, 51, 53, 32, 55, 32, 50, 32, 105, 58, 108],
 [51, 54, 32, 51, 54, 32, 55, 32, 50, 32, 105, 105, 58],
 [51, 55, 32, 51, 55, 32, 55, 32, 51, 32, 105, 108, 58],
 [51, 97, 32, 51, 97, 32, 55, 32, 48, 32, 105, 105, 58],
 [51, 98, 32, 51, 98, 32, 55, 32, 49, 32, 105, 105, 58],
 [51, 99, 32, 51, 99, 32, 55, 32, 48, 32, 105, 108, 58],
 [51, 100, 32, 51, 100, 32, 55, 32, 49, 32, 105, 108, 58],
 [51, 101, 32, 51, 101, 32, 55, 32, 50, 32, 105, 108, 58],
 [51, 102, 32, 51, 102, 32, 49, 52, 32, 48, 32, 58, 105],
 [52, 48, 32, 52, 48, 32, 49, 52, 32, 48, 32, 105, 58, 105],
 [52, 49, 32, 52, 49, 32, 57, 32, 48, 32, 58, 105],
 [52, 50, 32, 52, 50, 32, 49, 48, 32, 48, 32, 58, 108],
 [52, 53, 32, 52, 53, 32, 49, 32, 48, 32, 105, 58, 105],
 [52, 54, 32, 52, 102, 32, 49, 32, 48, 32, 105, 105, 58, 105],
 [53, 48, 32, 53, 48, 32, 49, 32, 48, 32, 108, 58, 105],
 [53, 49, 32, 53, 97, 32, 49, 32, 48, 32, 108, 108, 58, 105],
 [54, 55, 32, 54, 57, 32, 49, 32, 48, 32, 105, 58, 105],
 [54, 97, 32, 55, 56, 32, 49, 32, 48, 32, 105, 105, 58, 105],
 [55, 57, 32, 55, 98, 32, 49, 32, 48, 32, 108, 58, 108],
 [55, 99, 32, 56, 97, 32, 49, 32, 48, 32, 108, 108, 58, 108],
 [97, 55, 32, 97, 55, 32, 49, 32, 48, 32, 108, 58, 105],
 [97, 99, 32, 97, 100, 32, 49, 32, 48, 32, 105, 58, 108],
 [99, 48, 32, 99, 49, 32, 49, 32, 48, 32, 105, 58, 105],
 [99, 50, 32, 99, 52, 32, 49, 32, 48, 32, 108, 58, 108],
 [102, 100, 48, 48, 32, 102, 100, 48, 48, 32, 55, 32, 52, 32, 105, 58, 118],
 [102, 100, 48, 49, 32, 102, 100, 48, 54, 32, 55, 32, 51, 32, 105, 58, 118],
 [102, 100, 48, 55, 32, 102, 100, 48, 55, 32, 55, 32, 48, 32, 105, 58, 118],
 [102, 100, 48, 56, 32, 102, 100, 48, 56, 32, 55, 32, 49, 32, 105, 58, 118],
 [102, 100, 48, 57, 32, 102, 100, 48, 57, 32, 55, 32, 50, 32, 105, 58, 118],
 [102, 100, 48, 97, 32, 102, 100, 48, 97, 32, 55, 32, 51, 32, 105, 58, 118],
 [102, 100, 48, 98, 32, 102, 100, 48, 98, 32, 55, 32, 52, 32, 105, 118, 58],
 [102, 100, 48, 99, 32, 102, 100, 48, 99, 32, 49, 49, 32, 48, 32, 58, 118],
 [102, 100, 48, 100, 32, 102, 100, 48, 100, 32, 49, 50, 32, 48, 32, 118, 118, 58, 118],
 [102, 100, 48, 101, 32, 102, 100, 48, 101, 32, 49, 32, 48, 32, 118, 118, 58, 118],
 [102, 100, 48, 102, 32, 102, 100, 49, 49, 32, 49, 32, 48, 32, 105, 58, 118],
 [102, 100, 49, 50, 32, 102, 100, 49, 50, 32, 49, 32, 48, 32, 108, 58, 118],
 [102, 100, 49, 53, 32, 102, 100, 49, 54, 32, 49, 51, 32, 49, 54, 32, 118, 58, 105],
 [102, 100, 49, 55, 32, 102, 100, 49, 55, 32, 49, 51, 32, 49, 54, 32, 118, 105, 58, 118],
 [102, 100, 49, 56, 32, 102, 100, 49, 57, 32, 49, 51, 32, 56, 32, 118, 58, 105],
 [102, 100, 49, 97, 32, 102, 100, 49, 97, 32, 49, 51, 32, 56, 32, 118, 105, 58, 118],
 [102, 100, 49, 98, 32, 102, 100, 49, 98, 32, 49, 51, 32, 52, 32, 118, 58, 105],
 [102, 100, 49, 99, 32, 102, 100, 49, 99, 32, 49, 51, 32, 52, 32, 118, 105, 58, 118],
 [102, 100, 49, 100, 32, 102, 100, 49, 100, 32, 49, 51, 32, 50, 32, 118, 58, 108],
 [102, 100, 49, 101, 32, 102, 100, 49, 101, 32, 49, 51, 32, 50, 32, 118, 108, 58, 118],
 [102, 100, 50, 51, 32, 102, 100, 52, 48, 32, 49, 32, 48, 32, 118, 118, 58, 118],
 [102, 100, 52, 100, 32, 102, 100, 52, 100, 32, 49, 32, 48, 32, 118, 58, 118],
 [102, 100, 52, 101, 32, 102, 100, 53, 49, 32, 49, 32, 48, 32, 118, 118, 58, 118],
 [102, 100, 53, 50, 32, 102, 100, 53, 50, 32, 49, 32, 48, 32, 118, 118, 118, 58, 118],
 [102, 100, 53, 51, 32, 102, 100, 53, 51, 32, 49, 32, 48, 32, 118, 58, 105],
 [102, 100, 53, 52, 32, 102, 100, 53, 52, 32, 56, 32, 48, 32, 105, 118, 58, 118],
 [102, 100, 53, 53, 32, 102, 100, 53, 53, 32, 56, 32, 49, 32, 105, 118, 58, 118],
 [102, 100, 53, 54, 32, 102, 100, 53, 54, 32, 56, 32, 50, 32, 105, 118, 58, 118],
 [102, 100, 53, 55, 32, 102, 100, 53, 55, 32, 56, 32, 51, 32, 105, 118, 58, 118],
 [102, 100, 53, 56, 32, 102, 100, 53, 56, 32, 56, 32, 48, 32, 105, 118, 58],
 [102, 100, 53, 57, 32, 102, 100, 53, 57, 32, 56, 32, 49, 32, 105, 118, 58],
 [102, 100, 53, 97, 32, 102, 100, 53, 97, 32, 56, 32, 50, 32, 105, 118, 58],
 [102, 100, 53, 98, 32, 102, 100, 53, 98, 32, 56, 32, 51, 32, 105, 118, 58],
 [102, 100, 53, 99, 32, 102, 100, 53, 99, 32, 55, 32, 50, 32, 105, 58, 118],
 [102, 100, 53, 100, 32, 102, 100, 53, 100, 32, 55, 32, 51, 32, 105, 58, 118],
 [102, 100, 54, 48, 32, 102, 100, 54, 50, 32, 49, 32, 48, 32, 118, 58, 118],
 [102, 100, 54, 51, 32, 102, 100, 54, 52, 32, 49, 32, 48, 32, 118, 58, 105],
 [102, 100, 54, 53, 32, 102, 100, 54, 54, 32, 49, 32, 48, 32, 118, 118, 58, 118],
 [102, 100, 54, 98, 32, 102, 100, 54, 100, 32, 49, 32, 48, 32, 118, 105, 58, 118],
 [102, 100, 54, 101, 32, 102, 100, 55, 51, 32, 49, 32, 48, 32, 118, 118, 58, 118],
 [102, 100, 55, 54, 32, 102, 100, 55, 57, 32, 49, 32, 48, 32, 118, 118, 58, 118],
 [102, 100, 55, 98, 32, 102, 100, 55, 98, 32, 49, 32, 48, 32, 118, 118, 58, 118],
 [102, 100, 55, 99, 32, 102, 100, 56, 49, 32, 49, 32, 48, 32, 118, 58, 118],
 [102, 100, 56, 50, 32, 102, 100, 56, 50, 32, 49, 32, 48, 32, 118, 118, 58, 118],
 [102, 100, 56, 51, 32, 102, 100, 56, 52, 32, 49, 32, 48, 32, 118, 58, 105],
 [102, 100, 56, 53, 32, 102, 100, 56, 54, 32, 49, 32, 48, 32, 118, 118, 58, 118],
 [102, 100, 56, 55, 32, 102, 100, 56, 97, 32, 49, 32, 48, 32, 118, 58, 118],
 [102, 100, 56, 98, 32, 102, 100, 56, 100, 32, 49, 32, 48, 32, 118, 105, 58, 118],
 [102, 100, 56, 101, 32, 102, 100, 57, 51, 32, 49, 32, 48, 32, 118, 118, 58, 118],
 [102, 100, 57, 53, 32, 102, 100, 57, 57, 32, 49, 32, 48, 32, 118, 118, 58, 118],
 [102, 100, 57, 98, 32, 102, 100, 57, 102, 32, 49, 32, 48, 32, 118, 118, 58, 118],
 [102, 100, 97, 48, 32, 102, 100, 97, 49, 32, 49, 32, 48, 32, 118, 58, 118],
 [102, 100, 97, 51, 32, 102, 100, 97, 52, 32, 49, 32, 48, 32, 118, 58, 105],
 [102, 100, 97, 55, 32, 102, 100, 97, 97, 32, 49, 32, 48, 32, 118, 58, 118],
 [102, 100, 97, 98, 32, 102, 100, 97, 100, 32, 49, 32, 48, 32, 118, 105, 58, 118],
 [102, 100, 97, 101, 32, 102, 100, 97, 101, 32, 49, 32, 48, 32, 118, 118, 58, 118],
 [102, 100, 98, 49, 32, 102, 100, 98, 49, 32, 49, 32, 48, 32, 118, 118, 58, 118],
 [102, 100, 98, 53, 32, 102, 100, 98, 97, 32, 49, 32, 48, 32, 118, 118, 58, 118],
 [102, 100, 98, 99, 32, 102, 100, 98, 102, 32, 49, 32, 48, 32, 118, 118, 58, 118],
 [102, 100, 99, 48, 32, 102, 100, 99, 49, 32, 49, 32, 48, 32, 118, 58, 118],
 [102, 100, 99, 51, 32, 102, 100, 99, 52, 32, 49, 32, 48, 32, 118, 58, 105],
 [102, 100, 99, 55, 32, 102, 100, 99, 97, 32, 49, 32, 48, 32, 118, 58, 118],
 [102, 100, 99, 98, 32, 102, 100, 99, 100, 32, 49, 32, 48, 32, 118, 105, 58, 118],
 [102, 100, 99, 101, 32, 102, 100, 99, 101, 32, 49, 32, 48, 32, 118, 118, 58, 118],
 [102, 100, 100, 49, 32, 102, 100, 100, 49, 32, 49, 32, 48, 32, 118, 118, 58, 118],
 [102, 100, 100, 53, 32, 102, 100, 100, 102, 32, 49, 32, 48, 32, 118, 118, 58, 118]]
def rowsA : List Row := rowsS ++ rowsV
def rowSays (s : List UInt8) (r : Row) : Bool :=
 match wordsOf s with
 | [w0, w1, w2, w3, w4] => decide (s.length ≤ 100) && decide (w0.length ≤ 6) && decide (w1.length ≤ 6) && decide (w2.length ≤ 6) && decide (w3.length ≤ 6) && decide ((numOf 16 w0 : Int) = r.fr) && decide ((numOf 16 w1 : Int) = r.to) && decide ((numOf 10 w2 : Int) = r.form) && decide ((numOf 10 w3 : Int) = r.lim) &&
   decide (w4.length ≤ 100) && (if w4 = [45] then r.sig.isEmpty else !r.sig.isEmpty && (w4.contains 58) && decide (tyS (w4.takeWhile (· != 58)) = (sigOf r.sig).2.1) && decide (tyS (w4.dropWhile (· != 58)) = (sigOf r.sig).2.2))
 | _ => false
theorem rows_say : (rowsT.zip rowsA).all (fun x => rowSays x.1 x.2) = true := by decide +kernel
theorem rows_len : rowsT.length = 108 ∧ rowsA.length = 108 := by decide +kernel
theorem rows_apart : rowsS.all (fun r => decide (r.to < 64768)) = true ∧ rowsV.all (fun r => decide (64768 ≤ r.fr)) = true := by decide +kernel
theorem find_rowsA (op : Int) : rowsA.find? (inRow op) = vrowAt op := by
 unfold rowsA vrowAt rowsOf
 rw [List.find?_append]
 by_cases h : 64768 ≤ op
 ·rw [if_pos h]
  have : rowsS.find? (inRow op) = none := by
   rw [List.find?_eq_none]
   intro r hr
   have := List.all_eq_true.1 rows_apart.1 r hr
   simp only [decide_eq_true_eq] at this
   rw [Bool.not_eq_true]
   exact inRow_f.2 (by omega)
  rw [this]; rfl
 ·rw [if_neg h]
  have : rowsV.find? (inRow op) = none := by
   rw [List.find?_eq_none]
   intro r hr
   have := List.all_eq_true.1 rows_apart.2 r hr
   simp only [decide_eq_true_eq] at this
   rw [Bool.not_eq_true]
   exact inRow_f.2 (by omega)
  rw [this]
  cases rowsS.find? (inRow op) <;> rfl
structure Said (s : List UInt8) (r : Row) (w0 w1 w2 w3 w4 : List UInt8) : Prop where
 len : s.length ≤ 100
 ws : wordsOf s = [w0, w1, w2, w3, w4]
 l0 : w0.length ≤ 6
 l1 : w1.length ≤ 6
 l2 : w2.length ≤ 6
 l3 : w3.length ≤ 6
 fr : (numOf 16 w0 : Int) = r.fr
 to : (numOf 16 w1 : Int) = r.to
 form : (numOf 10 w2 : Int) = r.form
 lim : (numOf 10 w3 : Int) = r.lim
 l4 : w4.length ≤ 100
 none : w4 = [45] → r.sig = []
 some : w4 ≠ [45] → r.sig.isEmpty = false ∧ w4.contains 58 = true ∧ tyS (w4.takeWhile (· != 58)) = (sigOf r.sig).2.1 ∧ tyS (w4.dropWhile (· != 58)) = (sigOf r.sig).2.2
theorem said_at (i : Nat) (s : List UInt8) (r : Row) (hs : rowsT[i]? = some s) (hr : rowsA[i]? = some r) : ∃ w0 w1 w2 w3 w4, Said s r w0 w1 w2 w3 w4 := by
 have h := List.all_eq_true.1 rows_say (s, r) (List.mem_of_getElem? (i := i) (by rw [List.getElem?_zip_eq_some]; exact ⟨hs, hr⟩))
 unfold rowSays at h
 dsimp only at h
 split at h
 ·next w0 w1 w2 w3 w4 hw =>
  simp only [Bool.and_eq_true, decide_eq_true_eq] at h
  obtain ⟨⟨⟨⟨⟨⟨⟨⟨⟨⟨h1, h2⟩, h3⟩, h4⟩, h5⟩, h6⟩, h7⟩, h8⟩, h9⟩, h11⟩, h10⟩ := h
  refine ⟨w0, w1, w2, w3, w4, h1, hw, h2, h3, h4, h5, h6, h7, h8, h9, h11, fun e => ?_, fun e => ?_⟩
  ·rw [if_pos e] at h10
   simpa using h10
  ·rw [if_neg e] at h10
   simp only [Bool.and_eq_true, decide_eq_true_eq, Bool.not_eq_true'] at h10
   exact ⟨h10.1.1.1, h10.1.1.2, h10.1.2, h10.2⟩
 ·cases h
end Pl
namespace Go.Proofs.YtmfmokblmipagaaGreat
open Go.RowKit Pl
theorem wpList_tab {ops : Array Oper} {rest : List Oper} {o : Oper} {a : Act} {w : World} {Q : Exit → Act → World → Prop} (hgd : o.guard = none)
 (hr : (execOp a.eval o).run Tryz.prog w = .ok (.value (.slice (some ⟨w.heap.size, 0, none⟩) 108 108)) (w.alloc (.cells (rowsT.map sV).toArray 9)))
 (h : wpList Tryz.prog ops Q rest (a.put o.dst (.slice (some ⟨w.heap.size, 0, none⟩) 108 108)) (w.alloc (.cells (rowsT.map sV).toArray 9))) : wpList Tryz.prog ops Q (o :: rest) a w := by
 refine wpList_plain hgd fun K hK => ?_
 unfold Oper.wp
 rw [hr]
 exact hK _ _ h
set_option maxRecDepth 100000 in
theorem table_s (w : World) : Calls Tryz.prog 45 #[] w fun e w' => ∃ b, e = .returned (.slice (some ⟨b, 0, none⟩) 108 108) ∧ w'.heap[b]? = some (.cells (rowsT.map sV).toArray 9 (0, 0)) ∧ Below w.heap.size w w' := by
 go_enter Tryz.func45, Tryz.ntmps45
 go_wp2_with (first | (refine wpList_tab rfl (by kernel_rfl) ?_))
 skip
 go_ret
 exact ⟨_, rfl, heap_alloc_new _ _, (Below.refl _ _).alloc (Nat.le_refl _) _⟩
end Go.Proofs.YtmfmokblmipagaaGreat
end
