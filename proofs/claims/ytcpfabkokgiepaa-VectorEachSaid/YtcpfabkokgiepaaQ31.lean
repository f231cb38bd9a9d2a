/-
  Texts VcSm, VcRf, VcRr.
-/
import Derived.Test.YtcpfabkokgiepaaQ30
import Derived.Deep.Cut
set_option linter.unusedSimpArgs false
set_option linter.unusedVariables false
set_option maxHeartbeats 8000000
open Pl
section
namespace Go.Proofs.Ytcpfabkokgiepaa
open Go.RowKit Pl
theorem run_ixu {o : Oper} {a : Act} {w : World} (x i : Operand) (ho : o.op = .indexAddr 26 x i) (b off n c : Nat) (hx : a.eval x = .slice (some ⟨b, off, none⟩) n c) (z : Int) (hi : a.eval i = .int .i64 z) (k : Nat) (hz : z = k) (hk : k < n) :
 (execOp a.eval o).run Try.prog w = .ok (.value (.pointer (some ⟨b, off + k, none⟩))) w := j2
set_option maxRecDepth 100000 in
theorem same_no (xa ya : Option Addr) (l m : List Int) (xc yc : Nat) (w : World) (hlen : l.length ≠ m.length) :
 Calls Try.prog 12 #[.slice xa l.length xc, .slice ya m.length yc] w fun e w' => e = .returned (.bool (decide (l = m))) ∧ Below w.heap.size w w' := by
 have hf : decide (l = m) = false := by
  simp only [decide_eq_false_iff_not]
  intro h
  exact hlen (by rw [h])
 rw [hf]
 have hne : (l.length : Int) ≠ (m.length : Int) := by omega
 clear hf hlen
 generalize l.length = p at hne ⊢
 generalize m.length = q at hne ⊢
 go_enter Try.func12, Try.ntmps12
 exact qM
set_option maxRecDepth 100000 in
theorem same_k (x y : Value) (l m : List Int) (w : World) (hx : LView .u64 w x l) (hy : LView .u64 w y m) (hl : l.length ≤ 1000) :
 Calls Try.prog 12 #[x, y] w fun e w' => e = .returned (.bool (decide (l = m))) ∧ Below w.heap.size w w' := by
 obtain ⟨xa, xc, rfl, hxc, hx2⟩ := hx.ex
 obtain ⟨ya, yc, rfl, hyc, hy2⟩ := hy.ex
 have HX := Lib.hid hx
 have HY := Lib.hid hy
 clear hx hy hx2 hy2
 by_cases hlen : l.length = m.length
 ·obtain ⟨BB, hBB⟩ : ∃ B : Bool, B = decide (l = m) := ⟨_, rfl⟩
  rw [← hBB]
  have HB := Lib.hid hBB
  have HLEN := Lib.hid hlen
  obtain ⟨n, hn⟩ : ∃ n, n = m.length := ⟨_, rfl⟩
  have HN := Lib.hid hn
  have hn9 : n ≤ 1000 := by omega
  clear hl
  rw [hlen, ← hn]
  clear hBB hlen
  clear hn
  go_enter Try.func12, Try.ntmps12
  go_wp2_with fail
  go_loopw [5] (fun iv wr => ∃ i : Nat, i ≤ n ∧ iv = .int .i64 i ∧ Hid (∀ j, j < i → l[j]? = m[j]?) ∧ Below w.heap.size w wr) (fun iv _ => n - (intOf iv).toNat)
  case atStart => exact kS
  case round =>
   obtain ⟨i, hi, rfl, HE, hb⟩ := hrel
   by_cases hlt : i < n
   ·have hl1 : i < l.length := by rw [HLEN.out, ← HN.out]; exact hlt
    have hm1 : i < m.length := by rw [← HN.out]; exact hlt
    obtain ⟨xb, xo, xc2, ex, _, hxb, hxx⟩ := HX.out.get i hl1
    obtain ⟨yb, yo, yc2, ey, _, hyb, hyy⟩ := HY.out.get i hm1
    injection ex with ex1 ex2 ex3
    injection ey with ey1 ey2 ey3
    subst ex1 ey1
    obtain ⟨zx, hzx⟩ : ∃ z, l[i]? = some z := ⟨_, List.getElem?_eq_getElem hl1⟩
    obtain ⟨zy, hzy⟩ : ∃ z, m[i]? = some z := ⟨_, List.getElem?_eq_getElem hm1⟩
    have c1 := tJ (hxx i zx hzx) hxb hb
    have c2 := tJ (hyy i zy hzy) hyb hb
    have HZX := Lib.hid hzx
    have HZY := Lib.hid hzy
    clear hxx hyy hzx hzy hl1 hm1 ex2 ex3 ey2 ey3
    go_wp2_with fail
    refine mN (fun u => Below wr.heap.size wr u) 8 (by kernel_rfl) (by kernel_rfl) (Below.refl _ _).drew ?_
    simp only [zP, zN, zM, zL]
    repeat (first | (refine rS rfl (fun u hS => run_ixu _ _ rfl xb xo n xc rfl _ rfl i rfl hlt) ?_; simp only [Act.put, z5, z6, z7]) | (refine rS rfl (fun u hS => run_ixu _ _ rfl yb yo n yc rfl _ rfl i rfl hlt) ?_; simp only [Act.put, z5, z6, z7]) | (refine rS rfl (fun u hS => pD _ r8 _ rfl xb (xo + i) rfl _ (tJ c1 (World.block_lt_of_cell? _ _ c1) hS)) ?_; simp only [Act.put, z5, z6, z7]) | (refine rS rfl (fun u hS => pD _ r8 _ rfl yb (yo + i) rfl _ (tJ c2 (World.block_lt_of_cell? _ _ c2) hS)) ?_; simp only [Act.put, z5, z6, z7]) | (refine z8 ?_))
    refine mH (fun w2 h2 => ?_)
    replace hb := hb.trans (h2.mono hb.size)
    clear h2 c1 c2
    by_cases he : zx = zy
    ·subst he
     have HE2 : Hid (∀ j, j < i + 1 → l[j]? = m[j]?) := Lib.hid (fun j hj => by
      by_cases e : j = i
      ·subst e; rw [HZX.out, HZY.out]
      ·exact HE.out j (by omega))
     as_aux_lemma =>
      go_wp2_with fail
      exact ⟨⟨i + 1, by omega, by go_num, HE2, hb⟩, by simp [intOf]; omega⟩
    ·have hf : BB = false := by
      rw [HB.out]
      simp only [decide_eq_false_iff_not]
      intro hlm
      have := HZX.out
      rw [hlm, HZY.out] at this
      injection this with this
      exact he this.symm
     subst hf
     as_aux_lemma =>
      go_wp2_with fail
      go_ret
      exact ⟨rfl, hb⟩
   ·obtain rfl : i = n := by omega
    have hf : BB = true := by
     rw [HB.out]
     simp only [decide_eq_true_eq]
     apply List.ext_getElem?
     intro j
     by_cases hj : j < i
     ·exact HE.out j hj
     ·have e1 : l.length ≤ j := by have := HLEN.out; have := HN.out; omega
      have e2 : m.length ≤ j := by have := HN.out; omega
      rw [List.getElem?_eq_none e1, List.getElem?_eq_none e2]
    subst hf
    as_aux_lemma =>
     go_wp2_with fail
     go_ret
     exact ⟨rfl, hb⟩
 ·exact same_no xa ya l m xc yc w hlen
end Go.Proofs.Ytcpfabkokgiepaa
end
section
namespace Go.Proofs.Ytcpfabkokgiepaa
open Go.RowKit Pl
end Go.Proofs.Ytcpfabkokgiepaa
namespace Pl
open Go
def dig (c : UInt8) : Nat := if 97 ≤ c.toNat then c.toNat - 97 + 10 else (c.toNat + 208) % 256
def uX (base : Nat) (l : List UInt8) : Nat := l.foldl (fun n c => n * base + dig c) 0
theorem dig_lt (c : UInt8) : dig c < 256 := by
 have := c.toNat_lt
 unfold dig
 split <;> omega
theorem numOf_snoc (base : Nat) (l : List UInt8) (c : UInt8) : uX base (l ++ [c]) = uX base l * base + dig c := by simp [uX, List.foldl_append]
theorem numOf_step (base : Nat) (l : List UInt8) (i : Nat) (c : UInt8) (h : l[i]? = some c) : uX base (l.take (i + 1)) = uX base (l.take i) * base + dig c := by
 rw [List.take_add_one, h]
 exact numOf_snoc base _ c
theorem fold_lt (base : Nat) (hb : base ≤ 16) : ∀ (l : List UInt8) (n0 k : Nat), n0 < 272 ^ k → l.foldl (fun n c => n * base + dig c) n0 < 272 ^ (k + l.length)
 | [], n0, k, h => h
 | c :: l, n0, k, h => by
   rw [List.foldl_cons, List.length_cons, show k + (l.length + 1) = (k + 1) + l.length by omega]
   refine fold_lt base hb l _ (k + 1) ?_
   have h2 := dig_lt c
   have h3 : n0 * base ≤ n0 * 16 := Nat.mul_le_mul_left _ hb
   rw [Nat.pow_succ]
   omega
theorem numOf_lt (base : Nat) (hb : base ≤ 16) (l : List UInt8) (n : Nat) (h : l.length ≤ n) : uX base l < 272 ^ n := by
 have h1 := fold_lt base hb l 0 0 (by decide)
 rw [Nat.zero_add] at h1
 exact Nat.lt_of_lt_of_le h1 (Nat.pow_le_pow_right (by decide) h)
def tyC (c : UInt8) : List Int := if c = 105 then [127] else if c = 108 then [126] else if c = 118 then [123] else []
def tyS (l : List UInt8) : List Int := l.flatMap tyC
theorem tyS_step (l : List UInt8) (i : Nat) (c : UInt8) (h : l[i]? = some c) : tyS (l.take (i + 1)) = tyS (l.take i) ++ tyC c := by
 rw [List.take_add_one, h]
 simp [tyS]
theorem tyC_len (c : UInt8) : (tyC c).length ≤ 1 := by unfold tyC; split; · simp
                                                       ·split; · simp
                                                        ·split <;> simp
theorem tyS_len (l : List UInt8) : (tyS l).length ≤ l.length := by
 induction l with
 | nil => simp [tyS]
 | cons c l ih =>
   have := tyC_len c
   unfold tyS at ih ⊢
   rw [List.flatMap_cons, List.length_append, List.length_cons]
   omega
def wAt (s : List UInt8) : Nat → List (List UInt8) × Nat
 | 0 => ([], 0)
 | i + 1 => if i = s.length ∨ s[i]? = some 32 then ((wAt s i).1 ++ [(s.take i).drop (wAt s i).2], i + 1) else wAt s i
def dG (s : List UInt8) : List (List UInt8) := (wAt s (s.length + 1)).1
theorem wAt_le (s : List UInt8) (i : Nat) : (wAt s i).2 ≤ i ∧ (wAt s i).1.length ≤ i := by
 induction i with
 | zero => exact ⟨Nat.le_refl _, Nat.le_refl _⟩
 | succ i ih =>
   unfold wAt
   split
   ·exact ⟨Nat.le_refl _, by simp; omega⟩
   ·omega
end Pl
namespace Go.Proofs.Ytcpfabkokgiepaa
open Go.RowKit Pl
theorem num_hi (x : Nat) (c : UInt8) (hx : x < 10000000000000000) (h : (97 : Int) ≤ (c.toNat : Int)) : wrap64 (wrap64 (x : Int) + (((c.toNat : Int) - 97) % 256 + 10)) = ((x + dig c : Nat) : Int) := by
 have := c.toNat_lt
 unfold dig
 rw [if_pos (by omega)]
 generalize c.toNat = d at *
 unfold wrap64
 omega
theorem num_lo (x : Nat) (c : UInt8) (hx : x < 10000000000000000) (h : ¬ (97 : Int) ≤ (c.toNat : Int)) : wrap64 (wrap64 (x : Int) + ((c.toNat : Int) - 48) % 256) = ((x + dig c : Nat) : Int) := by
 have := c.toNat_lt
 unfold dig
 rw [if_neg (by omega)]
 generalize c.toNat = d at *
 unfold wrap64
 omega
theorem ne_byte {c d : UInt8} (h : c ≠ d) : ((c.toNat : Int) == (d.toNat : Int)) = false := by
 rw [beq_eq_false_iff_ne]
 intro e
 exact h (UInt8.toNat_inj.1 (by omega))
set_option maxRecDepth 100000 in
theorem number_s (l : List UInt8) (base : Nat) (w : World) (hb : base ≤ 16) (hl : l.length ≤ 6) : Calls Try.prog 65 #[.string ⟨l.toArray⟩, .int .i64 base] w fun e w' => e = .returned (.int .i64 (uX base l : Nat)) ∧ Below w.heap.size w w' := by
 obtain ⟨r, hr⟩ : ∃ r, r = uX base l := ⟨_, rfl⟩
 rw [← hr]
 have HR := Lib.hid hr
 clear hr
 go_enter Try.func65, Try.ntmps65
 go_wp2_with fail
 go_loopw [5, 6] (fun nv iv wr => ∃ (i m : Nat), i ≤ l.length ∧ iv = .int .i64 i ∧ nv = .int .i64 m ∧ Hid (m = uX base (l.take i)) ∧ m < 404961208827904 ∧ Below w.heap.size w wr) (fun _ iv _ => l.length - (intOf iv).toNat)
 case atStart => exact ⟨0, 0, Nat.zero_le _, rfl, rfl, Lib.hid rfl, by decide, Below.refl _ _⟩
 case round =>
  obtain ⟨i, m, hi, rfl, rfl, HM, hm, hbl⟩ := hrel
  have hls : (ByteArray.mk l.toArray).size = l.length := rfl
  by_cases hlt : i < l.length
  ·obtain ⟨c, hc⟩ : ∃ c, l[i]? = some c := ⟨_, List.getElem?_eq_getElem hlt⟩
   have hstep := numOf_step base l i c hc
   rw [← HM.out] at hstep
   have hlt6 : uX base (l.take (i + 1)) < 404961208827904 := numOf_lt base hb (l.take (i + 1)) 6 (by rw [List.length_take]; omega)
   have hget : ∀ h, (ByteArray.mk l.toArray)[i]'h = c := fun h => by
    have := (List.getElem?_eq_some_iff.1 hc).2
    exact this
   have hmb : m * base ≤ m * 16 := Nat.mul_le_mul_left _ hb
   have HS := Lib.hid hstep
   have HL := Lib.hid hlt6
   have HG := Lib.hid hget
   have HB := Lib.hid hmb
   clear hstep hlt6 hget hmb hc
   go_wp2_with fail
   all_goals
    refine ⟨⟨i + 1, m * base + dig c, by omega, by go_num, ?_, Lib.hid HS.out.symm, by rw [← HS.out]; exact HL.out, hbl⟩, by (simp [intOf] <;> omega)⟩
    have hb1 := HB.out
    have hcc := c.toNat_lt
    rw [HG.out] at *
    rw [← Int.natCast_mul]
    generalize m * base = x at hb1 ⊢
    first | exact congrArg (Value.int .i64) (num_hi x c (by omega) (by omega)) | exact congrArg (Value.int .i64) (num_lo x c (by omega) (by omega))
  ·obtain rfl : i = l.length := by omega
   obtain rfl : m = r := by rw [HM.out, List.take_length, HR.out]
   clear HM HR
   go_wp2_with fail
   go_ret
   exact ⟨rfl, hbl⟩
set_option maxRecDepth 100000 in
theorem types_s (l : List UInt8) (w : World) (hl : l.length ≤ 100) : Calls Try.prog 66 #[.string ⟨l.toArray⟩] w fun e w' => ∃ v, e = .returned v ∧ w'.ownsRow w.heap.size 3 1 v (tyS l).length ((tyS l).map (Value.int .i64)) ∧ Below w.heap.size w w' := by
 obtain ⟨i0, hi0, hz0, hz1, hz2⟩ := info_parts intInfo
 have hls : (ByteArray.mk l.toArray).size = l.length := rfl
 go_enter Try.func66, Try.ntmps66
 go_wp2_with fail
 go_loopw [3, 4] (fun ov iv wr => ∃ i : Nat, i ≤ l.length ∧ iv = .int .i64 i ∧ wr.ownsRow w.heap.size 3 1 ov (tyS (l.take i)).length ((tyS (l.take i)).map (Value.int .i64)) ∧ Below w.heap.size w wr) (fun _ iv _ => l.length - (intOf iv).toNat)
 case atStart => exact ⟨0, Nat.zero_le _, rfl, World.ownsRow_nil _ _ _ _, Below.refl _ _⟩
 case round =>
  obtain ⟨wo, hwo⟩ : ∃ x, x = wr := ⟨_, rfl⟩
  subst hwo
  obtain ⟨i, hi, rfl, hown, hbl⟩ := hrel
  by_cases hlt : i < l.length
  ·obtain ⟨c, hc⟩ : ∃ c, l[i]? = some c := ⟨_, List.getElem?_eq_getElem hlt⟩
   have hstep := tyS_step l i c hc
   have hget : ∀ h, (ByteArray.mk l.toArray)[i]'h = c := fun h => by
    have := (List.getElem?_eq_some_iff.1 hc).2
    exact this
   have hln : (tyS (l.take i)).length ≤ 1000 := by have h1 := tyS_len (l.take i); rw [List.length_take] at h1; omega
   have HOB := Lib.hid hown.lt
   have HLN := Lib.hid hln
   clear hln hc
   skip
   by_cases h1 : c = 105
   ·subst h1
    have HS : Hid (tyS (l.take i) ++ [127] = tyS (l.take (i + 1))) := Lib.hid hstep.symm
    clear hstep
    as_aux_lemma =>
    go_wp2_with (first | (at_builtin; refine uM rfl _ _ rfl i0 hi0 hz0 hz1 hz2 w.heap.size _ (tyS (l.take i)) 127 _ _ rfl (hown.alloc _) rfl (heap_alloc_new _ _) HLN.out (by have := hbl.size; simp; omega) ?_; intro v5 x5 ho5 hg5 _ _ _))
    exact ⟨⟨i + 1, by omega, by go_num, HS.out ▸ ho5, (hbl.alloc hbl.size _).trans (tU hg5 (by have := hbl.size; simp; omega) (fun g e => (HOB.out g e).1))⟩, by (simp [intOf] <;> omega)⟩
   ·by_cases h2 : c = 108
    ·subst h2
     have HS : Hid (tyS (l.take i) ++ [126] = tyS (l.take (i + 1))) := Lib.hid hstep.symm
     clear hstep h1
     as_aux_lemma =>
     go_wp2_with (first | (at_builtin; refine uM rfl _ _ rfl i0 hi0 hz0 hz1 hz2 w.heap.size _ (tyS (l.take i)) 126 _ _ rfl (hown.alloc _) rfl (heap_alloc_new _ _) HLN.out (by have := hbl.size; simp; omega) ?_; intro v5 x5 ho5 hg5 _ _ _))
     exact ⟨⟨i + 1, by omega, by go_num, HS.out ▸ ho5, (hbl.alloc hbl.size _).trans (tU hg5 (by have := hbl.size; simp; omega) (fun g e => (HOB.out g e).1))⟩, by (simp [intOf] <;> omega)⟩
    ·by_cases h3 : c = 118
     ·subst h3
      have HS : Hid (tyS (l.take i) ++ [123] = tyS (l.take (i + 1))) := Lib.hid hstep.symm
      clear hstep h1 h2
      as_aux_lemma =>
      go_wp2_with (first | (at_builtin; refine uM rfl _ _ rfl i0 hi0 hz0 hz1 hz2 w.heap.size _ (tyS (l.take i)) 123 _ _ rfl (hown.alloc _) rfl (heap_alloc_new _ _) HLN.out (by have := hbl.size; simp; omega) ?_; intro v5 x5 ho5 hg5 _ _ _))
      exact ⟨⟨i + 1, by omega, by go_num, HS.out ▸ ho5, (hbl.alloc hbl.size _).trans (tU hg5 (by have := hbl.size; simp; omega) (fun g e => (HOB.out g e).1))⟩, by (simp [intOf] <;> omega)⟩
     ·have HS : Hid (tyS (l.take i) = tyS (l.take (i + 1))) := Lib.hid (by rw [hstep]; unfold tyC; rw [if_neg h1, if_neg h2, if_neg h3, List.append_nil])
      have k1 : ((c.toNat : Int) == 105) = false := ne_byte h1
      have k2 : ((c.toNat : Int) == 108) = false := ne_byte h2
      have k3 : ((c.toNat : Int) == 118) = false := ne_byte h3
      clear hstep h1 h2 h3
      as_aux_lemma =>
      go_wp2_with fail
      exact ⟨⟨i + 1, by omega, by go_num, HS.out ▸ hown, hbl⟩, by (simp [intOf] <;> omega)⟩
  ·obtain rfl : i = l.length := by omega
   rw [List.take_length] at hown
   go_wp2_with fail
   go_ret
   exact ⟨_, rfl, hown, hbl⟩
def sV (x : List UInt8) : Value := .string ⟨x.toArray⟩
theorem cut_str (l : List UInt8) (f i : Nat) : Value.string ((ByteArray.mk l.toArray).extract f i) = sV ((l.take i).drop f) := by
 unfold sV
 refine congrArg Value.string (ByteArray.ext ?_)
 rw [ByteArray.data_extract, List.extract_toArray, List.drop_take]
theorem strInfo : (Try.prog.info? 9).map (fun i => (i.zero, i.size, i.bytes)) = some (some (sV []), 1, 16) := by kernel_rfl
theorem app_str {ops : Array Oper} {rest : List Oper} {o : Oper} {a : Act} {w : World} {Q : Exit → Act → World → Prop} (hgd : o.guard = none) (s x : Operand) (ho : o.op = .call { callee := .builtin .append, args := #[s, x], argTypes := #[97, 97] })
 (base : Nat) (v : Value) (xs : List (List UInt8)) (z : List UInt8) (zv : Value) (hzv : zv = sV z) (hs : a.eval s = v) (hown : w.ownsRow base 9 1 v xs.length (xs.map sV)) (b c : Nat)
 (hx : a.eval x = .slice (some ⟨b, 0, none⟩) 1 c) (hb : w.heap[b]? = some (.cells #[zv] 9 (0, 0))) (hsm : xs.length ≤ 1000) (hbase : base ≤ w.heap.size)
 (h : ∀ v' w', w'.ownsRow base 9 1 v' (xs ++ [z]).length ((xs ++ [z]).map sV) → w.grownBy w' v.ownBlock → wpList Try.prog ops Q rest (a.put o.dst v') w') : wpList Try.prog ops Q (o :: rest) a w := by
 subst hzv
 refine wpList_plain hgd fun K hK => ?_
 obtain ⟨i, hi, hz0, hz1, hz2⟩ := info_parts strInfo
 obtain ⟨v', w', hr, h2, h3, _, _⟩ := run_append_own_at (P := Try.prog) w base 97 o.type 9 i (sV []) 1 16 Try.underlying97 hi hz0 hz1 hz2 rfl (by decide) v xs.length (xs.map sV) hown ⟨b, 0, none⟩ 1 c [sV z] rfl
  (fun j u hj => by
   rw [Go.Addr.add_mid, Nat.zero_add, cell_of_row w b j _ _ _ hb]
   simpa using hj) (fun u hu => by
   obtain rfl : u = sV z := by simpa using hu
   rfl) (by unfold maxLen; omega) (by omega) hbase
 unfold Oper.wp execOp
 simp only [ho, resolve, invoke, builtin, Sem.run_bind, Sem.run_pure, Result.andThen_ok, List.map_toArray, List.map_cons, List.map_nil, hs, hx, hr]
 exact hK _ _ (h v' w' (by rw [List.map_append, List.length_append]; exact h2) h3)
theorem owns_str {w : World} {B : Nat} {v : Value} {l : List (List UInt8)} (h : w.ownsRow B 9 1 v l.length (l.map sV)) : ∀ k, v.ownBlock = some k → B ≤ k ∧ k < w.heap.size := fun k e => by
 rcases h.2 with ⟨rfl, _⟩ | ⟨g, cap, cur, rfl, hB, hg, _⟩
 ·cases e
 ·injection e with e; subst e; exact ⟨hB, mF hg⟩
set_option maxRecDepth 100000 in
theorem words_s (l : List UInt8) (w : World) (hl : l.length ≤ 100) : Calls Try.prog 64 #[.string ⟨l.toArray⟩] w fun e w' => ∃ v, e = .returned v ∧ w'.ownsRow w.heap.size 9 1 v (dG l).length ((dG l).map sV) ∧ Below w.heap.size w w' := by
 have hls : (ByteArray.mk l.toArray).size = l.length := rfl
 go_enter Try.func64, Try.ntmps64
 go_wp2_with fail
 go_loopw [3, 4, 5] (fun ov fv iv wr => ∃ (i f : Nat) (xs : List (List UInt8)), i ≤ l.length + 1 ∧ iv = .int .i64 i ∧ fv = .int .i64 f ∧ f ≤ i ∧ Hid (wAt l i = (xs, f)) ∧ wr.ownsRow w.heap.size 9 1 ov xs.length (xs.map sV) ∧ Below w.heap.size w wr) (fun _ _ iv _ => l.length + 1 - (intOf iv).toNat)
 case atStart => exact ⟨0, 0, [], Nat.zero_le _, rfl, rfl, Nat.le_refl _, Lib.hid rfl, World.ownsRow_nil _ _ _ _, Below.refl _ _⟩
 case round =>
  obtain ⟨wo, hwo⟩ : ∃ x, x = wr := ⟨_, rfl⟩
  subst hwo
  obtain ⟨i, f, xs, hi, rfl, rfl, hf, HW, hown, hbl⟩ := hrel
  have hxl : xs.length ≤ 1000 := by
   have := (wAt_le l i).2
   rw [HW.out] at this
   replace this : xs.length ≤ i := this
   omega
  have HXL := Lib.hid hxl
  have HOB := Lib.hid (owns_str hown)
  clear hxl
  by_cases hlt : i ≤ l.length
  ·by_cases hc : i = l.length ∨ l[i]? = some 32
   ·have HS : Hid (wAt l (i + 1) = (xs ++ [(l.take i).drop f], i + 1)) := Lib.hid (by rw [wAt, if_pos hc, HW.out])
    by_cases he : i = l.length
    ·subst he
     skip
     as_aux_lemma =>
     go_wp2_with (first | (at_builtin; refine app_str rfl _ _ rfl w.heap.size _ xs ((l.take _).drop f) _ (cut_str l f _) rfl (hown.alloc _) _ _ rfl (heap_alloc_new _ _) HXL.out (by have := hbl.size; simp; omega) ?_; intro v5 x5 ho5 hg5))
     skip
     exact ⟨⟨l.length + 1, l.length + 1, _, by omega, by go_num, by go_num, Nat.le_refl _, HS, ho5, (hbl.alloc hbl.size _).trans (tU hg5 (by have := hbl.size; simp; omega) (fun g e => (HOB.out g e).1))⟩, by (simp [intOf] <;> omega)⟩
    ·have hc2 := hc.resolve_left he
     have hget : ∀ h, (ByteArray.mk l.toArray)[i]'h = 32 := fun h => (List.getElem?_eq_some_iff.1 hc2).2
     have hlt2 : i < l.length := by omega
     clear hc hc2
     as_aux_lemma =>
     go_wp2_with (first | (at_builtin; refine app_str rfl _ _ rfl w.heap.size _ xs ((l.take _).drop f) _ (cut_str l f _) rfl (hown.alloc _) _ _ rfl (heap_alloc_new _ _) HXL.out (by have := hbl.size; simp; omega) ?_; intro v5 x5 ho5 hg5))
     exact ⟨⟨i + 1, i + 1, _, by omega, by go_num, by go_num, Nat.le_refl _, HS, ho5, (hbl.alloc hbl.size _).trans (tU hg5 (by have := hbl.size; simp; omega) (fun g e => (HOB.out g e).1))⟩, by (simp [intOf] <;> omega)⟩
   ·have HS : Hid (wAt l (i + 1) = (xs, f)) := Lib.hid (by rw [wAt, if_neg hc, HW.out])
    have hlt2 : i < l.length := by
     rcases Nat.lt_or_ge i l.length with h | h
     ·exact h
     ·exact absurd (.inl (by omega)) hc
    obtain ⟨c, hcc⟩ : ∃ c, l[i]? = some c := ⟨_, List.getElem?_eq_getElem hlt2⟩
    have hget : ∀ h, (ByteArray.mk l.toArray)[i]'h = c := fun h => (List.getElem?_eq_some_iff.1 hcc).2
    have k1 : ((c.toNat : Int) == 32) = false := ne_byte (d := 32) (fun e => hc (.inr (by rw [hcc, e])))
    clear hc hcc
    as_aux_lemma =>
    go_wp2_with fail
    exact ⟨⟨i + 1, f, xs, by omega, by go_num, rfl, by omega, HS, hown, hbl⟩, by (simp [intOf] <;> omega)⟩
  ·obtain rfl : i = l.length + 1 := by omega
   have hE : dG l = xs := by unfold dG; rw [HW.out]
   rw [← hE] at hown
   clear hE
   go_wp2_with fail
   go_ret
   exact ⟨_, rfl, hown, hbl⟩
end Go.Proofs.Ytcpfabkokgiepaa
end
section
namespace Go.Proofs.Ytcpfabkokgiepaa
open Go.RowKit Pl
structure RSt (w : World) (a b : Vec) (jA jB jV : Nat) (v : Vec) (u : World) : Prop where
 bel : Below w.heap.size w u
 res : u.heap[w.heap.size]? = some (.cells (mY 0) 45 (0, 0))
 hA : u.heap[jA]? = some (.cells (mY a) 45 (0, 0))
 hB : u.heap[jB]? = some (.cells (mY b) 45 (0, 0))
 hV : u.heap[jV]? = some (.cells (mY v) 45 (0, 0))
 lt : w.heap.size < jA ∧ jA < jB ∧ jB < jV
theorem RSt.below {w u u1 : World} {a b v : Vec} {jA jB jV : Nat} (h : RSt w a b jA jB jV v u) (hb : Below u.heap.size u u1) : RSt w a b jA jB jV v u1 :=
 ⟨h.bel.trans (hb.mono h.bel.size), mV h.res hb, mV h.hA hb, mV h.hB hb, mV h.hV hb, h.lt⟩
theorem RSt.set {w u u1 : World} {a b v x : Vec} {jA jB jV : Nat} (h : RSt w a b jA jB jV v u) (hs : Sets u jV x u1) : RSt w a b jA jB jV x u1 := by
 obtain ⟨l1, l2, l3⟩ := h.lt
 exact ⟨h.bel.trans (hs.below.mono (by omega)), mR h.res hs (by omega), mR h.hA hs (by omega), mR h.hB hs (by omega), hs.this, h.lt⟩
theorem ix_vec {ops : Array Oper} {rest : List Oper} {o : Oper} {a : Act} {w : World} {Q : Exit → Act → World → Prop} (hgd : o.guard = none) (x i : Operand) (ho : o.op = .indexAddr 66 x i) (b n c : Nat) (hx : a.eval x = .slice (some ⟨b, 0, none⟩) n c) (z : Int) (hi : a.eval i = .int .i64 z) (k : Nat) (hz : z = k) (hk : k < n)
 (h : wpList Try.prog ops Q rest (a.put o.dst (.pointer (some ⟨b, 16 * k, none⟩))) w) : wpList Try.prog ops Q (o :: rest) a w := by
 have hs : ∀ u, (sizeOf (Try.prog.elem 66)).run Try.prog u = .ok 16 u := fun u => by kernel_rfl
 have hu : Try.prog.underlying 66 = some (.slice (Try.prog.elem 66)) := by kernel_rfl
 exact gZ
set_option maxRecDepth 100000 in
theorem rest_w (op : Int) (g c n last : Nat) (lv : Value) (a b R : Vec) (w : World) (hlv : lv = .slice (some ⟨g, 0, none⟩) n c) (hn : 1 ≤ n ∧ n ≤ 1000) (hg : g < w.heap.size) (hA : w.rangeAt g 0 (mY a).toList) (hB : w.rangeAt g (16 * (n - 1)) (mY b).toList) (V1 : Vec) (E1 : Int) (H1 : ∀ W, Below w.heap.size w W → Calls Try.prog 75 #[.int .i64 op, lv] W fun e w' => e = .returned (.tuple #[.agg (mY V1), .int .i64 E1]) ∧ Below W.heap.size W w') (V2 : Vec) (E2 : Int) (H2 : ∀ W, Below w.heap.size w W → Calls Try.prog 76 #[.int .i64 op, .agg (mY a)] W fun e w' => e = .returned (.tuple #[.agg (mY V2), .int .i64 E2]) ∧ Below W.heap.size W w') (V3 : Vec) (E3 : Int) (H3 : ∀ W, Below w.heap.size w W → Calls Try.prog 77 #[.int .i64 op, .agg (mY a)] W fun e w' => e = .returned (.tuple #[.agg (mY V3), .int .i64 E3]) ∧ Below W.heap.size W w') (V4 : Vec) (E4 : Int) (H4 : ∀ W, Below w.heap.size w W → Calls Try.prog 78 #[.int .i64 op, .agg (mY a), .int .u32 ((last : Int) % 4294967296)] W fun e w' => e = .returned (.tuple #[.agg (mY V4), .int .i64 E4]) ∧ Below W.heap.size W w') (V5 : Vec) (E5 : Int) (H5 : ∀ W, Below w.heap.size w W → Calls Try.prog 79 #[.int .i64 op, .agg (mY a), .agg (mY b)] W fun e w' => e = .returned (.tuple #[.agg (mY V5), .int .i64 E5]) ∧ Below W.heap.size W w') (V6 : Vec) (E6 : Int) (H6 : ∀ W, Below w.heap.size w W → Calls Try.prog 80 #[.int .i64 op, .agg (mY a), .agg (mY b)] W fun e w' => e = .returned (.tuple #[.agg (mY V6), .int .i64 E6]) ∧ Below W.heap.size W w') (V7 : Vec) (E7 : Int) (H7 : ∀ W, Below w.heap.size w W → Calls Try.prog 81 #[.int .i64 op, .agg (mY a), .agg (mY b)] W fun e w' => e = .returned (.tuple #[.agg (mY V7), .int .i64 E7]) ∧ Below W.heap.size W w')
 (hR : R = if E1 = 0 then V1 else if E2 = 0 then V2 else if E3 = 0 then V3 else if E4 = 0 then V4 else if E5 = 0 then V5 else if E6 = 0 then V6 else V7) :
 Calls Try.prog 45 #[.int .i64 op, lv, .int .u64 (last : Nat)] w fun e w' => e = .returned (.agg (mY R)) ∧ Below w.heap.size w w' := by
 replace H1 := Lib.hid H1
 replace H2 := Lib.hid H2
 replace H3 := Lib.hid H3
 replace H4 := Lib.hid H4
 replace H5 := Lib.hid H5
 replace H6 := Lib.hid H6
 replace H7 := Lib.hid H7
 have q1 : IntKind.i64.wrap ((n : Int) - 1) = ((n - 1 : Nat) : Int) := by rw [IntWalk.i64_in _ (by omega)]; omega
 obtain ⟨n1, hn1⟩ : ∃ k, k = n - 1 := ⟨_, rfl⟩
 have hk : n1 < n := by omega
 rw [← hn1] at q1 hB
 clear hn1
 subst hlv
 have HR := Lib.hid hR
 clear hR
 go_enter Try.func45, Try.ntmps45
 go_upto_region 1 with fail
 obtain ⟨W, hW⟩ : ∃ W, W = w.alloc (.cells (mY 0) 45) := ⟨_, rfl⟩
 rw [← mU, ← hW]
 have hres : W.heap[w.heap.size]? = some (.cells (mY 0) 45 (0, 0)) := hW ▸ heap_alloc_new _ _
 have hbz : Below w.heap.size w W := hW ▸ (Below.refl _ _).alloc (Nat.le_refl _) _
 clear hW
 go_upto_region 2 with (first | (with_reducible refine ix_vec rfl _ _ rfl g n c rfl _ rfl 0 rfl (by omega) ?_) | (with_reducible refine vZ rfl _ rfl g (16 * 0) rfl a (tS hA hg hbz) ?_) | (with_reducible refine mK rfl _ _ rfl _ _ rfl rfl 0 (mC _) ?_; intro wA gA))
 obtain ⟨jA, hjA⟩ : ∃ j, j = W.heap.size := ⟨_, rfl⟩
 rw [← hjA] at gA ⊢
 have lA : w.heap.size < jA := by have := mF hres; omega
 have bA : Below w.heap.size w wA := tH hbz (Nat.le_refl _) (hjA ▸ gA)
 have rA : wA.heap[w.heap.size]? = _ := mR (mE hres _) gA (by omega)
 clear hjA
 go_upto_region 3 with (first | (with_reducible refine ix_vec rfl _ _ rfl g n c rfl _ rfl n1 rfl hk ?_) | (with_reducible refine vZ rfl _ rfl g (16 * n1) rfl b (tS hB hg bA) ?_) | (with_reducible refine mK rfl _ _ rfl _ _ rfl rfl 0 (mC _) ?_; intro wB gB))
 obtain ⟨jB, hjB⟩ : ∃ j, j = wA.heap.size := ⟨_, rfl⟩
 rw [← hjB] at gB ⊢
 have lAB : jA < jB := by have := mF gA.this; omega
 have bB : Below w.heap.size w wB := tH bA (Nat.le_refl _) (hjB ▸ gB)
 have rB : wB.heap[w.heap.size]? = some (.cells (mY 0) 45 (0, 0)) := mR (mE rA _) gB (by omega)
 have aB : wB.heap[jA]? = some (.cells (mY a) 45 (0, 0)) := mR (mE gA.this _) gB (by omega)
 have eB := gB.this
 clear gA gB rA bA hres hbz hjB
 go_upto_region 4 with (first | (go_at_call 75; (with_reducible refine (H1.out _ bB).mono ?_); rintro e u ⟨rfl, hb⟩) | (with_reducible refine mK rfl _ _ rfl _ _ rfl rfl 0 (mC _) ?_; intro wV gV))
 obtain ⟨jV, hjV⟩ : ∃ j, j = u.heap.size := ⟨_, rfl⟩
 rw [← hjV] at gV ⊢
 have hs : RSt w a b jA jB jV V1 wV := by
  have l1 := mF (mV eB hb)
  exact ⟨tH (Below.trans bB (hb.mono bB.size)) (Nat.le_refl _) (hjV ▸ gV), mR (mE (mV rB hb) _) gV (by omega), mR (mE (mV aB hb) _) gV (by omega), mR (mE (mV eB hb) _) gV (by omega), gV.this, lA, lAB, by omega⟩
 clear gV hb hjV eB aB rB bB lA lAB H1 q1 hA hB hk hg hn
 by_cases h1 : E1 = 0
 ·have q := vE h1
  have hR : R = V1 := by rw [HR.out]; simp [h1]
  exact xR
 have e1 := tT h1
 go_upto_region 7 with (first | (with_reducible refine mG rfl _ rfl _ rfl _ hs.hA ?_) | (with_reducible refine mG rfl _ rfl _ rfl _ hs.hB ?_) | (with_reducible refine mG rfl _ rfl _ rfl _ hs.hV ?_) | (go_at_call 76; (with_reducible refine (H2.out _ hs.bel).mono ?_); rintro e u ⟨rfl, hb⟩; replace hs := hs.below hb; clear hb) | (go_at_call 77; (with_reducible refine (H3.out _ hs.bel).mono ?_); rintro e u ⟨rfl, hb⟩; replace hs := hs.below hb; clear hb) | (go_at_call 78; (with_reducible refine (H4.out _ hs.bel).mono ?_); rintro e u ⟨rfl, hb⟩; replace hs := hs.below hb; clear hb) | (go_at_call 79; (with_reducible refine (H5.out _ hs.bel).mono ?_); rintro e u ⟨rfl, hb⟩; replace hs := hs.below hb; clear hb) | (go_at_call 80; (with_reducible refine (H6.out _ hs.bel).mono ?_); rintro e u ⟨rfl, hb⟩; replace hs := hs.below hb; clear hb) | (go_at_call 81; (with_reducible refine (H7.out _ hs.bel).mono ?_); rintro e u ⟨rfl, hb⟩; replace hs := hs.below hb; clear hb) | (with_reducible refine mK rfl _ _ rfl jV _ rfl rfl _ hs.hV ?_; intro wq hq; replace hs := hs.set hq; clear hq) | (with_reducible refine mK rfl _ _ rfl w.heap.size _ rfl rfl _ hs.res ?_; intro wr hr))
 clear e1
 by_cases h2 : E2 = 0
 ·have q := vE h2
  have hR : R = V2 := by rw [HR.out]; simp [h1, h2]
  exact xR
 have e2 := tT h2
 go_upto_region 10 with (first | (with_reducible refine mG rfl _ rfl _ rfl _ hs.hA ?_) | (with_reducible refine mG rfl _ rfl _ rfl _ hs.hB ?_) | (with_reducible refine mG rfl _ rfl _ rfl _ hs.hV ?_) | (go_at_call 76; (with_reducible refine (H2.out _ hs.bel).mono ?_); rintro e u ⟨rfl, hb⟩; replace hs := hs.below hb; clear hb) | (go_at_call 77; (with_reducible refine (H3.out _ hs.bel).mono ?_); rintro e u ⟨rfl, hb⟩; replace hs := hs.below hb; clear hb) | (go_at_call 78; (with_reducible refine (H4.out _ hs.bel).mono ?_); rintro e u ⟨rfl, hb⟩; replace hs := hs.below hb; clear hb) | (go_at_call 79; (with_reducible refine (H5.out _ hs.bel).mono ?_); rintro e u ⟨rfl, hb⟩; replace hs := hs.below hb; clear hb) | (go_at_call 80; (with_reducible refine (H6.out _ hs.bel).mono ?_); rintro e u ⟨rfl, hb⟩; replace hs := hs.below hb; clear hb) | (go_at_call 81; (with_reducible refine (H7.out _ hs.bel).mono ?_); rintro e u ⟨rfl, hb⟩; replace hs := hs.below hb; clear hb) | (with_reducible refine mK rfl _ _ rfl jV _ rfl rfl _ hs.hV ?_; intro wq hq; replace hs := hs.set hq; clear hq) | (with_reducible refine mK rfl _ _ rfl w.heap.size _ rfl rfl _ hs.res ?_; intro wr hr))
 clear e2
 by_cases h3 : E3 = 0
 ·have q := vE h3
  have hR : R = V3 := by rw [HR.out]; simp [h1, h2, h3]
  exact xR
 have e3 := tT h3
 go_upto_region 13 with (first | (with_reducible refine mG rfl _ rfl _ rfl _ hs.hA ?_) | (with_reducible refine mG rfl _ rfl _ rfl _ hs.hB ?_) | (with_reducible refine mG rfl _ rfl _ rfl _ hs.hV ?_) | (go_at_call 76; (with_reducible refine (H2.out _ hs.bel).mono ?_); rintro e u ⟨rfl, hb⟩; replace hs := hs.below hb; clear hb) | (go_at_call 77; (with_reducible refine (H3.out _ hs.bel).mono ?_); rintro e u ⟨rfl, hb⟩; replace hs := hs.below hb; clear hb) | (go_at_call 78; (with_reducible refine (H4.out _ hs.bel).mono ?_); rintro e u ⟨rfl, hb⟩; replace hs := hs.below hb; clear hb) | (go_at_call 79; (with_reducible refine (H5.out _ hs.bel).mono ?_); rintro e u ⟨rfl, hb⟩; replace hs := hs.below hb; clear hb) | (go_at_call 80; (with_reducible refine (H6.out _ hs.bel).mono ?_); rintro e u ⟨rfl, hb⟩; replace hs := hs.below hb; clear hb) | (go_at_call 81; (with_reducible refine (H7.out _ hs.bel).mono ?_); rintro e u ⟨rfl, hb⟩; replace hs := hs.below hb; clear hb) | (with_reducible refine mK rfl _ _ rfl jV _ rfl rfl _ hs.hV ?_; intro wq hq; replace hs := hs.set hq; clear hq) | (with_reducible refine mK rfl _ _ rfl w.heap.size _ rfl rfl _ hs.res ?_; intro wr hr))
 clear e3
 by_cases h4 : E4 = 0
 ·have q := vE h4
  have hR : R = V4 := by rw [HR.out]; simp [h1, h2, h3, h4]
  exact xR
 have e4 := tT h4
 go_upto_region 16 with (first | (with_reducible refine mG rfl _ rfl _ rfl _ hs.hA ?_) | (with_reducible refine mG rfl _ rfl _ rfl _ hs.hB ?_) | (with_reducible refine mG rfl _ rfl _ rfl _ hs.hV ?_) | (go_at_call 76; (with_reducible refine (H2.out _ hs.bel).mono ?_); rintro e u ⟨rfl, hb⟩; replace hs := hs.below hb; clear hb) | (go_at_call 77; (with_reducible refine (H3.out _ hs.bel).mono ?_); rintro e u ⟨rfl, hb⟩; replace hs := hs.below hb; clear hb) | (go_at_call 78; (with_reducible refine (H4.out _ hs.bel).mono ?_); rintro e u ⟨rfl, hb⟩; replace hs := hs.below hb; clear hb) | (go_at_call 79; (with_reducible refine (H5.out _ hs.bel).mono ?_); rintro e u ⟨rfl, hb⟩; replace hs := hs.below hb; clear hb) | (go_at_call 80; (with_reducible refine (H6.out _ hs.bel).mono ?_); rintro e u ⟨rfl, hb⟩; replace hs := hs.below hb; clear hb) | (go_at_call 81; (with_reducible refine (H7.out _ hs.bel).mono ?_); rintro e u ⟨rfl, hb⟩; replace hs := hs.below hb; clear hb) | (with_reducible refine mK rfl _ _ rfl jV _ rfl rfl _ hs.hV ?_; intro wq hq; replace hs := hs.set hq; clear hq) | (with_reducible refine mK rfl _ _ rfl w.heap.size _ rfl rfl _ hs.res ?_; intro wr hr))
 clear e4
 by_cases h5 : E5 = 0
 ·have q := vE h5
  have hR : R = V5 := by rw [HR.out]; simp [h1, h2, h3, h4, h5]
  exact xR
 have e5 := tT h5
 go_upto_region 19 with (first | (with_reducible refine mG rfl _ rfl _ rfl _ hs.hA ?_) | (with_reducible refine mG rfl _ rfl _ rfl _ hs.hB ?_) | (with_reducible refine mG rfl _ rfl _ rfl _ hs.hV ?_) | (go_at_call 76; (with_reducible refine (H2.out _ hs.bel).mono ?_); rintro e u ⟨rfl, hb⟩; replace hs := hs.below hb; clear hb) | (go_at_call 77; (with_reducible refine (H3.out _ hs.bel).mono ?_); rintro e u ⟨rfl, hb⟩; replace hs := hs.below hb; clear hb) | (go_at_call 78; (with_reducible refine (H4.out _ hs.bel).mono ?_); rintro e u ⟨rfl, hb⟩; replace hs := hs.below hb; clear hb) | (go_at_call 79; (with_reducible refine (H5.out _ hs.bel).mono ?_); rintro e u ⟨rfl, hb⟩; replace hs := hs.below hb; clear hb) | (go_at_call 80; (with_reducible refine (H6.out _ hs.bel).mono ?_); rintro e u ⟨rfl, hb⟩; replace hs := hs.below hb; clear hb) | (go_at_call 81; (with_reducible refine (H7.out _ hs.bel).mono ?_); rintro e u ⟨rfl, hb⟩; replace hs := hs.below hb; clear hb) | (with_reducible refine mK rfl _ _ rfl jV _ rfl rfl _ hs.hV ?_; intro wq hq; replace hs := hs.set hq; clear hq) | (with_reducible refine mK rfl _ _ rfl w.heap.size _ rfl rfl _ hs.res ?_; intro wr hr))
 clear e5
 by_cases h6 : E6 = 0
 ·have q := vE h6
  have hR : R = V6 := by rw [HR.out]; simp [h1, h2, h3, h4, h5, h6]
  exact xR
 have e6 := tT h6
 go_upto_region 22 with (first | (with_reducible refine mG rfl _ rfl _ rfl _ hs.hA ?_) | (with_reducible refine mG rfl _ rfl _ rfl _ hs.hB ?_) | (with_reducible refine mG rfl _ rfl _ rfl _ hs.hV ?_) | (go_at_call 76; (with_reducible refine (H2.out _ hs.bel).mono ?_); rintro e u ⟨rfl, hb⟩; replace hs := hs.below hb; clear hb) | (go_at_call 77; (with_reducible refine (H3.out _ hs.bel).mono ?_); rintro e u ⟨rfl, hb⟩; replace hs := hs.below hb; clear hb) | (go_at_call 78; (with_reducible refine (H4.out _ hs.bel).mono ?_); rintro e u ⟨rfl, hb⟩; replace hs := hs.below hb; clear hb) | (go_at_call 79; (with_reducible refine (H5.out _ hs.bel).mono ?_); rintro e u ⟨rfl, hb⟩; replace hs := hs.below hb; clear hb) | (go_at_call 80; (with_reducible refine (H6.out _ hs.bel).mono ?_); rintro e u ⟨rfl, hb⟩; replace hs := hs.below hb; clear hb) | (go_at_call 81; (with_reducible refine (H7.out _ hs.bel).mono ?_); rintro e u ⟨rfl, hb⟩; replace hs := hs.below hb; clear hb) | (with_reducible refine mK rfl _ _ rfl jV _ rfl rfl _ hs.hV ?_; intro wq hq; replace hs := hs.set hq; clear hq) | (with_reducible refine mK rfl _ _ rfl w.heap.size _ rfl rfl _ hs.res ?_; intro wr hr))
 clear e6
 have hR : R = V7 := by rw [HR.out]; simp [h1, h2, h3, h4, h5, h6]
 go_wp2_with (first | (with_reducible refine mG rfl _ rfl _ rfl _ hs.hA ?_) | (with_reducible refine mG rfl _ rfl _ rfl _ hs.hB ?_) | (with_reducible refine mG rfl _ rfl _ rfl _ hs.hV ?_) | (go_at_call 76; (with_reducible refine (H2.out _ hs.bel).mono ?_); rintro e u ⟨rfl, hb⟩; replace hs := hs.below hb; clear hb) | (go_at_call 77; (with_reducible refine (H3.out _ hs.bel).mono ?_); rintro e u ⟨rfl, hb⟩; replace hs := hs.below hb; clear hb) | (go_at_call 78; (with_reducible refine (H4.out _ hs.bel).mono ?_); rintro e u ⟨rfl, hb⟩; replace hs := hs.below hb; clear hb) | (go_at_call 79; (with_reducible refine (H5.out _ hs.bel).mono ?_); rintro e u ⟨rfl, hb⟩; replace hs := hs.below hb; clear hb) | (go_at_call 80; (with_reducible refine (H6.out _ hs.bel).mono ?_); rintro e u ⟨rfl, hb⟩; replace hs := hs.below hb; clear hb) | (go_at_call 81; (with_reducible refine (H7.out _ hs.bel).mono ?_); rintro e u ⟨rfl, hb⟩; replace hs := hs.below hb; clear hb) | (with_reducible refine mK rfl _ _ rfl jV _ rfl rfl _ hs.hV ?_; intro wq hq; replace hs := hs.set hq; clear hq) | (with_reducible refine mK rfl _ _ rfl w.heap.size _ rfl rfl _ hs.res ?_; intro wr hr))
 exact bodyPost_ret (results_cell_row rfl _ _ w.heap.size _ _ _ _ rfl hr.this r5 rfl (sY _)) rfl ⟨congrArg (fun z => Ending.returned (.agg (mY z))) hR.symm, hs.bel.trans (hr.below.mono (Nat.le_refl _))⟩
end Go.Proofs.Ytcpfabkokgiepaa
end
