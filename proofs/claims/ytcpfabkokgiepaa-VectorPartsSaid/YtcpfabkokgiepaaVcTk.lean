/-
  pair.Take: halves as values, by a list of types.
-/
import Derived.Test.YtcpfabkokgiepaaVcOf
import Derived.Test.YtcpfabkokgiepaaVmP
set_option linter.unusedSimpArgs false
set_option linter.unusedVariables false
namespace Go.Proofs.Ytcpfabkokgiepaa
open Go.RowKit Pl

end Go.Proofs.Ytcpfabkokgiepaa
namespace Pl
open Go
def joinV (lo hi : Nat) : Vec := setN (setN 0 64 0 lo) 64 1 hi
def takeV : List Int → List Nat → Option (List Vec)
  | [], [] => some []
  | [], _ :: _ => none
  | t :: ts, hs =>
    if t = 123 then
      match hs with
      | lo :: hi :: r => (takeV ts r).map (joinV lo hi :: ·)
      | _ => none
    else if t = 127 ∨ t = 126 then
      match hs with
      | lo :: r => (takeV ts r).map (joinV (if t = 127 then lo % 4294967296 else lo) 0 :: ·)
      | _ => none
    else none
def vcells (l : List Vec) : List Value := l.flatMap fun v => (cells v).toList
theorem length_vcells (l : List Vec) : (vcells l).length = l.length * 16 := by
  induction l with
  | nil => rfl
  | cons v l ih =>
    unfold vcells at ih ⊢
    rw [List.flatMap_cons, List.length_append, ih]
    have : (cells v).toList.length = 16 := by simp
    rw [this, List.length_cons]
    omega
theorem vcells_append (l : List Vec) (v : Vec) : vcells (l ++ [v]) = vcells l ++ (cells v).toList := by simp [vcells]
end Pl
namespace Go.Proofs.Ytcpfabkokgiepaa
open Go.RowKit Pl
/-- A slice that reads as a list of integers. -/
structure LView (k : IntKind) (w : World) (v : Value) (l : List Int) : Prop where
  ex : ∃ ad c, v = .slice ad l.length c ∧ l.length ≤ c ∧ (l.length = 0 ∨ ∃ b off, ad = some ⟨b, off, none⟩ ∧ b < w.heap.size ∧ ∀ i z, l[i]? = some z → w.cell? ⟨b, off + i, none⟩ = some (.int k z))
theorem LView.below {k : IntKind} {w w1 : World} {v : Value} {l : List Int} (h : LView k w v l) (hb : Below w.heap.size w w1) : LView k w1 v l := by
  obtain ⟨ad, c, e, hc, h⟩ := h.ex
  refine ⟨ad, c, e, hc, h.imp id fun ⟨b, off, e1, hlt, hx⟩ => ⟨b, off, e1, Nat.lt_of_lt_of_le hlt hb.size, fun i z hi => ?_⟩⟩
  have := hx i z hi
  unfold World.cell? at this ⊢
  rw [hb.block b hlt]
  exact this
theorem LView.of_own {w : World} {B : Nat} {v : Value} {l : List Int} (h : w.ownsRow B 3 1 v l.length (l.map (Value.int .i64))) : LView .i64 w v l := by
  rcases h.2 with ⟨rfl, h0⟩ | ⟨g, cap, cur, rfl, _, hg, hn, _, hs, ht⟩
  · exact ⟨none, 0, by rw [h0], by omega, .inl h0⟩
  · refine ⟨_, cap, rfl, hn, .inr ⟨g, 0, rfl, block_lt hg, fun i z hi => ?_⟩⟩
    have hlt := (List.getElem?_eq_some_iff.1 hi).1
    rw [Nat.zero_add, cell_of_row w g i _ _ _ hg]
    have h2 : (cur.toList.take (l.length * 1))[i]? = some (.int .i64 z) := by rw [ht, List.getElem?_map, hi]; rfl
    rw [List.getElem?_take, if_pos (by omega)] at h2
    simpa using h2
theorem LView.cut {k : IntKind} {w : World} {ad : Option Addr} {n c : Nat} {l : List Int} (hh : LView k w (.slice ad n c) l) (j : Nat) (hj : j ≤ l.length) :
    LView k w (.slice (if c = j then ad else ad.map (·.add j)) (n - j) (c - j)) (l.drop j) := by
  obtain ⟨ad', c', e, hc, h⟩ := hh.ex
  injection e with e1 e2 e3
  subst e1 e2 e3
  refine ⟨_, _, by rw [List.length_drop], by rw [List.length_drop]; omega, ?_⟩
  by_cases h0 : l.length = j
  · left; rw [List.length_drop]; omega
  · obtain ⟨b, off, rfl, hlt, hx⟩ := h.resolve_left (by omega)
    right
    rw [if_neg (by omega)]
    refine ⟨b, off + j, by simp [Go.Addr.add_mid], hlt, fun i z hi => ?_⟩
    rw [List.getElem?_drop] at hi
    rw [Nat.add_assoc]
    exact hx _ z hi
theorem LView.get {k : IntKind} {w : World} {v : Value} {l : List Int} (h : LView k w v l) (i : Nat) (hi : i < l.length) : ∃ b off c, v = .slice (some ⟨b, off, none⟩) l.length c ∧ l.length ≤ c ∧ b < w.heap.size ∧ ∀ i z, l[i]? = some z → w.cell? ⟨b, off + i, none⟩ = some (.int k z) := by
  obtain ⟨ad, c, e, hc, h⟩ := h.ex
  obtain ⟨b, off, rfl, hlt, hx⟩ := h.resolve_left (by omega)
  exact ⟨b, off, c, e, hc, hlt, hx⟩
theorem vecInfo : (Try.prog.info? 45).map (fun i => (i.zero, i.size, i.bytes)) = some (some (.agg (cells 0)), 16, 16) := by kernel_rfl
theorem lay_one (v : Vec) : Array.foldl (fun cs x => cs.setIfInBounds x.2 x.1) (#[.int .u8 0, .int .u8 0, .int .u8 0, .int .u8 0, .int .u8 0, .int .u8 0, .int .u8 0, .int .u8 0, .int .u8 0, .int .u8 0, .int .u8 0, .int .u8 0, .int .u8 0, .int .u8 0, .int .u8 0, .int .u8 0] : Array Value) (cells v).zipIdx 0 16 = cells v := by kernel_rfl
/-- append of one vector onto an own row of vectors. -/
theorem app_vec1 {ops : Array Oper} {rest : List Oper} {o : Oper} {a : Act} {w : World} {Q : Exit → Act → World → Prop} (hgd : o.guard = none) (s x : Operand) (ho : o.op = .call { callee := .builtin .append, args := #[s, x], argTypes := #[66, 66] })
    (base : Nat) (v : Value) (xs : List Vec) (z : Vec) (b c : Nat) (hs : a.eval s = v) (hown : w.ownsRow base 45 16 v xs.length (vcells xs))
    (hx : a.eval x = .slice (some ⟨b, 0, none⟩) 1 c) (hb : w.heap[b]? = some (.cells (cells z) 45 (0, 0)))
    (hsm : xs.length ≤ 1000) (hbase : base ≤ w.heap.size)
    (h : ∀ v' w', w'.ownsRow base 45 16 v' (xs ++ [z]).length (vcells (xs ++ [z])) → w.grownBy w' v.ownBlock → wpList Try.prog ops Q rest (a.put o.dst v') w') : wpList Try.prog ops Q (o :: rest) a w := by
  refine wpList_plain hgd fun K hK => ?_
  obtain ⟨i, hi, hz0, hz1, hz2⟩ := info_parts vecInfo
  obtain ⟨v', w', hr, h2, h3, _, _⟩ := run_append_own_at (P := Try.prog) w base 66 o.type 45 i (.agg (cells 0)) 16 16 Try.underlying66 hi hz0 hz1 hz2 (by simp [Value.cells]) (by decide) v xs.length (vcells xs) hown ⟨b, 0, none⟩ 1 c (cells z).toList (by simp)
    (fun j u hj => by
      rw [show (⟨b, 0, none⟩ : Addr).add j = ⟨b, j, none⟩ by first | rfl | (simp [Addr.add]; done) | (simp [Addr.add]; exact fun h => h.symm), cell_of_row w b j _ _ _ hb]
      simpa using hj) (fun u hu => by
      obtain ⟨j, hj, rfl⟩ := List.getElem_of_mem hu
      simp [cells, byteV, Value.oneCell']) (by unfold maxLen; omega) (by omega) hbase
  unfold Oper.wp execOp
  simp only [ho, resolve, invoke, builtin, Sem.run_bind, Sem.run_pure, Result.andThen_ok, List.map_toArray, List.map_cons, List.map_nil, hs, hx, hr]
  exact hK _ _ (h v' w' (by rw [vcells_append, List.length_append]; exact h2) h3)

end Go.Proofs.Ytcpfabkokgiepaa
