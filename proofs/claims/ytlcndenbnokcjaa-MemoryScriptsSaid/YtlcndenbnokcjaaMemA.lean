/-
  append, copy and make on slices of bytes, as laws of rows; their steps in a walk.
-/
import Derived.Test.YtlcndenbnokcjaaMemS
import Derived.Deep.Cut
import Derived.Deep.RegionLaw
set_option linter.unusedSimpArgs false
set_option linter.unusedVariables false
namespace Go.Proofs.Ytlcndenbnokcjaa
open Go.RowKit Pl

def zerosN (n : Nat) : Array Value := (List.replicate n (Value.int .u8 0)).toArray
theorem size_zerosN (n : Nat) : (zerosN n).size = n := by simp [zerosN]
theorem get_zerosN (n i : Nat) (h : i < n) : (zerosN n)[i]? = some (.int .u8 ((0 : Nat) : Int)) := by simp [zerosN, h]
theorem made_zeros (n : Nat) : madeCells #[.int .u8 0] n = zerosN n := by
  apply Array.ext_getElem?
  intro i
  by_cases h : i < n
  · rw [get_zerosN n i h]; simp [madeCells, h, Nat.mod_one]
  · rw [Array.getElem?_eq_none (by simp [size_madeCells]; omega), Array.getElem?_eq_none (by simp [size_zerosN]; omega)]
theorem zero_zeros (n : Nat) : Builtin.zeroCells #[.int .u8 0] n = zerosN n := by
  apply Array.ext_getElem?
  intro i
  by_cases h : i < n
  · rw [get_zerosN n i h]; simp [Builtin.zeroCells, h, Nat.mod_one]
  · rw [Array.getElem?_eq_none (by simp [Builtin.zeroCells]; omega), Array.getElem?_eq_none (by simp [size_zerosN]; omega)]

theorem under_bytes : Try.prog.underlying 48 = some (.slice 5) := by kernel_rfl
theorem under_byte : Try.prog.underlying 5 = some (.int .u8) := by kernel_rfl
theorem info_byte : ∃ i, Try.prog.info? 5 = some i ∧ i.zero = some (.int .u8 0) ∧ i.size = 1 ∧ i.bytes = 1 := ⟨_, rfl, rfl, rfl, rfl⟩

theorem make_bytes (w : World) (n : Nat) (hn : n ≤ 16777216) : (Instr.makeSlice 48 (.int .i64 (n : Int)) (.int .i64 (n : Int))).run Try.prog w =
    .ok (.slice (some ⟨w.heap.size, 0, none⟩) n n) (w.alloc (.cells (zerosN n) 5)) := by
  obtain ⟨i, hi, hz, hs, hb⟩ := info_byte
  have := run_make (P := Try.prog) w 48 5 i _ under_bytes hi hz .i64 .i64 n n (by omega) (by omega) (by rw [hb]; omega) (by omega)
  rw [hs] at this
  simp only [Int.toNat_natCast, Nat.mul_one] at this
  rw [this, ← made_zeros]
  rfl
theorem row_new (w : World) (n : Nat) : BytesAt (w.alloc (.cells (zerosN n) 5)) w.heap.size n n (fun _ => 0) :=
  ⟨⟨zerosN n, heap_alloc_new _ _, size_zerosN n, fun i hi => get_zerosN n i hi⟩, fun _ _ => by decide, Nat.le_refl _⟩

/-- Bytes as cells. -/
def byteRow (m : Nat) (ν : Nat → Nat) : List Value := (List.range m).map fun i => Value.int .u8 (ν i : Nat)
theorem length_byteRow (m : Nat) (ν : Nat → Nat) : (byteRow m ν).length = m := by simp [byteRow]
theorem get_byteRow (m : Nat) (ν : Nat → Nat) (i : Nat) (h : i < m) : (byteRow m ν)[i]? = some (.int .u8 (ν i : Nat)) := by simp [byteRow, h]
theorem one_byteRow (m : Nat) (ν : Nat → Nat) : ∀ u ∈ byteRow m ν, u.oneCell' = true := by
  intro u hu
  obtain ⟨i, _, rfl⟩ := List.mem_map.1 hu
  rfl

/-- Written behind one another. -/
def joinB (n : Nat) (β ν : Nat → Nat) : Nat → Nat := fun i => if i < n then β i else ν (i - n)

theorem heap_setCells_other (b : Nat) : ∀ (vs : List Value) (o : Nat) (w : World) (k : Nat), k ≠ b → (w.setCells b o vs).heap[k]? = w.heap[k]?
  | [], _, _, _, _ => rfl
  | v :: r, o, w, k, h => by rw [World.setCells, heap_setCells_other b r (o + 1) _ k h, heap_setCell_other _ _ _ _ h]
theorem keep_setCells {S : Nat → Prop} (b : Nat) : ∀ (vs : List Value) (o : Nat) (a w : World), Keep S a w → S b → Keep S a (w.setCells b o vs)
  | [], _, _, _, h, _ => h
  | v :: r, o, a, w, h, hb => by rw [World.setCells]; exact keep_setCells b r (o + 1) a _ (h.setCell (.inl hb) v) hb
theorem heap_setCells_row (b : Nat) : ∀ (vs : List Value) (o : Nat) (w : World) (xs : Array Value) (T : TypeId), w.heap[b]? = some (.cells xs T (0, 0)) → o + vs.length ≤ xs.size →
    ∃ ys, (w.setCells b o vs).heap[b]? = some (.cells ys T (0, 0)) ∧ ys.size = xs.size ∧ ∀ i, ys[i]? = if o ≤ i ∧ i < o + vs.length then vs[i - o]? else xs[i]?
  | [], o, w, xs, T, h, _ => ⟨xs, h, rfl, fun i => by rw [if_neg (by simp)]⟩
  | v :: r, o, w, xs, T, h, hl => by
    obtain ⟨ys, h1, h2, h3⟩ := heap_setCells_row b r (o + 1) (w.setCell ⟨b, o, none⟩ v) (xs.setIfInBounds o v) T (heap_setCell_same w b o _ _ _ h) (by simp at hl ⊢; omega)
    refine ⟨ys, h1, by simpa using h2, fun i => ?_⟩
    rw [h3]
    simp only [List.length_cons] at hl ⊢
    by_cases e : i = o
    · subst e
      rw [if_neg (by omega), if_pos (by omega), Array.getElem?_setIfInBounds, if_pos rfl, if_pos (by omega)]
      simp
    · by_cases h4 : o + 1 ≤ i ∧ i < o + 1 + r.length
      · rw [if_pos h4, if_pos (by omega), show i - o = (i - (o + 1)) + 1 by omega]
        simp
      · rw [if_neg h4, if_neg (by omega), Array.getElem?_setIfInBounds, if_neg (fun e1 => e e1.symm)]

/-- Bytes written into a row from place s on. -/
def putB (β : Nat → Nat) (s m : Nat) (ν : Nat → Nat) : Nat → Nat := fun i => if s ≤ i ∧ i < s + m then ν (i - s) else β i
theorem BytesAt.puts {w : World} {q n c : Nat} {β : Nat → Nat} (h : BytesAt w q n c β) (s m n1 : Nat) (ν : Nat → Nat) (hs : s + m ≤ c) (hn1 : n1 ≤ c) (hν : ∀ i, i < m → ν i < 256) (hn : ∀ i, i < n1 → n ≤ i → s ≤ i ∧ i < s + m) :
    BytesAt (w.setCells q s (byteRow m ν)) q n1 c (putB β s m ν) := by
  obtain ⟨xs, h1, h2, h3⟩ := h.ex
  obtain ⟨ys, k1, k2, k3⟩ := heap_setCells_row q (byteRow m ν) s w xs _ h1 (by rw [length_byteRow]; omega)
  refine ⟨⟨ys, k1, by omega, fun i hi => ?_⟩, fun i hi => ?_, hn1⟩
  · rw [k3, length_byteRow]
    unfold putB
    by_cases e : s ≤ i ∧ i < s + m
    · rw [if_pos e, if_pos e, get_byteRow _ _ _ (by omega)]
    · rw [if_neg e, if_neg e]
      rcases Nat.lt_or_ge i n with hin | hin
      · exact h3 i hin
      · exact absurd (hn i hi hin) e
  · unfold putB
    by_cases e : s ≤ i ∧ i < s + m
    · rw [if_pos e]; exact hν _ (by omega)
    · rw [if_neg e]
      rcases Nat.lt_or_ge i n with hin | hin
      · exact h.lt i hin
      · exact absurd (hn i hi hin) e
theorem BytesAt.block_cells {w : World} {q n c : Nat} {β : Nat → Nat} (h : BytesAt w q n c β) (s m : Nat) (hs : s + m ≤ c) : ∀ j, j < m → (w.cell? ⟨q, s + j, none⟩).isSome = true := fun j hj => h.isCell (by omega)
theorem cells_of_bytes {w : World} {q n c : Nat} {β : Nat → Nat} (h : BytesAt w q n c β) (s m : Nat) (hs : s + m ≤ n) : ∀ j u, (byteRow m (fun i => β (s + i)))[j]? = some u → w.cell? ((⟨q, s, none⟩ : Addr).add j) = some u := by
  intro j u hu
  have hj : j < m := by
    rcases Nat.lt_or_ge j m with h1 | h1
    · exact h1
    · rw [List.getElem?_eq_none (by rw [length_byteRow]; exact h1)] at hu; cases hu
  rw [get_byteRow _ _ _ hj] at hu
  cases hu
  rw [Addr.add_lit]
  exact h.cell (by omega)

/-- A new row in which bytes lie, with room behind them. -/
theorem row_alloc (w : World) (n k : Nat) (β : Nat → Nat) (hβ : ∀ i, i < n → β i < 256) (xs : Array Value) (hx : xs.toList = byteRow n β ++ (zerosN k).toList) : BytesAt (w.alloc (.cells xs 5)) w.heap.size n (n + k) β := by
  refine ⟨⟨xs, heap_alloc_new _ _, ?_, fun i hi => ?_⟩, hβ, by omega⟩
  · rw [← Array.length_toList, hx]; simp [length_byteRow, zerosN]
  · rw [← Array.getElem?_toList, hx, List.getElem?_append_left (by rw [length_byteRow]; exact hi), get_byteRow _ _ _ hi]

/-- What an append has made. -/
structure Grown (w w1 : World) (q q1 : Option Nat) (n1 c1 : Nat) (β : Nat → Nat) : Prop where
  row : RowAt w1 q1 n1 c1 β
  keep : Keep (fun k => q = some k) w w1
  new : q1 = q ∨ ∃ b, q1 = some b ∧ w.heap.size ≤ b

/-- append of bytes onto nil. -/
theorem app_nil (w : World) (ty : TypeId) (x : Value) (m : Nat) (ν : Nat → Nat) (hs : Src Try.prog 1 48 x m (byteRow m ν) w) (hν : ∀ i, i < m → ν i < 256) (hm : m ≤ 16777216) :
    ∃ q1 c1 w1, (Builtin.append_ #[48, 48] ty #[.slice none 0 0, x]).run Try.prog w = .ok (.slice (headOf q1) m c1) w1 ∧ Grown w w1 none q1 m c1 ν := by
  obtain ⟨i, hi, hz, hsz, hb⟩ := info_byte
  have hs1 : Src Try.prog i.size 48 x m (byteRow m ν) w := by rw [hsz]; exact hs
  by_cases h0 : m = 0
  · subst h0
    refine ⟨none, 0, w, ?_, ⟨⟨rfl, rfl⟩, Keep.refl _ _, .inl rfl⟩⟩
    rcases hs.kind with ⟨e', hk⟩ | hk
    · have hc := hs.cells
      have hl := hs.len w
      simp [Builtin.append_, run_underlying under_bytes, sizeOf, typeInfo, hi, hl, hsz, hc, byteRow, headOf]
    · rw [under_bytes] at hk; cases hk
  · have hfit : Builtin.nextslicecap (0 + m) 0 * i.bytes ≤ 281474976710656 := by
      rw [Nat.zero_add, nextslicecap_zero (by omega), hb]; omega
    have hr := run_append_grow_src (P := Try.prog) w 48 48 ty 5 i _ under_bytes hi hz none 0 0 [] (by rw [run_firstCells_none]) x m (byteRow m ν) hs1 (by omega) (by omega) hfit
    refine ⟨some w.heap.size, _, _, by simpa [headOf] using hr, ⟨?_, (Keep.refl _ w).drew.alloc _, .inr ⟨_, rfl, Nat.le_refl _⟩⟩⟩
    have hge := grownCap_ge w (0 + m) 0 5
    have := row_alloc w.drew m (grownCap w m 0 5 - m) ν hν ((byteRow m ν).toArray ++ Builtin.zeroCells #[.int .u8 0] (grownCap w m 0 5 - m)) (by simp [zero_zeros])
    rw [show m + (grownCap w m 0 5 - m) = grownCap w m 0 5 by simp at hge; omega] at this
    show BytesAt _ _ _ _ _
    exact this
theorem zeros_row (m : Nat) : (zerosN m).toList = byteRow m (fun _ => 0) := by
  apply List.ext_getElem?
  intro i
  by_cases h : i < m
  · rw [get_byteRow _ _ _ h, Array.getElem?_toList, get_zerosN _ _ h]
  · rw [List.getElem?_eq_none (by simp [zerosN]; omega), List.getElem?_eq_none (by rw [length_byteRow]; omega)]
/-- append of a number of zeros (what 'append(b, make([]byte, m)...)' is). -/
theorem app_zeros (w : World) (ty : TypeId) (q : Option Nat) (n c : Nat) (β : Nat → Nat) (hr : RowAt w q n c β) (m : Nat) (hm : n + m ≤ 16777216) :
    ∃ q1 c1 w1, (Builtin.append_ #[48, 3] ty #[.slice (headOf q) n c, .int .i64 (m : Int)]).run Try.prog w = .ok (.slice (headOf q1) (n + m) c1) w1 ∧ Grown w w1 q q1 (n + m) c1 (joinB n β (fun _ => 0)) := by
  obtain ⟨i, hi, hz, hsz, hb⟩ := info_byte
  have hu : Try.prog.underlying 3 = some (.int .i64) := by kernel_rfl
  have hw0 : IntKind.i64.wrap 0 = 0 := by decide
  have hwrap : IntKind.i64.wrap (m : Int) = m := IntWalk.i64_in _ (by omega)
  have h1 : ¬ ((m : Int) < 0) := by omega
  have h2 : ¬ (281474976710656 < (m : Int)) := by omega
  have hlt := hr.lt
  have hle := hr.le
  by_cases hroom : n + m ≤ c
  · cases q with
    | none =>
      obtain ⟨rfl, rfl⟩ := hr
      obtain rfl : m = 0 := by omega
      refine ⟨none, 0, w, ?_, ⟨⟨rfl, rfl⟩, Keep.refl _ _, .inl rfl⟩⟩
      simp [Builtin.append_, run_underlying under_bytes, run_underlying hu, sizeOf, typeInfo, hi, hb, hsz, headOf, asInt, asIntOf, hw0]
    | some b =>
      have hr' : BytesAt w b n c β := hr
      have hst := run_storeCells_cells (P := Try.prog) b n (zerosN m).toList 0 w (by rw [zeros_row, length_byteRow]; intro j hj; exact hr'.isCell (by omega)) (fun j hj => hr'.frozen _) (by rw [zeros_row]; exact one_byteRow _ _)
      refine ⟨some b, c, w.setCells b n (byteRow m fun _ => 0), ?_, ⟨?_, keep_setCells b _ _ _ _ (Keep.refl _ _) rfl, .inl rfl⟩⟩
      · rw [← zeros_row]
        by_cases h0 : m = 0
        · subst h0
          have e0 : (zerosN 0).toList = [] := rfl
          rw [e0] at hst ⊢
          simp only [storeCells] at hst
          simp [Builtin.append_, run_underlying under_bytes, run_underlying hu, sizeOf, typeInfo, hi, hb, hsz, headOf, asInt, asIntOf, hw0, storeCells, World.setCells, hle]
        · simp only [Nat.add_zero] at hst
          simp [Builtin.append_, run_underlying under_bytes, run_underlying hu, sizeOf, typeInfo, zeroValue, hi, hz, hb, hsz, headOf, asInt, asIntOf, hroom, hwrap, h1, h2, h0, zero_zeros, Addr.add_lit, hst, Value.cells]
      · refine (hr'.puts n m (n + m) (fun _ => 0) hroom hroom (fun _ _ => by decide) (fun i h1 h2 => ⟨h2, h1⟩)).congr fun i hi => ?_
        unfold joinB putB
        by_cases h : i < n
        · rw [if_pos h, if_neg (by omega)]
        · rw [if_neg h, if_pos (by omega)]
  · have hfit : ¬ (281474976710656 < Builtin.nextslicecap (n + m) c) := by
      have := nextslicecap_le (need := n + m) (old := c) (by omega); omega
    have h63 : ¬ (9223372036854775807 < ((n : Int) + (m : Int))) := by omega
    have h0 : ¬ m = 0 := by omega
    have hold : (Builtin.firstCells 1 n (.slice (headOf q) n c)).run Try.prog w.drew = .ok (byteRow n β).toArray w.drew := by
      cases q with
      | none => obtain ⟨rfl, rfl⟩ := hr; rfl
      | some b =>
        have hr' : BytesAt w b n c β := hr
        refine run_firstCells_some (P := Try.prog) w.drew 1 n ⟨b, 0, none⟩ n c (byteRow n β) (by rw [length_byteRow, Nat.mul_one]) ?_
        have := cells_of_bytes hr' 0 n (by omega)
        simpa using this
    have hge := grownCap_ge w (n + m) c 5
    refine ⟨some w.heap.size, grownCap w (n + m) c 5, w.drew.alloc (.cells ((byteRow n β).toArray ++ zerosN m ++ zerosN (grownCap w (n + m) c 5 - (n + m))) 5), ?_, ⟨?_, (Keep.refl _ w).drew.alloc _, .inr ⟨_, rfl, Nat.le_refl _⟩⟩⟩
    · rw [show headOf (some w.heap.size) = some ⟨w.heap.size, 0, none⟩ from rfl]
      simp [Builtin.append_, run_underlying under_bytes, run_underlying hu, sizeOf, typeInfo, zeroValue, hi, hz, hb, hsz, asInt, asIntOf, hroom, hwrap, h1, h2, h0, zero_zeros, Value.cells, hfit, h63, Question.forced, hold, newRow, grownCap]
    · show BytesAt _ _ _ _ _
      have := row_alloc w.drew (n + m) (grownCap w (n + m) c 5 - (n + m)) (joinB n β fun _ => 0) (fun i hi => by
        unfold joinB
        split
        · rename_i h; exact hlt i h
        · exact (by decide : 0 < 256)) ((byteRow n β).toArray ++ zerosN m ++ zerosN (grownCap w (n + m) c 5 - (n + m))) (by
          rw [Array.toList_append, Array.toList_append, zeros_row m, List.toList_toArray]
          refine congrArg (· ++ _) ?_
          apply List.ext_getElem?
          intro i
          unfold joinB
          by_cases h : i < n
          · rw [List.getElem?_append_left (by simp [length_byteRow]; exact h), get_byteRow n β i h, get_byteRow (n + m) _ i (by omega), if_pos h]
          · by_cases h2 : i < n + m
            · rw [List.getElem?_append_right (by simp [length_byteRow]; omega), get_byteRow (n + m) _ i h2, if_neg h, length_byteRow]
              exact get_byteRow m _ _ (by omega)
            · rw [List.getElem?_eq_none (by simp [length_byteRow]; omega), List.getElem?_eq_none (by rw [length_byteRow]; omega)])
      rw [show n + m + (grownCap w (n + m) c 5 - (n + m)) = grownCap w (n + m) c 5 by omega] at this
      exact this
end Go.Proofs.Ytlcndenbnokcjaa
