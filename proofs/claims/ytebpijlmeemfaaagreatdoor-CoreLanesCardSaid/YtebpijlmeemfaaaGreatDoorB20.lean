/- A part of the proof that plaittop.CoreLanes returns true. -/
import Derived.Laws.BitsLemmas
import Derived.Laws.Bits64
import Derived.Test.YtebpijlmeemfaaaGreatDoorB01
import Derived.Test.YtebpijlmeemfaaaGreatDoorB16
import Derived.Test.YtebpijlmeemfaaaGreatDoorB17
import Derived.Test.YtebpijlmeemfaaaGreatDoorB18
import Derived.Test.YtebpijlmeemfaaaGreatDoorB19
set_option linter.all false
set_option linter.unusedSectionVars false
set_option linter.unusedSimpArgs false
set_option linter.unusedVariables false
section
set_option maxRecDepth 100000
namespace Ev
open Go Go.Proofs
theorem ten_pow (n : Nat) (h : 4 ≤ n) : 10 ≤ 2 ^ n := Nat.le_trans (by decide : 10 ≤ 2 ^ 4) (Nat.pow_le_pow_right (by decide) h)
theorem step_gen {f : FB} {w0 w : World} {V L V' L' : List B64} {nil : Bool} {at_ : Nat} {at2 : Int} {fuel fuel2 : Nat} {β : Nat → Nat} (I : IS f w0 V L nil at_ fuel β w) {Vc Lc : List CV} (hVl : Vc.length = V.length) (hVc : ∀ (i : Nat) (c : CV), Vc[i]? = some c → ∃ x, V[i]? = some x ∧ NumC c x)
  (hLl : Lc.length = L.length) (hLc : ∀ (i : Nat) (c : CV), Lc[i]? = some c → ∃ x, L[i]? = some x ∧ NumC c x) (hVm : V.length ≤ 1000) (hLm : L.length ≤ 1000)
  {R9 : Row} (h9 : R9.kind = .live ∧ R9.n = 65536 ∧ R9.elem = 5 ∧ R9.size = 1) (h9c : ∀ j, j < 65536 → ∀ e, (R9.at j).rel e (.int .u8 (β j : Int))) {op a : Nat} {nC : CV} {nv : Int} (hn : ∀ e, nC.rel e (.int .u64 nv)) {o : StO}
  (ho : stepOut (evS op a nC Vc Lc nil at_ fuel R9) [1, 2, 4, 5] = some o) (hV : o.V.length = V'.length ∧ ∀ (i : Nat) (c : CV), o.V[i]? = some c → ∃ x, V'[i]? = some x ∧ NumB c x) (hL : o.L.length = L'.length ∧ ∀ (i : Nat) (c : CV), o.L[i]? = some c → ∃ x, L'[i]? = some x ∧ NumB c x)
  (hat : o.at_ = .int .i64 at2) (hfu : o.fuel = .int .i64 (fuel2 : Int)) :
  Calls Tryz.prog 120 #[.pointer (some ⟨f.F, 0, none⟩), .agg #[.int .i64 (op : Int), .int .i64 (a : Int), .int .u64 nv]] w fun en w' => en = .returned (.tuple #[]) ∧ IS f w0 V' L' false at2 fuel2 β w' := by
 obtain ⟨bl, cl, st, hs, hbl, hst⟩ := I.sim hVl hVc hLl hLc hVm hLm h9 h9c
 have hw : Was f w0 bl cl st := ⟨hbl, hst⟩
 obtain ⟨h2, l2, r1, r2, r4, r5, i, n, m, hr2, _, _, _, _, _, _, _, _, _, _, hws, _⟩ := stepOut_spec ho
 have := (evCall_ok rnTab_ok 5000 9).sim 120 _ (2 ^ 300) _ _ h2 l2 hr2 (envS f bl cl st) w [.pointer (some ⟨f.F, 0, none⟩), .agg #[.int .i64 (op : Int), .int .i64 (a : Int), .int .u64 nv]] hs
  ⟨⟨f.F, f.cF, rfl, rfl⟩, ⟨[.int .i64 (op : Int), .int .i64 (a : Int), .int .u64 nv], ⟨rfl, rfl, hn _, trivial⟩, rfl⟩, trivial⟩
 refine Calls.mono this fun en w' hen => ?_
 obtain ⟨y, e', rfl, k1, k2, k3⟩ := hen
 obtain ⟨ys, k3, rfl⟩ := k3
 match ys, k3 with
 | [], _ =>
  have hlo : 10 ≤ 2 ^ 300 := ten_pow 300 (by decide)
  have h9w : 9 ∉ l2.w := fun h => by have := hws 9 h; simp at this
  have hW : ∀ x ∈ l2.w, x ∈ [1, 2, 4, 5, 9] := fun x hx => by
   have := hws x hx
   simp only [List.mem_cons, List.not_mem_nil, or_false] at this ⊢
   omega
  have hB : Bt w' f.q f.cq β := by
   obtain ⟨qa, q1, q2⟩ := I.byt
   exact ⟨qa, (old_stay hw I.new k2 hW hlo I.size I.old.2.2.2.2 (.inr h9w)).trans q1, q2⟩
  exact ⟨rfl, I.back hw k1 k2 hlo hW hB hr2 ho hV hL hat hfu⟩
structure PS where
 V : List B64
 L : List B64
 nil : Bool
 fuel : Nat
 β : Nat → Nat
def PS.is (s : PS) (f : FB) (w0 : World) (at_ : Nat) (w : World) : Prop := IS f w0 s.V s.L s.nil at_ s.fuel s.β w
def cellV (c : Ln.C) : Value := .agg #[.int .i64 (c.1 : Int), .int .i64 (c.2.1 : Int), .int .u64 (c.2.2 : Int)]
def Leads (c : Ln.C) (s s' : PS) : Prop := ∀ (f : FB) (w0 w : World) (at_ : Nat), at_ < 100000 → s.is f w0 at_ w → Calls Tryz.prog 120 #[.pointer (some ⟨f.F, 0, none⟩), cellV c] w fun en w' => en = .returned (.tuple #[]) ∧ s'.is f w0 (at_ + 1) w'
theorem seqN_len (v : Nat → B64) (n : Nat) : (seqN v n).length = n := by simp [seqN]
theorem seqN_get {v : Nat → B64} {n i : Nat} {c : CV} (h : (seqN v n)[i]? = some c) : i < n ∧ c = .w (v i) := by
 have hi : i < n := by have := (List.getElem?_eq_some_iff.1 h).1; rwa [seqN_len] at this
 unfold seqN at h
 rw [List.getElem?_map, List.getElem?_range hi] at h
 exact ⟨hi, (Option.some.inj h).symm⟩
def nth (V : List B64) (i : Nat) : B64 := V.getD i 0
theorem nth_get {V : List B64} {i : Nat} (h : i < V.length) : V[i]? = some (nth V i) := by
 unfold nth; rw [List.getD_eq_getElem?_getD, List.getElem?_eq_getElem h]; rfl
theorem seq_c (V : List B64) : (seqN (nth V) V.length).length = V.length ∧ ∀ (i : Nat) (c : CV), (seqN (nth V) V.length)[i]? = some c → ∃ x, V[i]? = some x ∧ NumC c x :=
 ⟨seqN_len _ _, fun i c h => by obtain ⟨hi, rfl⟩ := seqN_get h; exact ⟨_, nth_get hi, numC_w _⟩⟩
theorem seq_b (V : List B64) : (seqN (nth V) V.length).length = V.length ∧ ∀ (i : Nat) (c : CV), (seqN (nth V) V.length)[i]? = some c → ∃ x, V[i]? = some x ∧ NumB c x :=
 ⟨seqN_len _ _, fun i c h => by obtain ⟨hi, rfl⟩ := seqN_get h; exact ⟨_, nth_get hi, numB_w _⟩⟩
theorem seq_b1 (V : List B64) {v : Nat → B64} {n : Nat} (hn : V.length = n) (hv : ∀ i, i < n → V[i]? = some (v i)) {c : CV} {x : B64} (hc : NumB c x) : (seqN v n ++ [c]).length = (V ++ [x]).length ∧ ∀ (i : Nat) (d : CV), (seqN v n ++ [c])[i]? = some d → ∃ y, (V ++ [x])[i]? = some y ∧ NumB d y := by
 refine ⟨by simp [seqN_len, hn], fun i d h => ?_⟩
 by_cases hi : i < n
 ·rw [List.getElem?_append_left (by rw [seqN_len]; exact hi)] at h
  obtain ⟨_, rfl⟩ := seqN_get h
  exact ⟨_, by rw [List.getElem?_append_left (by omega)]; exact hv i hi, numB_w _⟩
 ·rw [List.getElem?_append_right (by rw [seqN_len]; omega), seqN_len] at h
  have h0 : i - n = 0 := by
   have := (List.getElem?_eq_some_iff.1 h).1
   simp at this
   omega
  rw [h0] at h
  cases h
  exact ⟨x, by rw [List.getElem?_append_right (by omega), hn, h0]; rfl, hc⟩
theorem nextC_n {t : Nat} (h : t < 100000) : nextC t = .int .i64 ((t : Int) + 1) := by
 unfold nextC
 rw [IntKind.wrap_i64]
 have e : Int.ofNat t = (t : Int) := rfl
 rw [e, show ((t : Int) + 1 + 9223372036854775808) % 18446744073709551616 - 9223372036854775808 = (t : Int) + 1 by omega]
theorem any9 : anyRow.kind = .live ∧ anyRow.n = 65536 ∧ anyRow.elem = 5 ∧ anyRow.size = 1 := ⟨rfl, rfl, rfl, rfl⟩
theorem any9c (β : Nat → Nat) : ∀ j, j < 65536 → ∀ e, (anyRow.at j).rel e (.int .u8 (β j : Int)) := fun j _ e => by
 have h : anyRow.at j = .any := by rw [Row.at_eq]; rfl
 rw [h]
 exact ⟨rfl, rfl⟩
theorem u0_n : ∀ e, u0.rel e (.int .u64 ((0 : Nat) : Int)) := fun _ => rfl
theorem in_pairsA {lo hi n m a : Nat} (h1 : lo ≤ n) (h2 : n < hi) (hm : m ∈ mS) (ha : a < m) : (n, m, a) ∈ pairsA lo hi := by
 unfold pairsA
 exact List.mem_flatMap.2 ⟨n, List.mem_range'_1.2 ⟨h1, by omega⟩, List.mem_flatMap.2 ⟨m, hm, List.mem_map.2 ⟨a, List.mem_range.2 ha, rfl⟩⟩⟩
theorem in_pairsN {lo hi n m : Nat} (h1 : lo ≤ n) (h2 : n < hi) (hm : m ∈ mS) : (n, m) ∈ pairsN lo hi := by
 unfold pairsN
 exact List.mem_flatMap.2 ⟨n, List.mem_range'_1.2 ⟨h1, by omega⟩, List.mem_map.2 ⟨m, hm, rfl⟩⟩
theorem mS_le {m : Nat} (h : m ∈ mS) : m ≤ 1000 := by
 simp only [mS, List.mem_cons, List.not_mem_nil, or_false] at h; omega
theorem step_w {V L V' L' : List B64} {fuel fuel2 : Nat} {β : Nat → Nat} {op a n : Nat} {nC : CV} (hn : ∀ e, nC.rel e (.int .u64 (n : Int))) (hVl : V.length ≤ 1000) (hm : L.length ∈ mS) {oV oL : Nat → CV → CV → List CV} {VC LC : List CV}
  (ho : ∀ t, stepOut (evS op a nC (seqN (nth V) V.length) (seqN (nth L) L.length) false t fuel anyRow) W4 = some ⟨VC, LC, nextC t, i64c fuel2⟩)
  (hV : VC.length = V'.length ∧ ∀ (i : Nat) (c : CV), VC[i]? = some c → ∃ x, V'[i]? = some x ∧ NumB c x) (hL : LC.length = L'.length ∧ ∀ (i : Nat) (c : CV), LC[i]? = some c → ∃ x, L'[i]? = some x ∧ NumB c x) : Leads (op, a, n) ⟨V, L, false, fuel, β⟩ ⟨V', L', false, fuel2, β⟩ :=
 fun f w0 w t ht I => step_gen I (seq_c V).1 (seq_c V).2 (seq_c L).1 (seq_c L).2 hVl (mS_le hm) any9 (any9c β) hn (ho t) hV hL (nextC_n ht) rfl
theorem leads_get {V L : List B64} {fuel : Nat} {β : Nat → Nat} {a : Nat} {x : B64} (hx : L[a]? = some x) (hV : V.length < 9) (hm : L.length ∈ mS) : Leads (32, a, 0) ⟨V, L, false, fuel, β⟩ ⟨V ++ [x], L, false, fuel, β⟩ := by
 have ha := (List.getElem?_eq_some_iff.1 hx).1
 rw [nth_get ha] at hx
 cases hx
 exact step_w (oV := fun _ _ _ => []) (oL := fun _ _ _ => []) u0_n (by omega) hm (fun t => map_mem (get_t (nth V) (nth L) t fuel) (V.length, L.length, a) (in_pairsA (Nat.zero_le _) hV hm ha)) (seq_b1 V rfl (fun i hi => nth_get hi) (numB_w _)) (seq_b L)
theorem leads_set {V L : List B64} {fuel : Nat} {β : Nat → Nat} {a : Nat} {x : B64} (ha : a < L.length) (hV : V.length < 9) (hm : L.length ∈ mS) : Leads (33, a, 0) ⟨V ++ [x], L, false, fuel, β⟩ ⟨V, L.set a x, false, fuel, β⟩ := by
 have hl : (V ++ [x]).length = V.length + 1 := by simp
 have hx : nth (V ++ [x]) V.length = x := by simp [nth]
 have hv : ∀ i, i < V.length → nth (V ++ [x]) i = nth V i := fun i hi => by
  simp only [nth, List.getD_eq_getElem?_getD]
  rw [List.getElem?_append_left hi]
 refine step_w (oV := fun _ _ _ => []) (oL := fun _ _ _ => []) u0_n (by omega) hm (fun t => by rw [hl]; exact map_mem (set_t (nth (V ++ [x])) (nth L) t fuel) (V.length, L.length, a) (in_pairsA (Nat.zero_le _) hV hm ha)) ⟨seqN_len _ _, fun i c h => ?_⟩ ⟨by simp, fun i c h => ?_⟩
 ·obtain ⟨hi, rfl⟩ := seqN_get h
  exact ⟨_, nth_get hi, by rw [hv i hi]; exact numB_w _⟩
 ·have hi : i < L.length := by have := (List.getElem?_eq_some_iff.1 h).1; simpa using this
  rw [List.getElem?_map, List.getElem?_range hi] at h
  cases h
  rw [List.getElem?_set]
  by_cases hia : i = a
  ·subst hia
   rw [if_pos rfl, if_pos hi]
   exact ⟨x, rfl, by simp only [if_true, hx]; exact numB_w _⟩
  ·rw [if_neg (fun h => hia h.symm)]
   exact ⟨_, nth_get hi, by simp only [if_neg hia]; exact numB_w _⟩
theorem leads_num {V L : List B64} {fuel : Nat} {β : Nat → Nat} {n : Nat} (hn : n < 18446744073709551616) (hV : V.length < 9) (hm : L.length ∈ mS) : Leads (66, 0, n) ⟨V, L, false, fuel, β⟩ ⟨V ++ [BitVec.ofNat 64 n], L, false, fuel, β⟩ :=
 step_w (oV := fun _ _ _ => []) (oL := fun _ _ _ => []) (nC := .w (BitVec.ofNat 64 n)) (fun e => by show Value.int .u64 (n : Int) = .int .u64 _; rw [BitVec.toNat_ofNat, Nat.mod_eq_of_lt hn]) (by omega) hm
  (fun t => map_mem (num_t (nth V) (nth L) t fuel (BitVec.ofNat 64 n)) (V.length, L.length) (in_pairsN (Nat.zero_le _) hV hm)) (seq_b1 V rfl (fun i hi => nth_get hi) (numB_w _)) (seq_b L)
theorem top2 (V : List B64) (x y : B64) : (V ++ [x, y]).length = V.length + 2 ∧ nth (V ++ [x, y]) V.length = x ∧ nth (V ++ [x, y]) (V.length + 1) = y ∧ ∀ i, i < V.length → V[i]? = some (nth (V ++ [x, y]) i) := by
 refine ⟨by simp, by simp [nth], ?_, fun i hi => ?_⟩
 ·simp only [nth, List.getD_eq_getElem?_getD]
  rw [List.getElem?_append_right (by omega), show V.length + 1 - V.length = 1 by omega]; rfl
 ·simp only [nth, List.getD_eq_getElem?_getD]
  rw [List.getElem?_append_left hi, List.getElem?_eq_getElem hi]; rfl
theorem leads_83 {V L : List B64} {fuel : Nat} {β : Nat → Nat} {x y : B64} (hV : V.length < 7) (hm : L.length ∈ mS) : Leads (83, 0, 0) ⟨V ++ [x, y], L, false, fuel, β⟩ ⟨V ++ [Nm.bB 83 x y], L, false, fuel, β⟩ := by
 obtain ⟨t1, t2, t3, t4⟩ := top2 V x y
 exact step_w (oV := fun _ _ _ => []) (oL := fun _ _ _ => []) u0_n (by omega) hm (fun t => by rw [t1]; exact map_mem (bin_83 (nth (V ++ [x, y])) (nth L) t fuel) (V.length, L.length) (in_pairsN (Nat.zero_le _) hV hm)) (by rw [t2, t3]; exact seq_b1 V rfl t4 (numB_w _)) (seq_b L)
theorem leads_84 {V L : List B64} {fuel : Nat} {β : Nat → Nat} {x y : B64} (hV : V.length < 7) (hm : L.length ∈ mS) : Leads (84, 0, 0) ⟨V ++ [x, y], L, false, fuel, β⟩ ⟨V ++ [Nm.bB 84 x y], L, false, fuel, β⟩ := by
 obtain ⟨t1, t2, t3, t4⟩ := top2 V x y
 exact step_w (oV := fun _ _ _ => []) (oL := fun _ _ _ => []) u0_n (by omega) hm (fun t => by rw [t1]; exact map_mem (bin_84 (nth (V ++ [x, y])) (nth L) t fuel) (V.length, L.length) (in_pairsN (Nat.zero_le _) hV hm)) (by rw [t2, t3]; exact seq_b1 V rfl t4 (numB_w _)) (seq_b L)
theorem leads_85 {V L : List B64} {fuel : Nat} {β : Nat → Nat} {x y : B64} (hV : V.length < 7) (hm : L.length ∈ mS) : Leads (85, 0, 0) ⟨V ++ [x, y], L, false, fuel, β⟩ ⟨V ++ [Nm.bB 85 x y], L, false, fuel, β⟩ := by
 obtain ⟨t1, t2, t3, t4⟩ := top2 V x y
 exact step_w (oV := fun _ _ _ => []) (oL := fun _ _ _ => []) u0_n (by omega) hm (fun t => by rw [t1]; exact map_mem (bin_85 (nth (V ++ [x, y])) (nth L) t fuel) (V.length, L.length) (in_pairsN (Nat.zero_le _) hV hm)) (by rw [t2, t3]; exact seq_b1 V rfl t4 (numB_w _)) (seq_b L)
theorem leads_124 {V L : List B64} {fuel : Nat} {β : Nat → Nat} {x y : B64} (hV : V.length < 7) (hm : L.length ∈ mS) : Leads (124, 0, 0) ⟨V ++ [x, y], L, false, fuel, β⟩ ⟨V ++ [Nm.bB 124 x y], L, false, fuel, β⟩ := by
 obtain ⟨t1, t2, t3, t4⟩ := top2 V x y
 exact step_w (oV := fun _ _ _ => []) (oL := fun _ _ _ => []) u0_n (by omega) hm (fun t => by rw [t1]; exact map_mem (bin_124 (nth (V ++ [x, y])) (nth L) t fuel) (V.length, L.length) (in_pairsN (Nat.zero_le _) hV hm)) (by rw [t2, t3]; exact seq_b1 V rfl t4 (numB_w _)) (seq_b L)
theorem leads_125 {V L : List B64} {fuel : Nat} {β : Nat → Nat} {x y : B64} (hV : V.length < 7) (hm : L.length ∈ mS) : Leads (125, 0, 0) ⟨V ++ [x, y], L, false, fuel, β⟩ ⟨V ++ [Nm.bB 125 x y], L, false, fuel, β⟩ := by
 obtain ⟨t1, t2, t3, t4⟩ := top2 V x y
 exact step_w (oV := fun _ _ _ => []) (oL := fun _ _ _ => []) u0_n (by omega) hm (fun t => by rw [t1]; exact map_mem (bin_125 (nth (V ++ [x, y])) (nth L) t fuel) (V.length, L.length) (in_pairsN (Nat.zero_le _) hV hm)) (by rw [t2, t3]; exact seq_b1 V rfl t4 (numB_w _)) (seq_b L)
theorem leads_126 {V L : List B64} {fuel : Nat} {β : Nat → Nat} {x y : B64} (hV : V.length < 7) (hm : L.length ∈ mS) : Leads (126, 0, 0) ⟨V ++ [x, y], L, false, fuel, β⟩ ⟨V ++ [Nm.bB 126 x y], L, false, fuel, β⟩ := by
 obtain ⟨t1, t2, t3, t4⟩ := top2 V x y
 exact step_w (oV := fun _ _ _ => []) (oL := fun _ _ _ => []) u0_n (by omega) hm (fun t => by rw [t1]; exact map_mem (bin_126 (nth (V ++ [x, y])) (nth L) t fuel) (V.length, L.length) (in_pairsN (Nat.zero_le _) hV hm)) (by rw [t2, t3]; exact seq_b1 V rfl t4 (numB_w _)) (seq_b L)
theorem leads_131 {V L : List B64} {fuel : Nat} {β : Nat → Nat} {x y : B64} (hV : V.length < 7) (hm : L.length ∈ mS) : Leads (131, 0, 0) ⟨V ++ [x, y], L, false, fuel, β⟩ ⟨V ++ [Nm.bB 131 x y], L, false, fuel, β⟩ := by
 obtain ⟨t1, t2, t3, t4⟩ := top2 V x y
 exact step_w (oV := fun _ _ _ => []) (oL := fun _ _ _ => []) u0_n (by omega) hm (fun t => by rw [t1]; exact map_mem (bin_131 (nth (V ++ [x, y])) (nth L) t fuel) (V.length, L.length) (in_pairsN (Nat.zero_le _) hV hm)) (by rw [t2, t3]; exact seq_b1 V rfl t4 (numB_w _)) (seq_b L)
theorem leads_132 {V L : List B64} {fuel : Nat} {β : Nat → Nat} {x y : B64} (hV : V.length < 7) (hm : L.length ∈ mS) : Leads (132, 0, 0) ⟨V ++ [x, y], L, false, fuel, β⟩ ⟨V ++ [Nm.bB 132 x y], L, false, fuel, β⟩ := by
 obtain ⟨t1, t2, t3, t4⟩ := top2 V x y
 exact step_w (oV := fun _ _ _ => []) (oL := fun _ _ _ => []) u0_n (by omega) hm (fun t => by rw [t1]; exact map_mem (bin_132 (nth (V ++ [x, y])) (nth L) t fuel) (V.length, L.length) (in_pairsN (Nat.zero_le _) hV hm)) (by rw [t2, t3]; exact seq_b1 V rfl t4 (numB_w _)) (seq_b L)
theorem leads_133 {V L : List B64} {fuel : Nat} {β : Nat → Nat} {x y : B64} (hV : V.length < 7) (hm : L.length ∈ mS) : Leads (133, 0, 0) ⟨V ++ [x, y], L, false, fuel, β⟩ ⟨V ++ [Nm.bB 133 x y], L, false, fuel, β⟩ := by
 obtain ⟨t1, t2, t3, t4⟩ := top2 V x y
 exact step_w (oV := fun _ _ _ => []) (oL := fun _ _ _ => []) u0_n (by omega) hm (fun t => by rw [t1]; exact map_mem (bin_133 (nth (V ++ [x, y])) (nth L) t fuel) (V.length, L.length) (in_pairsN (Nat.zero_le _) hV hm)) (by rw [t2, t3]; exact seq_b1 V rfl t4 (numB_w _)) (seq_b L)
theorem leads_134 {V L : List B64} {fuel : Nat} {β : Nat → Nat} {x y : B64} (hV : V.length < 7) (hm : L.length ∈ mS) : Leads (134, 0, 0) ⟨V ++ [x, y], L, false, fuel, β⟩ ⟨V ++ [Nm.bB 134 x y], L, false, fuel, β⟩ := by
 obtain ⟨t1, t2, t3, t4⟩ := top2 V x y
 exact step_w (oV := fun _ _ _ => []) (oL := fun _ _ _ => []) u0_n (by omega) hm (fun t => by rw [t1]; exact map_mem (bin_134 (nth (V ++ [x, y])) (nth L) t fuel) (V.length, L.length) (in_pairsN (Nat.zero_le _) hV hm)) (by rw [t2, t3]; exact seq_b1 V rfl t4 (numB_w _)) (seq_b L)
theorem leads_135 {V L : List B64} {fuel : Nat} {β : Nat → Nat} {x y : B64} (hV : V.length < 7) (hm : L.length ∈ mS) : Leads (135, 0, 0) ⟨V ++ [x, y], L, false, fuel, β⟩ ⟨V ++ [Nm.bB 135 x y], L, false, fuel, β⟩ := by
 obtain ⟨t1, t2, t3, t4⟩ := top2 V x y
 exact step_w (oV := fun _ _ _ => []) (oL := fun _ _ _ => []) u0_n (by omega) hm (fun t => by rw [t1]; exact map_mem (bin_135 (nth (V ++ [x, y])) (nth L) t fuel) (V.length, L.length) (in_pairsN (Nat.zero_le _) hV hm)) (by rw [t2, t3]; exact seq_b1 V rfl t4 (numB_w _)) (seq_b L)
theorem leads_136 {V L : List B64} {fuel : Nat} {β : Nat → Nat} {x y : B64} (hV : V.length < 7) (hm : L.length ∈ mS) : Leads (136, 0, 0) ⟨V ++ [x, y], L, false, fuel, β⟩ ⟨V ++ [Nm.bB 136 x y], L, false, fuel, β⟩ := by
 obtain ⟨t1, t2, t3, t4⟩ := top2 V x y
 exact step_w (oV := fun _ _ _ => []) (oL := fun _ _ _ => []) u0_n (by omega) hm (fun t => by rw [t1]; exact map_mem (bin_136 (nth (V ++ [x, y])) (nth L) t fuel) (V.length, L.length) (in_pairsN (Nat.zero_le _) hV hm)) (by rw [t2, t3]; exact seq_b1 V rfl t4 (numB_w _)) (seq_b L)
theorem leads_un {V L : List B64} {fuel : Nat} {β : Nat → Nat} {x : B64} (hV : V.length < 8) (hm : L.length ∈ mS) : Leads (173, 0, 0) ⟨V ++ [x], L, false, fuel, β⟩ ⟨V ++ [(x.setWidth 32).setWidth 64], L, false, fuel, β⟩ := by
 have hl : (V ++ [x]).length = V.length + 1 := by simp
 have hx : nth (V ++ [x]) V.length = x := by simp [nth]
 have hv : ∀ i, i < V.length → V[i]? = some (nth (V ++ [x]) i) := fun i hi => by
  simp only [nth, List.getD_eq_getElem?_getD]
  rw [List.getElem?_append_left hi, List.getElem?_eq_getElem hi]; rfl
 exact step_w (oV := fun _ _ _ => []) (oL := fun _ _ _ => []) u0_n (by omega) hm (fun t => by rw [hl]; exact map_mem (un_t (nth (V ++ [x])) (nth L) t fuel) (V.length, L.length) (in_pairsN (Nat.zero_le _) hV hm)) (by rw [hx]; exact seq_b1 V rfl hv (numB_w _)) (seq_b L)
end Ev
end
section
set_option maxRecDepth 100000
namespace Ev
open Go Go.Proofs
inductive Tr8 : List Ln.C → PS → PS → Prop
 | nil (s) : Tr8 [] s s
 | cons {c l s s1 s2} (h : Leads c s s1) (k : Tr8 l s1 s2) : Tr8 (c :: l) s s2
theorem Tr8.app {l1 l2 : List Ln.C} {s s1 s2 : PS} (h : Tr8 l1 s s1) (k : Tr8 l2 s1 s2) : Tr8 (l1 ++ l2) s s2 := by
 induction h with
 | nil => exact k
 | cons h _ ih => exact .cons h (ih k)
theorem bB_of {op : Nat} {x y z : B64} (h : Ln.opF op x y = some z) : (op = 83 ∨ op = 84 ∨ op = 85 ∨ op = 124 ∨ op = 125 ∨ op = 126 ∨ op = 131 ∨ op = 132 ∨ op = 133 ∨ op = 134 ∨ op = 135 ∨ op = 136) ∧ z = Nm.bB (op : Int) x y ∧ (op = 83 ∨ op = 84 ∨ op = 85 → z = 0 ∨ z = 1) := by
 unfold Ln.opF at h
 have ht : ∀ p, Ln.truB p = 0 ∨ Ln.truB p = 1 := fun p => by cases p <;> simp [Ln.truB]
 split at h <;> first | (cases h; refine ⟨by simp, by simp [Nm.bB, Nm.binB, Nm.opB, Nm.cmpB, Nm.tru, Ln.truB], fun q => ?_⟩; first | exact ht _ | (simp at q)) | cases h
def wfRun : List Ln.C → Nat → Bool → Bool
 | [], _, _ => true
 | (op, a, k) :: r, n, tb =>
  if op = 32 then k == 0 && Nat.blt n 9 && wfRun r (n + 1) false
  else if op = 33 then k == 0 && Nat.blt 0 n && Nat.blt n 10 && wfRun r (n - 1) false
  else if op = 66 then a == 0 && Nat.blt k 18446744073709551616 && Nat.blt n 9 && wfRun r (n + 1) false
  else if op = 27 then a == 0 && k == 0 && tb && Nat.blt 2 n && Nat.blt n 10 && wfRun r (n - 2) false
  else if op = 173 then a == 0 && k == 0 && Nat.blt 0 n && Nat.blt n 9 && wfRun r n false
  else a == 0 && k == 0 && Nat.blt 1 n && Nat.blt n 9 && wfRun r (n - 1) (op == 83 || op == 84 || op == 85)
theorem leads_sel {V L : List B64} {fuel : Nat} {β : Nat → Nat} {x y c : B64} (hc : c = 0 ∨ c = 1) (hV : V.length < 7) (hm : L.length ∈ mS) : Leads (27, 0, 0) ⟨V ++ [x, y, c], L, false, fuel, β⟩ ⟨V ++ [Ln.selB c x y], L, false, fuel, β⟩ := by
 obtain ⟨t1, t2, t3, t4⟩ := top2 V x y
 have hcc : ∀ (k : Nat) (cc : B64), cc.toNat = k → (seqN (nth (V ++ [x, y])) (V.length + 2) ++ [CV.int .u64 (.ofNat k)]).length = (V ++ [x, y, cc]).length ∧ ∀ (i : Nat) (d : CV), (seqN (nth (V ++ [x, y])) (V.length + 2) ++ [CV.int .u64 (.ofNat k)])[i]? = some d → ∃ z, (V ++ [x, y, cc])[i]? = some z ∧ NumC d z := by
  intro k cc hk
  subst hk
  refine ⟨by simp [seqN_len], fun i d h => ?_⟩
  have e : V ++ [x, y, cc] = (V ++ [x, y]) ++ [cc] := by simp
  rw [e]
  by_cases hi : i < V.length + 2
  ·rw [List.getElem?_append_left (by rw [seqN_len]; exact hi)] at h
   obtain ⟨_, rfl⟩ := seqN_get h
   rw [List.getElem?_append_left (by rw [t1]; exact hi)]
   exact ⟨_, nth_get (by rw [t1]; exact hi), numC_w _⟩
  ·rw [List.getElem?_append_right (by rw [seqN_len]; omega), seqN_len] at h
   have h0 : i - (V.length + 2) = 0 := by
    have := (List.getElem?_eq_some_iff.1 h).1
    simp at this
    omega
   rw [h0] at h
   cases h
   refine ⟨cc, ?_, numC_i cc⟩
   rw [List.getElem?_append_right (by rw [t1]; omega), t1, h0]
   rfl
 intro f w0 w t ht I
 rcases hc with rfl | rfl
 ·have h0 := hcc 0 0 rfl
  exact step_gen I h0.1 h0.2 (seq_c L).1 (seq_c L).2 (by simp; omega) (mS_le hm) any9 (any9c β) u0_n (map_mem (sel_0 (nth (V ++ [x, y])) (nth L) t fuel) (V.length, L.length) (in_pairsN (Nat.zero_le _) hV hm))
   (by show (seqN _ V.length ++ [CV.w (nth (V ++ [x, y]) (V.length + 1 - 0))]).length = _ ∧ _; rw [Nat.sub_zero, t3]; exact seq_b1 V rfl t4 (by simp [Ln.selB]; exact numB_w _)) (seq_b L) (nextC_n ht) rfl
 ·have h1 := hcc 1 1 rfl
  exact step_gen I h1.1 h1.2 (seq_c L).1 (seq_c L).2 (by simp; omega) (mS_le hm) any9 (any9c β) u0_n (map_mem (sel_1 (nth (V ++ [x, y])) (nth L) t fuel) (V.length, L.length) (in_pairsN (Nat.zero_le _) hV hm))
   (by show (seqN _ V.length ++ [CV.w (nth (V ++ [x, y]) (V.length + 1 - 1))]).length = _ ∧ _; rw [Nat.add_sub_cancel, t2]; exact seq_b1 V rfl t4 (by simp [Ln.selB]; exact numB_w _)) (seq_b L) (nextC_n ht) rfl
theorem leads_bin {op : Nat} {V L : List B64} {fuel : Nat} {β : Nat → Nat} {x y : B64} (ho : op = 83 ∨ op = 84 ∨ op = 85 ∨ op = 124 ∨ op = 125 ∨ op = 126 ∨ op = 131 ∨ op = 132 ∨ op = 133 ∨ op = 134 ∨ op = 135 ∨ op = 136) (hV : V.length < 7) (hm : L.length ∈ mS) :
  Leads (op, 0, 0) ⟨V ++ [x, y], L, false, fuel, β⟩ ⟨V ++ [Nm.bB (op : Int) x y], L, false, fuel, β⟩ := by
 rcases ho with rfl | rfl | rfl | rfl | rfl | rfl | rfl | rfl | rfl | rfl | rfl | rfl
 ·exact leads_83 hV hm
 ·exact leads_84 hV hm
 ·exact leads_85 hV hm
 ·exact leads_124 hV hm
 ·exact leads_125 hV hm
 ·exact leads_126 hV hm
 ·exact leads_131 hV hm
 ·exact leads_132 hV hm
 ·exact leads_133 hV hm
 ·exact leads_134 hV hm
 ·exact leads_135 hV hm
 ·exact leads_136 hV hm
theorem run_leads {base : List B64} {fuel : Nat} {β : Nat → Nat} : ∀ (cs : List Ln.C) (SF L SF' L' : List B64) (tb : Bool), wfRun cs (base.length + SF.length) tb = true → (tb = true → ∀ x, SF[0]? = some x → x = 0 ∨ x = 1) → L.length ∈ mS → Ln.runF cs SF L = some (SF', L') →
  Tr8 cs ⟨base ++ SF.reverse, L, false, fuel, β⟩ ⟨base ++ SF'.reverse, L', false, fuel, β⟩ ∧ L'.length = L.length
 | [], SF, L, SF', L', tb, _, _, _, h => by cases h; exact ⟨.nil _, rfl⟩
 | c :: cs, SF, L, SF', L', tb, hw, htb, hm, h => by
  unfold Ln.runF at h
  have step : ∀ S1 L1 tb1, Ln.stepF c SF L = some (S1, L1) → wfRun cs (base.length + S1.length) tb1 = true → (tb1 = true → ∀ x, S1[0]? = some x → x = 0 ∨ x = 1) → L1.length = L.length → Leads c ⟨base ++ SF.reverse, L, false, fuel, β⟩ ⟨base ++ S1.reverse, L1, false, fuel, β⟩ →
    Tr8 (c :: cs) ⟨base ++ SF.reverse, L, false, fuel, β⟩ ⟨base ++ SF'.reverse, L', false, fuel, β⟩ ∧ L'.length = L.length := by
   intro S1 L1 tb1 h1 hw1 ht1 hl hle
   rw [h1] at h
   obtain ⟨q1, q2⟩ := run_leads cs S1 L1 SF' L' tb1 hw1 ht1 (by rw [hl]; exact hm) h
   exact ⟨.cons hle q1, by rw [q2, hl]⟩
  cases hs : Ln.stepF c SF L with
  | none => rw [hs] at h; cases h
  | some p =>
   obtain ⟨S1, L1⟩ := p
   have hs0 := hs
   unfold Ln.stepF at hs
   split at hs
   ·rename_i a k V
    split at hs
    ·rename_i x hx
     cases hs
     simp only [wfRun, if_true, Bool.and_eq_true, beq_iff_eq, Nat.blt_eq] at hw
     obtain ⟨⟨rfl, h2⟩, h3⟩ := hw
     refine step _ _ false hs0 (by rw [List.length_cons, ← Nat.add_assoc]; exact h3) (fun q => by cases q) rfl ?_
     rw [List.reverse_cons, ← List.append_assoc]
     exact leads_get hx (by simp; omega) hm
    ·cases hs
   ·rename_i a k x V
    split at hs
    ·rename_i hb
     cases hs
     simp only [wfRun, if_true, Nat.reduceEqDiff, if_false, Bool.and_eq_true, beq_iff_eq, Nat.blt_eq] at hw
     obtain ⟨⟨⟨rfl, h1⟩, h2⟩, h3⟩ := hw
     rw [List.length_cons] at h2 h3
     refine step _ _ false hs0 (by rw [show base.length + S1.length = base.length + (S1.length + 1) - 1 by omega]; exact h3) (fun q => by cases q) (by simp) ?_
     rw [List.reverse_cons, ← List.append_assoc]
     exact leads_set (by simpa [Nat.blt_eq] using hb) (by simp; omega) hm
    ·cases hs
   ·rename_i a n V
    cases hs
    simp only [wfRun, if_true, Nat.reduceEqDiff, if_false, Bool.and_eq_true, beq_iff_eq, Nat.blt_eq] at hw
    obtain ⟨⟨⟨rfl, h1⟩, h2⟩, h3⟩ := hw
    refine step _ _ false hs0 (by rw [List.length_cons, ← Nat.add_assoc]; exact h3) (fun q => by cases q) rfl ?_
    rw [List.reverse_cons, ← List.append_assoc]
    exact leads_num h1 (by simp; omega) hm
   ·rename_i a n cc b aa V
    cases hs
    simp only [wfRun, if_true, Nat.reduceEqDiff, if_false, Bool.and_eq_true, beq_iff_eq, Nat.blt_eq, List.length_cons] at hw
    obtain ⟨⟨⟨⟨⟨rfl, rfl⟩, h1⟩, h2⟩, h3⟩, h4⟩ := hw
    refine step _ _ false hs0 (by rw [List.length_cons, show base.length + (V.length + 1) = base.length + (V.length + 1 + 1 + 1) - 2 by omega]; exact h4) (fun q => by cases q) rfl ?_
    have := leads_sel (V := base ++ V.reverse) (L := L) (fuel := fuel) (β := β) (x := aa) (y := b) (c := cc) (htb h1 cc rfl) (by simp; omega) hm
    simpa [List.append_assoc] using this
   ·rename_i a n x V
    cases hs
    simp only [wfRun, if_true, Nat.reduceEqDiff, if_false, Bool.and_eq_true, beq_iff_eq, Nat.blt_eq, List.length_cons] at hw
    obtain ⟨⟨⟨⟨rfl, rfl⟩, h1⟩, h2⟩, h3⟩ := hw
    refine step _ _ false hs0 (by rw [List.length_cons]; exact h3) (fun q => by cases q) rfl ?_
    rw [List.reverse_cons, ← List.append_assoc, List.reverse_cons, ← List.append_assoc]
    exact leads_un (by simp; omega) hm
   ·rename_i op a n y x V n1 n2 n3 n4 n5
    split at hs
    ·rename_i z hz
     cases hs
     obtain ⟨o1, o2, o3⟩ := bB_of hz
     have ne : op ≠ 32 ∧ op ≠ 33 ∧ op ≠ 66 ∧ op ≠ 27 ∧ op ≠ 173 := by omega
     simp only [wfRun, if_neg ne.1, if_neg ne.2.1, if_neg ne.2.2.1, if_neg ne.2.2.2.1, if_neg ne.2.2.2.2, Bool.and_eq_true, beq_iff_eq, Nat.blt_eq, List.length_cons] at hw
     obtain ⟨⟨⟨⟨rfl, rfl⟩, h1⟩, h2⟩, h3⟩ := hw
     refine step _ _ (op == 83 || op == 84 || op == 85) hs0 (by rw [List.length_cons, show base.length + (V.length + 1) = base.length + (V.length + 1 + 1) - 1 by omega]; exact h3) (fun q x hx => ?_) rfl ?_
     ·cases hx
      simp only [Bool.or_eq_true, beq_iff_eq, or_assoc] at q
      exact o3 q
     ·subst o2
      have := leads_bin (V := base ++ V.reverse) (L := L) (fuel := fuel) (β := β) (x := x) (y := y) o1 (by simp; omega) hm
      simpa [List.append_assoc] using this
    ·cases hs
   ·cases hs
end Ev
end
section
set_option maxRecDepth 100000
namespace Ev
open Go Go.Proofs
theorem leads_tick {V L : List B64} {j : Nat} {β : Nat → Nat} (hV : V.length < 6) (hj : j < 7) (hm : L.length ∈ mS) : Leads (257, 0, 0) ⟨V, L, false, j + 44, β⟩ ⟨V, L, false, j + 43, β⟩ :=
 step_w (oV := fun _ _ _ => []) (oL := fun _ _ _ => []) u0_n (by omega) hm (fun t => map_mem (tick_t (nth V) (nth L) t) (V.length, L.length, j) (by
  unfold ticks
  exact List.mem_flatMap.2 ⟨V.length, List.mem_range.2 hV, List.mem_flatMap.2 ⟨L.length, hm, List.mem_map.2 ⟨j, List.mem_range.2 hj, rfl⟩⟩⟩)) (seq_b V) (seq_b L)
theorem nilOut_spec {r : R AV} {o : StO} (hh : nilOut r = some o) : ∃ h l r1 r2 r5 m, r = .ok (.tup []) h l ∧ FrR h r1 r2 ∧ h.find 5 = some r5 ∧ r1.at 3 = .snil ∧ r1.at 4 = .sl 5 0 m (.minus 0) ∧
  (r5.kind = .live ∧ r5.elem = 26 ∧ r5.size = 1) ∧ r5.n = m ∧ (∀ x ∈ l.w, x ∈ [1, 2]) ∧ o = ⟨[], r5.cells m 0, r1.at 2, r2.at 1⟩ := by
 unfold nilOut at hh
 split at hh
 ·rename_i h l
  split at hh
  ·rename_i r1 r2 r5 g1 g2 g5
   split at hh
   ·rename_i m q1 q2
    split at hh
    ·rename_i hb
     cases hh
     simp only [Bool.and_eq_true] at hb
     obtain ⟨⟨⟨⟨⟨⟨⟨⟨⟨⟨⟨⟨b1, b2⟩, b3⟩, b4⟩, b5⟩, b6⟩, b7⟩, b8⟩, b9⟩, b10⟩, b13⟩, b14⟩, b16⟩ := hb
     exact ⟨h, l, r1, r2, r5, m, rfl, ⟨g1, g2, okRow_spec b1, Nat.eq_of_beq_eq_true b2, isP_spec b3, isP_spec b4, okRow_spec b5, Nat.eq_of_beq_eq_true b6, isP_spec b7, isJ_spec b8, isJ_spec b9, isJ_spec b10⟩, g5, q1, q2, okRow_spec b13, Nat.eq_of_beq_eq_true b14, onlyIn_spec b16, rfl⟩
    ·cases hh
   ·cases hh
  ·cases hh
 ·cases hh
theorem IS.backN {f : FB} {w0 w w' : World} {V L L' : List B64} {nil : Bool} {at_ at2 : Int} {fuel fuel2 : Nat} {β β' : Nat → Nat} (I : IS f w0 V L nil at_ fuel β w) {bl cl : Nat} {st : Option (Nat × Nat)} (hw : Was f w0 bl cl st) {e' : Env} {h' : H} {l : Log} {lo hi : Nat}
  (hs : Sim e' h' w') (hst : Stp lo hi l.w (envS f bl cl st) w e' w') (hlo : 10 ≤ lo) (hW : ∀ x ∈ l.w, x ∈ [1, 2, 4, 5, 9]) (hB : Bt w' f.q f.cq β') {r : R AV} (hr : r = .ok (.tup []) h' l) {o : StO} (ho : nilOut r = some o)
  (hL : o.L.length = L'.length ∧ ∀ (i : Nat) (c : CV), o.L[i]? = some c → ∃ x, L'[i]? = some x ∧ NumB c x)
  (hat : o.at_ = .int .i64 at2) (hfu : o.fuel = .int .i64 (fuel2 : Int)) : IS f w0 [] L' true at2 fuel2 β' w' := by
 obtain ⟨h2, l2, r1, r2, r5, m, hr2, F, g5, q3, q4, k5, n5, hws, rfl⟩ := nilOut_spec ho
 rw [hr] at hr2
 cases hr2
 have ex := hst.ext
 have e1 : e' 1 = some (f.F, f.cF) := ex 1 _ rfl
 have e2 : e' 2 = some (f.R, 1) := ex 2 _ rfl
 have e3 : e' 3 = some (f.N, f.cN) := ex 3 _ rfl
 have e5 : e' 5 = some (bl, cl) := ex 5 _ rfl
 have e6 : e' 6 = some (f.M, f.cM) := ex 6 _ rfl
 have stay : ∀ k, k < w0.heap.size → k ≠ f.q → w'.heap[k]? = w.heap[k]? := fun k hk hq => old_stay hw I.new hst hW hlo I.size hk (.inl hq)
 obtain ⟨qa, q1, q2⟩ := I.byt
 have nq : ∀ {b e s : Nat} {o : List (Option Value)}, Pre w b e s o → e ≠ 5 → b ≠ f.q := by
  intro b e s o hp hne hbq
  obtain ⟨arr, ha⟩ := hp.elem
  rw [hbq, q1] at ha
  injection (Option.some.inj ha) with _ hh
  exact hne hh.symm
 have fixN := I.fix.N.keep (stay _ I.old.1 (nq I.fix.N (by decide)))
 have fixM := I.fix.M.keep (stay _ I.old.2.1 (nq I.fix.M (by decide)))
 have fixS := I.fix.S.keep (stay _ I.old.2.2.1 (nq I.fix.S (by decide)))
 have fixm := I.fix.m.keep (stay _ I.old.2.2.2.1 (nq I.fix.m (by decide)))
 obtain ⟨b1, c1, arr1, fr1, hc1⟩ := (hs.row 1 r1 F.f1).row (by rw [F.k1.1]; rfl)
 obtain ⟨b2, c2, arr2, fr2, hc2⟩ := (hs.row 2 r2 F.f2).row (by rw [F.k2.1]; rfl)
 obtain ⟨b5, c5, arr5', fr5, hc5⟩ := (hs.row 5 r5 g5).row (by rw [k5.1]; rfl)
 have z1 := hc1.he; rw [e1] at z1; cases z1
 have z2 := hc2.he; rw [e2] at z2; cases z2
 have z5 := hc5.he; rw [e5] at z5; cases z5
 have fz1 := hc1.fz F.k1.1; subst fz1
 have fz2 := hc2.fz F.k2.1; subst fz2
 have fz5 := hc5.fz k5.1; subst fz5
 have s1 := hc1.sz; rw [F.k1.2.2] at s1
 have s2 := hc2.sz; rw [F.k2.2.2, Nat.one_mul] at s2
 have s5 := hc5.sz; rw [k5.2.2, Nat.mul_one] at s5
 have hb1 := hc1.hb; rw [F.k1.2.1] at hb1
 have hb2 := hc2.hb; rw [F.k2.2.1] at hb2
 have hb5 := hc5.hb; rw [k5.2.1] at hb5
 have cell1 : ∀ j, j < 5 → ∃ x, arr1[j]? = some x ∧ (r1.at j).rel e' x := fun j hj => hc1.cell j (by rw [F.n1]; exact hj)
 have cell2 : ∀ j, j < 5 → ∃ x, arr2[j]? = some x ∧ (r2.at j).rel e' x := fun j hj => hc2.cell j (by rw [F.n2]; exact hj)
 obtain ⟨x0, x0a, x0b⟩ := cell1 0 (by omega)
 obtain ⟨x1, x1a, x1b⟩ := cell1 1 (by omega)
 obtain ⟨x2, x2a, x2b⟩ := cell1 2 (by omega)
 obtain ⟨x3, x3a, x3b⟩ := cell1 3 (by omega)
 obtain ⟨x4, x4a, x4b⟩ := cell1 4 (by omega)
 obtain ⟨y0, y0a, y0b⟩ := cell2 0 (by omega)
 obtain ⟨y1, y1a, y1b⟩ := cell2 1 (by omega)
 obtain ⟨y2, y2a, y2b⟩ := cell2 2 (by omega)
 obtain ⟨y3, y3a, y3b⟩ := cell2 3 (by omega)
 obtain ⟨y4, y4a, y4b⟩ := cell2 4 (by omega)
 rw [F.a0] at x0b
 rw [F.a1] at x1b
 rw [show r1.at 2 = _ from hat] at x2b
 rw [q3] at x3b
 rw [q4] at x4b
 rw [F.b0] at y0b
 rw [show r2.at 1 = _ from hfu] at y1b
 rw [F.b2] at y2b
 rw [F.b3] at y3b
 rw [F.b4] at y4b
 obtain ⟨_, _, p0, rfl⟩ := x0b
 rw [e2] at p0; cases p0
 obtain ⟨_, _, p1, rfl⟩ := x1b
 rw [e3] at p1; cases p1
 obtain ⟨_, _, p4, rfl⟩ := x4b
 rw [e5] at p4; cases p4
 obtain ⟨_, _, p6, rfl⟩ := y0b
 rw [e6] at p6; cases p6
 have x2b : x2 = _ := x2b
 have x3b : x3 = _ := x3b
 have y1b : y1 = _ := y1b
 have y2b : y2 = _ := y2b
 have y3b : y3 = _ := y3b
 have y4b : y4 = _ := y4b
 subst x2b x3b y1b y2b y3b y4b
 have hm : m = L'.length := by rw [← hL.1]; exact (cells_length r5 m 0).symm
 have hcells : ∀ (r : Row) (k j : Nat), j < k → (r.cells k 0)[j]? = some (r.at j) := fun r k j hj => by rw [cells_get, if_pos hj, Nat.zero_add]
 refine ⟨⟨_, bl, cl, ?_, ⟨arr5', hb5, s5, ?_, fun j x hx => ?_⟩, hw.l, .inl ⟨rfl, rfl, rfl⟩⟩, ?_, hB, ⟨fixN, fixM, fixS, fixm⟩, fun k hk hq => (stay k hk hq).trans (I.keep k hk hq), Nat.le_trans I.size hst.size, hst.os.trans I.os, hst.tape.trans I.tape, hst.output.trans I.output, I.new, I.old⟩
 ·exact ⟨arr1, hb1, s1, by have := hc1.le; rw [F.n1] at this; exact this, x0a, x1a, x2a, x3a, by rw [← hm]; exact x4a⟩
 ·have := hc5.le; omega
 ·have hj : j < m := by rw [hm]; exact (List.getElem?_eq_some_iff.1 hx).1
  obtain ⟨v, v1, v2⟩ := hc5.cell j (by omega)
  obtain ⟨x', x1', x2'⟩ := hL.2 j _ (hcells r5 m j hj)
  rw [hx] at x1'; cases x1'
  rw [v1, x2' _ _ v2]
 ·rw [hb2, arr5 s2 y0a y1a y2a y3a y4a]
  rfl
theorem leads_tn {L : List B64} {β : Nat → Nat} (hm : L.length ∈ mS) : Leads (257, 0, 0) ⟨[], L, true, 50, β⟩ ⟨[], L, true, 49, β⟩ := by
 intro f w0 w t ht I
 have ho : nilOut (evS 257 0 u0 [] (seqN (nth L) L.length) true t 50 anyRow) = some ⟨[], seqN (nth L) L.length, nextC t, i64c 49⟩ := map_mem (tn_t (nth L) t) L.length hm
 obtain ⟨bl, cl, st, hs, hbl, hst⟩ := IS.sim (Vc := []) I rfl (fun i c h => by simp at h) (seq_c L).1 (seq_c L).2 (by simp) (mS_le hm) any9 (any9c β)
 have hw : Was f w0 bl cl st := ⟨hbl, hst⟩
 obtain ⟨h2, l2, r1, r2, r5, m, hr2, _, _, _, _, _, _, hws, _⟩ := nilOut_spec ho
 have := (evCall_ok rnTab_ok 5000 9).sim 120 _ (2 ^ 300) _ _ h2 l2 hr2 (envS f bl cl st) w [.pointer (some ⟨f.F, 0, none⟩), .agg #[.int .i64 ((257 : Nat) : Int), .int .i64 ((0 : Nat) : Int), .int .u64 ((0 : Nat) : Int)]] hs
  ⟨⟨f.F, f.cF, rfl, rfl⟩, ⟨[.int .i64 ((257 : Nat) : Int), .int .i64 ((0 : Nat) : Int), .int .u64 ((0 : Nat) : Int)], ⟨rfl, rfl, rfl, trivial⟩, rfl⟩, trivial⟩
 refine Calls.mono this fun en w' hen => ?_
 obtain ⟨y, e', rfl, k1, k2, k3⟩ := hen
 obtain ⟨ys, k3, rfl⟩ := k3
 match ys, k3 with
 | [], _ =>
  have hlo : 10 ≤ 2 ^ 300 := ten_pow 300 (by decide)
  have h9w : 9 ∉ l2.w := fun h => by have := hws 9 h; simp at this
  have hW : ∀ x ∈ l2.w, x ∈ [1, 2, 4, 5, 9] := fun x hx => by
   have := hws x hx
   simp only [List.mem_cons, List.not_mem_nil, or_false] at this ⊢
   omega
  have hB : Bt w' f.q f.cq β := by
   obtain ⟨qa, q1, q2⟩ := I.byt
   exact ⟨qa, (old_stay hw I.new k2 hW hlo I.size I.old.2.2.2.2 (.inr h9w)).trans q1, q2⟩
  exact ⟨rfl, I.backN hw k1 k2 hlo hW hB hr2 ho (seq_b L) (nextC_n ht) rfl⟩
theorem leads_nil {L : List B64} {β : Nat → Nat} {fuel n : Nat} (hn : n < 18446744073709551616) (hm : L.length ∈ mS) : Leads (66, 0, n) ⟨[], L, true, fuel, β⟩ ⟨[BitVec.ofNat 64 n], L, false, fuel, β⟩ := by
 intro f w0 w t ht I
 exact step_gen (Vc := []) I rfl (fun i c h => by simp at h) (seq_c L).1 (seq_c L).2 (by simp) (mS_le hm) any9 (any9c β) (nC := .w (BitVec.ofNat 64 n)) (fun e => by show Value.int .u64 (n : Int) = .int .u64 _; rw [BitVec.toNat_ofNat, Nat.mod_eq_of_lt hn])
  (map_mem (nil_t (nth L) t fuel (BitVec.ofNat 64 n)) L.length hm) (seq_b1 [] (v := nth []) rfl (fun i hi => by simp at hi) (numB_w _)) (seq_b L) (nextC_n ht) rfl
theorem ofInt_nat (x : B64) : BitVec.ofInt 64 (x.toNat : Int) = x := by
 apply BitVec.eq_of_toNat_eq
 rw [BitVec.toNat_ofInt]
 have := x.isLt
 omega
theorem ldI_eq {b : Nat → Nat} (hb : ∀ i, b i < 256) : ∀ n, n ≤ 8 → ldI b n = ((ldB b n).toNat : Int)
 | 0, _ => rfl
 | i + 1, hi => by
  have ih := ldI_eq hb i (by omega)
  have hbi := hb i
  have e2 : IntKind.u64.wrap (IntKind.u64.wrap (Int.ofNat (b i)) * 2 ^ min (8 * i) 64) = ((BitVec.ofNat 64 (b i) <<< (8 * i)).toNat : Int) := by
   rw [show min (8 * i) 64 = 8 * i by omega, IntKind.wrap_u64, IntKind.wrap_u64, BitVec.toNat_shiftLeft, BitVec.toNat_ofNat, Nat.shiftLeft_eq]
   have e3 : Int.ofNat (b i) = (b i : Int) := rfl
   rw [e3]
   rcases (show i = 0 ∨ i = 1 ∨ i = 2 ∨ i = 3 ∨ i = 4 ∨ i = 5 ∨ i = 6 ∨ i = 7 by omega) with rfl | rfl | rfl | rfl | rfl | rfl | rfl | rfl <;> simp only [Nat.reduceMul, Nat.reducePow, Int.reducePow] <;> omega
  unfold ldI
  rw [e2, ih, ofInt_nat, ofInt_nat, IntKind.wrap_u64]
  have := (ldB b i ||| (BitVec.ofNat 64 (b i) <<< (8 * i))).isLt
  show _ = ((ldB b i ||| (BitVec.ofNat 64 (b i) <<< (8 * i))).toNat : Int)
  omega
theorem memR_ok (a : Nat) (b : Nat → Nat) : (memR a b).kind = .live ∧ (memR a b).n = 65536 ∧ (memR a b).elem = 5 ∧ (memR a b).size = 1 := ⟨rfl, rfl, rfl, rfl⟩
theorem memR_c (a : Nat) (ha : a < 60000) (β : Nat → Nat) : ∀ j, j < 65536 → ∀ e, ((memR a (fun i => β (a + i))).at j).rel e (.int .u8 (β j : Int)) := by
 intro j hj e
 have e0 : (memR a (fun i => β (a + i))).at j = (Tr.get (setAll ((List.range 8).map fun i => CV.int .u8 (.ofNat (β (a + i)))) .nil a) j).getD .any := Row.at_eq _ _
 rw [e0, at_set anyRow _ 0 j a .nil (by simp; omega)]
 by_cases h : a ≤ j ∧ j < a + ((List.range 8).map fun i => CV.int .u8 (.ofNat (β (a + i)))).length
 ·rw [if_pos h]
  have h8 : j - a < 8 := by have := h.2; simp at this; omega
  rw [List.getElem?_map, List.getElem?_range h8]
  show Value.int .u8 (β j : Int) = .int .u8 (β (a + (j - a)) : Int)
  rw [show a + (j - a) = j by omega]
 ·rw [if_neg h]
  exact ⟨rfl, rfl⟩
theorem leads_ld {V L : List B64} {fuel : Nat} {β : Nat → Nat} {k addr off : Nat} (hk : (k, addr, off) ∈ [(1, 0, 5), (2, 0, 13), (3, 16, 9), (4, 16, 17)]) (hV : V.length = k) (hβ : ∀ i, β i < 256) (hm : L.length ∈ mS) :
  Leads (41, 0, off) ⟨V ++ [BitVec.ofNat 64 addr], L, false, fuel, β⟩ ⟨V ++ [ldB (fun i => β (addr + off + i)) 8], L, false, fuel, β⟩ := by
 intro f w0 w t ht I
 have hs : addr + off < 60000 ∧ addr < 100 ∧ k < 10 := by
  simp only [List.mem_cons, Prod.mk.injEq, List.not_mem_nil, or_false] at hk
  omega
 have hc : (seqN (nth V) k ++ [CV.int .u64 (.ofNat addr)]).length = (V ++ [BitVec.ofNat 64 addr]).length ∧ ∀ (i : Nat) (d : CV), (seqN (nth V) k ++ [CV.int .u64 (.ofNat addr)])[i]? = some d → ∃ z, (V ++ [BitVec.ofNat 64 addr])[i]? = some z ∧ NumC d z := by
  refine ⟨by simp [seqN_len, hV], fun i d h => ?_⟩
  by_cases hi : i < k
  ·rw [List.getElem?_append_left (by rw [seqN_len]; exact hi)] at h
   obtain ⟨_, rfl⟩ := seqN_get h
   rw [List.getElem?_append_left (by omega)]
   exact ⟨_, nth_get (by omega), numC_w _⟩
  ·rw [List.getElem?_append_right (by rw [seqN_len]; omega), seqN_len] at h
   have h0 : i - k = 0 := by
    have := (List.getElem?_eq_some_iff.1 h).1
    simp at this
    omega
   rw [h0] at h
   cases h
   refine ⟨BitVec.ofNat 64 addr, ?_, ?_⟩
   ·rw [List.getElem?_append_right (by omega), hV, h0]; rfl
   ·have := numC_i (BitVec.ofNat 64 addr)
    rwa [BitVec.toNat_ofNat, Nat.mod_eq_of_lt (by omega)] at this
 refine step_gen I hc.1 hc.2 (seq_c L).1 (seq_c L).2 (by simp; omega) (mS_le hm) (memR_ok _ _) (memR_c (addr + off) hs.1 β) (nC := .int .u64 (.ofNat off)) (nv := (off : Int)) (fun _ => rfl)
  (map_mem (ld_t (nth V) (nth L) t fuel (fun i => β (addr + off + i))) ((k, addr, off), L.length) (by
   unfold lds
   exact List.mem_flatMap.2 ⟨(k, addr, off), hk, List.mem_map.2 ⟨L.length, hm, rfl⟩⟩)) (seq_b1 V hV (fun i hi => nth_get (by omega)) ?_) (seq_b L) (nextC_n ht) rfl
 intro e v hv
 rw [show v = _ from hv, ldI_eq (fun i => hβ _) 8 (Nat.le_refl _)]
theorem leads_ret {L : List B64} {fuel : Nat} {β : Nat → Nat} (hm : L.length ∈ mS) (f : FB) (w0 w : World) (t : Nat) (I : IS f w0 [] L false t fuel β w) :
  Calls Tryz.prog 120 #[.pointer (some ⟨f.F, 0, none⟩), cellV (15, 0, 0)] w fun en w' => en = .returned (.tuple #[]) ∧ IS f w0 [] L false (-1) fuel β w' :=
 step_gen (Vc := []) I rfl (fun i c h => by simp at h) (seq_c L).1 (seq_c L).2 (by simp) (mS_le hm) any9 (any9c β) u0_n (map_mem (ret_t (nth L) t fuel) L.length hm) ⟨rfl, fun i c h => by simp at h⟩ (seq_b L) rfl rfl
end Ev
end
section
set_option maxRecDepth 100000
namespace Ev
open Go Go.Proofs
theorem fullT (β : Nat → Nat) (n : Nat) (hn : n ≤ 1000000) : ∃ T : Tr CV, ∀ j, j < n → Tr.get T j = some (.int .u8 (.ofNat (β j))) := by
 refine ⟨setAll ((List.range n).map fun j => CV.int .u8 (.ofNat (β j))) .nil 0, fun j hj => ?_⟩
 rw [at_set ⟨.live, 0, .nilp, .nil, 0, 0⟩ _ 0 j 0 .nil (by simp; omega), if_pos (by simp; omega), List.getElem?_map, Nat.sub_zero, List.getElem?_range hj]
 rfl
theorem bytesL_get (x i : Nat) (hi : i < 8) : (bytesL x)[i]? = some (.int .u8 ((x / 2 ^ (8 * i) % 256 : Nat) : Int)) := by
 unfold bytesL
 rw [List.getElem?_map, List.getElem?_range hi]
 show some (CV.int .u8 (IntKind.u8.wrap (Int.fdiv (.ofNat x) (2 ^ min (8 * i) 64)))) = _
 have e : Int.fdiv (Int.ofNat x) (2 ^ min (8 * i) 64) = ((x / 2 ^ (8 * i) : Nat) : Int) := by
  rw [show min (8 * i) 64 = 8 * i by omega, Int.fdiv_eq_ediv_of_nonneg _ (Int.le_of_lt (Int.pow_pos (by decide)))]
  have : ((2 : Int) ^ (8 * i)) = ((2 ^ (8 * i) : Nat) : Int) := by push_cast; rfl
  rw [this]
  exact (Int.natCast_ediv _ _).symm
 rw [e]
 congr 2
theorem leads_st {L : List B64} {fuel off : Nat} {β : Nat → Nat} {x : B64} (hoff : off ∈ [11, 3]) (hm : L.length ∈ mS) : Leads (55, 0, off) ⟨[BitVec.ofNat 64 64, x], L, false, fuel, β⟩ ⟨[], L, false, fuel, stB β (64 + off) x⟩ := by
 intro f w0 w t ht I
 have hof : off ≤ 11 := by simp only [List.mem_cons, List.not_mem_nil, or_false] at hoff; omega
 obtain ⟨T, hT⟩ := fullT β 65536 (by omega)
 have tab := map_mem (st_t (nth L) t fuel x.toNat T) (off, L.length) (by
  unfold sts
  exact List.mem_flatMap.2 ⟨off, hoff, List.mem_map.2 ⟨L.length, hm, rfl⟩⟩)
 have ho : stepOut (stE (nth L) t fuel x.toNat T (off, L.length)) [1, 2, 4, 5, 9] = some ⟨[], seqN (nth L) L.length, nextC t, i64c fuel⟩ := congrArg Prod.fst tab
 have h9 : row9 (stE (nth L) t fuel x.toNat T (off, L.length)) = some ⟨.live, 65536, .any, setAll (bytesL x.toNat) T (64 + off), 5, 1⟩ := congrArg Prod.snd tab
 have hTat : ∀ j, j < 65536 → (⟨.live, 65536, .any, T, 5, 1⟩ : Row).at j = .int .u8 (.ofNat (β j)) := fun j hj => by
  rw [Row.at_eq]
  show (Tr.get T j).getD .any = _
  rw [hT j hj]
  rfl
 obtain ⟨bl, cl, st, hs, hbl, hst⟩ := IS.sim (Vc := [.int .u64 (.ofNat 64), .int .u64 (.ofNat x.toNat)]) I rfl (fun i c h => by
  match i, h with
  | 0, h => cases h; exact ⟨_, rfl, fun _ => rfl⟩
  | 1, h => cases h; exact ⟨_, rfl, numC_i x⟩) (seq_c L).1 (seq_c L).2 (by simp) (mS_le hm) (R9 := ⟨.live, 65536, .any, T, 5, 1⟩) ⟨rfl, rfl, rfl, rfl⟩ (fun j hj e => by rw [hTat j hj]; rfl)
 have hw : Was f w0 bl cl st := ⟨hbl, hst⟩
 obtain ⟨h2, l2, r1, r2, r4, r5, i, n, m, hr2, _, _, _, _, _, _, _, _, _, _, hws, _⟩ := stepOut_spec ho
 have := (evCall_ok rnTab_ok 5000 9).sim 120 _ _ _ _ h2 l2 hr2 (envS f bl cl st) w [.pointer (some ⟨f.F, 0, none⟩), .agg #[.int .i64 ((55 : Nat) : Int), .int .i64 ((0 : Nat) : Int), .int .u64 (off : Int)]] hs
  ⟨⟨f.F, f.cF, rfl, rfl⟩, ⟨[.int .i64 ((55 : Nat) : Int), .int .i64 ((0 : Nat) : Int), .int .u64 (off : Int)], ⟨rfl, rfl, rfl, trivial⟩, rfl⟩, trivial⟩
 refine Calls.mono this fun en w' hen => ?_
 obtain ⟨y, e', rfl, k1, k2, k3⟩ := hen
 obtain ⟨ys, k3, rfl⟩ := k3
 match ys, k3 with
 | [], _ =>
  have hlo : 10 ≤ 2 ^ 300 := ten_pow 300 (by decide)
  have hB : Bt w' f.q f.cq (stB β (64 + off) x) := by
   rw [hr2] at h9
   have h9 : h2.find 9 = some _ := h9
   obtain ⟨b9, c9, arr9, fr9, hc9⟩ := (k1.row 9 _ h9).row rfl
   have z := hc9.he
   rw [k2.ext 9 (f.q, f.cq) rfl] at z
   cases z
   have fz := hc9.fz rfl
   subst fz
   refine ⟨arr9, hc9.hb, by have := hc9.sz; rw [this]; exact Nat.mul_one _, by have := hc9.le; have h3 := hc9.sz; rw [h3] at this; show 65536 ≤ f.cq; have e1 : f.cq * 1 = f.cq := Nat.mul_one _; exact Nat.le_trans this (Nat.le_of_eq e1), fun j hj => ?_⟩
   obtain ⟨v, v1, v2⟩ := hc9.cell j hj
   rw [v1]
   rw [Row.at_eq] at v2
   have v2 : CV.rel e' ((Tr.get (setAll (bytesL x.toNat) T (64 + off)) j).getD .any) v := v2
   have hl8 : (bytesL x.toNat).length = 8 := by simp [bytesL]
   rw [at_set ⟨.live, 0, .nilp, .nil, 0, 0⟩ (bytesL x.toNat) 0 j (64 + off) T (by rw [hl8]; omega), hl8] at v2
   unfold stB
   by_cases hj2 : 64 + off ≤ j ∧ j < 64 + off + 8
   ·rw [if_pos hj2] at v2 ⊢
    rw [bytesL_get _ _ (by omega)] at v2
    exact congrArg some v2
   ·rw [if_neg hj2] at v2 ⊢
    rw [hT j hj] at v2
    exact congrArg some v2
  exact ⟨rfl, I.back hw k1 k2 hlo hws hB hr2 ho ⟨rfl, fun i c h => by simp at h⟩ (seq_b L) (nextC_n ht) rfl⟩
def zeros (m : Nat) : List B64 := List.replicate m 0
theorem pre_tr {β : Nat → Nat} (hβ : ∀ i, β i < 256) {m : Nat} (hm : m ∈ mS) :
  Tr8 preC ⟨[], zeros m, true, 50, β⟩ ⟨[BitVec.ofNat 64 64, hN β 5, hN β 13, hN β 25, hN β 33], (zeros m).set 0 (BitVec.ofNat 64 16), false, 44, β⟩ := by
 have hl : (zeros m).length = m := by simp [zeros]
 have h4 : 4 ≤ m := by simp only [mS, List.mem_cons, List.not_mem_nil, or_false] at hm; omega
 have hm0 : (zeros m).length ∈ mS := by rw [hl]; exact hm
 have hm1 : ∀ x, ((zeros m).set 0 x).length ∈ mS := fun x => by rw [List.length_set]; exact hm0
 have hg : ∀ x : B64, ((zeros m).set 0 x)[0]? = some x := fun x => by rw [List.getElem?_set]; simp [hl]; omega
 have ss : ∀ x y : B64, ((zeros m).set 0 x).set 0 y = (zeros m).set 0 y := fun x y => List.set_set ..
 refine .cons (leads_tn hm0) ?_
 refine .cons (leads_nil (by decide) hm0) ?_
 refine .cons (leads_tick (j := 5) (by simp) (by decide) hm0) ?_
 refine .cons (leads_num (by decide) (by simp) hm0) ?_
 refine .cons (leads_tick (j := 4) (by simp) (by decide) hm0) ?_
 refine .cons (leads_set (V := [BitVec.ofNat 64 64]) (x := BitVec.ofNat 64 0) (by omega) (by simp) hm0) ?_
 refine .cons (leads_get (hg _) (by simp) (hm1 _)) ?_
 refine .cons (leads_ld (V := [BitVec.ofNat 64 64]) (k := 1) (addr := 0) (off := 5) (by simp) rfl hβ (hm1 _)) ?_
 refine .cons (leads_get (hg _) (by simp) (hm1 _)) ?_
 refine .cons (leads_ld (V := [BitVec.ofNat 64 64, hN β 5]) (k := 2) (addr := 0) (off := 13) (by simp) rfl hβ (hm1 _)) ?_
 refine .cons (leads_tick (j := 3) (by simp) (by decide) (hm1 _)) ?_
 refine .cons (leads_num (by decide) (by simp) (hm1 _)) ?_
 refine .cons (leads_tick (j := 2) (by simp) (by decide) (hm1 _)) ?_
 refine .cons (leads_set (V := [BitVec.ofNat 64 64, hN β 5, hN β 13]) (x := BitVec.ofNat 64 16) (by rw [List.length_set]; omega) (by simp) (hm1 _)) ?_
 rw [ss]
 refine .cons (leads_get (hg _) (by simp) (hm1 _)) ?_
 refine .cons (leads_ld (V := [BitVec.ofNat 64 64, hN β 5, hN β 13]) (k := 3) (addr := 16) (off := 9) (by simp) rfl hβ (hm1 _)) ?_
 refine .cons (leads_get (hg _) (by simp) (hm1 _)) ?_
 refine .cons (leads_ld (V := [BitVec.ofNat 64 64, hN β 5, hN β 13, hN β 25]) (k := 4) (addr := 16) (off := 17) (by simp) rfl hβ (hm1 _)) ?_
 exact .cons (leads_tick (j := 1) (by simp) (by decide) (hm1 _)) (.nil _)
theorem suf_tr {β : Nat → Nat} {L : List B64} (hm : L.length ∈ mS) (r0 r1 : B64) :
  ∃ L', L'.length = L.length ∧ Tr8 sufC ⟨[BitVec.ofNat 64 64, r0, r1], L, false, 44, β⟩ ⟨[], L', false, 43, stB (stB β 75 r1) 67 r0⟩ := by
 have h4 : 4 ≤ L.length := by simp only [mS, List.mem_cons, List.not_mem_nil, or_false] at hm; omega
 have hmm : ∀ a x b y c z, (((L.set a x).set b y).set c z).length ∈ mS := fun a x b y c z => by simp only [List.length_set]; exact hm
 have hm2 : ∀ a x b y, ((L.set a x).set b y).length ∈ mS := fun a x b y => by simp only [List.length_set]; exact hm
 have hm1 : ∀ a x, (L.set a x).length ∈ mS := fun a x => by simp only [List.length_set]; exact hm
 have g0 : (((L.set 2 r1).set 1 r0).set 0 (BitVec.ofNat 64 64))[0]? = some (BitVec.ofNat 64 64) := by rw [List.getElem?_set, if_pos rfl, if_pos (by simp only [List.length_set]; omega)]
 have g1 : (((L.set 2 r1).set 1 r0).set 0 (BitVec.ofNat 64 64))[1]? = some r0 := by rw [List.getElem?_set, if_neg (by decide), List.getElem?_set, if_pos rfl, if_pos (by simp only [List.length_set]; omega)]
 have g2 : (((L.set 2 r1).set 1 r0).set 0 (BitVec.ofNat 64 64))[2]? = some r1 := by rw [List.getElem?_set, if_neg (by decide), List.getElem?_set, if_neg (by decide), List.getElem?_set, if_pos rfl, if_pos (by omega)]
 refine ⟨((L.set 2 r1).set 1 r0).set 0 (BitVec.ofNat 64 64), by simp, ?_⟩
 refine .cons (leads_tick (j := 0) (by simp) (by decide) hm) ?_
 refine .cons (leads_set (V := [BitVec.ofNat 64 64, r0]) (x := r1) (by omega) (by simp) hm) ?_
 refine .cons (leads_set (V := [BitVec.ofNat 64 64]) (x := r0) (by rw [List.length_set]; omega) (by simp) (hm1 _ _)) ?_
 refine .cons (leads_set (V := []) (x := BitVec.ofNat 64 64) (by simp only [List.length_set]; omega) (by simp) (hm2 _ _ _ _)) ?_
 refine .cons (leads_get (V := []) g0 (by decide) (hmm _ _ _ _ _ _)) ?_
 refine .cons (leads_get (V := [BitVec.ofNat 64 64]) g2 (by decide) (hmm _ _ _ _ _ _)) ?_
 refine .cons (leads_st (by simp) (hmm _ _ _ _ _ _)) ?_
 refine .cons (leads_get (V := []) g0 (by decide) (hmm _ _ _ _ _ _)) ?_
 refine .cons (leads_get (V := [BitVec.ofNat 64 64]) g1 (by decide) (hmm _ _ _ _ _ _)) ?_
 exact .cons (leads_st (by simp) (hmm _ _ _ _ _ _)) (.nil _)
end Ev
end
section
namespace Ev
def sN (b : Nat → Nat) : Nat → Nat
 | 0 => 0
 | i + 1 => sN b i + b i * 2 ^ (8 * i)
theorem sN_lt {b : Nat → Nat} (hb : ∀ i, b i < 256) : ∀ n, sN b n < 2 ^ (8 * n)
 | 0 => by simp [sN]
 | i + 1 => by
  have ih := sN_lt hb i
  have h := hb i
  unfold sN
  have e : 2 ^ (8 * (i + 1)) = 2 ^ (8 * i) * 256 := by rw [Nat.mul_add, Nat.pow_add]
  have : b i * 2 ^ (8 * i) ≤ 255 * 2 ^ (8 * i) := Nat.mul_le_mul_right _ (by omega)
  omega
theorem ldB_sN {b : Nat → Nat} (hb : ∀ i, b i < 256) : ∀ n, n ≤ 8 → (ldB b n).toNat = sN b n
 | 0, _ => rfl
 | i + 1, hi => by
  have ih := ldB_sN hb i (by omega)
  have hbi := hb i
  have hl := sN_lt hb i
  have hl1 := sN_lt hb (i + 1)
  have hp : 2 ^ (8 * (i + 1)) ≤ 2 ^ 64 := Nat.pow_le_pow_right (by omega) (by omega)
  unfold ldB
  have hs : sN b (i + 1) = sN b i + b i * 2 ^ (8 * i) := rfl
  rw [BitVec.toNat_or, ih, BitVec.toNat_shiftLeft, BitVec.toNat_ofNat, Nat.mod_eq_of_lt (show b i < 2 ^ 64 by omega), Nat.shiftLeft_eq, Nat.mod_eq_of_lt (by omega), Nat.or_comm, ← Nat.shiftLeft_eq, ← Nat.shiftLeft_add_eq_or_of_lt hl, Nat.shiftLeft_eq, hs]
  omega
theorem sN_of (x : Nat) : ∀ n, sN (fun i => x / 2 ^ (8 * i) % 256) n = x % 2 ^ (8 * n)
 | 0 => by simp [sN, Nat.mod_one]
 | i + 1 => by
  have ih := sN_of x i
  unfold sN
  rw [ih]
  have e : 2 ^ (8 * (i + 1)) = 2 ^ (8 * i) * 256 := by rw [Nat.mul_add, Nat.pow_add]
  rw [e, Nat.mod_mul, Nat.mul_comm (2 ^ (8 * i))]
theorem sN_ext {b c : Nat → Nat} : ∀ n, (∀ i, i < n → b i = c i) → sN b n = sN c n
 | 0, _ => rfl
 | i + 1, h => by
  unfold sN
  rw [sN_ext i fun j hj => h j (by omega), h i (by omega)]
theorem hN_laid {β : Nat → Nat} (hβ : ∀ i, β i < 256) {a : Nat} (x : B64) (h : ∀ i, i < 8 → β (a + i) = x.toNat / 2 ^ (8 * i) % 256) : hN β a = x := by
 apply BitVec.eq_of_toNat_eq
 unfold hN
 rw [ldB_sN (fun i => hβ _) 8 (Nat.le_refl _), sN_ext 8 h, sN_of]
 exact Nat.mod_eq_of_lt x.isLt
theorem stB_lt {β : Nat → Nat} (hβ : ∀ i, β i < 256) (a : Nat) (x : B64) : ∀ i, stB β a x i < 256 := fun i => by
 unfold stB
 split
 ·exact Nat.mod_lt _ (by decide)
 ·exact hβ i
theorem hN_st {β : Nat → Nat} (hβ : ∀ i, β i < 256) (a : Nat) (x : B64) : hN (stB β a x) a = x := hN_laid (stB_lt hβ a x) x fun i hi => by
 unfold stB
 rw [if_pos (by omega), Nat.add_sub_cancel_left]
theorem hN_st_far {β : Nat → Nat} {a c : Nat} (x : B64) (h : c + 8 ≤ a ∨ a + 8 ≤ c) (hβ : ∀ i, β i < 256) : hN (stB β a x) c = hN β c := by
 apply BitVec.eq_of_toNat_eq
 unfold hN
 rw [ldB_sN (fun i => stB_lt hβ _ _ _) 8 (Nat.le_refl _), ldB_sN (fun i => hβ _) 8 (Nat.le_refl _)]
 refine sN_ext 8 fun i hi => ?_
 unfold stB
 rw [if_neg (by omega)]
theorem hN_two {β : Nat → Nat} (hβ : ∀ i, β i < 256) (r0 r1 : B64) : hN (stB (stB β 75 r1) 67 r0) 67 = r0 ∧ hN (stB (stB β 75 r1) 67 r0) 75 = r1 :=
 ⟨hN_st (stB_lt hβ _ _) _ _, by rw [hN_st_far _ (.inr (by omega)) (stB_lt hβ _ _), hN_st hβ]⟩
end Ev
end
section
set_option maxRecDepth 100000
namespace Ev
open Go Go.Proofs
def lc (k : Nat) : List B64 := (List.replicate (Ln.cellsOf k).2 0).set 0 (BitVec.ofNat 64 16)
def leaves2 (k : Nat) : Prop := ∀ x0 x1 y0 y1 : B64, Ln.outV (Ln.runF (Ln.cellsOf k).1 [y1, y0, x1, x0] (lc k)) = [Ln.resF k x0 x1 y0 y1 1, Ln.resF k x0 x1 y0 y1 0]
theorem l2_13 : leaves2 13 := fun _ _ _ _ => by kernel_rfl
theorem l2_14 : leaves2 14 := fun _ _ _ _ => by kernel_rfl
theorem l2_35 : leaves2 35 := fun _ _ _ _ => by kernel_rfl
theorem l2_36 : leaves2 36 := fun _ _ _ _ => by kernel_rfl
theorem l2_37 : leaves2 37 := fun _ _ _ _ => by kernel_rfl
theorem l2_38 : leaves2 38 := fun _ _ _ _ => by kernel_rfl
theorem l2_39 : leaves2 39 := fun _ _ _ _ => by kernel_rfl
theorem l2_40 : leaves2 40 := fun _ _ _ _ => by kernel_rfl
theorem l2_41 : leaves2 41 := fun _ _ _ _ => by kernel_rfl
theorem l2_42 : leaves2 42 := fun _ _ _ _ => by kernel_rfl
theorem l2_43 : leaves2 43 := fun _ _ _ _ => by kernel_rfl
theorem l2_44 : leaves2 44 := fun _ _ _ _ => by kernel_rfl
theorem l2_45 : leaves2 45 := fun _ _ _ _ => by kernel_rfl
theorem l2_46 : leaves2 46 := fun _ _ _ _ => by kernel_rfl
theorem l2_47 : leaves2 47 := fun _ _ _ _ => by kernel_rfl
theorem l2_48 : leaves2 48 := fun _ _ _ _ => by kernel_rfl
theorem l2_49 : leaves2 49 := fun _ _ _ _ => by kernel_rfl
theorem l2_50 : leaves2 50 := fun _ _ _ _ => by kernel_rfl
theorem l2_51 : leaves2 51 := fun _ _ _ _ => by kernel_rfl
theorem l2_52 : leaves2 52 := fun _ _ _ _ => by kernel_rfl
theorem l2_53 : leaves2 53 := fun _ _ _ _ => by kernel_rfl
theorem l2_54 : leaves2 54 := fun _ _ _ _ => by kernel_rfl
theorem l2_55 : leaves2 55 := fun _ _ _ _ => by kernel_rfl
theorem l2_56 : leaves2 56 := fun _ _ _ _ => by kernel_rfl
theorem l2_57 : leaves2 57 := fun _ _ _ _ => by kernel_rfl
theorem l2_58 : leaves2 58 := fun _ _ _ _ => by kernel_rfl
theorem l2_59 : leaves2 59 := fun _ _ _ _ => by kernel_rfl
theorem l2_60 : leaves2 60 := fun _ _ _ _ => by kernel_rfl
theorem l2_61 : leaves2 61 := fun _ _ _ _ => by kernel_rfl
theorem l2_62 : leaves2 62 := fun _ _ _ _ => by kernel_rfl
theorem l2_63 : leaves2 63 := fun _ _ _ _ => by kernel_rfl
theorem l2_64 : leaves2 64 := fun _ _ _ _ => by kernel_rfl
theorem l2_78 : leaves2 78 := fun _ _ _ _ => by kernel_rfl
theorem l2_79 : leaves2 79 := fun _ _ _ _ => by kernel_rfl
theorem l2_80 : leaves2 80 := fun _ _ _ _ => by kernel_rfl
theorem l2_81 : leaves2 81 := fun _ _ _ _ => by kernel_rfl
theorem l2_101 : leaves2 101 := fun _ _ _ _ => by kernel_rfl
theorem l2_102 : leaves2 102 := fun _ _ _ _ => by kernel_rfl
theorem l2_110 : leaves2 110 := fun _ _ _ _ => by kernel_rfl
theorem l2_111 : leaves2 111 := fun _ _ _ _ => by kernel_rfl
theorem l2_112 : leaves2 112 := fun _ _ _ _ => by kernel_rfl
theorem l2_113 : leaves2 113 := fun _ _ _ _ => by kernel_rfl
theorem l2_114 : leaves2 114 := fun _ _ _ _ => by kernel_rfl
theorem l2_115 : leaves2 115 := fun _ _ _ _ => by kernel_rfl
theorem l2_118 : leaves2 118 := fun _ _ _ _ => by kernel_rfl
theorem l2_119 : leaves2 119 := fun _ _ _ _ => by kernel_rfl
theorem l2_120 : leaves2 120 := fun _ _ _ _ => by kernel_rfl
theorem l2_121 : leaves2 121 := fun _ _ _ _ => by kernel_rfl
theorem l2_123 : leaves2 123 := fun _ _ _ _ => by kernel_rfl
theorem l2_130 : leaves2 130 := fun _ _ _ _ => by kernel_rfl
theorem l2_133 : leaves2 133 := fun _ _ _ _ => by kernel_rfl
theorem l2_134 : leaves2 134 := fun _ _ _ _ => by kernel_rfl
theorem l2_142 : leaves2 142 := fun _ _ _ _ => by kernel_rfl
theorem l2_143 : leaves2 143 := fun _ _ _ _ => by kernel_rfl
theorem l2_144 : leaves2 144 := fun _ _ _ _ => by kernel_rfl
theorem l2_145 : leaves2 145 := fun _ _ _ _ => by kernel_rfl
theorem l2_146 : leaves2 146 := fun _ _ _ _ => by kernel_rfl
theorem l2_147 : leaves2 147 := fun _ _ _ _ => by kernel_rfl
theorem l2_149 : leaves2 149 := fun _ _ _ _ => by kernel_rfl
theorem l2_150 : leaves2 150 := fun _ _ _ _ => by kernel_rfl
theorem l2_151 : leaves2 151 := fun _ _ _ _ => by kernel_rfl
theorem l2_152 : leaves2 152 := fun _ _ _ _ => by kernel_rfl
theorem l2_153 : leaves2 153 := fun _ _ _ _ => by kernel_rfl
theorem l2_155 : leaves2 155 := fun _ _ _ _ => by kernel_rfl
theorem l2_156 : leaves2 156 := fun _ _ _ _ => by kernel_rfl
theorem l2_157 : leaves2 157 := fun _ _ _ _ => by kernel_rfl
theorem l2_158 : leaves2 158 := fun _ _ _ _ => by kernel_rfl
theorem l2_159 : leaves2 159 := fun _ _ _ _ => by kernel_rfl
theorem l2_174 : leaves2 174 := fun _ _ _ _ => by kernel_rfl
theorem l2_177 : leaves2 177 := fun _ _ _ _ => by kernel_rfl
theorem l2_181 : leaves2 181 := fun _ _ _ _ => by kernel_rfl
theorem l2_182 : leaves2 182 := fun _ _ _ _ => by kernel_rfl
theorem l2_183 : leaves2 183 := fun _ _ _ _ => by kernel_rfl
theorem l2_184 : leaves2 184 := fun _ _ _ _ => by kernel_rfl
theorem l2_185 : leaves2 185 := fun _ _ _ _ => by kernel_rfl
theorem l2_186 : leaves2 186 := fun _ _ _ _ => by kernel_rfl
theorem l2_188 : leaves2 188 := fun _ _ _ _ => by kernel_rfl
theorem l2_189 : leaves2 189 := fun _ _ _ _ => by kernel_rfl
theorem l2_190 : leaves2 190 := fun _ _ _ _ => by kernel_rfl
theorem l2_191 : leaves2 191 := fun _ _ _ _ => by kernel_rfl
theorem l2_206 : leaves2 206 := fun _ _ _ _ => by kernel_rfl
theorem l2_209 : leaves2 209 := fun _ _ _ _ => by kernel_rfl
theorem l2_213 : leaves2 213 := fun _ _ _ _ => by kernel_rfl
theorem l2_214 : leaves2 214 := fun _ _ _ _ => by kernel_rfl
theorem l2_215 : leaves2 215 := fun _ _ _ _ => by kernel_rfl
theorem l2_216 : leaves2 216 := fun _ _ _ _ => by kernel_rfl
theorem l2_217 : leaves2 217 := fun _ _ _ _ => by kernel_rfl
theorem l2_218 : leaves2 218 := fun _ _ _ _ => by kernel_rfl
theorem l2_219 : leaves2 219 := fun _ _ _ _ => by kernel_rfl
theorem l2_220 : leaves2 220 := fun _ _ _ _ => by kernel_rfl
theorem l2_221 : leaves2 221 := fun _ _ _ _ => by kernel_rfl
theorem l2_222 : leaves2 222 := fun _ _ _ _ => by kernel_rfl
theorem l2_223 : leaves2 223 := fun _ _ _ _ => by kernel_rfl
def kA : List Nat := [13, 14, 35, 36, 37, 38, 39, 40, 41, 42, 43, 44, 45, 46, 47, 48, 49, 50, 51, 52, 53, 54, 55, 56, 57, 58, 59, 60, 61, 62, 63, 64, 78, 79, 80, 81, 101, 102, 110, 111, 112, 113, 114, 115, 118, 119, 120, 121, 123, 130, 133, 134, 142, 143, 144, 145, 146, 147, 149, 150, 151, 152, 153, 155, 156, 157, 158, 159, 174, 177, 181, 182, 183, 184, 185, 186, 188, 189, 190, 191, 206, 209, 213, 214, 215, 216, 217, 218, 219, 220, 221, 222, 223]
theorem l2_all : ∀ k ∈ kA, leaves2 k := by
 intro k hk
 unfold kA at hk
 simp only [List.mem_cons, List.not_mem_nil, or_false] at hk
 rcases hk with rfl | rfl | rfl | rfl | rfl | rfl | rfl | rfl | rfl | rfl | rfl | rfl | rfl | rfl | rfl | rfl | rfl | rfl | rfl | rfl | rfl | rfl | rfl | rfl | rfl | rfl | rfl | rfl | rfl | rfl | rfl | rfl | rfl | rfl | rfl | rfl | rfl | rfl | rfl | rfl | rfl | rfl | rfl | rfl | rfl | rfl | rfl | rfl | rfl | rfl | rfl | rfl | rfl | rfl | rfl | rfl | rfl | rfl | rfl | rfl | rfl | rfl | rfl | rfl | rfl | rfl | rfl | rfl | rfl | rfl | rfl | rfl | rfl | rfl | rfl | rfl | rfl | rfl | rfl | rfl | rfl | rfl | rfl | rfl | rfl | rfl | rfl | rfl | rfl | rfl | rfl | rfl | rfl
 ·exact l2_13
 ·exact l2_14
 ·exact l2_35
 ·exact l2_36
 ·exact l2_37
 ·exact l2_38
 ·exact l2_39
 ·exact l2_40
 ·exact l2_41
 ·exact l2_42
 ·exact l2_43
 ·exact l2_44
 ·exact l2_45
 ·exact l2_46
 ·exact l2_47
 ·exact l2_48
 ·exact l2_49
 ·exact l2_50
 ·exact l2_51
 ·exact l2_52
 ·exact l2_53
 ·exact l2_54
 ·exact l2_55
 ·exact l2_56
 ·exact l2_57
 ·exact l2_58
 ·exact l2_59
 ·exact l2_60
 ·exact l2_61
 ·exact l2_62
 ·exact l2_63
 ·exact l2_64
 ·exact l2_78
 ·exact l2_79
 ·exact l2_80
 ·exact l2_81
 ·exact l2_101
 ·exact l2_102
 ·exact l2_110
 ·exact l2_111
 ·exact l2_112
 ·exact l2_113
 ·exact l2_114
 ·exact l2_115
 ·exact l2_118
 ·exact l2_119
 ·exact l2_120
 ·exact l2_121
 ·exact l2_123
 ·exact l2_130
 ·exact l2_133
 ·exact l2_134
 ·exact l2_142
 ·exact l2_143
 ·exact l2_144
 ·exact l2_145
 ·exact l2_146
 ·exact l2_147
 ·exact l2_149
 ·exact l2_150
 ·exact l2_151
 ·exact l2_152
 ·exact l2_153
 ·exact l2_155
 ·exact l2_156
 ·exact l2_157
 ·exact l2_158
 ·exact l2_159
 ·exact l2_174
 ·exact l2_177
 ·exact l2_181
 ·exact l2_182
 ·exact l2_183
 ·exact l2_184
 ·exact l2_185
 ·exact l2_186
 ·exact l2_188
 ·exact l2_189
 ·exact l2_190
 ·exact l2_191
 ·exact l2_206
 ·exact l2_209
 ·exact l2_213
 ·exact l2_214
 ·exact l2_215
 ·exact l2_216
 ·exact l2_217
 ·exact l2_218
 ·exact l2_219
 ·exact l2_220
 ·exact l2_221
 ·exact l2_222
 ·exact l2_223
theorem wf_all : kA.all (fun k => wfRun (Ln.cellsOf k).1 5 false && mS.contains (Ln.cellsOf k).2) = true := by kernel_rfl
theorem whole_tr {k : Nat} (hk : k ∈ kA) {β : Nat → Nat} (hβ : ∀ i, β i < 256) :
  (Ln.cellsOf k).2 ∈ mS ∧ ∃ L', L'.length = (Ln.cellsOf k).2 ∧ Tr8 (preC ++ (Ln.cellsOf k).1 ++ sufC) ⟨[], zeros (Ln.cellsOf k).2, true, 50, β⟩ ⟨[], L', false, 43, stB (stB β 75 (Ln.resF k (hN β 5) (hN β 13) (hN β 25) (hN β 33) 1)) 67 (Ln.resF k (hN β 5) (hN β 13) (hN β 25) (hN β 33) 0)⟩ := by
 have hw := List.all_eq_true.1 wf_all k hk
 rw [Bool.and_eq_true] at hw
 have hm : (Ln.cellsOf k).2 ∈ mS := by simpa using hw.2
 refine ⟨hm, ?_⟩
 have hl : (zeros (Ln.cellsOf k).2).length = (Ln.cellsOf k).2 := by simp [zeros]
 have hm1 : ((zeros (Ln.cellsOf k).2).set 0 (BitVec.ofNat 64 16)).length ∈ mS := by rw [List.length_set, hl]; exact hm
 have h2 := l2_all k hk (hN β 5) (hN β 13) (hN β 25) (hN β 33)
 cases hr : Ln.runF (Ln.cellsOf k).1 [hN β 33, hN β 25, hN β 13, hN β 5] (lc k) with
 | none => rw [hr] at h2; cases h2
 | some o =>
  obtain ⟨V', L2⟩ := o
  rw [hr] at h2
  have h2 : V' = _ := h2
  subst h2
  obtain ⟨t2, ln2⟩ := run_leads (base := [BitVec.ofNat 64 64]) (fuel := 44) (β := β) _ _ _ _ _ false hw.1 (fun h => by cases h) hm1 hr
  have hm2 : L2.length ∈ mS := by rw [ln2]; exact hm1
  obtain ⟨L3, ln3, t3⟩ := suf_tr (β := β) hm2 (Ln.resF k (hN β 5) (hN β 13) (hN β 25) (hN β 33) 0) (Ln.resF k (hN β 5) (hN β 13) (hN β 25) (hN β 33) 1)
  refine ⟨L3, by rw [ln3, ln2]; first | (unfold lc; rw [List.length_set, List.length_replicate]) | rw [List.length_set, hl], ?_⟩
  exact ((pre_tr hβ hm).app t2).app t3
end Ev
end
