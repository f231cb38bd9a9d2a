/-
  For every pair of numbers of pages and every script of calls plaitlaw10.MemoryScripts returns true; no condition. (It is proved of the program's text over the formal model.)
-/
import Derived.Test.YtlcndenbnokcjaaScM
import Derived.Test.YtlcndenbnokcjaaOpen
import Derived.Deep.Slices
import Derived.Deep.MidRow
import Derived.SizedLaws
set_option linter.unusedSimpArgs false
set_option linter.unusedVariables false
namespace Go.Proofs.Ytlcndenbnokcjaa
open Go.RowKit Go.ChangeShapes Go.WideShapes Go.ChangeAt Pl

theorem weightsAll_mem {H : Type} {P : Program} {e : TypeId} : ∀ {l : List (DataW H)} {d : DataW H}, d ∈ l → ∀ n ∈ d.weights P e, n ∈ DataW.weightsAll P e l
  | x :: l, d, hd, n, hn => by
    simp only [DataW.weightsAll, List.mem_append]
    rcases List.mem_cons.1 hd with rfl | hd
    · exact .inl hn
    · exact .inr (weightsAll_mem hd n hn)
/-- No part of it takes more than the reach. -/
def Light {H : Type} (t : TypeId) (d : DataW H) : Prop := ∀ n ∈ d.weights Try.prog t, n ≤ reachBytes
theorem Light.part {H : Type} {t : TypeId} {fs : Array Field} {parts : List (DataW H)} (h : Light t (.agg parts)) (ht : Try.prog.underlying t = some (.struct fs)) (i : Nat) {f : Field} {d : DataW H} (hf : fs[i]? = some f) (hd : parts[i]? = some d) : Light f.type d := fun n hn => by
  refine h n ?_
  rw [DataW.weights]
  rw [ht]
  exact DataW.weights_mem_each (j := i) (by rw [List.getElem?_map, Array.getElem?_toList, hf]; rfl) hd n hn
theorem Light.elem {H : Type} {t e : TypeId} {es sp : List (DataW H)} (h : Light t (.slice es sp)) (ht : Try.prog.underlying t = some (.slice e)) {d : DataW H} (hd : d ∈ es) : Light e d := fun n hn => by
  refine h n ?_
  rw [DataW.weights, ht]
  simp only [List.mem_cons, List.mem_append]
  exact .inr (.inl (weightsAll_mem hd n hn))
theorem Light.size {H : Type} {t e : TypeId} {es sp : List (DataW H)} (h : Light t (.slice es sp)) (ht : Try.prog.underlying t = some (.slice e)) : (es.length + sp.length) * Try.prog.bytesOf e ≤ reachBytes := h _ (by
  rw [DataW.weights, ht]
  simp)
theorem bytes_u8 : Try.prog.bytesOf 5 = 1 := by kernel_rfl
set_option maxRecDepth 100000 in
theorem open_data {H : Type} {enc : TypeId × Value → H} {W : World} {base fuel : Nat} {sp : Nat → Bool} {held : Bool} {c7 : Value} {x : DataW H × List MemPlace} (hsp : ∀ b, sp b = true)
    (hf : DataW.trod enc Try.prog W base sp held fuel 48 [c7] = some x) (hlt : Light 48 x.1) : ∃ ad m c ν, c7 = .slice ad m c ∧ BView W (.slice ad m c) m ν ∧ m ≤ c ∧ c ≤ 140737488351232 ∧ (ad = none → c = 0) := by
  have hc : Try.prog.cellsOf 5 = 1 := by kernel_rfl
  rcases open_ints under_bytes under_byte hc hf with ⟨hcs, hx⟩ | ⟨a, len, cap, zs, hcs, _, hl, hm, hz, hx, hcell, hwz⟩
  · simp at hcs
    exact ⟨none, 0, 0, fun _ => 0, hcs, ⟨⟨_, _, rfl, .inl rfl⟩, fun j hj => by omega⟩, Nat.zero_le _, by decide, fun _ => rfl⟩
  · simp at hcs
    rw [hsp, if_pos rfl] at hz
    have hlz : len ≤ zs.length := by omega
    have hb : ∀ j, j < len → 0 ≤ zs.getD j 0 ∧ zs.getD j 0 < 256 := fun j hj => by
      have : zs.getD j 0 = zs[j]'(by omega) := by simp [List.getD, show j < zs.length by omega]
      rw [this]
      have := bounds_u8 (hwz _ (List.getElem_mem (show j < zs.length by omega)))
      omega
    have hsz : cap ≤ 140737488351232 := by
      rw [hx] at hlt
      have := Light.size hlt under_bytes
      rw [bytes_u8] at this
      simp only [lits, List.length_map, List.length_take, List.length_drop, reachBytes] at this
      omega
    refine ⟨some a, len, cap, fun j => (zs.getD j 0).toNat, hcs, ⟨⟨_, _, rfl, ?_⟩, fun j hj => by have := hb j hj; omega⟩, hl, hsz, fun e => by cases e⟩
    by_cases h0 : len = 0
    · exact .inl h0
    · obtain ⟨b, off, e, hc2⟩ := ints_at hcell (by omega)
      refine .inr ⟨b, off, by rw [e], fun j hj => ?_⟩
      rw [hc2 j (by omega), Int.toNat_of_nonneg (hb j hj).1]
set_option maxRecDepth 100000 in
theorem opfields : ∃ fs : Array Field, ∃ f0 f1 f2 f3 f4 f5 f6 f7 : Field, Try.prog.underlying 50 = some (.struct fs) ∧ fs = #[f0, f1, f2, f3, f4, f5, f6, f7] ∧ (f0.type = 3 ∧ f0.offset = 0) ∧ (f1.type = 3 ∧ f1.offset = 1) ∧ (f2.type = 32 ∧ f2.offset = 2) ∧ (f3.type = 34 ∧ f3.offset = 3) ∧ (f4.type = 34 ∧ f4.offset = 4) ∧ (f5.type = 3 ∧ f5.offset = 5) ∧ (f6.type = 3 ∧ f6.offset = 6) ∧ (f7.type = 48 ∧ f7.offset = 7) :=
  ⟨_, _, _, _, _, _, _, _, _, rfl, rfl, ⟨rfl, rfl⟩, ⟨rfl, rfl⟩, ⟨rfl, rfl⟩, ⟨rfl, rfl⟩, ⟨rfl, rfl⟩, ⟨rfl, rfl⟩, ⟨rfl, rfl⟩, ⟨rfl, rfl⟩⟩
theorem eight (l : List Value) (h : l.length = 8) : ∃ c0 c1 c2 c3 c4 c5 c6 c7, l = [c0, c1, c2, c3, c4, c5, c6, c7] := by
  match l, h with
  | [c0, c1, c2, c3, c4, c5, c6, c7], _ => exact ⟨c0, c1, c2, c3, c4, c5, c6, c7, rfl⟩
set_option maxRecDepth 100000 in
theorem trod_op {H : Type} {enc : TypeId × Value → H} {w : World} {spare : Nat → Bool} {held : Bool} {base fuel : Nat} {cs : List Value} {x : DataW H × List MemPlace} (hsp : ∀ b, spare b = true)
    (hsz : cs.length = 8) (h : DataW.trod enc Try.prog w base spare held fuel 50 cs = some x) (hlt : Light 50 x.1) : ∃ y : OpR, cs = y.row.toList ∧ y.Ok ∧ BView w (.slice y.ad y.dm y.dc) y.dm y.ν ∧ (y.ad = none → y.dc = 0) := by
  have hi : Try.prog.underlying 3 = some (.int .i64) := by kernel_rfl
  have hu : Try.prog.underlying 34 = some (.int .u64) := by kernel_rfl
  have hv : Try.prog.underlying 32 = some (.int .u32) := by kernel_rfl
  have hci : Try.prog.cellsOf 3 = 1 := by kernel_rfl
  have hcu : Try.prog.cellsOf 34 = 1 := by kernel_rfl
  have hcv : Try.prog.cellsOf 32 = 1 := by kernel_rfl
  have hcs : Try.prog.cellsOf 48 = 1 := by kernel_rfl
  obtain ⟨fs, f0, f1, f2, f3, f4, f5, f6, f7, hS, hfs, ⟨t0, o0⟩, ⟨t1, o1⟩, ⟨t2, o2⟩, ⟨t3, o3⟩, ⟨t4, o4⟩, ⟨t5, o5⟩, ⟨t6, o6⟩, ⟨t7, o7⟩⟩ := opfields
  obtain ⟨xs, n, _, hx1, _, hl, hx⟩ := DataW.trod_struct hS h
  subst hfs
  have hl8 : xs.length = 8 := hl
  have g0 := hx 0 f0 rfl
  have g1 := hx 1 f1 rfl
  have g2 := hx 2 f2 rfl
  have g3 := hx 3 f3 rfl
  have g4 := hx 4 f4 rfl
  have g5 := hx 5 f5 rfl
  have g6 := hx 6 f6 rfl
  have g7 := hx 7 f7 rfl
  rw [List.getElem?_eq_getElem (by omega), t0, o0, hci] at g0
  rw [List.getElem?_eq_getElem (by omega), t1, o1, hci] at g1
  rw [List.getElem?_eq_getElem (by omega), t2, o2, hcv] at g2
  rw [List.getElem?_eq_getElem (by omega), t3, o3, hcu] at g3
  rw [List.getElem?_eq_getElem (by omega), t4, o4, hcu] at g4
  rw [List.getElem?_eq_getElem (by omega), t5, o5, hci] at g5
  rw [List.getElem?_eq_getElem (by omega), t6, o6, hci] at g6
  rw [List.getElem?_eq_getElem (by omega), t7, o7, hcs] at g7
  obtain ⟨c0, c1, c2, c3, c4, c5, c6, c7, rfl⟩ := eight cs hsz
  obtain ⟨z0, e0, _, w0⟩ := DataW.trod_int hi g0
  obtain ⟨z1, e1, _, w1⟩ := DataW.trod_int hi g1
  obtain ⟨z2, e2, _, w2⟩ := DataW.trod_int hv g2
  obtain ⟨z3, e3, _, w3⟩ := DataW.trod_int hu g3
  obtain ⟨z4, e4, _, w4⟩ := DataW.trod_int hu g4
  obtain ⟨z5, e5, _, w5⟩ := DataW.trod_int hi g5
  obtain ⟨z6, e6, _, w6⟩ := DataW.trod_int hi g6
  simp at e0 e1 e2 e3 e4 e5 e6
  have hl7 : Light 48 (xs[7]'(by omega)).1 := by
    rw [hx1] at hlt
    have := Light.part hlt hS 7 (f := f7) (d := (xs[7]'(by omega)).1) rfl (by rw [List.getElem?_map, List.getElem?_eq_getElem (by omega)]; rfl)
    rw [t7] at this
    exact this
  obtain ⟨ad, m, c, ν, e7, hB, hmc, hcm, hnil⟩ := open_data hsp (show DataW.trod enc Try.prog w base spare held n 48 [c7] = some (xs[7]'(by omega)) from g7) hl7
  refine ⟨⟨z0, z1, z2, z3, z4, z5, z6, ad, m, c, ν⟩, ?_, ?_, hB, hnil⟩
  · simp [OpR.row, e0, e1, e2, e3, e4, e5, e6, e7]
  · have b0 := bounds_i64 w0
    have b1 := bounds_i64 w1
    have b2 := bounds_u32 w2
    have b3 := bounds_u64 w3
    have b4 := bounds_u64 w4
    have b5 := bounds_i64 w5
    have b6 := bounds_i64 w6
    exact ⟨b0, b1, b2, b3, b4, b5, b6, hmc, hcm⟩
theorem under_ops : Try.prog.underlying 43 = some (.slice 50) := by kernel_rfl
set_option maxRecDepth 100000 in
theorem open_ops {H : Type} {enc : TypeId × Value → H} {W : World} {base fuel : Nat} {sp : Nat → Bool} {held : Bool} {c : Value} {x : DataW H × List MemPlace} (hsp : ∀ b, sp b = true)
    (hf : DataW.trod enc Try.prog W base sp held fuel 43 [c] = some x) (hlt : Light 43 x.1) :
    ∃ ad m k f, c = .slice ad m k ∧ m ≤ 9223372036854775807 ∧ (m = 0 ∨ ∃ b off, ad = some ⟨b, off, none⟩ ∧ OView W b off m f) := by
  have hc : Try.prog.cellsOf 50 = 8 := by kernel_rfl
  rcases Go.Deep.open_slice under_ops hf with ⟨hcs, hx⟩ | ⟨a, len, cap, m, n, D, Pl, hcs, hb, hl, hm, hmm, hx, hel⟩
  · simp at hcs
    exact ⟨none, 0, 0, fun _ => ⟨0, 0, 0, 0, 0, 0, 0, none, 0, 0, fun _ => 0⟩, hcs, by decide, .inl rfl⟩
  · simp at hcs
    have hlm : len ≤ m := by rw [hmm]; split <;> omega
    rw [hx] at hlt
    have hv : ∀ i, i < len → ∃ y : OpR, (y.Ok ∧ BView W (.slice y.ad y.dm y.dc) y.dm y.ν ∧ (y.ad = none → y.dc = 0)) ∧ ∀ j v, y.row.toList[j]? = some v → W.cell? ((a.add (i * 8)).add j) = some v := fun i hi => by
      obtain ⟨cs', h1, h2⟩ := hel i (by omega)
      rw [hc] at h1
      obtain ⟨_, hlen, hg⟩ := World.cells?_some h1
      obtain ⟨y, rfl, ok⟩ := trod_op hsp hlen h2 (Light.elem hlt under_ops (List.mem_map.2 ⟨i, by simpa using hi, rfl⟩))
      exact ⟨y, ok, fun j v hj => by
        by_cases h16 : j < 8
        · rw [hg j h16]; exact hj
        · rw [List.getElem?_eq_none (by omega)] at hj; cases hj⟩
    have : Inhabited OpR := ⟨⟨0, 0, 0, 0, 0, 0, 0, none, 0, 0, fun _ => 0⟩⟩
    obtain ⟨f, hf2⟩ := Go.Deep.choose_lt hv
    have hmx : len ≤ 9223372036854775807 := by
      have : maxLen ≤ 9223372036854775807 := by decide
      omega
    refine ⟨some a, len, cap, f, hcs, hmx, ?_⟩
    by_cases h0 : len = 0
    · exact .inl h0
    · right
      obtain ⟨b, off, spot⟩ := a
      have e0 : (f 0).row.toList[0]? = some (.int .i64 (f 0).kind) := by simp [OpR.row]
      have h0c := (hf2 0 (by omega)).2 0 _ e0
      have hspot : spot = none := by simpa [Addr.add] using World.cell?_spot h0c
      subst hspot
      refine ⟨b, off, rfl, fun i hi j v hj => ?_, fun i hi => (hf2 i hi).1.1, fun i hi => (hf2 i hi).1.2.1, fun i hi => (hf2 i hi).1.2.2, ?_⟩
      · have := (hf2 i hi).2 j v hj
        simp only [Go.Addr.add_mid] at this
        rw [show off + 8 * i + j = off + i * 8 + j by omega]
        exact this
      · simp only [Go.Addr.add_mid] at h0c
        exact World.block_lt_of_cell? W _ h0c
set_option maxRecDepth 100000 in
theorem pfields : ∃ fs : Array Field, ∃ f0 f1 f2 : Field, Try.prog.underlying 45 = some (.struct fs) ∧ fs = #[f0, f1, f2] ∧ (f0.type = 3 ∧ f0.offset = 0) ∧ (f1.type = 3 ∧ f1.offset = 1) ∧ (f2.type = 43 ∧ f2.offset = 2) :=
  ⟨_, _, _, _, rfl, rfl, ⟨rfl, rfl⟩, ⟨rfl, rfl⟩, ⟨rfl, rfl⟩⟩
set_option maxRecDepth 100000 in
theorem open_pair {H : Type} {enc : TypeId × Value → H} {W : World} {base b0 : Nat} {r : Reach} {sp : Nat → Bool} {held : Bool} {v : Value} {d : DataW H} {p : List MemPlace} (hsp : ∀ b, sp b = true)
    (hv : Value.okWide Try.prog W r b0 45 v) (h : DataW.Trod enc Try.prog W base sp held 45 v d p) (hlt : Light 45 d) :
    ∃ l m ad n c f, v = .agg #[.int .i64 l, .int .i64 m, .slice ad n c] ∧ (-9223372036854775808 ≤ l ∧ l ≤ 9223372036854775807) ∧ (-9223372036854775808 ≤ m ∧ m ≤ 9223372036854775807) ∧ n ≤ 9223372036854775807 ∧ (n = 0 ∨ ∃ b off, ad = some ⟨b, off, none⟩ ∧ OView W b off n f) := by
  have hc : Try.prog.cellsOf 45 = 3 := by kernel_rfl
  have hi : Try.prog.underlying 3 = some (.int .i64) := by kernel_rfl
  have hci : Try.prog.cellsOf 3 = 1 := by kernel_rfl
  have hcs : Try.prog.cellsOf 43 = 1 := by kernel_rfl
  obtain ⟨fs, f0, f1, f2, hS, hfs, ⟨t0, o0⟩, ⟨t1, o1⟩, ⟨t2, o2⟩⟩ := pfields
  unfold Value.okWide at hv
  rw [hS] at hv
  obtain ⟨cs, rfl, hsz, _⟩ := hv
  rw [hc] at hsz
  obtain ⟨fuel, hf⟩ := h
  obtain ⟨l⟩ := cs
  match l, hsz, hf with
  | [c0, c1, c2], _, hf =>
    have hf' : DataW.trod enc Try.prog W base sp held fuel 45 [c0, c1, c2] = some (d, p) := by simpa [Value.cells] using hf
    obtain ⟨xs, n, _, hx1, _, hl, hx⟩ := DataW.trod_struct hS hf'
    subst hfs
    have hl3 : xs.length = 3 := hl
    have g0 := hx 0 f0 rfl
    have g1 := hx 1 f1 rfl
    have g2 := hx 2 f2 rfl
    rw [List.getElem?_eq_getElem (by omega), t0, o0, hci] at g0
    rw [List.getElem?_eq_getElem (by omega), t1, o1, hci] at g1
    rw [List.getElem?_eq_getElem (by omega), t2, o2, hcs] at g2
    obtain ⟨z0, e0, _, w0⟩ := DataW.trod_int hi g0
    obtain ⟨z1, e1, _, w1⟩ := DataW.trod_int hi g1
    simp at e0 e1
    have hd : d = .agg (xs.map (·.1)) := congrArg (·.1) hx1
    have hl2 : Light 43 (xs[2]'(by omega)).1 := by
      rw [hd] at hlt
      have := Light.part hlt hS 2 (f := f2) (d := (xs[2]'(by omega)).1) rfl (by rw [List.getElem?_map, List.getElem?_eq_getElem (by omega)]; rfl)
      rw [t2] at this
      exact this
    obtain ⟨ad, m, k, f, e2, hm, ho⟩ := open_ops hsp (show DataW.trod enc Try.prog W base sp held n 43 [c2] = some (xs[2]'(by omega)) from g2) hl2
    exact ⟨z0, z1, ad, m, k, f, by rw [e0, e1, e2], bounds_i64 w0, bounds_i64 w1, hm, ho⟩

set_option maxRecDepth 100000 in
theorem memoryScripts_lifted (os : Os) (started : os.Started) (H : Type) (enc : TypeId × Value → H) :
    ReturnsInHanded {} Try.checked os 6 .any (Rows.memoryScriptsSpec.pre6 enc Try.prog Try.f6 Rows.memoryScriptsRow.domain false) (Rows.memoryScriptsSpec.post enc Try.prog Try.f6 false true false false) := by
  refine returnsInHanded_of_change_sized (C := Try.checked) Try.own started (by kernel_rfl) Try.func6
    (ChangeSpec.witness6 (enc := enc) (C := Try.checked) false ⟨#[], #[.agg #[.int .i64 0, .int .i64 0, .slice none 0 0]], []⟩ 8 (by kernel_rfl) (by kernel_rfl) (by kernel_rfl) (by kernel_rfl)) ?_
  intro W base args ds gs before hval0 hW hcnd hsz0 _
  have hval : ∀ (j : Nat) t v, Try.f6.params[j]? = some t → args[j]? = some v → Value.okWide Try.prog W .any base t v := hval0
  have hsz : (DataW.weightsEach Try.prog (Try.f6.params.toList ++ Rows.memoryScriptsSpec.plain.varTypes Try.prog) (ds ++ gs)).all (· ≤ reachBytes) = true := hsz0
  have hW' := hW
  obtain ⟨p, q, hA0, hV, rfl, hfz, hnd⟩ := hW
  have hA : DataW.TrodAll enc Try.prog W 0 (fun _ => true) true Try.f6.params.toList args.toList ds p := hA0
  rw [Try.params6] at hA hval hsz
  obtain ⟨v0, d0, rfl, rfl, h0⟩ := trodAll_one hA
  obtain ⟨rfl, rfl⟩ := trodVars_none hV
  clear hA0 hval0
  have hlt : Light 45 d0 := fun n hn => by
    have := List.all_eq_true.1 hsz _ (DataW.weights_mem_each (j := 0) (t := 45) (d := d0) rfl rfl n hn)
    simpa using this
  obtain ⟨l, m, ad, n, c, f, rfl, hl, hm, hn, ho⟩ := open_pair (fun _ => rfl) (hval 0 45 v0 rfl rfl) h0 hlt
  simp only [List.append_nil] at hW'
  have laid : laidOutB Try.prog = true := by kernel_rfl
  refine (scripts_walk l m ad n c f W hl hm hn ho).mono fun e W' ⟨he, hb⟩ => ?_
  subst he
  exact ⟨_, rfl, _, _, _, [], _, [], hW', trodAll_mk1 (shut_bool Try.underlying4 _), trodAll_mk1 (Below.trod laid (by kernel_rfl) (of_decide_eq_true (by kernel_rfl)) h0 hb (fun x hx => hW'.lt x (by simp [hx]))), rfl, hb.frame _, fun h => by cases h⟩

theorem memoryScripts_holds : Rows.MemoryScriptsSaid :=
  OpenClaim.holds_of_wide 6 Try.f6 rfl rfl rfl rfl rfl rfl rfl ⟨rfl, rfl, rfl, rfl, rfl⟩ rfl rfl rfl rfl rfl (by kernel_rfl) Try.func6 (by kernel_rfl)
    (of_decide_eq_true (by kernel_rfl)) (by unfold Func.isWrapper; rw [if_neg (of_decide_eq_false (by kernel_rfl))]; exact ⟨rfl, rfl⟩)
    (fun os started H enc _ => memoryScripts_lifted os started H enc)
#print axioms memoryScripts_holds

end Go.Proofs.Ytlcndenbnokcjaa
