/- A part of the proof that plaittop.CoreLanes returns true. -/
import Derived.LoopN
import Derived.Test.YtebpijlmeemfaaaGreatDoorB07
set_option linter.all false
set_option linter.unusedSectionVars false
set_option linter.unusedSimpArgs false
set_option linter.unusedVariables false
section
namespace Ev
open Go
section
variable {P : Program} {ty : Nat → Option TI} {call : CallF} {S base : Nat} (hc : CallOK P S call) {ops : List Oper}
def TAll (base hi : Nat) (ls : List Ent) (x : Nat) : Prop := (∃ y ∈ ls, x ∈ y.2.1.r ∨ x ∈ y.2.1.w) ∨ (base ≤ x ∧ x < hi)
def UAll (base hi : Nat) (ls : List Ent) (x : Nat) : Prop := (∀ y ∈ ls, x ∉ y.2.1.w) ∧ ¬ (base ≤ x ∧ x < hi)
theorem UAll.of {base hi : Nat} {ls : List Ent} {x : Nat} (h : ¬ TAll base hi ls x) : UAll base hi ls x := ⟨fun y hy hw => h (.inl ⟨y, hy, .inr hw⟩), fun hr => h (.inr hr)⟩
theorem evOps_sub {draw : Bool} : ∀ (rest : List Oper) (i : Nat) (t : T) (h : H) (ls : List Ent) (s : OSt) (h' : H) (l0 : Log), evOps ty call ops S base draw rest i t h ls = .ok s h' l0 → (∀ x ∈ ls, x ∈ s.ls) ∧ l0 = ⟨[], []⟩ := by
 intro rest
 induction rest with
 | nil => intro i t h ls s h' l0 he; cases he; exact ⟨fun x hx => hx, rfl⟩
 | cons o rest ih =>
  intro i t h ls s h' l0 he
  simp only [evOps] at he
  split at he
  ·cases he
  ·exact ih _ _ _ _ _ _ _ he
  ·split at he
   ·cases he
   ·split at he
    ·exact ih _ _ _ _ _ _ _ he
    ·unfold after at he
     split at he
     ·have := ih _ _ _ _ _ _ _ he
      exact ⟨fun x hx => this.1 x (addLog_mem.1 x hx), this.2⟩
     ·split at he
      ·have := ih _ _ _ _ _ _ _ he
       exact ⟨fun x hx => this.1 x (addLog_mem.1 x hx), this.2⟩
      ·cases he
theorem mayGo_congr {k : Nat} {l : Log} {ls : List Ent} {h1 h2 : H} (hre : ∀ x ∈ ls, ReOk x) (hh : ∀ x ∈ ls, ∀ F, x.2.1 = ⟨[F], []⟩ → h2.find F = h1.find F) (h : mayGo ops S base k l ls h1 = true) : mayGo ops S base k l ls h2 = true := by
 unfold mayGo at h ⊢
 split at h
 ·rfl
 ·rename_i hne
  simp only [Bool.and_eq_true, List.all_eq_true] at h ⊢
  refine ⟨h.1, fun x hx => ?_⟩
  have := h.2 x hx
  have e : softE x h2 = softE x h1 := by
   unfold softE
   split
   ·rename_i F hF
    rw [((hre x hx) F hF).2 h1 h2 (hh x hx F hF)]
   ·rfl
  rw [e]
  exact this
include hc in
theorem evOps_fr {draw : Bool} {hi : Nat} : ∀ (rest : List Oper) (i : Nat) (t : T) (h : H) (ls : List Ent) (s : OSt) (h' : H) (l0 : Log), base + (i + rest.length) * S ≤ hi → (∀ x ∈ ls, ReOk x) → evOps ty call ops S base draw rest i t h ls = .ok s h' l0 →
  (∀ x, UAll base hi s.ls x → h'.find x = h.find x) ∧ ∀ h2 : H, (∀ x, TAll base hi s.ls x → h2.find x = h.find x) → ∃ h2', evOps ty call ops S base draw rest i t h2 ls = .ok s h2' l0 ∧ (∀ x, TAll base hi s.ls x → h2'.find x = h'.find x) ∧ ∀ x, UAll base hi s.ls x → h2'.find x = h2.find x := by
 intro rest
 induction rest with
 | nil =>
  intro i t h ls s h' l0 _ hre he
  cases he
  exact ⟨fun _ _ => rfl, fun h2 hh => ⟨h2, rfl, hh, fun _ _ => rfl⟩⟩
 | cons o rest ih =>
  intro i t h ls s h' l0 hhi hre he
  have hhi' : base + (i + 1 + rest.length) * S ≤ hi := by rwa [List.length_cons, show i + (rest.length + 1) = i + 1 + rest.length by omega] at hhi
  have hrange : base + i * S + S ≤ hi := by
   have := Nat.mul_le_mul_right S (show i + 1 ≤ i + 1 + rest.length by omega)
   rw [Nat.add_mul, Nat.one_mul] at this
   omega
  simp only [evOps] at he ⊢
  split at he
  ·cases he
  ·rename_i hg
   obtain ⟨o1, a1⟩ := ih _ _ _ _ _ _ _ hhi' hre he
   exact ⟨o1, fun h2 hh => by first | exact a1 h2 hh | (simp only [hg]; exact a1 h2 hh)⟩
  ·rename_i hg
   split at he
   ·cases he
   ·rename_i v h1 l hev
    have hfr := evOp_fr (ty := ty) hc (ev1 t) (base + i * S) o.op h v h1 l hev
    have fin : ∀ ls1, (∀ x ∈ ls1, ReOk x) → evOps ty call ops S base draw rest (i + 1) (setD t o.dst v) h1 ls1 = .ok s h' l0 → (∀ k, k ∈ l.r ∨ k ∈ l.w → (base + i * S ≤ k ∧ k < base + i * S + S) ∨ ∃ y ∈ s.ls, (k ∈ l.r → k ∈ y.2.1.r) ∧ (k ∈ l.w → k ∈ y.2.1.w)) →
      (∀ x, UAll base hi s.ls x → h'.find x = h.find x) ∧ ∀ h2 : H, (∀ x, TAll base hi s.ls x → h2.find x = h.find x) → ∃ h1' h2', evOp ty call (ev1 t) (base + i * S) o.op h2 = .ok v h1' l ∧ evOps ty call ops S base draw rest (i + 1) (setD t o.dst v) h1' ls1 = .ok s h2' l0 ∧ (∀ x, TAll base hi s.ls x → h2'.find x = h'.find x) ∧ (∀ x, UAll base hi s.ls x → h2'.find x = h2.find x) ∧ ∀ x, TAll base hi s.ls x → h1'.find x = h1.find x := by
     intro ls1 hre1 hev2 hin
     obtain ⟨o1, a1⟩ := ih _ _ _ _ _ _ _ hhi' hre1 hev2
     have hT : ∀ k, Tch (base + i * S) (base + i * S + S) l k → TAll base hi s.ls k := by
      intro k hk
      have hrr : base + i * S ≤ k ∧ k < base + i * S + S → TAll base hi s.ls k := fun hr => .inr ⟨by have := Nat.zero_le (i * S); omega, by omega⟩
      rcases hk with hk | hk | hk
      ·rcases hin k (.inl hk) with hr | ⟨y, hy, q1, q2⟩
       ·exact hrr hr
       ·exact .inl ⟨y, hy, .inl (q1 hk)⟩
      ·rcases hin k (.inr hk) with hr | ⟨y, hy, q1, q2⟩
       ·exact hrr hr
       ·exact .inl ⟨y, hy, .inr (q2 hk)⟩
      ·exact hrr hk
     have hU : ∀ k, UAll base hi s.ls k → Unw (base + i * S) (base + i * S + S) l k := by
      intro k hk
      refine ⟨fun hw => ?_, fun hr => hk.2 ⟨by have := Nat.zero_le (i * S); omega, by omega⟩⟩
      rcases hin k (.inr hw) with hr | ⟨y, hy, q1, q2⟩
      ·exact hk.2 ⟨by have := Nat.zero_le (i * S); omega, by omega⟩
      ·exact hk.1 y hy (q2 hw)
     refine ⟨fun x hx => by rw [o1 x hx, hfr.out x (hU x hx)], fun h2 hh => ?_⟩
     obtain ⟨h1', e1, e2, e3⟩ := hfr.again h2 (fun k hk => hh k (hT k hk))
     have hag : ∀ x, TAll base hi s.ls x → h1'.find x = h1.find x := by
      intro x hx
      by_cases hk : Tch (base + i * S) (base + i * S + S) l x
      ·exact e2 x hk
      ·rw [e3 x (.of_not hk), hfr.out x (.of_not hk)]
       exact hh x hx
     obtain ⟨h2', g1, g2, g3⟩ := a1 h1' hag
     exact ⟨h1', h2', e1, g1, g2, fun x hx => by rw [g3 x hx, e3 x (hU x hx)], hag⟩
    have hms := mulS base S i
    have hrd := redo_ok (i := i) (hi := base + (i + 1) * S) hev
    have hre1 : ∀ x ∈ addLog i (l.out (base + i * S) (base + (i + 1) * S)) (redo ty call t (base + i * S) o v) ls, ReOk x := fun x hx => by
     rcases addLog_mem.2.2 x hx with q | q
     ·exact hre x q
     ·rw [q]; exact hrd
    have hin : ∀ ls1 re, evOps ty call ops S base draw rest (i + 1) (setD t o.dst v) h1 ls1 = .ok s h' l0 → (l.out (base + i * S) (base + (i + 1) * S) = ⟨[], []⟩ ∨ (i, l.out (base + i * S) (base + (i + 1) * S), re) ∈ ls1) → ∀ k, k ∈ l.r ∨ k ∈ l.w → (base + i * S ≤ k ∧ k < base + i * S + S) ∨ ∃ y ∈ s.ls, (k ∈ l.r → k ∈ y.2.1.r) ∧ (k ∈ l.w → k ∈ y.2.1.w) := by
     intro ls1 re hev2 hmem k hk
     by_cases hr : base + i * S ≤ k ∧ k < base + i * S + S
     ·exact .inl hr
     ·right
      have hr' : ¬ (base + i * S ≤ k ∧ k < base + (i + 1) * S) := by rw [hms]; exact hr
      rcases hmem with he' | hm
      ·have e1 : outl (base + i * S) (base + (i + 1) * S) l.r = [] := congrArg Log.r he'
       have e2 : outl (base + i * S) (base + (i + 1) * S) l.w = [] := congrArg Log.w he'
       rcases hk with hk | hk
       ·have := mem_outl.2 ⟨hk, hr'⟩
        rw [e1] at this; cases this
       ·have := mem_outl.2 ⟨hk, hr'⟩
        rw [e2] at this; cases this
      ·exact ⟨_, (evOps_sub _ _ _ _ _ _ _ _ hev2).1 _ hm, fun hk => mem_outl.2 ⟨hk, hr'⟩, fun hk => mem_outl.2 ⟨hk, hr'⟩⟩
    split at he
    ·obtain ⟨q1, q2⟩ := fin ls hre he (fun k hk => by simp at hk)
     refine ⟨q1, fun h2 hh => ?_⟩
     obtain ⟨h1', h2', e1, e2, e3, e4, _⟩ := q2 h2 hh
     exact ⟨h2', by simp only [hg, e1]; exact e2, e3, e4⟩
    ·rename_i hne
     unfold after at he
     split at he
     ·obtain ⟨q1, q2⟩ := fin _ hre1 he (hin _ _ he addLog_mem.2.1)
      refine ⟨q1, fun h2 hh => ?_⟩
      obtain ⟨h1', h2', e1, e2, e3, e4, _⟩ := q2 h2 hh
      refine ⟨h2', ?_, e3, e4⟩
      simp only [hg, e1]
      unfold after
      exact e2
     ·split at he
      ·rename_i hm
       obtain ⟨q1, q2⟩ := fin _ hre1 he (hin _ _ he addLog_mem.2.1)
       refine ⟨q1, fun h2 hh => ?_⟩
       obtain ⟨h1', h2', e1, e2, e3, e4, e5⟩ := q2 h2 hh
       refine ⟨h2', ?_, e3, e4⟩
       have hm' := mayGo_congr (h2 := h1') hre (fun x hx F hF => e5 F (.inl ⟨x, (evOps_sub _ _ _ _ _ _ _ _ he).1 x (addLog_mem.1 x hx), .inl (by rw [hF]; simp)⟩)) hm
       simp only [hg, e1]
       unfold after
       simp only [hm']
       exact e2
      ·cases he
theorem mem_join {lo hi x : Nat} : ∀ {ls : List Ent}, (x ∈ (joinLogs lo hi ls).r ↔ ∃ y ∈ ls, x ∈ y.2.1.r ∧ ¬ (lo ≤ x ∧ x < hi)) ∧ (x ∈ (joinLogs lo hi ls).w ↔ ∃ y ∈ ls, x ∈ y.2.1.w ∧ ¬ (lo ≤ x ∧ x < hi))
 | [] => by simp [joinLogs]
 | y :: ls => by
  have ih := mem_join (lo := lo) (hi := hi) (x := x) (ls := ls)
  constructor
  ·show x ∈ union _ _ ↔ _
   rw [mem_union, ih.1]
   show x ∈ outl lo hi y.2.1.r ∨ _ ↔ _
   rw [mem_outl]
   simp only [List.mem_cons, exists_eq_or_imp]
  ·show x ∈ union _ _ ↔ _
   rw [mem_union, ih.2]
   show x ∈ outl lo hi y.2.1.w ∨ _ ↔ _
   rw [mem_outl]
   simp only [List.mem_cons, exists_eq_or_imp]
include hc in
theorem region_fr {lo hi n : Nat} (arr : Array Oper) (draw : Bool) (t : T) (hn : lo ≤ n) : Fr lo hi (fun h => regionR S lo hi n arr.toList.length (evOps ty call arr.toList S n draw arr.toList 0 t h [])) := by
 intro h a h' l e
 dsimp only at e
 unfold regionR at e
 split at e
 ·cases e
 ·rename_i s h1 l0 he
  split at e
  ·rename_i hb
   have hb := Nat.le_of_ble_eq_true hb
   cases e
   obtain ⟨o1, a1⟩ := evOps_fr (base := n) (hi := n + arr.toList.length * S) hc arr.toList 0 t h [] s h' l0 (by rw [Nat.zero_add]; exact Nat.le_refl _) (fun x hx => by cases hx) he
   have hT : ∀ x, TAll n (n + arr.toList.length * S) s.ls x → Tch lo hi (joinLogs lo hi s.ls) x := by
    intro x hx
    by_cases hr : lo ≤ x ∧ x < hi
    ·exact .inr (.inr hr)
    ·rcases hx with ⟨y, hy, q | q⟩ | q
     ·exact .inl (mem_join.1.2 ⟨y, hy, q, hr⟩)
     ·exact .inr (.inl (mem_join.2.2 ⟨y, hy, q, hr⟩))
     ·exact absurd (show lo ≤ x ∧ x < hi from ⟨by omega, by omega⟩) hr
   have hU : ∀ x, Unw lo hi (joinLogs lo hi s.ls) x → UAll n (n + arr.toList.length * S) s.ls x := fun x hx => ⟨fun y hy hw => hx.1 (mem_join.2.2 ⟨y, hy, hw, hx.2⟩), fun hr => hx.2 ⟨by omega, by omega⟩⟩
   refine ⟨fun x hx => o1 x (hU x hx), fun h2 hh => ?_⟩
   obtain ⟨h2', e1, e2, e3⟩ := a1 h2 (fun x hx => hh x (hT x hx))
   refine ⟨h2', ?_, fun x hx => ?_, fun x hx => e3 x (hU x hx)⟩
   ·simp only [regionR, e1]
    rw [Nat.ble_eq_true_of_le hb]
   ·by_cases hk : TAll n (n + arr.toList.length * S) s.ls x
    ·exact e2 x hk
    ·rw [e3 x (.of hk), o1 x (.of hk)]
     exact hh x hx
  ·cases e
theorem Fr.mk2 {α β γ : Type} {lo hi : Nat} {f : H → R α} {k : H → R γ} (hf : Fr lo hi f) (g : α → H → R β) (hg : ∀ a, Fr lo hi (g a)) (F : Log → Log → Log)
  (hF : ∀ m l i, (Tch lo hi (F m l) i ↔ Tch lo hi m i ∨ Tch lo hi l i) ∧ (Unw lo hi (F m l) i ↔ Unw lo hi m i ∧ Unw lo hi l i)) (c : β → γ) (stop : α → Option γ)
  (hk : ∀ h, k h = (match f h with | .no => .no | .ok a h1 l => match stop a with | some x => .ok x h1 l | none => match g a h1 with | .ok b h2 m => .ok (c b) h2 (F m l) | .no => .no)) : Fr lo hi k := by
 intro h x h' l hh
 rw [hk] at hh
 split at hh
 ·cases hh
 ·rename_i a h1 l1 e1
  have k1 := hf _ _ _ _ e1
  split at hh
  ·rename_i y hy
   cases hh
   refine ⟨k1.out, fun g2 hg2 => ?_⟩
   obtain ⟨g3, e3, a3, o3⟩ := k1.again g2 hg2
   exact ⟨g3, by rw [hk, e3]; simp only [hy], a3, o3⟩
  ·rename_i hy
   split at hh
   ·rename_i b h2 l2 e2
    cases hh
    have k2 := hg _ _ _ _ _ e2
    refine ⟨fun i hu => ?_, fun g2 hg2 => ?_⟩
    ·have := (hF l2 l1 i).2.1 hu
     rw [k2.out i this.1, k1.out i this.2]
    ·obtain ⟨g3, e3, a3, o3⟩ := k1.again g2 (fun i hi => hg2 i ((hF l2 l1 i).1.2 (.inr hi)))
     have hag : ∀ i, Tch lo hi l2 i → g3.find i = h1.find i := by
      intro i hi'
      by_cases hc : Tch lo hi l1 i
      ·exact a3 i hc
      ·rw [o3 i (.of_not hc), k1.out i (.of_not hc)]
       exact hg2 i ((hF l2 l1 i).1.2 (.inl hi'))
     obtain ⟨g4, e4, a4, o4⟩ := k2.again g3 hag
     refine ⟨g4, by rw [hk, e3]; simp only [hy, e4], fun i hi' => ?_, fun i hu => ?_⟩
     ·by_cases hc : Tch lo hi l2 i
      ·exact a4 i hc
      ·rw [o4 i (.of_not hc), k2.out i (.of_not hc)]
       exact a3 i (((hF l2 l1 i).1.1 hi').resolve_left hc)
     ·have := (hF l2 l1 i).2.1 hu
      rw [o4 i this.1, o3 i this.2]
   ·cases hh
end
section
variable {P : Program} {ty : Nat → Option TI} {call : CallF} {S : Nat} (hc : CallOK P S call)
theorem evCode_n {lo hi : Nat} : ∀ (f : Nat) (c : Code) (t : T) (n : Nat) (h : H) (s : CSt) (h' : H) (l : Log), evCode ty call S lo hi f c t n h = .ok s h' l → n ≤ s.n := by
 intro f
 induction f with
 | zero => intro c t n h s h' l he; cases he
 | succ f ih =>
  have seq : ∀ (r : R CSt) (k : T → Nat → H → R CSt) (n : Nat), (∀ s h l, r = .ok s h l → n ≤ s.n) → (∀ t m h s h' l, k t m h = .ok s h' l → m ≤ s.n) → ∀ s h l, seqR r k = .ok s h l → n ≤ s.n := by
   intro r k n hr hk s h l he
   unfold seqR at he
   split at he
   ·cases he
   ·rename_i s1 h1 l1
    have h0 := hr _ _ _ rfl
    split at he
    ·split at he
     ·rename_i s2 h2 l2 e2
      cases he
      have := hk _ _ _ _ _ _ e2
      omega
     ·cases he
    ·cases he; exact h0
  intro c t n h s h' l he
  cases c <;> simp only [evCode] at he <;> try (cases he; done)
  ·cases he; exact Nat.le_refl _
  ·unfold regionR at he
   split at he
   ·cases he
   ·split at he
    ·cases he; show n ≤ n + _; omega
    ·cases he
  ·exact seq _ _ n (fun s h l e => ih _ _ _ _ _ _ _ e) (fun t m h s h' l e => ih _ _ _ _ _ _ _ e) _ _ _ he
  ·split at he
   ·exact ih _ _ _ _ _ _ _ he
   ·exact ih _ _ _ _ _ _ _ he
   ·cases he
  ·unfold blockR at he
   split at he
   ·cases he
   ·rename_i e1
    have := ih _ _ _ _ _ _ _ e1
    split at he
    ·split at he <;> (cases he; exact this)
    ·cases he; exact this
  ·exact seq _ _ n (fun s h l e => ih _ _ _ _ _ _ _ e) (fun t m h s h' l e => ih _ _ _ _ _ _ _ e) _ _ _ he
  ·cases he; exact Nat.le_refl _
  ·cases he; exact Nat.le_refl _
include hc in
theorem evCode_fr {lo hi : Nat} : ∀ (f : Nat) (c : Code) (t : T) (n : Nat), lo ≤ n → Fr lo hi (evCode ty call S lo hi f c t n) := by
 intro f
 induction f with
 | zero => intro c t n _; exact Fr.no _ _
 | succ f ih =>
  have seq : ∀ (a : Code) (b : Code) (t : T) (n : Nat), lo ≤ n → Fr lo hi (fun h => seqR (evCode ty call S lo hi f a t n h) (evCode ty call S lo hi f b)) := by
   intro a b t n hn
   refine Fr.mk2 (f := evCode ty call S lo hi f a t n) (ih a t n hn) (fun s => if lo ≤ s.n then evCode ty call S lo hi f b s.t s.n else fun _ => .no) (fun s => ?_) (fun m l => m.app l) (app_ok lo hi) (fun s => s) (fun s => match s.e with | .normal => none | _ => some s) fun h => ?_
   ·split
    ·rename_i hle; exact ih b _ _ hle
    ·exact Fr.no _ _
   ·unfold seqR
    cases he : evCode ty call S lo hi f a t n h with
    | no => rfl
    | ok s h1 l =>
     have hle : lo ≤ s.n := Nat.le_trans hn (evCode_n f a t n h s h1 l he)
     simp only [if_pos hle]
     cases hse : s.e with
     | normal => cases evCode ty call S lo hi f b s.t s.n h1 <;> rfl
     | _ => rfl
  intro c t n hn
  cases c <;> try (exact Fr.no _ _)
  ·exact Fr.pure _ _ _
  ·exact region_fr hc _ _ t hn
  ·exact seq _ _ t n hn
  ·rename_i x a b
   show Fr lo hi (fun h => match evC (ev1 t) x with | some (.bool true) => evCode ty call S lo hi f a t n h | some (.bool false) => evCode ty call S lo hi f b t n h | _ => .no)
   split
   ·exact ih a t n hn
   ·exact ih b t n hn
   ·exact Fr.no _ _
  ·rename_i id b
   show Fr lo hi (fun h => blockR id (evCode ty call S lo hi f b t n h))
   refine Fr.mk2 (f := evCode ty call S lo hi f b t n) (β := CSt) (ih b t n hn) (fun _ _ => .no) (fun _ => Fr.no _ _) (fun m l => m.app l) (app_ok lo hi) (fun s => s) (fun s => match s.e with | .exit j => (match Nat.beq j id with | true => some ⟨.normal, s.t, s.n⟩ | false => some s) | _ => some s) fun h => ?_
   unfold blockR
   cases evCode ty call S lo hi f b t n h with
   | no => rfl
   | ok s h1 l =>
    obtain ⟨se, st, sn⟩ := s
    cases se with
    | exit j => cases hb : Nat.beq j id <;> simp only [hb]
    | _ => rfl
  ·exact seq _ _ t n hn
  ·exact Fr.pure _ _ _
  ·exact Fr.pure _ _ _
end
end Ev
end
section
namespace Ev
open Go
def Ex.exit' : Ex → Exit
 | .normal => .normal
 | .ret => .ret
 | .exit id => .exit id
section
variable {P : Program} {ty : Nat → Option TI} {call : CallF} {S : Nat} {nt : Nat} (X : OpCtx P ty call S)
include X in
theorem region_wp (hS : 0 < S) (hm : P.follows .mixedOrders = true) (hnt : nt ≤ 1000000) {lo hi n id : Nat} {arr : Array Oper} {draw : Bool} {t : T} {h : H} {s : CSt} {h' : H} {l : Log} (hn : lo ≤ n)
  (hev : regionR S lo hi n arr.toList.length (evOps ty call arr.toList S n draw arr.toList 0 t h []) = .ok s h' l) (hok : okCode nt (.region id arr draw) = true)
  {e : Env} {w : World} {a : Act} (hs : Sim e h w) (ht : TRel e t a) (hnn : nt ≤ a.tmps.size) {Q : Exit → Act → World → Prop}
  (hQ : ∀ e' w' a', Sim e' h' w' → TRel e' s.t a' → Stp lo hi l.w e w e' w' → a'.tmps.size = a.tmps.size → a'.defers = a.defers → Q s.e.exit' a' w') : (Code.region id arr draw).wp P Q a w := by
 unfold regionR at hev
 split at hev
 ·cases hev
 ·rename_i os h1 l0 he
  split at hev
  ·rename_i hb
   have hb := Nat.le_of_ble_eq_true hb
   cases hev
   simp only [okCode, Bool.and_eq_true] at hok
   obtain ⟨hok1, hok2⟩ := hok
   have hd := okDst_spec hok1
   obtain ⟨lg, r, m1, m2, m3⟩ := evOps_run (ops := arr.toList) (S := S) (base := n) arr.toList 0 t h [] os h' l0 (by simp) (fun x hx => by cases hx) he
   have hlen : arr.toList.length = arr.size := by simp
   have hi' : ∀ i, i < arr.toList.length → (∀ x ∈ (lg i).lg.w, x ∈ os.ls.flatMap fun y => y.2.1.w) ∧ n + (i + 1) * S ≤ n + arr.toList.length * S := by
    intro i hlt
    refine ⟨fun x hx => ?_, Nat.add_le_add_left (Nat.mul_le_mul_right _ hlt) _⟩
    rcases m2 i (Nat.zero_le _) (by omega) with h0 | ⟨_, h0⟩
    ·rw [h0] at hx; cases hx
    ·exact List.mem_flatMap.2 ⟨_, h0, hx⟩
   have hQ' : ∀ e' w' a', Sim e' h' w' → TRel e' os.t a' → Stp n (n + arr.toList.length * S) (os.ls.flatMap fun y => y.2.1.w) e w e' w' → a'.tmps.size = a.tmps.size → a'.defers = a.defers → Q .normal a' w' := by
    intro e' w' a' k1 k2 k3 k4 k5
    refine hQ e' w' a' k1 k2 (k3.wide fun id hid => ?_) k4 k5
    by_cases hr : lo ≤ id ∧ id < hi
    ·exact .inr hr
    ·rcases hid with hid | hid
     ·obtain ⟨y, hy, hyw⟩ := List.mem_flatMap.1 hid
      exact .inl (mem_join.2.2 ⟨y, hy, hyw, hr⟩)
     ·exact absurd (show lo ≤ id ∧ id < hi from ⟨by omega, by omega⟩) hr
   cases draw with
   | false =>
    refine wp_region ?_
    have := seq_wp (nt := nt) (arr := arr) X rfl hd (W := os.ls.flatMap fun y => y.2.1.w) (hiR := n + arr.toList.length * S) (Q := Q) _ t os.t h h' r (fun i hi => hi' i (by have := List.mem_range'_1.1 hi; omega)) e w a hs ht hnn hQ'
    rwa [← List.range_eq_range', hlen] at this
   | true =>
    refine wp_region_any hm ?_
    have hokk := OpsOk.of hok2
    have hgood : ∀ k, k < arr.toList.length → Good arr.toList S n k (lg k) fun a la => a < k ∧ la = lg a := fun k hk => (m3 rfl k (Nat.zero_le _) (by omega)).mono fun a la hm => .inl (.inr ⟨Nat.zero_le _, hm.1, hm.2⟩)
    have hs' : Sim e h { w with drawn := w.drawn + 1 } := hs.heap rfl
    have := any_wp (nt := nt) (arr := arr) (base := n) X rfl hd hnt hokk (fun i j h1 h2 h3 => pairs hS hokk hgood h1 h2 h3) (W := os.ls.flatMap fun y => y.2.1.w) (hiR := n + arr.toList.length * S) (fun i hi => hi' i hi) (Q := Q) arr.size (List.range' 0 arr.toList.length) (Array.replicate arr.size false) (by simp) ?_ t os.t h h' r e _ a hs' ht hnn (fun e' w' a' k1 k2 k3 => hQ' e' w' a' k1 k2 ⟨k3.ext, k3.os, k3.tape, k3.output, k3.size, k3.block, k3.new⟩)
    ·exact this
    ·refine ⟨fun i hi => ?_, fun i hi => by have := List.mem_range'_1.1 hi; omega, by simp, ?_, fun i x hi hni => ?_⟩
     ·rw [blank_get, if_pos (by omega)]
      simp only [List.mem_range'_1]
      constructor
      ·exact fun _ => by first | rfl | trivial
      ·exact fun _ => ⟨Nat.zero_le _, by omega⟩
     ·exact List.pairwise_lt_range'
     ·exact absurd (List.mem_range'_1.2 ⟨Nat.zero_le _, by omega⟩) hni
  ·cases hev
include X in
theorem code_wp (hS : 0 < S) (hm : P.follows .mixedOrders = true) (hnt : nt ≤ 1000000) {lo hi : Nat} : ∀ (f : Nat),
  (∀ (c : Code) (t : T) (n : Nat) (h : H) (s : CSt) (h' : H) (l : Log), lo ≤ n → evCode ty call S lo hi f c t n h = .ok s h' l → okCode nt c = true → ∀ (e : Env) (w : World) (a : Act), Sim e h w → TRel e t a → nt ≤ a.tmps.size → ∀ (Q : Exit → Act → World → Prop),
   (∀ e' w' a', Sim e' h' w' → TRel e' s.t a' → Stp lo hi l.w e w e' w' → a'.tmps.size = a.tmps.size → a'.defers = a.defers → Q s.e.exit' a' w') → c.wp P Q a w) ∧
  (∀ (b : Code) (t : T) (n : Nat) (h : H) (s : CSt) (h' : H) (l : Log), lo ≤ n → evCode ty call S lo hi f (.loop b) t n h = .ok s h' l → okCode nt b = true → ∀ (e : Env) (w : World) (a : Act), Sim e h w → TRel e t a → nt ≤ a.tmps.size → ∀ (Q : Exit → Act → World → Prop),
   (∀ e' w' a', Sim e' h' w' → TRel e' s.t a' → Stp lo hi l.w e w e' w' → a'.tmps.size = a.tmps.size → a'.defers = a.defers → Q s.e.exit' a' w') → Code.rounds P b Q f a w) := by
 intro f
 induction f with
 | zero => exact ⟨(fun _ _ _ _ _ _ _ _ he => by cases he), (fun _ _ _ _ _ _ _ _ he => by cases he)⟩
 | succ f ih =>
  have seq : ∀ (a : Code) (k : T → Nat → H → R CSt) (next : (Exit → Act → World → Prop) → Act → World → Prop) (t : T) (n : Nat) (h : H) (s : CSt) (h' : H) (l : Log), lo ≤ n → seqR (evCode ty call S lo hi f a t n h) k = .ok s h' l → okCode nt a = true →
    (∀ (t : T) (n : Nat) (h : H) (s : CSt) (h' : H) (l : Log), lo ≤ n → k t n h = .ok s h' l → ∀ (e : Env) (w : World) (a : Act), Sim e h w → TRel e t a → nt ≤ a.tmps.size → ∀ (Q : Exit → Act → World → Prop),
     (∀ e' w' a', Sim e' h' w' → TRel e' s.t a' → Stp lo hi l.w e w e' w' → a'.tmps.size = a.tmps.size → a'.defers = a.defers → Q s.e.exit' a' w') → next Q a w) →
    ∀ (e : Env) (w : World) (ac : Act), Sim e h w → TRel e t ac → nt ≤ ac.tmps.size → ∀ (Q : Exit → Act → World → Prop),
     (∀ e' w' a', Sim e' h' w' → TRel e' s.t a' → Stp lo hi l.w e w e' w' → a'.tmps.size = ac.tmps.size → a'.defers = ac.defers → Q s.e.exit' a' w') → a.wp P (Exit.then (next Q) Q) ac w := by
   intro a k next t n h s h' l hn he hok hk e w ac hs ht hnn Q hQ
   unfold seqR at he
   split at he
   ·cases he
   ·rename_i s1 h1 l1 e1
    have hn1 := evCode_n _ _ _ _ _ _ _ _ e1
    obtain ⟨se, st, sn⟩ := s1
    refine ih.1 a t n h _ h1 l1 hn e1 hok e w ac hs ht hnn _ fun e' w' a' k1 k2 k3 k4 k5 => ?_
    cases se with
    | normal =>
     simp only at he
     split at he
     ·rename_i s2 h2 l2 e2
      cases he
      refine hk _ _ _ _ _ _ (Nat.le_trans hn hn1) e2 e' w' a' k1 k2 (by omega) Q fun e2 w2 a2 q1 q2 q3 q4 q5 => ?_
      refine hQ e2 w2 a2 q1 q2 ?_ (by omega) (by rw [q5, k5])
      refine Stp.trans (k3.wide fun i hi => ?_) (q3.wide fun i hi => ?_)
      ·exact hi.imp (fun x => mem_union.2 (.inr x)) (fun x => x)
      ·exact hi.imp (fun x => mem_union.2 (.inl x)) (fun x => x)
     ·cases he
    | ret => cases he; exact hQ e' w' a' k1 k2 k3 k4 k5
    | exit j => cases he; exact hQ e' w' a' k1 k2 k3 k4 k5
  refine ⟨?_, ?_⟩
  ·intro c t n h s h' l hn he hok e w a hs ht hnn Q hQ
   cases c with
   | skip =>
    cases he
    exact wp_skip (hQ e w a hs ht (.refl _ _ _ _ _) rfl rfl)
   | region id ops draw => exact region_wp (nt := nt) X hS hm hnt hn he hok hs ht hnn hQ
   | seq b c =>
    simp only [okCode, Bool.and_eq_true] at hok
    exact wp_seq (seq b _ (fun Q => c.wp P Q) t n h s h' l hn he hok.1 (fun t n h s h' l q1 q2 e w a q3 q4 q5 Q q6 => ih.1 c t n h s h' l q1 q2 hok.2 e w a q3 q4 q5 Q q6) e w a hs ht hnn Q hQ)
   | cond x b c =>
    simp only [okCode, Bool.and_eq_true] at hok
    simp only [evCode] at he
    split at he
    ·rename_i hx
     exact wp_cond_true (evC_rel ht.orel hx) (ih.1 b t n h s h' l hn he hok.1 e w a hs ht hnn Q hQ)
    ·rename_i hx
     exact wp_cond_false (evC_rel ht.orel hx) (ih.1 c t n h s h' l hn he hok.2 e w a hs ht hnn Q hQ)
    ·cases he
   | block id b =>
    simp only [evCode] at he
    refine wp_block ?_
    unfold blockR at he
    split at he
    ·cases he
    ·rename_i s1 h1 l1 e1
     obtain ⟨se, st, sn⟩ := s1
     refine ih.1 b t n h _ h1 l1 hn e1 hok e w a hs ht hnn _ fun e' w' a' k1 k2 k3 k4 k5 => ?_
     cases se with
     | exit j =>
      simp only at he
      split at he
      ·rename_i hb
       have := Nat.eq_of_beq_eq_true hb
       subst this
       cases he
       show Exit.inBlock j Q (.exit j) a' w'
       simp only [Exit.inBlock, if_true]
       exact hQ e' w' a' k1 k2 k3 k4 k5
      ·rename_i hb
       have := Nat.ne_of_beq_eq_false hb
       cases he
       show Exit.inBlock id Q (.exit j) a' w'
       simp only [Exit.inBlock, if_neg this]
       exact hQ e' w' a' k1 k2 k3 k4 k5
     | normal => cases he; exact hQ e' w' a' k1 k2 k3 k4 k5
     | ret => cases he; exact hQ e' w' a' k1 k2 k3 k4 k5
   | loop b =>
    refine wp_loop_rounds (f + 1) ?_
    rw [rounds_succ]
    exact seq b _ (fun Q => Code.rounds P b Q f) t n h s h' l hn he hok (fun t n h s h' l q1 q2 e w a q3 q4 q5 Q q6 => ih.2 b t n h s h' l q1 q2 hok e w a q3 q4 q5 Q q6) e w a hs ht hnn Q hQ
   | exit id =>
    cases he
    exact wp_exit (hQ e w a hs ht (.refl _ _ _ _ _) rfl rfl)
   | ret =>
    cases he
    exact wp_ret (hQ e w a hs ht (.refl _ _ _ _ _) rfl rfl)
   | _ => cases he
  ·intro b t n h s h' l hn he hok e w a hs ht hnn Q hQ
   rw [rounds_succ]
   exact seq b _ (fun Q => Code.rounds P b Q f) t n h s h' l hn he hok (fun t n h s h' l q1 q2 e w a q3 q4 q5 Q q6 => ih.2 b t n h s h' l q1 q2 hok e w a q3 q4 q5 Q q6) e w a hs ht hnn Q hQ
end
section
variable {P : Program} {ty : Nat → Option TI} (hty : ∀ t i, ty t = some i → tiOf P t = some i)
theorem putArgs_get {e : Env} : ∀ (l : List PV) (xs : List Value) (i : Nat) (t : T), All2 (PV.rel e) l xs → ∀ k v, Tr.get (putArgs l i t) k = some v → (∃ m x, xs[m]? = some x ∧ k = i + m ∧ v.rel e x) ∨ Tr.get t k = some v
 | [], [], i, t, _, k, v, h => .inr h
 | a :: l, x :: xs, i, t, hr, k, v, h => by
  rcases putArgs_get l xs (i + 1) _ hr.2 k v h with ⟨m, y, h1, h2, h3⟩ | h1
  ·exact .inl ⟨m + 1, y, by simpa using h1, by omega, h3⟩
  ·rcases Tr.get_set_some _ _ _ _ _ h1 with ⟨rfl, rfl⟩ | ⟨_, h2⟩
   ·exact .inl ⟨0, x, rfl, by omega, hr.1⟩
   ·exact .inr h2
noncomputable def resOf (tmps : Array Value) : ResultVar → Sem Value
 | .tmp t => pure (tmps.getD t undef)
 | .cell a t => do loadVar t (← asAddr (tmps.getD a undef))
noncomputable def finish (l : List PV) : AV := match l with | [v] => .p v | vs => .tup vs
include hty in
theorem results_ok {e : Env} {h : H} {w : World} (hs : Sim e h w) {t : T} {a : Act} (ht : TRel e t a) : ∀ (rs : List ResultVar) (acc : List PV) (v : AV) (h2 : H) (m : Log), (evResults ty t rs acc).run h = .ok v h2 m →
  h2 = h ∧ m.w = [] ∧ ∃ (vs : List PV) (xs : List Value), All2 (PV.rel e) vs xs ∧ (rs.mapM (resOf a.tmps) : Sem (List Value)).run P w = .ok xs w ∧ v = finish (acc.reverse ++ vs)
 | [], acc, v, h2, m, hh => by
  unfold evResults at hh
  refine ⟨?_, ?_, [], [], trivial, rfl, ?_⟩
  ·split at hh <;> (cases hh; rfl)
  ·split at hh <;> (cases hh; rfl)
  ·rw [List.append_nil]
   unfold finish
   split at hh
   ·rename_i v0 hv; cases hh; rw [hv]
   ·rename_i hv
    cases hh
    split
    ·rename_i v0 hv2; exact absurd hv2 (hv v0)
    ·rfl
 | r :: rs, acc, v, h2, m, hh => by
  simp only [evResults] at hh
  cases r with
  | tmp k =>
   simp only [evResult] at hh
   split at hh
   ·rename_i v0 hg
    obtain ⟨x, hx, hrel⟩ := ht.tmp k _ hg
    obtain ⟨q1, q2, vs, xs, q3, q4, q5⟩ := results_ok hs ht rs (v0 :: acc) v h2 m hh
    refine ⟨q1, q2, v0 :: vs, x :: xs, ⟨hrel, q3⟩, ?_, by rw [q5]; simp⟩
    have : a.tmps.getD k undef = x := by rw [Array.getD_eq_getD_getElem?, hx]; rfl
    rw [List.mapM_cons]
    simp only [resOf, this, Sem.run_bind, Sem.run_pure, Result.andThen_ok, q4]
   ·cases hh
  | cell k ti =>
   simp only [evResult] at hh
   split at hh
   ·rename_i id off i hg hti
    have hti := TF.of (hty _ _ hti)
    obtain ⟨x, hx, b, c, he, hxx⟩ := ht.tmp k _ hg
    simp only [M.run] at hh
    split at hh
    ·rename_i row hrow
     split at hh
     ·rename_i v1 h1 m1 e1
      cases hh
      unfold rd at e1
      have key : ∀ (K : M AV), (match row.cut off i.size with | some cs => (match PV.of i.agg cs with | some v => evResults ty t rs (v :: acc) | none => .fail) | none => .fail) = K → row.kind.read = true → K.run h = .ok v h2 m1 → h2 = h ∧ m1.w = [] ∧ ∃ (vs : List PV) (xs : List Value), All2 (PV.rel e) vs xs ∧ ((ResultVar.cell k ti :: rs).mapM (resOf a.tmps) : Sem (List Value)).run P w = .ok xs w ∧ v = finish (acc.reverse ++ vs) := by
       intro K hK hrd hrun
       subst hK
       obtain ⟨b', c', arr, fr, hc⟩ := (hs.row id row hrow).row hrd
       have : b' = b := by have := hc.he; rw [he] at this; cases this; rfl
       subst this
       split at hrun
       ·rename_i cs hcut
        obtain ⟨g1, rfl⟩ := cut_some hcut
        obtain ⟨ys, k1, k2, k3⟩ := hc.cells _ _ g1
        split at hrun
        ·rename_i v0 hv
         obtain ⟨y, hy, hrel⟩ := run_loadVar (P := P) (w := w) hti k2 k1 (fun j v hj => (k3 j v hj).1) hv
         obtain ⟨q1, q2, vs, xs, q3, q4, q5⟩ := results_ok hs ht rs (v0 :: acc) v h2 m1 hrun
         refine ⟨q1, q2, v0 :: vs, y :: xs, ⟨hrel, q3⟩, ?_, by rw [q5]; simp⟩
         have : a.tmps.getD k undef = .pointer (some ⟨b', off, none⟩) := by rw [Array.getD_eq_getD_getElem?, hx]; exact hxx
         rw [List.mapM_cons]
         simp only [resOf, this, asAddr, Sem.run_bind, Sem.run_pure, Result.andThen_ok, hy, q4]
        ·cases hrun
       ·cases hrun
      split at e1
      ·rename_i hk; exact key _ rfl (by rw [hk]; rfl) e1
      ·rename_i hk; exact key _ rfl (by rw [hk]; rfl) e1
      ·cases e1
     ·cases hh
    ·cases hh
   ·cases hh
variable {fns : Nat → Option (Code × List ResultVar)} {ext : Nat → List PV → Option (Nat → M AV)}
structure TabOK (P : Program) (ty : Nat → Option TI) (fns : Nat → Option (Code × List ResultVar)) (ext : Nat → List PV → Option (Nat → M AV)) : Prop where
 hty : ∀ t i, ty t = some i → tiOf P t = some i
 mixed : P.follows .mixedOrders = true
 fn : ∀ f c rs, fns f = some (c, rs) → ∃ fn, P.funcs[f]? = some fn ∧ fn.body = some c ∧ fn.results.toList = rs ∧ okCode fn.ntmps c = true ∧ fn.ntmps ≤ 1000000 ∧ fn.name ≠ "runtime.NumGoroutine"
 extf : ∀ f args g, ext f args = some g → ∃ c rs, fns f = some (c, rs)
 exts : ∀ f args g, ext f args = some g → ∀ lo h v h' l, (g lo).run h = .ok v h' l → ∀ (e : Env) (w : World) (xs : List Value), Sim e h w → All2 (PV.rel e) args xs →
  Calls P f xs.toArray w fun en w' => ∃ x e', en = .returned x ∧ Sim e' h' w' ∧ Stp lo (lo + 2) l.w e w e' w' ∧ v.rel e' x
theorem pow_pos (d : Nat) : 0 < 2 ^ (24 * d) := Nat.pow_pos (by omega)
theorem evCall_ok (T0 : TabOK P ty fns ext) (fuel : Nat) : ∀ d, CallOK P (2 ^ (24 * d)) (evCall ty fns ext fuel d) := by
 intro d
 induction d with
 | zero => exact ⟨(fun _ _ _ => Fr.no _ _), (fun _ _ _ _ _ _ _ he => by cases he)⟩
 | succ d ih =>
  have X : OpCtx P ty (evCall ty fns ext fuel d) (2 ^ (24 * d)) := by
   refine ⟨ih, T0.hty, fun f => ?_⟩
   cases hf : fns f with
   | none =>
    left
    intro args lo h
    cases d with
    | zero => rfl
    | succ d =>
     simp only [evCall]
     cases he : ext f args with
     | some g =>
      obtain ⟨c, rs, h1⟩ := T0.extf f args g he
      rw [hf] at h1; cases h1
     | none => simp only [hf]
   | some y =>
    right
    obtain ⟨c, rs⟩ := y
    obtain ⟨fn, h1, h2, h3, h4, h5, h6⟩ := T0.fn f c rs hf
    exact ⟨fn, h1, by rw [h2]; rfl, h6⟩
  refine ⟨fun f args lo => ?_, fun f args lo h v h' l he e w xs hs hx => ?_⟩
  ·show Fr lo _ (fun h => evCall ty fns ext fuel (d + 1) f args lo h)
   simp only [evCall]
   split
   ·exact Fr.run _ _ _
   ·split
    ·exact Fr.no _ _
    ·rename_i c rs hf
     refine Fr.mk2 (f := evCode ty (evCall ty fns ext fuel d) (2 ^ (24 * d)) lo (lo + 2 ^ (24 * (d + 1))) fuel c (putArgs args 0 .nil) lo) (evCode_fr ih fuel c _ lo (Nat.le_refl _)) (fun s => match s.e with | .exit _ => fun _ => .no | _ => (evResults ty s.t rs []).run) (fun s => ?_) (fun m l => (m.out lo (lo + 2 ^ (24 * (d + 1)))).app l) (outApp_ok _ _) (fun v => v) (fun _ => none) fun h => ?_
     ·split
      ·exact Fr.no _ _
      ·exact Fr.run _ _ _
     ·unfold retR
      cases evCode ty (evCall ty fns ext fuel d) (2 ^ (24 * d)) lo (lo + 2 ^ (24 * (d + 1))) fuel c (putArgs args 0 .nil) lo h with
      | no => rfl
      | ok s h1 l =>
       obtain ⟨se, st, sn⟩ := s
       cases se <;> simp only [] <;> first | rfl | (cases (evResults ty st rs []).run h1 <;> rfl)
  ·simp only [evCall] at he
   split at he
   ·rename_i g hg
    refine Calls.mono (T0.exts f args g hg lo h v h' l he e w xs hs hx) fun en w' hen => ?_
    obtain ⟨x, e', k1, k2, k3, k4⟩ := hen
    have hpow : 2 ≤ 2 ^ (24 * (d + 1)) := by
     have : 2 ^ 1 ≤ 2 ^ (24 * (d + 1)) := Nat.pow_le_pow_right (by omega) (by omega)
     simpa using this
    exact ⟨x, e', k1, k2, k3.wide (fun i hi => hi.imp (fun q => q) fun q => ⟨q.1, by omega⟩), k4⟩
   ·split at he
    ·cases he
    ·rename_i c rs hf
     obtain ⟨fn, h1, h2, h3, h4, h5, h6⟩ := T0.fn f c rs hf
     unfold retR at he
     split at he
     ·cases he
     ·rename_i s h1' l1 e1
      refine calls_of_wp h1 h2 ?_
      have hsz : fn.ntmps ≤ (xs.toArray ++ Array.replicate (fn.ntmps - xs.toArray.size) undef).size := by simp; omega
      have ht : TRel e (putArgs args 0 .nil) { tmps := xs.toArray ++ Array.replicate (fn.ntmps - xs.toArray.size) undef, defers := [] } := by
       refine ⟨fun k v hv => ?_⟩
       rcases putArgs_get args xs 0 .nil hx k v hv with ⟨m, x, q1, q2, q3⟩ | q
       ·refine ⟨x, ?_, q3⟩
        obtain ⟨hlt, _⟩ := List.getElem?_eq_some_iff.1 q1
        show (xs.toArray ++ _)[k]? = _
        rw [Array.getElem?_append_left (by simp; omega), q2, Nat.zero_add]
        simpa using q1
       ·cases q
      refine (code_wp (nt := fn.ntmps) X (pow_pos d) T0.mixed h5 fuel).1 c _ lo h s h1' l1 (Nat.le_refl _) e1 h4 e w _ hs ht hsz _ fun e' w' a' k1 k2 k3 k4 k5 => ?_
      obtain ⟨se, st, sn⟩ := s
      have fin : ∀ v' h2 m, (evResults ty st rs []).run h1' = .ok v' h2 m → (match (evResults ty st rs []).run h1' with | .ok v h m => R.ok v h ((m.out lo (lo + 2 ^ (24 * (d + 1)))).app l1) | .no => .no) = .ok v h' l → a'.defers = [] ∧ ∃ v2, (results fn a'.tmps).run P w' = .ok v2 w' ∧ ∃ x e', Ending.returned v2 = .returned x ∧ Sim e' h' w' ∧ Stp lo (lo + 2 ^ (24 * (d + 1))) l.w e w e' w' ∧ v.rel e' x := by
       intro v' h2 m hrun heq
       rw [hrun] at heq
       cases heq
       obtain ⟨q1, q2, vs, ys, q3, q4, q5⟩ := results_ok T0.hty k1 k2 rs [] _ _ m hrun
       subst q1
       refine ⟨k5, if hsz : ys.toArray.size = 1 then ys.toArray[0] else .tuple ys.toArray, ?_, _, e', rfl, k1, k3.wide (fun i hi => hi.imp (fun x => mem_union.2 (.inr x)) fun x => x), ?_⟩
       ·unfold results
        show Sem.run P (do let vs ← fn.results.mapM (resOf a'.tmps); pure (if h : vs.size = 1 then vs[0] else .tuple vs)) w' = _
        rw [Array.mapM_eq_mapM_toList, h3]
        simp only [map_eq_pure_bind, Sem.run_bind, q4, Result.andThen_ok, Sem.run_pure]
       ·rw [q5, List.reverse_nil, List.nil_append]
        match vs, ys, q3 with
        | [], [], _ => exact ⟨[], trivial, rfl⟩
        | [v0], [y], q3 => exact q3.1
        | v0 :: v1 :: vs, y0 :: y1 :: ys, q3 => exact ⟨y0 :: y1 :: ys, q3, by simp⟩
      have hres : ∃ v' h2 m, (evResults ty st rs []).run h1' = .ok v' h2 m ∨ ∃ j, se = .exit j := by
       cases se with
       | exit j => exact ⟨v, h, l, .inr ⟨j, rfl⟩⟩
       | normal =>
        simp only at he
        cases hr : (evResults ty st rs []).run h1' with
        | no => rw [hr] at he; cases he
        | ok a b c => exact ⟨a, b, c, .inl rfl⟩
       | ret =>
        simp only at he
        cases hr : (evResults ty st rs []).run h1' with
        | no => rw [hr] at he; cases he
        | ok a b c => exact ⟨a, b, c, .inl rfl⟩
      obtain ⟨v', h2', m', hr | ⟨j, hj⟩⟩ := hres
      ·cases se with
       | exit j => cases he
       | normal => exact fin v' h2' m' hr he
       | ret => exact fin v' h2' m' hr he
      ·subst hj; cases he
end
end Ev
end
