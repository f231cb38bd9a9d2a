/-
  Texts VcRd.
-/
import Derived.Test.YtcpfabkokgiepaaQ31
import Derived.Test.YtcpfabkokgiepaaQ43
import Derived.Deep.Cut
set_option linter.unusedSimpArgs false
set_option linter.unusedVariables false
set_option maxHeartbeats 8000000
open Pl
namespace Go.Proofs.Ytcpfabkokgiepaa
open Go.RowKit Pl
set_option maxRecDepth 100000 in
theorem rdo_no (op A B : Int) (lo hi : Nat) (L hv : Value) (w : World) (HIS : ∀ W, Calls Try.prog 14 #[.int .i64 op] W fun e w' => e = .returned (.bool false) ∧ Below W.heap.size W w') :
 Calls Try.prog 11 #[.agg #[.int .i64 op, .int .i64 A, .int .i64 B, .int .u64 (lo : Nat), .int .u64 (hi : Nat), L], hv] w fun e w' => e = .returned (.tuple #[.slice none 0 0, .int .i64 1]) ∧ Below w.heap.size w w' := by
 replace HIS := Lib.hid HIS
 go_enter Try.func11, Try.ntmps11
 go_wp2_with (go_at_call 14; (with_reducible refine (HIS.out _).mono ?_); rintro e u0 ⟨rfl, hb0⟩; have hI := mV (heap_alloc_new w (.cells #[.int .i64 op, .int .i64 A, .int .i64 B, .int .u64 (lo : Nat), .int .u64 (hi : Nat), L] 25)) hb0; have hZ := mB (Below.refl w.heap.size w) (Nat.le_refl _) _ hb0; clear hb0)
 go_ret2
 exact ⟨rfl, hZ⟩
set_option maxRecDepth 100000 in
theorem rdo_len (op A B form lim : Int) (lo hi : Nat) (L hv : Value) (hs : List Nat) (ti to : List Int) (w : World) (HIS : ∀ W, Calls Try.prog 14 #[.int .i64 op] W fun e w' => e = .returned (.bool true) ∧ Below W.heap.size W w') (HOF : ∀ W, Calls Try.prog 34 #[.int .i64 op] W fun e w' => ∃ (s t : Value) (pl : Bool), e = .returned (.tuple #[.agg #[.int .i64 form, .int .i64 lim, .bool pl, s, t], .bool true]) ∧ w'.ownsRow W.heap.size 3 1 s ti.length (ti.map (Value.int .i64)) ∧ w'.ownsRow W.heap.size 3 1 t to.length (to.map (Value.int .i64)) ∧ Below W.heap.size W w') (hH : LView .u64 w hv (hs.map Nat.cast)) (hti : ti.length ≤ 100) (htr : ∀ t ∈ ti, t = 123 ∨ t = 127 ∨ t = 126) (hhs : hs.length ≤ 9223372036854775807) (hne : (wOf ti : Int) ≠ hs.length) :
 Calls Try.prog 11 #[.agg #[.int .i64 op, .int .i64 A, .int .i64 B, .int .u64 (lo : Nat), .int .u64 (hi : Nat), L], hv] w fun e w' => e = .returned (.tuple #[.slice none 0 0, .int .i64 1]) ∧ Below w.heap.size w w' := by
 replace HIS := Lib.hid HIS
 replace HOF := Lib.hid HOF
 have HH := Lib.hid hH
 have HTR := Lib.hid htr
 obtain ⟨had, hcap, rfl, hhc, _⟩ := hH.ex
 rw [List.length_map] at *
 clear hH htr
 go_enter Try.func11, Try.ntmps11
 go_wp2_with (first | (go_at_call 14; (with_reducible refine (HIS.out _).mono ?_); rintro e u0 ⟨rfl, hb0⟩; have hI := mV (heap_alloc_new w (.cells #[.int .i64 op, .int .i64 A, .int .i64 B, .int .u64 (lo : Nat), .int .u64 (hi : Nat), L] 25)) hb0; have hZ := mB (Below.refl w.heap.size w) (Nat.le_refl _) _ hb0; clear hb0) | ((with_reducible refine t8 ?_ 3 mM _ rfl _ _ rfl _ _ hI _ rfl ?_); (focus rfl)) | (go_at_call 34; (with_reducible refine (HOF.out _).mono ?_); rintro e u1 ⟨s, t, pl, rfl, hss, hst, hb1⟩; replace hI := mV hI hb1; replace hZ := hZ.trans (hb1.mono hZ.size); clear hb1) | ((with_reducible refine vR rfl 40 _ _ rfl _ _ rfl rfl (sW _ _ _ _ _) (uR _ _ _ _ _ _ _ _ _ _) (all5 _ _ _ (tL hss).1 (tL hst).1) ?_); intro u2 hb2 hF lF; replace hI := mV hI hb2; replace hZ := hZ.trans (hb2.mono hZ.size); have vT := (LView.of_own hss).below hb2; clear hb2 hss hst lF) | ((with_reducible refine t8 ?_ 23 tP _ rfl _ _ rfl _ _ hF _ rfl ?_); (focus rfl)) | (go_at_call 35; (with_reducible refine (width_s ti s u2 vT hti HTR.out).mono ?_); rintro e u3 ⟨rfl, hb⟩; replace hI := mV hI hb; replace hF := mV hF hb; replace vT := vT.below hb; replace hZ := hZ.trans (hb.mono hZ.size); clear hb))
 go_ret2
 exact ⟨rfl, hZ⟩
set_option maxRecDepth 100000 in
theorem rdo_0 (op A B form lim : Int) (lo hi : Nat) (L hv : Value) (hs : List Nat) (ti to : List Int) (w : World) (HIS : ∀ W, Calls Try.prog 14 #[.int .i64 op] W fun e w' => e = .returned (.bool true) ∧ Below W.heap.size W w') (HOF : ∀ W, Calls Try.prog 34 #[.int .i64 op] W fun e w' => ∃ (s t : Value) (pl : Bool), e = .returned (.tuple #[.agg #[.int .i64 form, .int .i64 lim, .bool pl, s, t], .bool true]) ∧ w'.ownsRow W.heap.size 3 1 s ti.length (ti.map (Value.int .i64)) ∧ w'.ownsRow W.heap.size 3 1 t to.length (to.map (Value.int .i64)) ∧ Below W.heap.size W w') (hH : LView .u64 w hv (hs.map Nat.cast)) (hti : ti.length ≤ 100) (htr : ∀ t ∈ ti, t = 123 ∨ t = 127 ∨ t = 126) (hhs : hs.length ≤ 9223372036854775807) (hlt : ∀ x ∈ hs, x < 18446744073709551616) (vs : List Vec) (hlen : hs.length = wOf ti) (htk : tX ti hs = some vs) (hlo : lo < 2 ^ 64) (hhi : hi < 2 ^ 64) (hvs : vs.length = 0) :
 Calls Try.prog 11 #[.agg #[.int .i64 op, .int .i64 A, .int .i64 B, .int .u64 (lo : Nat), .int .u64 (hi : Nat), L], hv] w fun e w' => DoIs w.heap.size ([mT (tQ lo hi) 64 0, mT (tQ lo hi) 64 1], 0) e w' ∧ Below w.heap.size w w' := by
 replace HIS := Lib.hid HIS
 replace HOF := Lib.hid HOF
 have HH := Lib.hid hH
 have HTR := Lib.hid htr
 have HL := Lib.hid hlt
 have HLEN := Lib.hid hlen
 have HTK := Lib.hid htk
 have hlen2 : (wOf ti : Int) = hs.length := by omega
 clear hlt hlen htk
 obtain ⟨had, hcap, rfl, hhc, _⟩ := hH.ex
 rw [List.length_map] at *
 clear hH htr
 go_enter Try.func11, Try.ntmps11
 go_upto_region 8 with (first | (go_at_call 14; (with_reducible refine (HIS.out _).mono ?_); rintro e u0 ⟨rfl, hb0⟩; have hI := mV (heap_alloc_new w (.cells #[.int .i64 op, .int .i64 A, .int .i64 B, .int .u64 (lo : Nat), .int .u64 (hi : Nat), L] 25)) hb0; have hZ := mB (Below.refl w.heap.size w) (Nat.le_refl _) _ hb0; clear hb0) | ((with_reducible refine t8 ?_ 3 mM _ rfl _ _ rfl _ _ hI _ rfl ?_); (focus rfl)) | ((with_reducible refine t8 ?_ 22 r8 _ rfl _ _ rfl _ _ hI _ rfl ?_); (focus rfl)) | (go_at_call 34; (with_reducible refine (HOF.out _).mono ?_); rintro e u1 ⟨s, t, pl, rfl, hss, hst, hb1⟩; replace hI := mV hI hb1; replace hZ := hZ.trans (hb1.mono hZ.size); clear hb1) | ((with_reducible refine vR rfl 40 _ _ rfl _ _ rfl rfl (sW _ _ _ _ _) (uR _ _ _ _ _ _ _ _ _ _) (all5 _ _ _ (tL hss).1 (tL hst).1) ?_); intro u2 hb2 hF lF; replace hI := mV hI hb2; replace hZ := hZ.trans (hb2.mono hZ.size); have vT := (LView.of_own hss).below hb2; clear hb2 hss hst lF) | ((with_reducible refine t8 ?_ 23 tP _ rfl _ _ rfl _ _ hF _ rfl ?_); (focus rfl)) | (go_at_call 35; (with_reducible refine (width_s ti s u2 vT hti HTR.out).mono ?_); rintro e u3 ⟨rfl, hb⟩; replace hI := mV hI hb; replace hF := mV hF hb; replace vT := vT.below hb; replace hZ := hZ.trans (hb.mono hZ.size); clear hb) | (go_at_call 36; (with_reducible refine (rtake_s ti s _ hs vs u3 vT (HH.out.below hZ) HL.out hti HTR.out HLEN.out HTK.out).mono ?_); rintro e u4 ⟨⟨vv, rfl, hov⟩, hb⟩; replace hI := mV hI hb; replace hZ := hZ.trans (hb.mono hZ.size); clear hb hF vT) | (go_at_call 37; (with_reducible refine (rvec_s lo hi _ hlo hhi).mono ?_); rintro e u5 ⟨rfl, hb5⟩; replace hI := mV hI hb5; replace hZ := hZ.trans (hb5.mono hZ.size)) | (with_reducible refine mK rfl _ _ rfl _ _ rfl rfl 0 (mC _) ?_; intro u6 g6))
 have hX := g6.this
 have hZ6 := tH hZ (Nat.le_refl _) g6
 clear g6 hI hb5
 replace hZ := hZ6
 clear hZ6
 have hvv : ∃ ad c, vv = .slice ad 0 c := by
  rcases hov.2 with ⟨rfl, _⟩ | ⟨q, c, cur, rfl, _⟩
  ·exact ⟨_, _, rfl⟩
  ·exact ⟨_, c, by rw [hvs]⟩
 obtain ⟨ad8, c8, rfl⟩ := hvv
 have hZ0 := hZ
 clear hov
 go_wp2_with (first | (with_reducible refine mG rfl _ rfl _ rfl _ hX ?_) | (go_at_call 38; (with_reducible refine (two_s (tQ lo hi) _).mono ?_); rintro e uT ⟨⟨bT, hbT, rfl, hTT⟩, hb⟩; replace hZ := hZ.trans (hb.mono hZ.size); clear hb))
 go_ret2
 exact ⟨⟨_, rfl, .inr ⟨by simp, bT, by have := hZ0.size; omega, rfl, hTT⟩⟩, hZ⟩
structure DSt (w : World) (X : Array Value) (jM jA jB : Nat) (m a b : Vec) (u : World) : Prop where
 bel : Below w.heap.size w u
 hI : u.heap[w.heap.size]? = some (.cells X 25 (0, 0))
 hM : u.heap[jM]? = some (.cells (mY m) 45 (0, 0))
 hA : u.heap[jA]? = some (.cells (mY a) 45 (0, 0))
 hB : u.heap[jB]? = some (.cells (mY b) 45 (0, 0))
 lt : w.heap.size < jM ∧ w.heap.size < jA ∧ w.heap.size < jB
theorem DSt.below {w u u1 : World} {X : Array Value} {jM jA jB : Nat} {m a b : Vec} (h : DSt w X jM jA jB m a b u) (hb : Below u.heap.size u u1) : DSt w X jM jA jB m a b u1 :=
 ⟨h.bel.trans (hb.mono h.bel.size), mV h.hI hb, mV h.hM hb, mV h.hA hb, mV h.hB hb, h.lt⟩
theorem DSt.set {w u u1 : World} {X : Array Value} {jM jA jB j : Nat} {m a b x : Vec} (h : DSt w X jM jA jB m a b u) (hs : Sets u j x u1) (hj : w.heap.size < j ∧ jM < j ∧ jA < j ∧ jB < j) : DSt w X jM jA jB m a b u1 := by
 obtain ⟨l1, l2, l3⟩ := h.lt
 exact ⟨h.bel.trans (hs.below.mono (by omega)), mR h.hI hs (by omega), mR h.hM hs (by omega), mR h.hA hs (by omega), mR h.hB hs (by omega), h.lt⟩
def hQ (κ ES EU EX ER ET : Int) (VS VU VW VR VQ : Vec) (xX xT : Nat) : List Nat × Int :=
 if ES = 0 then ([mT VS 64 0, mT VS 64 1], 0) else if κ = 13 then (if EU = 0 then ([mT VU 64 0, mT VU 64 1], 0) else ([], 1)) else if κ = 14 then ([mT VW 64 0, mT VW 64 1], 0)
 else if 21 ≤ κ ∧ κ ≤ 30 then (if EX = 0 then ([xX], 0) else if ER = 0 then ([mT VR 64 0, mT VR 64 1], 0) else ([], 1)) else if ET = 0 then ([xT], 0) else ([mT VQ 64 0, mT VQ 64 1], 0)
set_option maxRecDepth 100000 in
theorem rdo_n (op A B form lim : Int) (lo hi : Nat) (L hv : Value) (hs : List Nat) (ti to : List Int) (w : World) (HIS : ∀ W, Calls Try.prog 14 #[.int .i64 op] W fun e w' => e = .returned (.bool true) ∧ Below W.heap.size W w') (HOF : ∀ W, Calls Try.prog 34 #[.int .i64 op] W fun e w' => ∃ (s t : Value) (pl : Bool), e = .returned (.tuple #[.agg #[.int .i64 form, .int .i64 lim, .bool pl, s, t], .bool true]) ∧ w'.ownsRow W.heap.size 3 1 s ti.length (ti.map (Value.int .i64)) ∧ w'.ownsRow W.heap.size 3 1 t to.length (to.map (Value.int .i64)) ∧ Below W.heap.size W w') (hH : LView .u64 w hv (hs.map Nat.cast)) (hti : ti.length ≤ 100) (htr : ∀ t ∈ ti, t = 123 ∨ t = 127 ∨ t = 126) (hhs : hs.length ≤ 9223372036854775807) (hlt : ∀ x ∈ hs, x < 18446744073709551616) (vs : List Vec) (hlen : hs.length = wOf ti) (htk : tX ti hs = some vs) (hlo : lo < 2 ^ 64) (hhi : hi < 2 ^ 64) (x0 xl xX xT : Nat) (a b VS VU VW VR VQ : Vec) (ES EU EX ER ET : Int) (n : Nat) (hn : 1 ≤ n ∧ n ≤ 1000) (hvs : vs.length = n) (ha : vs[0]? = some a) (hbv : vs[n - 1]? = some b) (hx0 : hs[0]? = some x0) (hxl : hs[hs.length - 1]? = some xl) (CS : ∀ W, Calls Try.prog 39 #[.int .i64 op, .int .u64 (x0 : Nat)] W fun e w' => e = .returned (.tuple #[.agg (mY VS), .int .i64 ES]) ∧ Below W.heap.size W w') (CU : ∀ W, Calls Try.prog 40 #[.agg (mY (tQ lo hi)), .agg (mY a), .agg (mY b)] W fun e w' => e = .returned (.tuple #[.agg (mY VU), .int .i64 EU]) ∧ Below W.heap.size W w') (CW : ∀ W, Calls Try.prog 41 #[.agg (mY a), .agg (mY b)] W fun e w' => e = .returned (.agg (mY VW)) ∧ Below W.heap.size W w') (CX : ∀ W, Calls Try.prog 42 #[.int .i64 op, .int .i64 A, .agg (mY a)] W fun e w' => e = .returned (.tuple #[.int .u64 (xX : Nat), .int .i64 EX]) ∧ Below W.heap.size W w') (CR : ∀ W, Calls Try.prog 43 #[.int .i64 op, .int .i64 A, .agg (mY a), .int .u64 (xl : Nat)] W fun e w' => e = .returned (.tuple #[.agg (mY VR), .int .i64 ER]) ∧ Below W.heap.size W w') (CT : ∀ W, Calls Try.prog 44 #[.int .i64 op, .agg (mY a)] W fun e w' => e = .returned (.tuple #[.int .u32 (xT : Nat), .int .i64 ET]) ∧ Below W.heap.size W w')
 (CQ : ∀ W lv, VSl W lv vs → Calls Try.prog 45 #[.int .i64 op, lv, .int .u64 (xl : Nat)] W fun e w' => e = .returned (.agg (mY VQ)) ∧ Below W.heap.size W w') (ho : 64768 ≤ op ∧ op ≤ 65023) (hxT : xT < 4294967296) :
 Calls Try.prog 11 #[.agg #[.int .i64 op, .int .i64 A, .int .i64 B, .int .u64 (lo : Nat), .int .u64 (hi : Nat), L], hv] w fun e w' => DoIs w.heap.size (hQ (op - 64768) ES EU EX ER ET VS VU VW VR VQ xX xT) e w' ∧ Below w.heap.size w w' := by
 obtain ⟨hn1, hn2⟩ := hn
 have hp : 0 < hs.length := (List.getElem?_eq_some_iff.1 hx0).1
 obtain ⟨hq7, ho7, hc7, rfl, hhc, hhb, hcell⟩ := hH.get 0 (by rw [List.length_map]; exact hp)
 have hcf : w.cell? ⟨hq7, ho7 + 0, none⟩ = some (.int .u64 (x0 : Nat)) := hcell 0 x0 (by rw [List.getElem?_map, hx0]; rfl)
 have hcl : w.cell? ⟨hq7, ho7 + (hs.length - 1), none⟩ = some (.int .u64 (xl : Nat)) := hcell _ xl (by rw [List.getElem?_map, hxl]; rfl)
 rw [List.length_map] at *
 obtain ⟨nh, hnh⟩ : ∃ k, k = hs.length - 1 := ⟨_, rfl⟩
 rw [← hnh] at hcl
 have q1 : IntKind.i64.wrap ((hs.length : Int) - 1) = (nh : Int) := by rw [IntWalk.i64_in _ (by omega)]; omega
 have q2 : IntKind.i64.wrap ((n : Int) - 1) = ((n - 1 : Nat) : Int) := by rw [IntWalk.i64_in _ (by omega)]; omega
 have q3 : IntKind.i64.wrap (op - 64768) = op - 64768 := IntWalk.i64_in _ (by omega)
 have hnl : nh < hs.length := by omega
 obtain ⟨n1, hn3⟩ : ∃ k, k = n - 1 := ⟨_, rfl⟩
 have hnn : n1 < n := by omega
 rw [← hn3] at q2 hbv
 clear hnh hn3 hcell
 replace HIS := Lib.hid HIS
 replace HOF := Lib.hid HOF
 have HH := Lib.hid hH
 have HTR := Lib.hid htr
 have HL := Lib.hid hlt
 have HLEN := Lib.hid hlen
 have HTK := Lib.hid htk
 have hlen2 : (wOf ti : Int) = hs.length := by omega
 clear hlt hlen htk
 have HBV := Lib.hid hbv
 have HA0 := Lib.hid ha
 clear hH htr ha hbv hx0 hxl
 replace CS := Lib.hid CS
 replace CU := Lib.hid CU
 replace CW := Lib.hid CW
 replace CX := Lib.hid CX
 replace CR := Lib.hid CR
 replace CT := Lib.hid CT
 replace CQ := Lib.hid CQ
 go_enter Try.func11, Try.ntmps11
 go_upto_region 8 with (first | (go_at_call 14; (with_reducible refine (HIS.out _).mono ?_); rintro e u0 ⟨rfl, hb0⟩; have hI := mV (heap_alloc_new w (.cells #[.int .i64 op, .int .i64 A, .int .i64 B, .int .u64 (lo : Nat), .int .u64 (hi : Nat), L] 25)) hb0; have hZ := mB (Below.refl w.heap.size w) (Nat.le_refl _) _ hb0; clear hb0) | ((with_reducible refine t8 ?_ 3 mM _ rfl _ _ rfl _ _ hI _ rfl ?_); (focus rfl)) | ((with_reducible refine t8 ?_ 22 r8 _ rfl _ _ rfl _ _ hI _ rfl ?_); (focus rfl)) | (go_at_call 34; (with_reducible refine (HOF.out _).mono ?_); rintro e u1 ⟨s, t, pl, rfl, hss, hst, hb1⟩; replace hI := mV hI hb1; replace hZ := hZ.trans (hb1.mono hZ.size); clear hb1) | ((with_reducible refine vR rfl 40 _ _ rfl _ _ rfl rfl (sW _ _ _ _ _) (uR _ _ _ _ _ _ _ _ _ _) (all5 _ _ _ (tL hss).1 (tL hst).1) ?_); intro u2 hb2 hF lF; replace hI := mV hI hb2; replace hZ := hZ.trans (hb2.mono hZ.size); have vT := (LView.of_own hss).below hb2; clear hb2 hss hst lF) | ((with_reducible refine t8 ?_ 23 tP _ rfl _ _ rfl _ _ hF _ rfl ?_); (focus rfl)) | (go_at_call 35; (with_reducible refine (width_s ti s u2 vT hti HTR.out).mono ?_); rintro e u3 ⟨rfl, hb⟩; replace hI := mV hI hb; replace hF := mV hF hb; replace vT := vT.below hb; replace hZ := hZ.trans (hb.mono hZ.size); clear hb) | (go_at_call 36; (with_reducible refine (rtake_s ti s _ hs vs u3 vT (HH.out.below hZ) HL.out hti HTR.out HLEN.out HTK.out).mono ?_); rintro e u4 ⟨⟨vv, rfl, hov⟩, hb⟩; replace hI := mV hI hb; replace hZ := hZ.trans (hb.mono hZ.size); clear hb hF vT) | (go_at_call 37; (with_reducible refine (rvec_s lo hi _ hlo hhi).mono ?_); rintro e u5 ⟨rfl, hb5⟩; replace hI := mV hI hb5; replace hZ := hZ.trans (hb5.mono hZ.size)) | (with_reducible refine mK rfl _ _ rfl _ _ rfl rfl 0 (mC _) ?_; intro u6 g6))
 have hX := g6.this
 have hI6 := mR (mE hI _) g6 (Nat.ne_of_lt (mF hI))
 have hZ6 := tH hZ (Nat.le_refl _) g6
 have hov6 := vB (vB hov hb5) (tH (Below.refl _ _) (Nat.le_refl _) g6)
 obtain ⟨jM, hjM⟩ : ∃ j, j = u5.heap.size := ⟨_, rfl⟩
 have lM : w.heap.size < jM := by have := mF hI; omega
 rw [← hjM] at hX ⊢
 clear g6 hI hb5 hov hZ hjM
 obtain ⟨g, c8, rfl, hg, hvx⟩ := (VSl.of_own hov6 (by omega)).ex
 have hV0 := hvx 0 a HA0.out
 have hV1 := hvx n1 b HBV.out
 have hVS : VSl u6 (.slice (some ⟨g, 0, none⟩) vs.length c8) vs := ⟨⟨g, c8, rfl, hg, hvx⟩⟩
 rw [hvs] at hVS ⊢
 clear hvx hov6
 go_upto_region 12 with (first | ((with_reducible refine t8 ?_ 3 mM _ rfl _ _ rfl _ _ hI6 _ rfl ?_); (focus rfl)) | (with_reducible refine ix_vec rfl _ _ rfl g n c8 rfl _ rfl 0 rfl (by omega) ?_) | (with_reducible refine vZ rfl _ rfl g (16 * 0) rfl a hV0 ?_) | (with_reducible refine mK rfl _ _ rfl _ _ rfl rfl 0 (mC _) ?_; intro u7 g7))
 obtain ⟨jA, hjA⟩ : ∃ j, j = u6.heap.size := ⟨_, rfl⟩
 have lA : w.heap.size < jA := by have := mF hI6; omega
 have lMA : jM < jA := by have := mF hX; omega
 have hI7 := mR (mE hI6 _) g7 (Nat.ne_of_lt (mF hI6))
 have hX7 := mR (mE hX _) g7 (Nat.ne_of_lt (mF hX))
 have hA7 := g7.this
 have hb7 := tH (Below.refl u6.heap.size u6) (Nat.le_refl _) g7
 have hZ7 := hZ6.trans (hb7.mono hZ6.size)
 have hV7 := tS hV1 hg hb7
 have hVS7 := hVS.below hb7
 rw [← hjA] at hA7 ⊢
 clear g7 hI6 hX hZ6 hV0 hV1 hVS hjA
 go_upto_region 13 with (first | (with_reducible refine ix_vec rfl _ _ rfl g n c8 rfl _ rfl n1 rfl hnn ?_) | (with_reducible refine vZ rfl _ rfl g (16 * n1) rfl b hV7 ?_) | (with_reducible refine mK rfl _ _ rfl _ _ rfl rfl 0 (mC _) ?_; intro u8 g8))
 obtain ⟨jB, hjB⟩ : ∃ j, j = u7.heap.size := ⟨_, rfl⟩
 have hb8 := tH (Below.refl u7.heap.size u7) (Nat.le_refl _) g8
 have hVS8 := hVS7.below hb8
 have lAB : jA < jB := by have := mF hA7; omega
 have hs2 : DSt w #[.int .i64 op, .int .i64 A, .int .i64 B, .int .u64 (lo : Nat), .int .u64 (hi : Nat), L] jM jA jB (tQ lo hi) a b u8 :=
  ⟨hZ7.trans (hb8.mono hZ7.size), mV hI7 hb8, mV hX7 hb8, mV hA7 hb8, hjB ▸ g8.this, lM, lA, by omega⟩
 rw [← hjB]
 clear g8 hI7 hX7 hA7 hZ7 hV7 hVS7 hb7 hjB
 have hcf8 : u8.cell? ⟨hq7, ho7 + 0, none⟩ = some (.int .u64 (x0 : Nat)) := by unfold World.cell? at hcf ⊢; rw [hs2.bel.block hq7 hhb]; exact hcf
 have hcl8 : u8.cell? ⟨hq7, ho7 + nh, none⟩ = some (.int .u64 (xl : Nat)) := by unfold World.cell? at hcl ⊢; rw [hs2.bel.block hq7 hhb]; exact hcl
 clear hcf hcl hb8
 go_upto_region 16 with (first | (with_reducible refine ix1 rfl 26 size_su under_su _ _ rfl hq7 ho7 _ _ rfl _ rfl 0 rfl hp ?_) | (with_reducible refine ix1 rfl 26 size_su under_su _ _ rfl hq7 ho7 _ _ rfl _ rfl nh rfl hnl ?_) | (with_reducible refine ld1 rfl 22 r8 _ rfl _ rfl _ hcf8 ?_) | (with_reducible refine ld1 rfl 22 r8 _ rfl _ rfl _ hcl8 ?_) | ((with_reducible refine t8 ?_ 3 mM _ rfl _ _ rfl _ _ hs2.hI _ rfl ?_); (focus rfl)) | (go_at_call 39; (with_reducible refine (CS.out _).mono ?_); rintro e u9 ⟨rfl, hb9⟩) | (with_reducible refine mK rfl _ _ rfl _ _ rfl rfl 0 (mC _) ?_; intro uv gv))
 obtain ⟨jV, hjv⟩ : ∃ j, j = u9.heap.size := ⟨_, rfl⟩
 have hjV : w.heap.size < jV ∧ jM < jV ∧ jA < jV ∧ jB < jV := by
  have := hb9.size
  have := mF hs2.hI; have := mF hs2.hM; have := mF hs2.hA; have := mF hs2.hB
  exact ⟨by omega, by omega, by omega, by omega⟩
 have hbv := tH (Below.refl u9.heap.size u9) (Nat.le_refl _) gv
 replace hs2 := (hs2.below hb9).below hbv
 have hVSv := (hVS8.below hb9).below hbv
 have hV := gv.this
 rw [← hjv] at hV ⊢
 clear gv hbv hb9 hjv hVS8 hcf8 hcl8
 obtain ⟨κ, hκ⟩ : ∃ κ, κ = op - 64768 := ⟨_, rfl⟩
 rw [← hκ]
 have HK := Lib.hid hκ
 clear hκ q1 q2 q3
 by_cases hS : ES = 0
 ·have q := vE hS
  go_wp2_with (first | (with_reducible refine mG rfl _ rfl _ rfl _ hV ?_) | (go_at_call 38; (with_reducible refine (two_s VS _).mono ?_); rintro e uT ⟨⟨bT, hbT, rfl, hTT⟩, hb⟩; have hZ0 := hs2.bel; replace hs2 := hs2.below hb; clear hb))
  go_ret2
  rw [← HK.out, show hQ _ ES EU EX ER ET VS VU VW VR VQ xX xT = ([mT VS 64 0, mT VS 64 1], 0) by unfold hQ; rw [if_pos hS]]
  exact ⟨⟨_, rfl, .inr ⟨by simp, bT, by have := hZ0.size; omega, rfl, hTT⟩⟩, hs2.bel⟩
 have eS := tT hS
 go_upto_region 18 with fail
 clear eS
 by_cases h13 : κ = 13
 ·subst h13
  go_upto_region 20 with (first | (with_reducible refine mG rfl _ rfl _ rfl _ hs2.hM ?_) | (with_reducible refine mG rfl _ rfl _ rfl _ hs2.hA ?_) | (with_reducible refine mG rfl _ rfl _ rfl _ hs2.hB ?_) | (go_at_call 40; (with_reducible refine (CU.out _).mono ?_); rintro e uC ⟨rfl, hb⟩; replace hs2 := hs2.below hb; replace hV := mV hV hb; replace hVSv := hVSv.below hb; clear hb) | (with_reducible refine mK rfl _ _ rfl jV _ rfl rfl _ hV ?_; intro wq hq; replace hs2 := hs2.set hq hjV; replace hV := hq.this; clear hq))
  by_cases hU : EU = 0
  ·have q := vE hU
   go_wp2_with (first | (with_reducible refine mG rfl _ rfl _ rfl _ hV ?_) | (go_at_call 38; (with_reducible refine (two_s VU _).mono ?_); rintro e uT ⟨⟨bT, hbT, rfl, hTT⟩, hb⟩; have hZ0 := hs2.bel; replace hs2 := hs2.below hb; clear hb))
   go_ret2
   rw [← HK.out, show hQ _ ES EU EX ER ET VS VU VW VR VQ xX xT = ([mT VU 64 0, mT VU 64 1], 0) by unfold hQ; rw [if_neg hS, if_pos rfl, if_pos hU]]
   exact ⟨⟨_, rfl, .inr ⟨by simp, bT, by have := hZ0.size; omega, rfl, hTT⟩⟩, hs2.bel⟩
  ·have q := tT hU
   go_wp2_with fail
   go_ret2
   rw [← HK.out, show hQ _ ES EU EX ER ET VS VU VW VR VQ xX xT = ([], 1) by unfold hQ; rw [if_neg hS, if_pos rfl, if_neg hU]]
   exact ⟨⟨_, rfl, .inl ⟨rfl, rfl⟩⟩, hs2.bel⟩
 have e13 := tT h13
 go_upto_region 23 with fail
 clear e13
 by_cases h14 : κ = 14
 ·subst h14
  go_wp2_with (first | (with_reducible refine mG rfl _ rfl _ rfl _ hs2.hA ?_) | (with_reducible refine mG rfl _ rfl _ rfl _ hs2.hB ?_) | (go_at_call 41; (with_reducible refine (CW.out _).mono ?_); rintro e uC ⟨rfl, hb⟩; replace hs2 := hs2.below hb; replace hV := mV hV hb; replace hVSv := hVSv.below hb; clear hb) | (go_at_call 38; (with_reducible refine (two_s VW _).mono ?_); rintro e uT ⟨⟨bT, hbT, rfl, hTT⟩, hb⟩; have hZ0 := hs2.bel; replace hs2 := hs2.below hb; clear hb))
  go_ret2
  rw [← HK.out, show hQ _ ES EU EX ER ET VS VU VW VR VQ xX xT = ([mT VW 64 0, mT VW 64 1], 0) by unfold hQ; rw [if_neg hS, if_neg h13, if_pos rfl]]
  exact ⟨⟨_, rfl, .inr ⟨by simp, bT, by have := hZ0.size; omega, rfl, hTT⟩⟩, hs2.bel⟩
 have e14 := tT h14
 go_upto_region 25 with fail
 clear e14
 by_cases hr : 21 ≤ κ ∧ κ ≤ 30
 ·obtain ⟨hr1, hr2⟩ := id hr
  go_upto_region 27 with (first | ((with_reducible refine t8 ?_ 3 mM _ rfl _ _ rfl _ _ hs2.hI _ rfl ?_); (focus rfl)) | (with_reducible refine mG rfl _ rfl _ rfl _ hs2.hA ?_) | (go_at_call 42; (with_reducible refine (CX.out _).mono ?_); rintro e uC ⟨rfl, hb⟩; replace hs2 := hs2.below hb; replace hV := mV hV hb; replace hVSv := hVSv.below hb; clear hb))
  clear hr1 hr2
  by_cases hX : EX = 0
  ·have q := vE hX
   go_wp2_with fail
   go_ret2
   rw [← HK.out, show hQ _ ES EU EX ER ET VS VU VW VR VQ xX xT = ([xX], 0) by unfold hQ; rw [if_neg hS, if_neg h13, if_neg h14, if_pos hr, if_pos hX]]
   exact ⟨⟨_, rfl, .inr ⟨by simp, _, hs2.bel.size, rfl, heap_alloc_new _ _⟩⟩, hs2.bel.alloc hs2.bel.size _⟩
  have eX := tT hX
  go_upto_region 30 with (first | ((with_reducible refine t8 ?_ 3 mM _ rfl _ _ rfl _ _ hs2.hI _ rfl ?_); (focus rfl)) | (with_reducible refine mG rfl _ rfl _ rfl _ hs2.hA ?_) | (go_at_call 43; (with_reducible refine (CR.out _).mono ?_); rintro e uC ⟨rfl, hb⟩; replace hs2 := hs2.below hb; replace hV := mV hV hb; replace hVSv := hVSv.below hb; clear hb) | (with_reducible refine mK rfl _ _ rfl jV _ rfl rfl _ hV ?_; intro wq hq; replace hs2 := hs2.set hq hjV; replace hV := hq.this; clear hq))
  clear eX
  by_cases hRr : ER = 0
  ·have q := vE hRr
   go_wp2_with (first | (with_reducible refine mG rfl _ rfl _ rfl _ hV ?_) | (go_at_call 38; (with_reducible refine (two_s VR _).mono ?_); rintro e uT ⟨⟨bT, hbT, rfl, hTT⟩, hb⟩; have hZ0 := hs2.bel; replace hs2 := hs2.below hb; clear hb))
   go_ret2
   rw [← HK.out, show hQ _ ES EU EX ER ET VS VU VW VR VQ xX xT = ([mT VR 64 0, mT VR 64 1], 0) by unfold hQ; rw [if_neg hS, if_neg h13, if_neg h14, if_pos hr, if_neg hX, if_pos hRr]]
   exact ⟨⟨_, rfl, .inr ⟨by simp, bT, by have := hZ0.size; omega, rfl, hTT⟩⟩, hs2.bel⟩
  ·have q := tT hRr
   go_wp2_with fail
   go_ret2
   rw [← HK.out, show hQ _ ES EU EX ER ET VS VU VW VR VQ xX xT = ([], 1) by unfold hQ; rw [if_neg hS, if_neg h13, if_neg h14, if_pos hr, if_neg hX, if_neg hRr]]
   exact ⟨⟨_, rfl, .inl ⟨rfl, rfl⟩⟩, hs2.bel⟩
 rcases (by omega : κ < 21 ∨ 30 < κ) with h21 | h21
 case' inr => have h22 : 21 ≤ κ := by omega
 all_goals
  go_upto_region 34 with (first | ((with_reducible refine t8 ?_ 3 mM _ rfl _ _ rfl _ _ hs2.hI _ rfl ?_); (focus rfl)) | (with_reducible refine mG rfl _ rfl _ rfl _ hs2.hA ?_) | (go_at_call 44; (with_reducible refine (CT.out _).mono ?_); rintro e uC ⟨rfl, hb⟩; replace hs2 := hs2.below hb; replace hV := mV hV hb; replace hVSv := hVSv.below hb; clear hb))
  by_cases hT : ET = 0
  ·have q := vE hT
   have q4 : IntKind.u64.wrap (xT : Int) = (xT : Int) := IntWalk.u64_in _ (by omega)
   go_wp2_with fail
   go_ret2
   rw [← HK.out, show hQ _ ES EU EX ER ET VS VU VW VR VQ xX xT = ([xT], 0) by unfold hQ; rw [if_neg hS, if_neg h13, if_neg h14, if_neg hr, if_pos hT]]
   exact ⟨⟨_, rfl, .inr ⟨by simp, _, hs2.bel.size, rfl, heap_alloc_new _ _⟩⟩, hs2.bel.alloc hs2.bel.size _⟩
  have eT := tT hT
  go_wp2_with (first | ((with_reducible refine t8 ?_ 3 mM _ rfl _ _ rfl _ _ hs2.hI _ rfl ?_); (focus rfl)) | (go_at_call 45; (with_reducible refine (CQ.out _ _ hVSv).mono ?_); rintro e uC ⟨rfl, hb⟩; replace hs2 := hs2.below hb; clear hb) | (go_at_call 38; (with_reducible refine (two_s VQ _).mono ?_); rintro e uT ⟨⟨bT, hbT, rfl, hTT⟩, hb⟩; have hZ0 := hs2.bel; replace hs2 := hs2.below hb; clear hb))
  go_ret2
  rw [← HK.out, show hQ _ ES EU EX ER ET VS VU VW VR VQ xX xT = ([mT VQ 64 0, mT VQ 64 1], 0) by unfold hQ; rw [if_neg hS, if_neg h13, if_neg h14, if_neg hr, if_neg hT]]
  exact ⟨⟨_, rfl, .inr ⟨by simp, bT, by have := hZ0.size; omega, rfl, hTT⟩⟩, hs2.bel⟩
end Go.Proofs.Ytcpfabkokgiepaa
