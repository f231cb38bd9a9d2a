/-
  The walk of pair.Take.
-/
import Derived.Test.YtcpfabkokgiepaaVcTk
set_option linter.unusedSimpArgs false
set_option linter.unusedVariables false
namespace Go.Proofs.Ytcpfabkokgiepaa
open Go.RowKit Pl

theorem size_si : ∀ u, (sizeOf (Try.prog.elem 23)).run Try.prog u = .ok 1 u := fun u => by kernel_rfl
theorem under_si : Try.prog.underlying 23 = some (.slice (Try.prog.elem 23)) := by kernel_rfl
theorem size_su : ∀ u, (sizeOf (Try.prog.elem 26)).run Try.prog u = .ok 1 u := fun u => by kernel_rfl
theorem under_su : Try.prog.underlying 26 = some (.slice (Try.prog.elem 26)) := by kernel_rfl
theorem and_low (n : Nat) (h : n < 18446744073709551616) : bits BinOp.and IntKind.u64 (n : Int) 4294967295 = ((n % 4294967296 : Nat) : Int) := by
  have := u64_and_nat n 4294967295 h (by decide)
  rw [show ((4294967295 : Nat) : Int) = 4294967295 from rfl] at this
  rw [this, show (4294967295 : Nat) = 2 ^ 32 - 1 from rfl, Nat.and_two_pow_sub_one_eq_mod]
theorem takeV_step (o : Option (List Vec)) (z : Vec) (vs : List Vec) : (o.map (z :: ·)).map (vs ++ ·) = o.map ((vs ++ [z]) ++ ·) := by cases o <;> simp
theorem takeV_two (ts : List Int) (lo hi : Nat) (r : List Nat) : takeV (123 :: ts) (lo :: hi :: r) = (takeV ts r).map (joinV lo hi :: ·) := by simp [takeV]
theorem takeV_i32 (ts : List Int) (lo : Nat) (r : List Nat) : takeV (127 :: ts) (lo :: r) = (takeV ts r).map (joinV (lo % 4294967296) 0 :: ·) := by simp [takeV]
theorem takeV_i64 (ts : List Int) (lo : Nat) (r : List Nat) : takeV (126 :: ts) (lo :: r) = (takeV ts r).map (joinV lo 0 :: ·) := by simp [takeV]
theorem cut_2 {w : World} {b off c lo hi : Nat} {r : List Nat} (h : LView .u64 w (.slice (some ⟨b, off, none⟩) ((lo :: hi :: r).map (Nat.cast : Nat → Int)).length c) ((lo :: hi :: r).map Nat.cast)) :
    LView .u64 w (.slice (if c = 2 then some ⟨b, off, none⟩ else some ⟨b, off + 2, none⟩) r.length (c - 2)) (r.map Nat.cast) := by
  have := h.cut 2 (by simp)
  simpa [Go.Addr.add_mid] using this
theorem cut_1 {w : World} {b off c lo : Nat} {r : List Nat} (h : LView .u64 w (.slice (some ⟨b, off, none⟩) ((lo :: r).map (Nat.cast : Nat → Int)).length c) ((lo :: r).map Nat.cast)) :
    LView .u64 w (.slice (if c = 1 then some ⟨b, off, none⟩ else some ⟨b, off + 1, none⟩) r.length (c - 1)) (r.map Nat.cast) := by
  have := h.cut 1 (by simp)
  simpa [Go.Addr.add_mid] using this
theorem takeV_bad (t : Int) (ts : List Int) (hs : List Nat) (h1 : t ≠ 123) (h2 : t ≠ 127) (h3 : t ≠ 126) : takeV (t :: ts) hs = none := by
  unfold takeV
  rw [if_neg h1, if_neg (by omega)]
theorem isAgg_u64 (w : World) : (isAgg 22).run Try.prog w = .ok false w := by kernel_rfl
theorem ownv_base {u : World} {B B' : Nat} {v : Value} {n : Nat} {xs : List Value} (h : u.ownsRow B 45 16 v n xs) (hB : B' ≤ B) : u.ownsRow B' 45 16 v n xs :=
  ⟨h.1, h.2.imp id (fun ⟨g, cap, cur, e1, e2, e3⟩ => ⟨g, cap, cur, e1, by omega, e3⟩)⟩
theorem ownv_below {u u1 : World} {B : Nat} {v : Value} {n : Nat} {xs : List Value} (h : u.ownsRow B 45 16 v n xs) (hb : Below u.heap.size u u1) : u1.ownsRow B 45 16 v n xs :=
  h.kept (grown_of_below (r := none) hb) (by
    cases hv : v.ownBlock with
    | none => exact .inl rfl
    | some k => exact .inr (fun e => by cases e))

set_option maxHeartbeats 4000000 in
set_option maxRecDepth 100000 in
theorem take_k (types : List Int) (tv hv : Value) (hs : List Nat) (w : World) (hT : LView .i64 w tv types) (hH : LView .u64 w hv (hs.map Nat.cast)) (hlt : ∀ x ∈ hs, x < 18446744073709551616) (hty : types.length ≤ 100) (hr : ∀ t ∈ types, 0 ≤ t ∧ t ≤ 255) :
    Calls Try.prog 31 #[tv, hv] w fun e w' => Below w.heap.size w w' ∧
      (takeV types hs = none → e = .returned (.tuple #[.slice none 0 0, .int .i64 1])) ∧
      ∀ vs, takeV types hs = some vs → ∃ v, e = .returned (.tuple #[v, .int .i64 0]) ∧ w'.ownsRow w.heap.size 45 16 v vs.length (vcells vs) := by
  obtain ⟨tad, tc, rfl, htc, hT2⟩ := hT.ex
  have HT := Lib.hid hT
  have HH := Lib.hid hH
  have HL := Lib.hid hlt
  have HR := Lib.hid hr
  clear hT hH hlt hr hT2
  go_enter Try.func31, Try.ntmps31
  go_wp2_with fail
  go_loopw [1, 6, 13] (fun hv1 ov iv wr => ∃ (i : Nat) (hs1 : List Nat) (vs1 : List Vec), i ≤ types.length ∧ iv = .int .i64 i ∧ LView .u64 w hv1 (hs1.map Nat.cast) ∧ Hid (∀ x ∈ hs1, x < 18446744073709551616) ∧ wr.ownsRow w.heap.size 45 16 ov vs1.length (vcells vs1) ∧ vs1.length = i ∧
    Hid (takeV types hs = (takeV (types.drop i) hs1).map (vs1 ++ ·)) ∧ Below w.heap.size w wr) (fun _ _ iv _ => types.length - (intOf iv).toNat)
  case atStart => exact ⟨0, hs, [], Nat.zero_le _, rfl, HH.out, HL, World.ownsRow_nil _ _ _ _, rfl, Lib.hid (by simp), Below.refl _ _⟩
  case round =>
    obtain ⟨wo, hwo⟩ : ∃ x, x = wr := ⟨_, rfl⟩
    subst hwo
    obtain ⟨i, hs1, vs1, hi, rfl, hv2, HL1, hown, hvl, HE, hb⟩ := hrel
    by_cases hlt : i < types.length
    · obtain ⟨tb, toff, tc2, te, htc3, htb, htx⟩ := (HT.out.below hb).get i hlt
      injection te with te1 te2 te3
      subst te1 te3
      obtain ⟨t, ht⟩ : ∃ t, types[i]? = some t := ⟨_, List.getElem?_eq_getElem hlt⟩
      have hct := htx i t ht
      have htr := HR.out t (List.mem_of_getElem? ht)
      have hdr : types.drop i = t :: types.drop (i + 1) := by
        rw [List.drop_eq_getElem_cons hlt]
        rw [List.getElem?_eq_getElem hlt] at ht
        injection ht with ht
        rw [ht]
      have HD := Lib.hid hdr
      have HTX := Lib.hid ht
      clear htx hdr ht
      obtain ⟨ad, c, rfl, hc, _⟩ := hv2.ex
      obtain ⟨ad', c', he, _, hx⟩ := (hv2.below hb).ex
      injection he with he1 he2 he3
      subst he1 he3
      rw [List.length_map] at hc ⊢
      have HV2 := Lib.hid hv2
      clear hv2
      by_cases h123 : t = 123
      · subst h123
        match hs1, HL1, HE, HV2, hx, hc with
        | [], HL1, HE, HV2, hx, hc =>
          have hE := HE.out
          rw [HD.out] at hE
          have hE3 : takeV types hs = none := by rw [hE]; simp [takeV]
          have HE2 := Lib.hid hE3
          clear hE hE3 hx
          go_wp2_with (first | (with_reducible refine ix1 rfl 23 size_si under_si _ _ rfl tb toff _ _ rfl _ rfl i rfl hlt ?_) | (with_reducible refine ld1 rfl 3 isAgg_int _ rfl _ rfl _ hct ?_))
          go_ret2
          exact ⟨hb, fun _ => rfl, fun vs h => by rw [HE2.out] at h; cases h⟩
        | [lo], HL1, HE, HV2, hx, hc =>
          have hE := HE.out
          rw [HD.out] at hE
          have hE3 : takeV types hs = none := by rw [hE]; simp [takeV]
          have HE2 := Lib.hid hE3
          clear hE hE3 hx
          go_wp2_with (first | (with_reducible refine ix1 rfl 23 size_si under_si _ _ rfl tb toff _ _ rfl _ rfl i rfl hlt ?_) | (with_reducible refine ld1 rfl 3 isAgg_int _ rfl _ rfl _ hct ?_))
          go_ret2
          exact ⟨hb, fun _ => rfl, fun vs h => by rw [HE2.out] at h; cases h⟩
        | lo :: hi :: r, HL1, HE, HV2, hx, hc =>
          obtain ⟨b, off, rfl, hbl, hxx⟩ := hx.resolve_left (by simp)
          have hx0 : wo.cell? ⟨b, off, none⟩ = some (.int .u64 (lo : Int)) := hxx 0 lo rfl
          have hb0 : lo < 18446744073709551616 := HL1.out lo (by simp)
          have hx1 : wo.cell? ⟨b, off + 1, none⟩ = some (.int .u64 (hi : Int)) := hxx 1 hi rfl
          have hb1 : hi < 18446744073709551616 := HL1.out hi (by simp)
          clear hxx hx
          have hob := hown.lt
          have HOB := Lib.hid hob
          clear hob
          go_wp2_with (first | (with_reducible refine ix1 rfl 23 size_si under_si _ _ rfl tb toff _ _ rfl _ rfl i rfl hlt ?_) | (with_reducible refine ld1 rfl 3 isAgg_int _ rfl _ rfl _ hct ?_) | (go_at_call 62; refine (join_k lo hi _).mono ?_; rintro e u2 ⟨rfl, hb2⟩; have hb3 := below_new hb (Nat.le_refl _) _ hb2; have hwu := below_new (Below.refl wo.heap.size wo) (Nat.le_refl _) _ hb2) | (at_builtin; rw [lay_one]; refine app_vec1 rfl _ _ rfl w.heap.size _ vs1 (setN (setN 0 64 0 lo) 64 1 hi) _ _ rfl ((ownv_below hown hwu).alloc _) rfl (heap_alloc_new _ _) (by omega) (by have := hb3.size; simp; omega) ?_; intro v5 x5 ho5 hg5))
          have hb6 : Below w.heap.size w x5 := (hb3.alloc hb3.size _).trans (grown_below hg5 (by have := hb3.size; simp; omega) (fun g e => (HOB.out g e).1))
          exact ⟨⟨i + 1, r, vs1 ++ [joinV lo hi], by omega, by go_num, cut_2 HV2.out, Lib.hid (fun x hx => HL1.out x (by simp [hx])), ho5, by simp [hvl], Lib.hid (by rw [HE.out, HD.out, takeV_two, takeV_step]), hb6⟩, by simp [intOf]; omega⟩
      · have q123 : (t == 123) = false := by simp [h123]
        have H123 := Lib.hid h123
        clear h123
        by_cases h127 : t = 127
        · subst h127
          match hs1, HL1, HE, HV2, hx, hc with
          | [], HL1, HE, HV2, hx, hc =>
            have hE := HE.out
            rw [HD.out] at hE
            have hE3 : takeV types hs = none := by rw [hE]; simp [takeV]
            have HE2 := Lib.hid hE3
            clear hE hE3 hx
            go_wp2_with (first | (with_reducible refine ix1 rfl 23 size_si under_si _ _ rfl tb toff _ _ rfl _ rfl i rfl hlt ?_) | (with_reducible refine ld1 rfl 3 isAgg_int _ rfl _ rfl _ hct ?_))
            go_ret2
            exact ⟨hb, fun _ => rfl, fun vs h => by rw [HE2.out] at h; cases h⟩
          | lo :: r, HL1, HE, HV2, hx, hc =>
            obtain ⟨b, off, rfl, hbl, hxx⟩ := hx.resolve_left (by simp)
            have hx0 : wo.cell? ⟨b, off, none⟩ = some (.int .u64 (lo : Int)) := hxx 0 lo rfl
            have hb0 : lo < 18446744073709551616 := HL1.out lo (by simp)
            clear hxx hx
            obtain ⟨mk, hmk⟩ : ∃ m, m = lo % 4294967296 := ⟨_, rfl⟩
            have hand : bits BinOp.and IntKind.u64 (lo : Int) 4294967295 = (mk : Int) := by rw [hmk]; exact and_low _ hb0
            have HMK := Lib.hid hmk
            clear hmk
            have hob := hown.lt
            have HOB := Lib.hid hob
            clear hob
            go_wp2_with (first | (with_reducible refine ix1 rfl 23 size_si under_si _ _ rfl tb toff _ _ rfl _ rfl i rfl hlt ?_) | (with_reducible refine ld1 rfl 3 isAgg_int _ rfl _ rfl _ hct ?_) | (go_at_call 62; refine (join_k mk 0 _).mono ?_; rintro e u2 ⟨rfl, hb2⟩; have hb3 := below_new hb (Nat.le_refl _) _ hb2; have hwu := below_new (Below.refl wo.heap.size wo) (Nat.le_refl _) _ hb2) | (at_builtin; rw [lay_one]; refine app_vec1 rfl _ _ rfl w.heap.size _ vs1 (setN (setN 0 64 0 mk) 64 1 0) _ _ rfl ((ownv_below hown hwu).alloc _) rfl (heap_alloc_new _ _) (by omega) (by have := hb3.size; simp; omega) ?_; intro v5 x5 ho5 hg5))
            have hb6 : Below w.heap.size w x5 := (hb3.alloc hb3.size _).trans (grown_below hg5 (by have := hb3.size; simp; omega) (fun g e => (HOB.out g e).1))
            exact ⟨⟨i + 1, r, vs1 ++ [joinV mk 0], by omega, by go_num, cut_1 HV2.out, Lib.hid (fun x hx => HL1.out x (by simp [hx])), ho5, by simp [hvl], Lib.hid (by rw [HE.out, HD.out, takeV_i32, ← HMK.out, takeV_step]), hb6⟩, by simp [intOf]; omega⟩
        · have q127 : (t == 127) = false := by simp [h127]
          have H127 := Lib.hid h127
          clear h127
          by_cases h126 : t = 126
          · subst h126
            match hs1, HL1, HE, HV2, hx, hc with
            | [], HL1, HE, HV2, hx, hc =>
              have hE := HE.out
              rw [HD.out] at hE
              have hE3 : takeV types hs = none := by rw [hE]; simp [takeV]
              have HE2 := Lib.hid hE3
              clear hE hE3 hx
              go_wp2_with (first | (with_reducible refine ix1 rfl 23 size_si under_si _ _ rfl tb toff _ _ rfl _ rfl i rfl hlt ?_) | (with_reducible refine ld1 rfl 3 isAgg_int _ rfl _ rfl _ hct ?_))
              go_ret2
              exact ⟨hb, fun _ => rfl, fun vs h => by rw [HE2.out] at h; cases h⟩
            | lo :: r, HL1, HE, HV2, hx, hc =>
              obtain ⟨b, off, rfl, hbl, hxx⟩ := hx.resolve_left (by simp)
              have hx0 : wo.cell? ⟨b, off, none⟩ = some (.int .u64 (lo : Int)) := hxx 0 lo rfl
              have hb0 : lo < 18446744073709551616 := HL1.out lo (by simp)
              clear hxx hx
              have hob := hown.lt
              have HOB := Lib.hid hob
              clear hob
              go_wp2_with (first | (with_reducible refine ix1 rfl 23 size_si under_si _ _ rfl tb toff _ _ rfl _ rfl i rfl hlt ?_) | (with_reducible refine ld1 rfl 3 isAgg_int _ rfl _ rfl _ hct ?_) | (go_at_call 62; refine (join_k lo 0 _).mono ?_; rintro e u2 ⟨rfl, hb2⟩; have hb3 := below_new hb (Nat.le_refl _) _ hb2; have hwu := below_new (Below.refl wo.heap.size wo) (Nat.le_refl _) _ hb2) | (at_builtin; rw [lay_one]; refine app_vec1 rfl _ _ rfl w.heap.size _ vs1 (setN (setN 0 64 0 lo) 64 1 0) _ _ rfl ((ownv_below hown hwu).alloc _) rfl (heap_alloc_new _ _) (by omega) (by have := hb3.size; simp; omega) ?_; intro v5 x5 ho5 hg5))
              have hb6 : Below w.heap.size w x5 := (hb3.alloc hb3.size _).trans (grown_below hg5 (by have := hb3.size; simp; omega) (fun g e => (HOB.out g e).1))
              exact ⟨⟨i + 1, r, vs1 ++ [joinV lo 0], by omega, by go_num, cut_1 HV2.out, Lib.hid (fun x hx => HL1.out x (by simp [hx])), ho5, by simp [hvl], Lib.hid (by rw [HE.out, HD.out, takeV_i64, takeV_step]), hb6⟩, by simp [intOf]; omega⟩
          · have q126 : (t == 126) = false := by simp [h126]
            have hE := HE.out
            rw [HD.out, takeV_bad _ _ _ H123.out H127.out h126] at hE
            have HE2 := Lib.hid hE
            clear hE h126
            go_wp2_with (first | (with_reducible refine ix1 rfl 23 size_si under_si _ _ rfl tb toff _ _ rfl _ rfl i rfl hlt ?_) | (with_reducible refine ld1 rfl 3 isAgg_int _ rfl _ rfl _ hct ?_))
            go_ret2
            exact ⟨hb, fun _ => rfl, fun vs h => by rw [HE2.out] at h; cases h⟩
    · obtain rfl : i = types.length := by omega
      have hd0 : takeV (types.drop types.length) hs1 = takeV [] hs1 := by rw [List.drop_length]
      match hs1, HE, hv2 with
      | [], HE, hv2 =>
        obtain ⟨ad, c, rfl, hc, hx⟩ := hv2.ex
        clear hx hc hv2
        have hE : takeV types hs = some vs1 := by rw [HE.out, hd0]; simp [takeV]
        have HE2 := Lib.hid hE
        clear hE hd0
        go_wp2_with fail
        go_ret2
        exact ⟨hb, (fun h => by rw [HE2.out] at h; cases h), fun vs h => by rw [HE2.out] at h; injection h with h; subst h; exact ⟨_, rfl, hown⟩⟩
      | x :: r, HE, hv2 =>
        obtain ⟨ad, c, rfl, hc, hx⟩ := hv2.ex
        clear hx hc hv2
        have hE : takeV types hs = none := by rw [HE.out, hd0]; simp [takeV]
        have HE2 := Lib.hid hE
        clear hE hd0
        go_wp2_with fail
        go_ret2
        exact ⟨hb, fun _ => rfl, fun vs h => by rw [HE2.out] at h; cases h⟩

end Go.Proofs.Ytcpfabkokgiepaa
