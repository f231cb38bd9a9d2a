/-
  Texts VcAl.
-/
import Derived.Test.YtcpfabkokgiepaaQ41
import Derived.Test.YtcpfabkokgiepaaQ51
import Derived.Deep.Cut
set_option linter.unusedSimpArgs false
set_option linter.unusedVariables false
set_option maxHeartbeats 8000000
open Pl
namespace Go.Proofs.Ytcpfabkokgiepaa
open Go.RowKit Pl
theorem doV_len (op A : Int) (lo hi : Nat) (hs : List Nat) : (doV op A lo hi hs).1.length ≤ 2 := by
 have hM : ∀ m : Vec × Int, (doM m).1.length ≤ 2 := fun m => by unfold doM; split <;> simp
 have hN : ∀ m : Int × Int, (doN m).1.length ≤ 2 := fun m => by unfold doN; split <;> simp
 unfold doV
 split
 ·simp
 ·split
  ·unfold doR
   split
   ·simp
   ·split
    ·exact hM _
    ·exact hN _
  ·simp
set_option maxRecDepth 100000 in
theorem all_walk (op A B : Int) (lo hi : Nat) (L hv : Value) (hs : List Nat) (w : World) (ho : -9223372036854775808 ≤ op ∧ op ≤ 9223372036854775807) (hlo : lo < 2 ^ 64) (hhi : hi < 2 ^ 64) (hH : LView .u64 w hv (hs.map Nat.cast)) (hlt : ∀ x ∈ hs, x < 18446744073709551616) (hhs : hs.length ≤ 9223372036854775807) :
 Calls Try.prog 3 #[.agg #[.int .i64 op, .int .i64 A, .int .i64 B, .int .u64 (lo : Nat), .int .u64 (hi : Nat), L], hv] w fun e w' => e = .returned (.bool true) ∧ Below w.heap.size w w' := by
 have D1 := Lib.hid (fun W (h : Below w.heap.size w W) => do_k op A B lo hi L hv hs W ho (hH.below h) hlt)
 have D2 := Lib.hid (fun W (h : Below w.heap.size w W) => rdo_k op A B lo hi L hv hs W ho hlo hhi (hH.below h) hlt hhs)
 have N1 := Lib.hid (fun W => is_k op W ho)
 have N2 := Lib.hid (fun W => ris_k op W)
 have hl2 := doV_len op A lo hi hs
 generalize doV op A lo hi hs = R at D1 D2 hl2
 generalize isB op = IB at N1 N2
 clear ho hlo hhi hH hlt hhs
 go_enter Try.func3, Try.ntmps3
 go_upto_region 1 with fail
 obtain ⟨W, hW⟩ : ∃ W, W = w.alloc (.cells #[.int .i64 op, .int .i64 A, .int .i64 B, .int .u64 (lo : Nat), .int .u64 (hi : Nat), L] 25) := ⟨_, rfl⟩
 have hI : W.heap[w.heap.size]? = some (.cells #[.int .i64 op, .int .i64 A, .int .i64 B, .int .u64 (lo : Nat), .int .u64 (hi : Nat), L] 25 (0, 0)) := hW ▸ heap_alloc_new _ _
 have hZ : Below w.heap.size w W := hW ▸ (Below.refl _ _).alloc (Nat.le_refl _) _
 rw [← hW]
 clear hW
 go_wp2_with (first
  | (go_at_call 9; (with_reducible refine (awake_k _).mono ?_); rintro e u0 ⟨rfl, hb⟩; replace hI := mV hI hb; replace hZ := hZ.trans (hb.mono hZ.size); clear hb)
  | (with_reducible refine Great.wpList_readTo rfl _ rfl _ (run_lin _ rfl w.heap.size rfl _ _ _ _ _ _ hI) ?_)
  | (go_at_call 10; (with_reducible refine (D1.out _ hZ).mono ?_); rintro e u1 ⟨hd, hb⟩; obtain ⟨r1, rfl, v1⟩ := hd.view; clear hd; replace hI := mV hI hb; replace hZ := hZ.trans (hb.mono hZ.size); clear hb)
  | (go_at_call 11; (with_reducible refine (D2.out _ hZ).mono ?_); rintro e u2 ⟨hd, hb⟩; obtain ⟨r2, rfl, v2⟩ := hd.view; clear hd; replace hI := mV hI hb; replace v1 := v1.below hb; replace hZ := hZ.trans (hb.mono hZ.size); clear hb))
 have eS : ∀ W, Below u2.heap.size u2 W → Calls Try.prog 12 #[r1, r2] W fun e w' => e = .returned (.bool true) ∧ Below W.heap.size W w' := fun W hW => same_tt r1 r2 _ W (v1.below hW) (v2.below hW) (by rw [List.length_map]; omega)
 replace eS := Lib.hid eS
 clear v1 v2
 refine mN (fun u => Below u2.heap.size u2 u) 17 (by kernel_rfl) (by kernel_rfl) (Below.refl _ _).drew ?_
 simp only [zP, zN, zM, zL]
 repeat (first | (refine z8 ?_) | (refine z9 ?_) | (refine wpD_callg (v := .bool true) rfl 12 ?_ (fun u => ?_) (fun u hS => ?_) ?_; rotate_left 1; (focus (go_simp; (try with_reducible rfl); done)); (focus ((with_reducible refine (eS.out _ hS).mono ?_); rintro e uC ⟨rfl, hb⟩; exact ⟨rfl, Below.trans hS (hb.mono hS.size)⟩)); simp only [Act.put, z5, z6, z7]) | (refine rS rfl (fun u hS => pD _ mM _ rfl w.heap.size 0 rfl (.int .i64 op) (by rw [cell_of_row u w.heap.size 0 _ _ _ (mV hI hS)]; rfl)) ?_; simp only [Act.put, z5, z6, z7]) | (refine wpD_callg (v := .bool IB) rfl 13 ?_ (fun u => ?_) (fun u hS => ?_) ?_; rotate_left 1; (focus (go_simp; (try with_reducible rfl); done)); (focus ((with_reducible refine (N1.out _).mono ?_); rintro e uC ⟨rfl, hb⟩; exact ⟨rfl, Below.trans hS (hb.mono hS.size)⟩)); simp only [Act.put, z5, z6, z7]) | (refine wpD_callg (v := .bool IB) rfl 14 ?_ (fun u => ?_) (fun u hS => ?_) ?_; rotate_left 1; (focus (go_simp; (try with_reducible rfl); done)); (focus ((with_reducible refine (N2.out _).mono ?_); rintro e uC ⟨rfl, hb⟩; exact ⟨rfl, Below.trans hS (hb.mono hS.size)⟩)); simp only [Act.put, z5, z6, z7]))
 refine mH (fun u3 hr => ?_)
 have hZ3 := hZ.trans (hr.mono hZ.size)
 clear hr
 go_wp2_with fail
 go_ret
 exact ⟨rfl, hZ3⟩
end Go.Proofs.Ytcpfabkokgiepaa
