/-
  Texts Pop.
-/
import Derived.Test.YtcpfabkokgiepaaQ00
import Derived.Lib.BitFns
set_option linter.unusedSimpArgs false
set_option linter.unusedVariables false
set_option maxHeartbeats 8000000
open Pl
namespace Pc
open Go
theorem sT : ∀ (f g x : Nat), Lib.popAux (f + g) x = Lib.popAux f (x % 2 ^ f) + Lib.popAux g (x / 2 ^ f)
 | 0, g, x => by simp [Lib.popAux]
 | f + 1, g, x => by
   rw [show f + 1 + g = (f + g) + 1 by omega]
   show x % 2 + Lib.popAux (f + g) (x / 2) = (x % 2 ^ (f + 1) % 2 + Lib.popAux f (x % 2 ^ (f + 1) / 2)) + _
   rw [sT f g (x / 2)]
   have e1 : x % 2 ^ (f + 1) % 2 = x % 2 := Nat.mod_mod_of_dvd _ ⟨2 ^ f, by rw [Nat.pow_succ, Nat.mul_comm]⟩
   have e2 : x % 2 ^ (f + 1) / 2 = x / 2 % 2 ^ f := by rw [Nat.pow_succ, Nat.mul_comm, Nat.mod_mul_right_div_self]
   have e3 : x / 2 ^ (f + 1) = x / 2 / 2 ^ f := by rw [Nat.div_div_eq_div_mul, Nat.pow_succ, Nat.mul_comm]
   rw [e1, e2, e3]; omega
def reps (c : Nat) : Nat → Nat
 | 0 => 0
 | k + 1 => c + 256 * reps c k
theorem dJ (b y m M : Nat) (hb : b < 256) (hm : m < 256) : (b + 256 * y) &&& (m + 256 * M) = (b &&& m) + 256 * (y &&& M) := by
 have h1 := Nat.and_mod_two_pow (a := b + 256 * y) (b := m + 256 * M) (n := 8)
 have h2 := Nat.and_div_two_pow (a := b + 256 * y) (b := m + 256 * M) (n := 8)
 rw [show (2 : Nat) ^ 8 = 256 from rfl] at h1 h2
 rw [show (b + 256 * y) % 256 = b by omega, show (m + 256 * M) % 256 = m by omega] at h1
 rw [show (b + 256 * y) / 256 = y by omega, show (m + 256 * M) / 256 = M by omega] at h2
 have := Nat.and_lt_two_pow b (y := m) (n := 8) hm
 omega
def f1 (k x : Nat) : Nat := (x / 2 &&& reps 85 k) + (x &&& reps 85 k)
def f2 (k x : Nat) : Nat := (x / 4 &&& reps 51 k) + (x &&& reps 51 k)
def f3 (k x : Nat) : Nat := (x / 16 + x) &&& reps 15 k
def t1 (b : Nat) : Nat := (b / 2 &&& 85) + (b &&& 85)
def t2 (b : Nat) : Nat := (b / 4 &&& 51) + (b &&& 51)
def t3 (b : Nat) : Nat := (b / 16 + b) &&& 15
theorem f1_step (k b y : Nat) (hb : b < 256) : f1 (k + 1) (b + 256 * y) = t1 b + 256 * f1 k y := by
 unfold f1 t1
 rw [show reps 85 (k + 1) = 85 + 256 * reps 85 k from rfl, show (b + 256 * y) / 2 = (b / 2 + 128 * (y % 2)) + 256 * (y / 2) by omega, dJ _ _ _ _ (by omega) (by decide), dJ _ _ _ _ hb (by decide)]
 have : (b / 2 + 128 * (y % 2)) &&& 85 = b / 2 &&& 85 := by
  have h : ∀ b : Fin 256, ∀ r : Fin 2, (b.val / 2 + 128 * r.val) &&& 85 = b.val / 2 &&& 85 := by decide +kernel
  exact h ⟨b, hb⟩ ⟨y % 2, Nat.mod_lt _ (by decide)⟩
 rw [this]; omega
theorem f2_step (k b y : Nat) (hb : b < 256) : f2 (k + 1) (b + 256 * y) = t2 b + 256 * f2 k y := by
 unfold f2 t2
 rw [show reps 51 (k + 1) = 51 + 256 * reps 51 k from rfl, show (b + 256 * y) / 4 = (b / 4 + 64 * (y % 4)) + 256 * (y / 4) by omega, dJ _ _ _ _ (by omega) (by decide), dJ _ _ _ _ hb (by decide)]
 have : (b / 4 + 64 * (y % 4)) &&& 51 = b / 4 &&& 51 := by
  have h : ∀ b : Fin 256, ∀ r : Fin 4, (b.val / 4 + 64 * r.val) &&& 51 = b.val / 4 &&& 51 := by decide +kernel
  exact h ⟨b, hb⟩ ⟨y % 4, Nat.mod_lt _ (by decide)⟩
 rw [this]; omega
theorem f3_step (k b y : Nat) (hb : b ≤ 68) (hy : y % 16 ≤ 4) : f3 (k + 1) (b + 256 * y) = t3 b + 256 * f3 k y := by
 unfold f3 t3
 rw [show reps 15 (k + 1) = 15 + 256 * reps 15 k from rfl, show (b + 256 * y) / 16 + (b + 256 * y) = (b / 16 + b + 16 * (y % 16)) + 256 * (y / 16 + y) by omega, dJ _ _ _ _ (by omega) (by decide)]
 have : (b / 16 + b + 16 * (y % 16)) &&& 15 = (b / 16 + b) &&& 15 := by
  have h : ∀ b : Fin 69, ∀ r : Fin 5, (b.val / 16 + b.val + 16 * r.val) &&& 15 = (b.val / 16 + b.val) &&& 15 := by decide +kernel
  exact h ⟨b, by omega⟩ ⟨y % 16, by omega⟩
 rw [this]
theorem byte_facts (b : Nat) (hb : b < 256) : t1 b < 256 ∧ t2 (t1 b) ≤ 68 ∧ t2 (t1 b) % 16 ≤ 4 ∧ t3 (t2 (t1 b)) = Lib.popAux 8 b ∧ Lib.popAux 8 b ≤ 8 := by
 have h : ∀ b : Fin 256, t1 b.val < 256 ∧ t2 (t1 b.val) ≤ 68 ∧ t2 (t1 b.val) % 16 ≤ 4 ∧ t3 (t2 (t1 b.val)) = Lib.popAux 8 b.val ∧ Lib.popAux 8 b.val ≤ 8 := by decide +kernel
 exact h ⟨b, hb⟩
def cnts : Nat → Nat → Nat
 | 0, _ => 0
 | k + 1, x => Lib.popAux 8 (x % 256) + 256 * cnts k (x / 256)
theorem f_all : ∀ (k x : Nat), x < 256 ^ k → f2 k (f1 k x) % 16 ≤ 4 ∧ f3 k (f2 k (f1 k x)) = cnts k x
 | 0, x, h => by
   simp [f1, f2, f3, reps, cnts]
 | k + 1, x, h => by
   obtain ⟨h1, h2⟩ := f_all k (x / 256) (by rw [Nat.pow_succ] at h; omega)
   obtain ⟨b1, b2, b3, b4, b5⟩ := byte_facts (x % 256) (Nat.mod_lt _ (by decide))
   have e : x = x % 256 + 256 * (x / 256) := by omega
   rw [e, f1_step _ _ _ (Nat.mod_lt _ (by decide)), f2_step _ _ _ b1]
   refine ⟨by omega, ?_⟩
   rw [f3_step _ _ _ b2 h1, b4, h2, ← e]
   rfl
theorem fold_cnts (x : Nat) (h : x < 2 ^ 64) : (let y := cnts 8 x; let z := y + y / 256; let u := z + z / 65536; (u + u / 4294967296) % 128) = Lib.popAux 64 x := by
 have a1 := sT 8 56 x
 have a2 := sT 8 48 (x / 256)
 have a3 := sT 8 40 (x / 256 / 256)
 have a4 := sT 8 32 (x / 256 / 256 / 256)
 have a5 := sT 8 24 (x / 256 / 256 / 256 / 256)
 have a6 := sT 8 16 (x / 256 / 256 / 256 / 256 / 256)
 have a7 := sT 8 8 (x / 256 / 256 / 256 / 256 / 256 / 256)
 rw [show (2 : Nat) ^ 8 = 256 from rfl] at *
 have e8 : x / 256 / 256 / 256 / 256 / 256 / 256 / 256 % 256 = x / 256 / 256 / 256 / 256 / 256 / 256 / 256 := by
  rw [show (2 : Nat) ^ 64 = 18446744073709551616 from rfl] at h; omega
 rw [a1, a2, a3, a4, a5, a6, a7]
 simp only [cnts, e8]
 have l : ∀ y, y < 256 → Lib.popAux 8 y ≤ 8 := fun y hy => (byte_facts y hy).2.2.2.2
 have l1 := l (x % 256) (Nat.mod_lt _ (by decide))
 have l2 := l (x / 256 % 256) (Nat.mod_lt _ (by decide))
 have l3 := l (x / 256 / 256 % 256) (Nat.mod_lt _ (by decide))
 have l4 := l (x / 256 / 256 / 256 % 256) (Nat.mod_lt _ (by decide))
 have l5 := l (x / 256 / 256 / 256 / 256 % 256) (Nat.mod_lt _ (by decide))
 have l6 := l (x / 256 / 256 / 256 / 256 / 256 % 256) (Nat.mod_lt _ (by decide))
 have l7 := l (x / 256 / 256 / 256 / 256 / 256 / 256 % 256) (Nat.mod_lt _ (by decide))
 have l8 := l (x / 256 / 256 / 256 / 256 / 256 / 256 / 256 ) (by omega)
 clear a1 a2 a3 a4 a5 a6 a7 l e8 h
 generalize Lib.popAux 8 (x % 256) = p1 at *
 generalize Lib.popAux 8 (x / 256 % 256) = p2 at *
 generalize Lib.popAux 8 (x / 256 / 256 % 256) = p3 at *
 generalize Lib.popAux 8 (x / 256 / 256 / 256 % 256) = p4 at *
 generalize Lib.popAux 8 (x / 256 / 256 / 256 / 256 % 256) = p5 at *
 generalize Lib.popAux 8 (x / 256 / 256 / 256 / 256 / 256 % 256) = p6 at *
 generalize Lib.popAux 8 (x / 256 / 256 / 256 / 256 / 256 / 256 % 256) = p7 at *
 generalize Lib.popAux 8 (x / 256 / 256 / 256 / 256 / 256 / 256 / 256 ) = p8 at *
 clear x
 rw [Nat.mul_zero, Nat.add_zero]
 obtain ⟨y, hy⟩ : ∃ y, y = p1 + 256 * (p2 + 256 * (p3 + 256 * (p4 + 256 * (p5 + 256 * (p6 + 256 * (p7 + 256 * p8)))))) := ⟨_, rfl⟩
 rw [← hy]
 have y1 : y / 256 = p2 + 256 * (p3 + 256 * (p4 + 256 * (p5 + 256 * (p6 + 256 * (p7 + 256 * p8))))) := by omega
 obtain ⟨z, hz⟩ : ∃ z, z = y + y / 256 := ⟨_, rfl⟩
 rw [← hz]
 rw [y1, hy] at hz
 clear hy y1 y
 have z1 : z / 65536 = (p3 + p4) + 256 * ((p4 + p5) + 256 * ((p5 + p6) + 256 * ((p6 + p7) + 256 * ((p7 + p8) + 256 * p8)))) := by omega
 obtain ⟨u, hu⟩ : ∃ u, u = z + z / 65536 := ⟨_, rfl⟩
 rw [← hu]
 rw [z1, hz] at hu
 clear hz z1 z
 have u1 : u / 4294967296 = (p5 + p6 + p7 + p8) + 256 * ((p6 + p7 + p8) + 256 * ((p7 + p8) + 256 * p8)) := by omega
 rw [u1, hu]
 omega
theorem pop64 (x : Nat) (h : x < 2 ^ 64) : (let y := f3 8 (f2 8 (f1 8 x)); let z := y + y / 256; let u := z + z / 65536; (u + u / 4294967296) % 128) = Lib.popAux 64 x := by
 rw [(f_all 8 x h).2]; exact fold_cnts x h
end Pc
