/- A part of the proof that plaittop.CoreLanes returns true. -/
import Derived.Test.YtebpijlmeemfaaaGreatDoorB09
import Derived.Test.YtebpijlmeemfaaaGreatDoorB15
set_option linter.all false
set_option linter.unusedSectionVars false
set_option linter.unusedSimpArgs false
set_option linter.unusedVariables false
section
set_option maxRecDepth 100000
namespace Ev
open Go Go.Proofs
def Tr.vals {α : Type} : Tr α → List α
 | .nil => []
 | .node v a b => (match v with | some x => [x] | none => []) ++ Tr.vals a ++ Tr.vals b
noncomputable def idP (c : CV) : Nat := match c with | .ptr i _ => i | _ => 0
noncomputable def isPt (c : CV) : Bool := match c with | .ptr _ 0 => true | _ => false
noncomputable def idS (c : CV) : Nat := match c with | .sl i _ _ _ => i | _ => 0
noncomputable def isSl (n : Nat) (c : CV) : Bool := match c with | .sl _ 0 m (.minus 0) => Nat.beq m n | _ => false
noncomputable def isSk (n k : Nat) (c : CV) : Bool := match c with | .sl _ 0 m (.known l) => Nat.beq m n && Nat.beq l k | _ => false
noncomputable def isF (c : CV) : Bool := match c with | .bool false => true | _ => false
noncomputable def isN (c : CV) : Bool := match c with | .snil => true | _ => false
noncomputable def isM1 (c : CV) : Bool := match c with | .int .i64 (.negSucc 0) => true | _ => false
noncomputable def isU (n : Nat) (c : CV) : Bool := match c with | .int .u64 (.ofNat m) => Nat.beq m n | _ => false
noncomputable def cellsOK (r : Row) : List Ln.C → Nat → Bool
 | [], _ => true
 | c :: l, j => isJ (r.at j) c.1 && isJ (r.at (j + 1)) c.2.1 && isU c.2.2 (r.at (j + 2)) && cellsOK r l (j + 3)
noncomputable def okN (r : Row) (el sz n : Nat) : Bool := okRow r el sz && Nat.ble n r.n
noncomputable def isByt (c : CV) : Bool := match c with | .fb _ _ _ => true | .int .u8 (.ofNat m) => Nat.beq m 0 | _ => false
noncomputable def valC (c : CV) : Nat := match c with | .fb F β i => F β i | _ => 0
noncomputable def chkQ (rQ : Row) : Bool := okN rQ 5 1 65536 && Nat.ble rQ.n 65536 && isByt rQ.d && (Tr.vals rQ.tr).all isByt
noncomputable def chkN (k : Nat) (rN rX : Row) : Bool := okN rN 100 7 6 && isM1 (rN.at 0) && isJ (rN.at 1) 0 && isJ (rN.at 2) 0 && isJ (rN.at 3) 0 && isJ (rN.at 4) (Ln.cellsOf k).2 && isSl ((allC k).length + 1) (rN.at 5) && okN rX 133 3 (((allC k).length + 1) * 3) && cellsOK rX (allC k ++ [(15, 0, 0)]) 0
noncomputable def chkM (rM rT rH rS rm : Row) : Bool := okN rM 127 16 16 && isSl 1 (rM.at 0) && isSl 1 (rM.at 1) && isPt (rM.at 2) && isPt (rM.at 3) && isF (rM.at 15) && okN rT 39 2 2 && isN (rT.at 0) && okN rH 137 3 0 && okN rS 109 16 16 && isPt (rS.at 15) && okN rm 123 2 2 && isSk 65536 65536 (rm.at 0) && isJ (rm.at 1) 1
def runB (k : Nat) (β : Nat → Nat) : Nat → Nat := stB (stB β 75 (rB k β 1)) 67 (rB k β 0)
noncomputable def runRow (k : Nat) (rQ : Row) : Row := { rQ with tr := setAll ((List.range 16).map fun i => CV.fb (runB k) (fun j => valC (rQ.at j)) (67 + i)) rQ.tr 67 }
noncomputable def runM (k iM : Nat) : M AV :=
 .get iM fun rM => .get (idS (rM.at 0)) fun rT => .get (idP (rM.at 3)) fun rH => .get (idS (rM.at 1)) fun rN => .get (idS (rN.at 5)) fun rX => .get (idP (rM.at 2)) fun rS => .get (idP (rS.at 15)) fun rm => .get (idS (rm.at 0)) fun rQ =>
  ifM (chkM rM rT rH rS rm && chkN k rN rX && chkQ rQ) (.put (idS (rm.at 0)) (runRow k rQ) (.pure (.p (.agg [i64c 0, .int .u32 (.ofNat 0), .any, i64c 43]))))
noncomputable def runExt (k : Nat) (f : Nat) (args : List PV) : Option (Nat → M AV) :=
 match Nat.beq f 13 with
 | false => sqExt f args
 | true => match args with
  | [.one (.ptr iM 0), .one (.int .i64 (.ofNat z)), .one .snil, .one (.int .i64 (.ofNat n))] => (match Nat.beq z 0 && Nat.beq n 50 with | true => some (fun _ => runM k iM) | false => none)
  | _ => none
def idF (f : Nat → Nat) (i : Nat) : Nat := f i
noncomputable def bytesF (a : Nat → Nat) : List CV := (List.range 16).map fun i => .fb idF a i
noncomputable def tm7 (k : Nat) : T := Tr.set (Tr.set (Tr.set (Tr.set .nil 0 (.p (.one (i64c (64768 + k))))) 4 (.p (.one (.ptr 1 0)))) 5 (.p (.one (.ptr 2 0)))) 9 (.p (.one (.sl 3 0 2 (.known 2))))
noncomputable def rm7 (a b : Nat → Nat) : List (Nat × Row) := [(1, rowOf (bytesF a) 23 16), (2, rowOf (bytesF b) 23 16), (3, ⟨.dead, 0, .nilp, .nil, 0, 0⟩)]
noncomputable def evA (k : Nat) (a b : Nat → Nat) : R CSt := evList ty2 (evCall ty2 fns2 (runExt k) 5000 17) (2 ^ (24 * 17)) 1000 (2 ^ (24 * 18)) 50 mid3 (tm7 k) 1000 (hOf (rm7 a b))
noncomputable def fF (c : CV) : (Nat → Nat) → Nat → Nat := match c with | .fb F _ _ => F | _ => fun _ _ => 0
noncomputable def fB (c : CV) : Nat → Nat := match c with | .fb _ β _ => β | _ => fun _ => 0
noncomputable def isFb (n : Nat) (c : CV) : Bool := match c with | .fb _ _ i => Nat.beq i n | _ => false
def posB (j : Nat) : Nat := match Nat.blt j 16 with | true => 5 + j | false => 9 + j
noncomputable def seen (c : CV) : ((Nat → Nat) → Nat → Nat) × List Nat := (fF c, (List.range 32).map fun j => fB c (posB j))
noncomputable def fbAll (rQ : Row) : Nat → Nat → Bool
 | 0, _ => true
 | n + 1, i => isFb i (rQ.at i) && fbAll rQ n (i + 1)
noncomputable def outA (r : R CSt) : Option (Bool × List (((Nat → Nat) → Nat → Nat) × List Nat)) :=
 match r with
 | .ok ⟨.normal, t, _⟩ h ⟨_, ws⟩ => (match Tr.get t 9, Tr.get t 16, Tr.get t 18 with
  | some (.p (.one c9)), some (.p (.one (.ptr iS 0))), some (.p (.one (.ptr iO 0))) => (match h.find iS, h.find iO with
   | some rS, some rO => (match h.find (idP (rS.at 15)) with
    | some rm => (match h.find (idS (rm.at 0)) with
     | some rQ => some ((match memB 3 ws with | true => false | false => true) && isSk 2 2 c9 && Nat.beq (idS c9) 3 && okN rO 68 4 4 && isJ (rO.at 0) 0 && isJ (rO.at 3) 43 && okN rS 109 16 16 && isPt (rS.at 15) && okN rm 123 2 2 && isSk 65536 65536 (rm.at 0) && isJ (rm.at 1) 1 && chkQ rQ && fbAll rQ 16 67, (rQ.cells 16 67).map seen)
     | none => none)
    | none => none)
   | _, _ => none)
  | _, _, _ => none)
 | _ => none
noncomputable def expA (k : Nat) (a b : Nat → Nat) : Option (Bool × List (((Nat → Nat) → Nat → Nat) × List Nat)) := some (true, List.replicate 16 (runB k, (List.range 16).map a ++ (List.range 16).map b))
end Ev
end
