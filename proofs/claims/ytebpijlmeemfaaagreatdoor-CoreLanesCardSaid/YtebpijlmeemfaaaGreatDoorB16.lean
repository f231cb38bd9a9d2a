/- A part of the proof that plaittop.CoreLanes returns true. -/
import Derived.Test.YtebpijlmeemfaaaGreatDoorA17
import Derived.Test.YtebpijlmeemfaaaGreatDoorB09
set_option linter.all false
set_option linter.unusedSectionVars false
set_option linter.unusedSimpArgs false
set_option linter.unusedVariables false
section
set_option maxRecDepth 100000
namespace Ev
open Go Go.Proofs
noncomputable def stS (V L : List CV) (nil : Bool) (at_ fuel : Nat) (R9 : Row) : List (Nat × Row) :=
  [(1, rowOf [.ptr 2 0, .ptr 3 0, i64c at_, (match nil with | true => .snil | false => .sl 4 0 V.length (.minus 0)), .sl 5 0 L.length (.minus 0)] 242 5),
   (2, rowOf [.ptr 6 0, i64c fuel, i64c 0, i64c 1, i64c 0] 140 5),
   (3, rowOf [.any, .any, .any, i64c 0] 100 7)] ++ (match nil with | true => [] | false => [(4, rowOf V 26 1)]) ++
  [(5, rowOf L 26 1),
   (6, rowOf [.any, .any, .ptr 7 0] 127 16),
   (7, rowOf [.any, .any, .any, .any, .any, .any, .any, .any, .any, .any, .any, .any, .any, .any, .any, .ptr 8 0] 109 16),
   (8, rowOf [.sl 9 0 65536 (.known 65536)] 123 2),
   (9, R9)]
noncomputable def rnExt (f : Nat) (args : List PV) : Option (Nat → M AV) := match Nat.beq f 265 with
 | true => (match args with | [.one (.int .i64 (.ofNat op)), .one (.w x), .one (.w y)] => (match memB op [83, 84, 85, 124, 125, 126, 131, 132, 133, 134, 135, 136] with | true => some (fun _ => .pure (.tup [.one (.w (Nm.bB op x y)), .one (i64c 0)])) | false => none) | _ => none)
 | false => match Nat.beq f 264 with
  | true => (match args with | [.one (.int .i64 (.ofNat op)), .one (.w x)] => (match Nat.beq op 173 with | true => some (fun _ => .pure (.tup [.one (.w ((x.setWidth 32).setWidth 64)), .one (i64c 0)])) | false => none) | _ => none)
  | false => none
noncomputable def anyRow : Row := ⟨.live, 65536, .any, .nil, 5, 1⟩
noncomputable def evS (op a : Nat) (n : CV) (V L : List CV) (nil : Bool) (at_ fuel : Nat) (R9 : Row) : R AV :=
 evCall ty2 fns2 rnExt 5000 9 120 [.one (.ptr 1 0), .agg [i64c op, i64c a, n]] (2 ^ 300) (hOf (stS V L nil at_ fuel R9))
structure StO where
 V : List CV
 L : List CV
 at_ : CV
 fuel : CV
noncomputable def onlyIn (l m : List Nat) : Bool := List.rec (motive := fun _ => Bool) true (fun x _ ih => Bool.rec (motive := fun _ => Bool) false ih (memB x m)) l
noncomputable def stepOut (r : R AV) (ws : List Nat) : Option StO :=
 match r with
 | .ok (.tup []) h l => (match h.find 1, h.find 2, h.find 5 with
  | some r1, some r2, some r5 => (match r1.at 3, r1.at 4 with
   | .sl i 0 n (.minus 0), .sl 5 0 m (.minus 0) => (match h.find i with
    | some r4 => (match okRow r1 242 5 && Nat.beq r1.n 5 && isP (r1.at 0) 2 && isP (r1.at 1) 3 && okRow r2 140 5 && Nat.beq r2.n 5 && isP (r2.at 0) 6 && isJ (r2.at 2) 0 && isJ (r2.at 3) 1 && isJ (r2.at 4) 0 && okRow r4 26 1 && Nat.ble n r4.n && okRow r5 26 1 && Nat.beq r5.n m && (match Nat.beq i 5 with | true => false | false => true) && onlyIn l.w ws with
     | true => some ⟨r4.cells n 0, r5.cells m 0, r1.at 2, r2.at 1⟩
     | false => none)
    | none => none)
   | _, _ => none)
  | _, _, _ => none)
 | _ => none
noncomputable def nilOut (r : R AV) : Option StO :=
 match r with
 | .ok (.tup []) h l => (match h.find 1, h.find 2, h.find 5 with
  | some r1, some r2, some r5 => (match r1.at 3, r1.at 4 with
   | .snil, .sl 5 0 m (.minus 0) => (match okRow r1 242 5 && Nat.beq r1.n 5 && isP (r1.at 0) 2 && isP (r1.at 1) 3 && okRow r2 140 5 && Nat.beq r2.n 5 && isP (r2.at 0) 6 && isJ (r2.at 2) 0 && isJ (r2.at 3) 1 && isJ (r2.at 4) 0 && okRow r5 26 1 && Nat.beq r5.n m && onlyIn l.w [1, 2] with
     | true => some ⟨[], r5.cells m 0, r1.at 2, r2.at 1⟩
     | false => none)
   | _, _ => none)
  | _, _, _ => none)
 | _ => none
noncomputable def row9 (r : R AV) : Option Row := match r with | .ok _ h _ => h.find 9 | _ => none
noncomputable def memR (a : Nat) (b : Nat → Nat) : Row := { anyRow with tr := setAll ((List.range 8).map fun i => .int .u8 (.ofNat (b i))) .nil a }
noncomputable def ldI (b : Nat → Nat) : Nat → Int
 | 0 => 0
 | i + 1 => IntKind.u64.wrap (BitVec.ofInt 64 (ldI b i) ||| BitVec.ofInt 64 (IntKind.u64.wrap (IntKind.u64.wrap (.ofNat (b i)) * 2 ^ min (8 * i) 64))).toNat
noncomputable def bytesL (x : Nat) : List CV := (List.range 8).map fun i => .int .u8 (IntKind.u8.wrap (Int.fdiv (.ofNat x) (2 ^ min (8 * i) 64)))
end Ev
end
section
set_option maxRecDepth 100000
namespace Ev
open Go Go.Proofs
noncomputable def u0 : CV := .int .u64 (.ofNat 0)
noncomputable def seqN (f : Nat → B64) (n : Nat) : List CV := (List.range n).map fun i => .w (f i)
noncomputable def nextC (at_ : Nat) : CV := .int .i64 (IntKind.i64.wrap (Int.ofNat at_ + 1))
noncomputable def mS : List Nat := [4, 5, 6, 8, 12]
noncomputable def pairsN (lo hi : Nat) : List (Nat × Nat) := (List.range' lo (hi - lo)).flatMap fun n => mS.map fun m => (n, m)
noncomputable def pairsA (lo hi : Nat) : List (Nat × Nat × Nat) := (List.range' lo (hi - lo)).flatMap fun n => mS.flatMap fun m => (List.range m).map fun a => (n, m, a)
noncomputable abbrev W4 : List Nat := [1, 2, 4, 5]
noncomputable def getL (v l : Nat → B64) (t f : Nat) (x : Nat × Nat × Nat) : Option StO := stepOut (evS 32 x.2.2 u0 (seqN v x.1) (seqN l x.2.1) false t f anyRow) W4
noncomputable def getR (v l : Nat → B64) (t f : Nat) (x : Nat × Nat × Nat) : Option StO := some ⟨seqN v x.1 ++ [.w (l x.2.2)], seqN l x.2.1, nextC t, i64c f⟩
noncomputable def setL (v l : Nat → B64) (t f : Nat) (x : Nat × Nat × Nat) : Option StO := stepOut (evS 33 x.2.2 u0 (seqN v (x.1 + 1)) (seqN l x.2.1) false t f anyRow) W4
noncomputable def setR (v l : Nat → B64) (t f : Nat) (x : Nat × Nat × Nat) : Option StO := some ⟨seqN v x.1, (List.range x.2.1).map (fun i => .w (if i = x.2.2 then v x.1 else l i)), nextC t, i64c f⟩
noncomputable def numL (v l : Nat → B64) (t f : Nat) (y : B64) (x : Nat × Nat) : Option StO := stepOut (evS 66 0 (.w y) (seqN v x.1) (seqN l x.2) false t f anyRow) W4
noncomputable def numR (v l : Nat → B64) (t f : Nat) (y : B64) (x : Nat × Nat) : Option StO := some ⟨seqN v x.1 ++ [.w y], seqN l x.2, nextC t, i64c f⟩
noncomputable def nilL (l : Nat → B64) (t f : Nat) (y : B64) (x : Nat) : Option StO := stepOut (evS 66 0 (.w y) [] (seqN l x) true t f anyRow) W4
noncomputable def nilR (l : Nat → B64) (t f : Nat) (y : B64) (x : Nat) : Option StO := some ⟨[.w y], seqN l x, nextC t, i64c f⟩
noncomputable def binL (op : Nat) (v l : Nat → B64) (t f : Nat) (x : Nat × Nat) : Option StO := stepOut (evS op 0 u0 (seqN v (x.1 + 2)) (seqN l x.2) false t f anyRow) W4
noncomputable def binR (op : Nat) (v l : Nat → B64) (t f : Nat) (x : Nat × Nat) : Option StO := some ⟨seqN v x.1 ++ [.w (Nm.bB op (v x.1) (v (x.1 + 1)))], seqN l x.2, nextC t, i64c f⟩
noncomputable def unL (v l : Nat → B64) (t f : Nat) (x : Nat × Nat) : Option StO := stepOut (evS 173 0 u0 (seqN v (x.1 + 1)) (seqN l x.2) false t f anyRow) W4
noncomputable def unR (v l : Nat → B64) (t f : Nat) (x : Nat × Nat) : Option StO := some ⟨seqN v x.1 ++ [.w (((v x.1).setWidth 32).setWidth 64)], seqN l x.2, nextC t, i64c f⟩
noncomputable def selL (c : Nat) (v l : Nat → B64) (t f : Nat) (x : Nat × Nat) : Option StO := stepOut (evS 27 0 u0 (seqN v (x.1 + 2) ++ [.int .u64 (.ofNat c)]) (seqN l x.2) false t f anyRow) W4
noncomputable def selR (c : Nat) (v l : Nat → B64) (t f : Nat) (x : Nat × Nat) : Option StO := some ⟨seqN v x.1 ++ [.w (v (x.1 + 1 - c))], seqN l x.2, nextC t, i64c f⟩
noncomputable def tickL (v l : Nat → B64) (t : Nat) (x : Nat × Nat × Nat) : Option StO := stepOut (evS 257 0 u0 (seqN v x.1) (seqN l x.2.1) false t (x.2.2 + 44) anyRow) W4
noncomputable def tickR (v l : Nat → B64) (t : Nat) (x : Nat × Nat × Nat) : Option StO := some ⟨seqN v x.1, seqN l x.2.1, nextC t, i64c (x.2.2 + 43)⟩
noncomputable def tnL (l : Nat → B64) (t : Nat) (x : Nat) : Option StO := nilOut (evS 257 0 u0 [] (seqN l x) true t 50 anyRow)
noncomputable def tnR (l : Nat → B64) (t : Nat) (x : Nat) : Option StO := some ⟨[], seqN l x, nextC t, i64c 49⟩
noncomputable def ldL (v l : Nat → B64) (t f : Nat) (b : Nat → Nat) (x : (Nat × Nat × Nat) × Nat) : Option StO := stepOut (evS 41 0 (.int .u64 (.ofNat x.1.2.2)) (seqN v x.1.1 ++ [.int .u64 (.ofNat x.1.2.1)]) (seqN l x.2) false t f (memR (x.1.2.1 + x.1.2.2) b)) W4
noncomputable def ldR (v l : Nat → B64) (t f : Nat) (b : Nat → Nat) (x : (Nat × Nat × Nat) × Nat) : Option StO := some ⟨seqN v x.1.1 ++ [.int .u64 (ldI b 8)], seqN l x.2, nextC t, i64c f⟩
noncomputable def lds : List ((Nat × Nat × Nat) × Nat) := [(1, 0, 5), (2, 0, 13), (3, 16, 9), (4, 16, 17)].flatMap fun x => mS.map fun m => (x, m)
noncomputable def stE (l : Nat → B64) (t f y : Nat) (T : Tr CV) (x : Nat × Nat) : R AV := evS 55 0 (.int .u64 (.ofNat x.1)) [.int .u64 (.ofNat 64), .int .u64 (.ofNat y)] (seqN l x.2) false t f ⟨.live, 65536, .any, T, 5, 1⟩
noncomputable def sts : List (Nat × Nat) := [11, 3].flatMap fun x => mS.map fun m => (x, m)
noncomputable def ticks : List (Nat × Nat × Nat) := (List.range 6).flatMap fun n => mS.flatMap fun m => (List.range 7).map fun f => (n, m, f)
end Ev
end
