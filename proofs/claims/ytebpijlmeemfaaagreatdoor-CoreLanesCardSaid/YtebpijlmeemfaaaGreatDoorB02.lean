/- A part of the proof that plaittop.CoreLanes returns true. -/
import Derived.Orders
import Derived.Scope
import Derived.KernelRfl
set_option linter.all false
set_option linter.unusedSectionVars false
set_option linter.unusedSimpArgs false
set_option linter.unusedVariables false
section
namespace Ev
open Go
inductive Cap where
 | known (n : Nat)
 | minus (k : Nat)
 deriving Repr
inductive CV where
 | bool (b : Bool) | int (k : IntKind) (n : Int) | str (s : List UInt8)
 | ptr (id off : Nat) | nilp | sl (id off len : Nat) (cap : Cap) | snil
 | mp (id : Nat) | mnil | fn (f : Nat) (caps : List (Nat × Nat)) | fnil | emp | w (x : BitVec 64) | any
 | fb (F : (Nat → Nat) → Nat → Nat) (β : Nat → Nat) (i : Nat)
inductive PV where
 | one (c : CV) | agg (l : List CV)
inductive AV where
 | p (v : PV) | tup (l : List PV)
inductive TK where
 | bool | int (k : IntKind) | str | ptr (e : Nat) | slice (e : Nat) | arr (n e : Nat) | struct (fs : List (Nat × Nat × Bool)) | func | map | other
 deriving Repr
structure TI where
 size : Nat
 bytes : Nat
 kind : TK
 zero : List CV
noncomputable def TI.agg (t : TI) : Bool := match t.kind with | .arr .. | .struct .. => true | _ => false
inductive RK where
 | live | ro | dead | map
 deriving Repr
inductive Tr (α : Type) where
 | nil | node (v : Option α) (a b : Tr α)
noncomputable def Tr.get {α : Type} (t : Tr α) : Nat → Option α :=
 Tr.rec (motive := fun _ => Nat → Option α) (fun _ => none) (fun v _ _ ga gb k =>
  Bool.rec (motive := fun _ => Option α) (Bool.rec (motive := fun _ => Option α) (gb (Nat.sub (Nat.div k 2) 1)) (ga (Nat.div k 2)) (Nat.beq (Nat.mod k 2) 1)) v (Nat.beq k 0)) t
noncomputable def Tr.one {α : Type} (x : α) (d : Nat) : Nat → Tr α :=
 Nat.rec (motive := fun _ => Nat → Tr α) (fun _ => .nil) (fun _ ih k =>
  Bool.rec (motive := fun _ => Tr α) (Bool.rec (motive := fun _ => Tr α) (.node none .nil (ih (Nat.sub (Nat.div k 2) 1))) (.node none (ih (Nat.div k 2)) .nil) (Nat.beq (Nat.mod k 2) 1)) (.node (some x) .nil .nil) (Nat.beq k 0)) d
noncomputable def Tr.set {α : Type} (t : Tr α) (k : Nat) (x : α) : Tr α :=
 Tr.rec (motive := fun _ => Nat → Tr α) (fun k => Tr.one x 20 k) (fun v a b ga gb k =>
  Bool.rec (motive := fun _ => Tr α) (Bool.rec (motive := fun _ => Tr α) (.node v a (gb (Nat.sub (Nat.div k 2) 1))) (.node v (ga (Nat.div k 2)) b) (Nat.beq (Nat.mod k 2) 1)) (.node (some x) a b) (Nat.beq k 0)) t k
structure Row where
 kind : RK
 n : Nat
 d : CV
 tr : Tr CV
 elem : Nat
 size : Nat
noncomputable def Row.at (r : Row) (i : Nat) : CV := Option.rec (motive := fun _ => CV) r.d (fun c => c) (Tr.get r.tr i)
noncomputable def Row.cells (r : Row) (n : Nat) : Nat → List CV := Nat.rec (motive := fun _ => Nat → List CV) (fun _ => []) (fun _ ih off => r.at off :: ih (Nat.succ off)) n
noncomputable def setAll (l : List CV) : Tr CV → Nat → Tr CV := List.rec (motive := fun _ => Tr CV → Nat → Tr CV) (fun t _ => t) (fun c _ ih t i => ih (Tr.set t i c) (Nat.succ i)) l
noncomputable def rowOf (cells : List CV) (elem size : Nat) : Row := ⟨.live, cells.length, .nilp, setAll cells .nil 0, elem, size⟩
abbrev H := Tr (List (Nat × Row))
noncomputable def hk (id : Nat) : Nat := id % 1021
noncomputable def findId (id : Nat) (l : List (Nat × Row)) : Option Row :=
 List.rec (motive := fun _ => Option Row) none (fun x _ ih => Bool.rec (motive := fun _ => Option Row) ih (some x.2) (Nat.beq x.1 id)) l
noncomputable def setId (id : Nat) (r : Row) (l : List (Nat × Row)) : List (Nat × Row) :=
 List.rec (motive := fun _ => List (Nat × Row)) [(id, r)] (fun x l ih => Bool.rec (motive := fun _ => List (Nat × Row)) (x :: ih) ((id, r) :: l) (Nat.beq x.1 id)) l
noncomputable def H.bucket (h : H) (id : Nat) : List (Nat × Row) := Option.rec (motive := fun _ => List (Nat × Row)) [] (fun l => l) (Tr.get h (hk id))
noncomputable def H.find (h : H) (id : Nat) : Option Row := findId id (h.bucket id)
noncomputable def H.put (h : H) (id : Nat) (r : Row) : H := Tr.set h (hk id) (setId id r (h.bucket id))
structure Log where
 r : List Nat
 w : List Nat
 deriving Repr
noncomputable def memB (x : Nat) (l : List Nat) : Bool := List.rec (motive := fun _ => Bool) false (fun y _ ih => Bool.rec (motive := fun _ => Bool) ih true (Nat.beq y x)) l
noncomputable def ins (x : Nat) (l : List Nat) : List Nat := match memB x l with | true => l | false => x :: l
noncomputable def union (a b : List Nat) : List Nat := List.rec (motive := fun _ => List Nat) b (fun x _ ih => ins x ih) a
noncomputable def Log.app (a b : Log) : Log := ⟨union a.r b.r, union a.w b.w⟩
noncomputable def beyond (lo hi x : Nat) : Bool := match Nat.ble lo x with | true => Nat.ble hi x | false => true
noncomputable def outl (lo hi : Nat) (l : List Nat) : List Nat := List.rec (motive := fun _ => List Nat) [] (fun x _ ih => Bool.rec (motive := fun _ => List Nat) ih (x :: ih) (beyond lo hi x)) l
noncomputable def Log.out (lo hi : Nat) (l : Log) : Log := ⟨outl lo hi l.r, outl lo hi l.w⟩
inductive R (α : Type) where
 | no
 | ok (a : α) (h : H) (l : Log)
inductive M (α : Type) where
 | pure (a : α)
 | fail
 | get (id : Nat) (k : Row → M α)
 | put (id : Nat) (r : Row) (k : M α)
 | new (id : Nat) (r : Row) (k : M α)
noncomputable def M.run {α : Type} : M α → H → R α
 | .pure a, h => .ok a h ⟨[], []⟩
 | .fail, _ => .no
 | .get id k, h => match h.find id with
  | some r => match (k r).run h with
   | .ok a h' l => .ok a h' ⟨id :: l.r, l.w⟩
   | .no => .no
  | none => .no
 | .put id r k, h => match h.find id with
  | some _ => match k.run (h.put id r) with
   | .ok a h' l => .ok a h' ⟨l.r, id :: l.w⟩
   | .no => .no
  | none => .no
 | .new id r k, h => match h.find id with
  | some _ => .no
  | none => match k.run (h.put id r) with
   | .ok a h' l => .ok a h' ⟨l.r, id :: l.w⟩
   | .no => .no
noncomputable def PV.cells : PV → List CV
 | .one c => [c]
 | .agg l => l
noncomputable def PV.of (agg : Bool) (l : List CV) : Option PV :=
 match agg with | true => some (.agg l) | false => match l with | [c] => some (.one c) | _ => none
noncomputable def cvOf : Value → Option CV
 | .bool b => some (.bool b)
 | .int k n => some (.int k n)
 | .string s => some (.str s.data.toList)
 | .pointer none => some .nilp
 | .slice none 0 0 => some .snil
 | .map none => some .mnil
 | .nilFunc => some .fnil
 | _ => none
noncomputable def cvsOf : List Value → Option (List CV)
 | [] => some []
 | v :: l => match cvOf v, cvsOf l with | some c, some r => some (c :: r) | _, _ => none
noncomputable def avOf : Value → Option AV
 | .agg cs => match cvsOf cs.toList with | some l => some (.p (.agg l)) | none => none
 | .tuple cs => match cs.toList with | [] => some (.tup []) | _ => none
 | v => match cvOf v with | some c => some (.p (.one c)) | none => none
abbrev T := Tr AV
noncomputable def ev1 (t : T) : Operand → Option AV
 | .tmp k => Tr.get t k
 | .const v => avOf v
 | .func f => some (.p (.one (.fn f [])))
 | .global _ => none
section
variable (ρ : Operand → Option AV)
noncomputable def evP (x : Operand) : Option PV := match ρ x with | some (.p v) => some v | _ => none
noncomputable def evC (x : Operand) : Option CV := match ρ x with | some (.p (.one c)) => some c | _ => none
noncomputable def evI (x : Operand) : Option Int := match ρ x with | some (.p (.one (.int _ n))) => some n | _ => none
noncomputable def evPs : List Operand → Option (List PV)
 | [] => some []
 | x :: l => match evP ρ x, evPs l with | some c, some r => some (c :: r) | _, _ => none
noncomputable def parts : List (Nat × Operand) → Option (List (Nat × PV))
 | [] => some []
 | (i, x) :: l => match evP ρ x, parts l with | some c, some r => some ((i, c) :: r) | _, _ => none
noncomputable def evOI : Option Operand → Option (Option Int)
 | none => some none
 | some x => match evI ρ x with | some n => some (some n) | none => none
end
noncomputable def nilEq : TK → CV → CV → Option Bool
 | .bool, .bool a, .bool b => some (a == b)
 | .ptr _, .nilp, .nilp => some true
 | .ptr _, .nilp, .ptr _ _ => some false
 | .ptr _, .ptr _ _, .nilp => some false
 | .slice _, .snil, .snil => some true
 | .slice _, .snil, .sl _ _ _ _ => some false
 | .slice _, .sl _ _ _ _, .snil => some false
 | .func, .fnil, .fnil => some true
 | .func, .fnil, .fn _ _ => some false
 | .func, .fn _ _, .fnil => some false
 | _, _, _ => none
noncomputable def binInt (op : BinOp) (k : IntKind) (a b : Int) : Option CV :=
 match op with
 | .add => some (.int k (k.wrap (a + b)))
 | .sub => some (.int k (k.wrap (a - b)))
 | .mul => some (.int k (k.wrap (a * b)))
 | .quo => if b = 0 then none else some (.int k (k.wrap (a.tdiv b)))
 | .rem => if b = 0 then none else some (.int k (a.tmod b))
 | .and => some (.int k (k.wrap (BitVec.ofInt k.bits a &&& BitVec.ofInt k.bits b).toNat))
 | .or => some (.int k (k.wrap (BitVec.ofInt k.bits a ||| BitVec.ofInt k.bits b).toNat))
 | .xor => some (.int k (k.wrap (BitVec.ofInt k.bits a ^^^ BitVec.ofInt k.bits b).toNat))
 | .andNot => some (.int k (k.wrap (BitVec.ofInt k.bits a &&& ~~~ BitVec.ofInt k.bits b).toNat))
 | .eql => some (.bool (a == b))
 | .neq => some (.bool (a != b))
 | .lss => some (.bool (decide (a < b)))
 | .leq => some (.bool (decide (a ≤ b)))
 | .gtr => some (.bool (decide (a > b)))
 | .geq => some (.bool (decide (a ≥ b)))
 | _ => none
noncomputable def eqBytes : List UInt8 → List UInt8 → Bool
 | [], [] => true
 | a :: l, b :: m => (match Nat.beq a.toNat b.toNat with | true => eqBytes l m | false => false)
 | _, _ => false
noncomputable def evBin (ty : Nat → Option TI) (t : Nat) (op : BinOp) (x y : CV) : Option CV :=
 match x, y with
 | .int k a, .int k' b =>
  match op with
  | .shl => if b < 0 then none else some (.int k (k.wrap (a * 2 ^ min b.toNat k.bits)))
  | .shr => if b < 0 then none else some (.int k (a.fdiv (2 ^ min b.toNat k.bits)))
  | _ => if k = k' then binInt op k a b else none
 | .str a, .str b =>
  match op with
  | .eql => some (.bool (eqBytes a b))
  | .neq => some (.bool (!(eqBytes a b)))
  | _ => none
 | x, y =>
  match ty t with
  | some i => match op, nilEq i.kind x y with
   | .eql, some b => some (.bool b)
   | .neq, some b => some (.bool !b)
   | _, _ => none
  | none => none
noncomputable def evUn (op : UnOp) (x : CV) : Option CV :=
 match op, x with
 | .neg, .int k n => some (.int k (k.wrap (0 - n)))
 | .xor, .int k n => some (.int k (k.wrap (BitVec.ofInt k.bits (if k.signed then -1 else k.max) ^^^ BitVec.ofInt k.bits n).toNat))
 | .not, .bool b => some (.bool !b)
 | _, _ => none
noncomputable def cut (l : List CV) (off n : Nat) : Option (List CV) := if off + n ≤ l.length then some ((l.drop off).take n) else none
noncomputable def lay (l : List CV) (off : Nat) (vs : List CV) : Option (List CV) := if off + vs.length ≤ l.length then some (l.take off ++ vs ++ l.drop (off + vs.length)) else none
noncomputable def Row.cut (r : Row) (off n : Nat) : Option (List CV) := match Nat.ble (off + n) r.n with | true => some (r.cells n off) | false => none
noncomputable def Row.lay (r : Row) (off : Nat) (vs : List CV) : Option Row := match Nat.ble (off + vs.length) r.n, Nat.ble (off + vs.length) 1000000 with | true, true => some { r with tr := setAll vs r.tr off } | _, _ => none
noncomputable def fill (place : Nat → Option (Nat × Nat)) : List CV → List (Nat × PV) → Option (List CV)
 | l, [] => some l
 | l, (i, v) :: rest =>
  match place i with
  | none => none
  | some (off, size) => if v.cells.length = size then (match lay l off v.cells with | some m => fill place m rest | none => none) else none
noncomputable def catP (z : Nat) : Nat → Nat → List (Nat × PV) → Option (List CV)
 | 0, i, [] => some []
 | n + 1, i, (j, v) :: r => if j = i then (if v.cells.length = z then (match catP z n (i + 1) r with | some m => some (v.cells ++ m) | none => none) else none) else none
 | _, _, _ => none
noncomputable def fillN (z len : Nat) (zero : List CV) (l : List (Nat × PV)) : Option (List CV) :=
 match Nat.beq zero.length (len * z) with
 | true => match catP z len 0 l with
  | some m => some m
  | none => fill (fun k => some (k * z, z)) zero l
 | false => none
noncomputable def one (c : CV) : M AV := .pure (.p (.one c))
noncomputable def oneO (c : Option CV) : M AV := match c with | some c => one c | none => .fail
noncomputable def pvO (v : Option PV) : M AV := match v with | some v => .pure (.p v) | none => .fail
noncomputable def live (r : Row) (k : M AV) : M AV := match r.kind with | .live => k | _ => .fail
noncomputable def rd (r : Row) (k : M AV) : M AV := match r.kind with | .live => k | .ro => k | _ => .fail
noncomputable def newR (lo : Nat) (cells : List CV) (elem size : Nat) (c : CV) : M AV := match Nat.ble cells.length 1000000 with | true => .new lo (rowOf cells elem size) (one c) | false => .fail
noncomputable def more (row : Row) (m : Nat) (news : List CV) (elem size : Nat) : Row := ⟨.live, m + news.length, row.d, setAll news row.tr m, elem, size⟩
noncomputable def newMore (lo : Nat) (row : Row) (m : Nat) (news : List CV) (elem size : Nat) (c : CV) : M AV := match Nat.ble (m + news.length) 1000000 with | true => .new lo (more row m news elem size) (one c) | false => .fail
noncomputable def bytesOf (l : List UInt8) : List CV := l.map fun b => .int .u8 b.toNat
noncomputable def newRo (lo : Nat) (cells : List CV) (elem : Nat) (c : CV) : M AV := match Nat.ble cells.length 1000000 with | true => .new lo { rowOf cells elem 1 with kind := .ro } (one c) | false => .fail
section
variable (ty : Nat → Option TI)
noncomputable def appOwn (elem size id off len n : Nat) (cap : Cap) (row : Row) (news : List CV) : M AV :=
 live row (match row.lay (off + len * size) news with
 | some row => .put id row (one (.sl id off (len + n) cap))
 | none => .fail)
noncomputable def evAppend (lo : Nat) (elem size : Nat) (s : CV) (n : Nat) (news : List CV) : M AV :=
 match s with
 | .snil => if n = 0 then one .snil else if n ≤ 1000000 then newR lo news elem size (.sl lo 0 n (.minus 0)) else .fail
 | .sl id off len cap =>
  .get id fun row => rd row (if 1000000 < len + n then .fail else
   match cap with
   | .known c =>
    if len + n ≤ c then appOwn elem size id off len n cap row news
    else match row.cut off (len * size) with
     | some old => newR lo (old ++ news) elem size (.sl lo 0 (len + n) (.minus 0))
     | none => .fail
   | .minus k =>
    if off = k * size ∧ 0 < size ∧ row.size = size then
     if off + (len + n) * size ≤ row.n then appOwn elem size id off len n cap row news
     else if k = 0 ∧ row.elem = elem then
      match row.cut 0 (len * size) with
      | some _ => live row <| .put id { row with kind := .dead } (newMore lo row (len * size) news elem size (.sl lo 0 (len + n) (.minus 0)))
      | none => .fail
     else .fail
    else .fail)
 | _ => .fail
noncomputable def elems (size : Nat) (x : CV) (k : Nat → List CV → M AV) : M AV :=
 match x with
 | .snil => k 0 []
 | .emp => k 0 []
 | .sl id off len _ => .get id fun row => rd row (match row.cut off (len * size) with
   | some l => k len l
   | none => .fail)
 | _ => .fail
noncomputable def evLen (t : Nat) (x : PV) : M AV :=
 match ty t with
 | none => .fail
 | some i => match i.kind, x with
  | .slice _, .one (.sl _ _ n _) => one (.int .i64 n)
  | .slice _, .one .snil => one (.int .i64 0)
  | .slice _, .one .emp => one (.int .i64 0)
  | .map, .one .mnil => one (.int .i64 0)
  | .arr n _, _ => one (.int .i64 n)
  | .ptr e, _ => match ty e with
   | some j => match j.kind with
    | .arr n _ => one (.int .i64 n)
    | _ => .fail
   | none => .fail
  | _, _ => .fail
noncomputable def evCap (t : Nat) (x : PV) : M AV :=
 match ty t with
 | none => .fail
 | some i => match i.kind, x with
  | .slice _, .one (.sl _ _ _ (.known n)) => one (.int .i64 n)
  | .slice _, .one .snil => one (.int .i64 0)
  | _, _ => .fail
noncomputable def elemTI (s : Nat) : Option (Nat × TI) := match ty s with
 | some { kind := .slice e, .. } => match ty e with | some te => some (e, te) | none => none
 | _ => none
noncomputable def evAppB (lo s x : Nat) (a y : CV) : M AV :=
  match elemTI ty s, ty x with
  | some (e, te), some tx => match Nat.ble te.bytes 100000000 with
   | true => match tx.kind, y with
    | .int _, .int _ n => if 0 ≤ n ∧ n ≤ 1000000 then evAppend lo e te.size a n.toNat (List.replicate n.toNat te.zero).flatten else .fail
    | .int _, _ => .fail
    | _, y => elems te.size y fun n l => evAppend lo e te.size a n l
   | false => .fail
  | _, _ => .fail
noncomputable def evCopy (d : Nat) (a y : CV) : M AV :=
  match elemTI ty d with
  | some (_, te) => elems te.size y fun n l => match a with
    | .sl id off len _ => .get id fun row => live row (match row.lay off (l.take (min n len * te.size)) with
      | some row => .put id row (one (.int .i64 (min n len : Nat)))
      | none => .fail)
    | .snil => one (.int .i64 0)
    | _ => .fail
  | none => .fail
noncomputable def evBuiltin (lo : Nat) (b : Builtin) (argTypes : List Nat) (args : List PV) : M AV :=
 match b, argTypes, args with
 | .len, [t], [x] => evLen ty t x
 | .cap, [t], [x] => evCap ty t x
 | .append, [s, x], [.one a, .one y] => evAppB ty lo s x a y
 | .copy, [d, _], [.one a, .one y] => evCopy ty d a y
 | .max, _, [.one (.int k x), .one (.int k' y)] => one (.int k (if x < y then y else x))
 | .min, _, [.one (.int k x), .one (.int k' y)] => one (.int k (if y < x then y else x))
 | _, _, _ => .fail
noncomputable def orI (x : Option Int) (d : Int) : Int := match x with | some n => n | none => d
noncomputable def boundsOk (lo hi mx : Option Int) (len c : Nat) : Bool :=
 match decide (0 ≤ orI lo 0), decide (orI lo 0 ≤ orI hi len), decide (orI hi len ≤ orI mx c), decide (orI mx c ≤ c), mx, hi with
 | true, true, true, true, none, _ => true
 | true, true, true, true, some _, some _ => true
 | _, _, _, _, _, _ => false
noncomputable def cutKnown (size id off len c : Nat) (lo hi mx : Option Int) : M AV :=
 match boundsOk lo hi mx len c with
 | true => one (.sl id (if orI mx c = orI lo 0 then off else off + (orI lo 0).toNat * size) ((orI hi len).toNat - (orI lo 0).toNat) (.known ((orI mx c).toNat - (orI lo 0).toNat)))
 | false => .fail
noncomputable def evSlice (size : Nat) (x : CV) (lo hi mx : Option Int) : M AV :=
 match x with
 | .snil => match boundsOk lo hi mx 0 0 with
  | true => one .snil
  | false => .fail
 | .sl id off len (.known c) => cutKnown size id off len c lo hi mx
 | .sl id off len (.minus k) => .get id fun row => rd row (match mx with
  | none => if (off = k * size ∧ 0 < size ∧ row.size = size) ∧ (0 ≤ orI lo 0 ∧ orI lo 0 ≤ orI hi len) ∧ off + (orI hi len).toNat * size ≤ row.n ∧ (orI lo 0 = 0 ∨ off + (orI lo 0).toNat * size < row.n) then
    one (.sl id (off + (orI lo 0).toNat * size) ((orI hi len).toNat - (orI lo 0).toNat) (.minus (k + (orI lo 0).toNat)))
   else if (off = k * size ∧ 0 < size ∧ row.size = size) ∧ (0 ≤ orI lo 0 ∧ orI lo 0 ≤ orI hi len) ∧ off + (orI hi len).toNat * size ≤ row.n ∧ orI lo 0 = orI hi len then one .emp
   else .fail
  | some m => if (off = k * size ∧ 0 < size ∧ row.size = size) ∧ (0 ≤ orI lo 0 ∧ orI lo 0 ≤ orI hi len) ∧ (orI hi len ≤ m ∧ hi.isSome = true) ∧ off + m.toNat * size ≤ row.n then
    one (.sl id (if m = orI lo 0 then off else off + (orI lo 0).toNat * size) ((orI hi len).toNat - (orI lo 0).toNat) (.known (m.toNat - (orI lo 0).toNat)))
   else .fail)
 | _ => .fail
noncomputable def fnCaps : List PV → Option (List (Nat × Nat))
 | [] => some []
 | .one (.ptr a b) :: l => match fnCaps l with | some r => some ((a, b) :: r) | none => none
 | _ => none
section
variable (ρ : Operand → Option AV) (lo : Nat)
noncomputable def evBuild (ti : Nat) (ps : List (Nat × Operand)) : M AV :=
 match ty ti, parts ρ ps with
 | some i, some l => match i.kind with
  | .struct fs => pvO (match fill (fun k => match fs[k]? with | some (a, b, _) => some (a, b) | none => none) i.zero l with | some m => some (.agg m) | none => none)
  | .arr n e => match ty e with
   | some j => pvO (match fillN j.size n i.zero l with | some m => some (.agg m) | none => none)
   | none => .fail
  | _ => .fail
 | _, _ => .fail
noncomputable def evBuildSlice (ti len : Nat) (ps : List (Nat × Operand)) : M AV :=
 match elemTI ty ti, parts ρ ps with
 | some (e, j), some l => match catP j.size len 0 l with
   | some m => newR lo m e j.size (.sl lo 0 len (.known len))
   | none => .fail
 | _, _ => .fail
noncomputable def evLoad (ti : Nat) (a : Operand) : M AV :=
 match ty ti, evC ρ a with
 | some i, some (.ptr id off) => .get id fun row => rd row (match row.cut off i.size with
   | some cs => pvO (PV.of i.agg cs)
   | none => .fail)
 | _, _ => .fail
noncomputable def evStore (ti : Nat) (a x : Operand) : M AV :=
 match ty ti, evC ρ a, evP ρ x with
 | some i, some (.ptr id off), some v => if v.cells.length = i.size then (.get id fun row => live row (match row.lay off v.cells with
   | some row => .put id row (.pure (.tup []))
   | none => .fail)) else .fail
 | _, _, _ => .fail
noncomputable def evConvert (src dst : Nat) (x : Operand) : M AV :=
 match ty src, ty dst, evC ρ x with
 | some i0, some i, some c => match i.kind, c with
  | .slice e, .str s => (match i0.kind, ty e with
   | .str, some { kind := .int .u8, .. } => newRo lo (bytesOf s) e (.sl lo 0 s.length (.minus 0))
   | _, _ => .fail)
  | .int k, .int _ n => one (.int k (k.wrap n))
  | .str, .str s => one (.str s)
  | .slice e, .sl id off len cap => if src = dst then (match ty e with
   | some { kind := .int .u8, .. } => .get id fun row => rd row (.put id { row with kind := .ro } (one (.sl id off len cap)))
   | _ => .fail) else .fail
  | _, _ => .fail
 | _, _, _ => .fail
noncomputable def evMakeSlice (ti : Nat) (l c : Operand) : M AV :=
  match elemTI ty ti, evI ρ l, evI ρ c with
  | some (e, j), some n, some m => if 0 ≤ n ∧ n ≤ m ∧ m ≤ 1000000 then
      (match Nat.ble j.bytes 100000000 with
       | true => (match j.zero with
         | [z] => .new lo ⟨.live, m.toNat, z, .nil, e, j.size⟩ (one (.sl lo 0 n.toNat (.known m.toNat)))
         | z => newR lo (List.replicate m.toNat z).flatten e j.size (.sl lo 0 n.toNat (.known m.toNat)))
       | false => .fail) else .fail
  | _, _, _ => .fail
noncomputable def evSliceOp (ti : Nat) (x : Operand) (l hi mx : Option Operand) : M AV :=
 match ty ti, evC ρ x, evOI ρ l, evOI ρ hi, evOI ρ mx with
 | some i, some c, some lo', some hi', some mx' =>
  match i.kind, c with
  | .slice e, c => match ty e with | some j => evSlice j.size c lo' hi' mx' | none => .fail
  | .arr n e, .ptr id off => match ty e with
   | some j => cutKnown j.size id off n n lo' hi' mx'
   | none => .fail
  | .ptr a, .ptr id off => match ty a with
   | some j0 => match j0.kind with
    | .arr n e => match ty e with
     | some j => cutKnown j.size id off n n lo' hi' mx'
     | none => .fail
    | _ => .fail
   | _ => .fail
  | _, _ => .fail
 | _, _, _, _, _ => .fail
noncomputable def evField (s : Nat) (x : Operand) (f : Nat) : M AV :=
 match ty s, evP ρ x with
 | some { kind := .struct fs, .. }, some (.agg cs) => match fs[f]? with
  | some (fo, sz, ag) => if sz = 0 then .fail else pvO (match cut cs fo sz with | some l => PV.of ag l | none => none)
  | none => .fail
 | _, _ => .fail
noncomputable def evFieldAddr (s : Nat) (x : Operand) (f : Nat) : M AV :=
 match ty s, evC ρ x with
 | some { kind := .struct fs, .. }, some (.ptr id off) => match fs[f]? with
  | some (fo, sz, _) => if sz = 0 then .fail else one (.ptr id (off + fo))
  | none => .fail
 | _, _ => .fail
noncomputable def evIndexAddr (ti : Nat) (x ix : Operand) : M AV :=
 match ty ti, evC ρ x, evI ρ ix with
 | some i, some c, some n => match i.kind, c with
  | .slice e, .sl id off len _ => match ty e with
   | some j => if 0 ≤ n ∧ n < len then one (.ptr id (off + n.toNat * j.size)) else .fail
   | none => .fail
  | .arr len e, .ptr id off => match ty e with
   | some j => if 0 ≤ n ∧ n < len then one (.ptr id (off + n.toNat * j.size)) else .fail
   | none => .fail
  | _, _ => .fail
 | _, _, _ => .fail
noncomputable def evIndex (ti : Nat) (x ix : Operand) : M AV :=
 match ty ti, evP ρ x, evI ρ ix with
 | some i, some v, some n => match i.kind, v with
  | .arr len e, .agg cs => match ty e with
   | some j => if 0 ≤ n ∧ n < len then pvO (match cut cs (n.toNat * j.size) j.size with
    | some l => PV.of j.agg l
    | none => none) else .fail
   | none => .fail
  | .str, .one (.str s) => if 0 ≤ n then oneO (match s[n.toNat]? with | some b => some (.int .u8 b.toNat) | none => none) else .fail
  | _, _ => .fail
 | _, _, _ => .fail
noncomputable def opM (o : Op) : M AV :=
 match o with
 | .move x | .assign x => match ρ x with | some v => .pure v | none => .fail
 | .pick c a b => match evC ρ c with
  | some (.bool true) => match ρ a, ρ b with | some v, some _ => .pure v | _, _ => .fail
  | some (.bool false) => match ρ a, ρ b with | some _, some v => .pure v | _, _ => .fail
  | _ => .fail
 | .alloc e => match ty e with
  | some i => newR lo i.zero e i.size (.ptr lo 0)
  | none => .fail
 | .box e x => match evP ρ x with
  | some v => newR lo v.cells e v.cells.length (.ptr lo 0)
  | none => .fail
 | .build ti ps => evBuild ty ρ ti ps.toList
 | .buildSlice ti len ps => evBuildSlice ty ρ lo ti len ps.toList
 | .load ti a => evLoad ty ρ ti a
 | .store ti a x => evStore ty ρ ti a x
 | .nilCheck x => match evC ρ x with
  | some (.ptr id off) => one (.ptr id off)
  | some (.fn f cs) => one (.fn f cs)
  | _ => .fail
 | .binOp op t x y _ => match evC ρ x, evC ρ y with
  | some a, some b => oneO (evBin ty t op a b)
  | _, _ => .fail
 | .unOp op _ x => match evC ρ x with
  | some a => oneO (evUn op a)
  | _ => .fail
 | .convert src dst x => evConvert ty ρ lo src dst x
 | .makeFunc (.func f) first captured => match first.toList, evPs ρ captured.toList with
  | [], some l => oneO (match fnCaps l with | some cs => some (.fn f cs) | none => none)
  | _, _ => .fail
 | .makeMap _ none => .new lo ⟨.map, 0, .nilp, .nil, 0, 0⟩ (one (.mp lo))
 | .makeSlice ti l c => evMakeSlice ty ρ lo ti l c
 | .slice ti x l hi mx => evSliceOp ty ρ ti x l hi mx
 | .fieldAddr s x f => evFieldAddr ty ρ s x f
 | .field s x f => evField ty ρ s x f
 | .indexAddr ti x ix => evIndexAddr ty ρ ti x ix
 | .index ti x ix => evIndex ty ρ ti x ix
 | .extract x ix => match ρ x with
  | some (.tup l) => pvO l[ix]?
  | _ => .fail
 | .call { callee := .builtin b, args, argTypes } => match evPs ρ args.toList with
  | some args => evBuiltin ty lo b argTypes.toList args
  | none => .fail
 | _ => .fail
end
abbrev CallF := Nat → List PV → Nat → H → R AV
noncomputable def capArgs (l : List (Nat × Nat)) : List PV := l.map fun x => .one (.ptr x.1 x.2)
noncomputable def evOp (call : CallF) (ρ : Operand → Option AV) (lo : Nat) (o : Op) (h : H) : R AV :=
 match o with
 | .call { callee := .value f, args, .. } => match evC ρ f, evPs ρ args.toList with
  | some (.fn g cs), some args => call g (args ++ capArgs cs) lo h
  | _, _ => .no
 | o => (opM ty ρ lo o).run h
inductive Ex where
 | normal | ret | exit (id : Nat)
noncomputable def disj (a b : List Nat) : Bool := List.rec (motive := fun _ => Bool) true (fun x _ ih => Bool.rec (motive := fun _ => Bool) ih false (memB x b)) a
noncomputable def predsE (l : List Edge) : List Nat := List.rec (motive := fun _ => List Nat) [] (fun x _ ih => Bool.rec (motive := fun _ => List Nat) ih (x.on :: ih) (Region.binds .any x)) l
noncomputable def preds (ops : List Oper) (i : Nat) : List Nat := match ops[i]? with | some o => predsE o.after.toList | none => []
noncomputable def anc (ops : List Oper) : Nat → List Nat → List Nat → List Nat
 | 0, _, seen => seen
 | _ + 1, [], seen => seen
 | f + 1, i :: todo, seen => match memB i seen with
  | true => anc ops f todo seen
  | false => anc ops f (preds ops i ++ todo) (i :: seen)
noncomputable def ordered (ops : List Oper) (i j : Nat) : Bool := memB i (anc ops 2000 (preds ops j) [])
abbrev Ent := Nat × Log × (H → Bool)
noncomputable def softE (x : Ent) (h : H) : Bool := (match x.2.1 with | ⟨[_], []⟩ => true | _ => false) && x.2.2 h
noncomputable def mayGo (ops : List Oper) (S base i : Nat) (l : Log) (ls : List Ent) (h : H) : Bool :=
 match l with
 | ⟨[], []⟩ => true
 | l => l.r.all (fun x => Nat.blt x base || (Nat.blt x (base + i * S) && ordered ops ((x - base) / S) i)) && l.w.all (fun x => Nat.blt x base || (Nat.blt x (base + i * S) && ordered ops ((x - base) / S) i)) &&
  ls.all fun x => (disj x.2.1.w l.r && disj x.2.1.w l.w && (disj x.2.1.r l.w || softE x h)) || ordered ops x.1 i
noncomputable def guardOk (ops : List Oper) (t : T) (o : Oper) : Option Bool :=
 match o.guard with
 | none => some true
 | some (j, want) => match ops[j]? with
  | some { dst := some d, .. } => match Tr.get t d with
   | some (.p (.one (.bool b))) => some (b == want)
   | some (.tup _) => some false
   | _ => none
  | _ => none
noncomputable def setD (t : T) (d : Option Nat) (v : AV) : T := match d with | some k => Tr.set t k v | none => t
noncomputable def addLog (i : Nat) (l : Log) (re : H → Bool) (ls : List Ent) : List Ent := match l with | ⟨[], []⟩ => ls | l => (i, l, re) :: ls
noncomputable def cvIs (c d : CV) : Bool :=
 match c, d with
 | .bool a, .bool b => a == b
 | .int .i64 (.ofNat m), .int .i64 (.ofNat n) => Nat.beq m n
 | .ptr i a, .ptr j b => Nat.beq i j && Nat.beq a b
 | .nilp, .nilp => true
 | .snil, .snil => true
 | .sl i a n (.known c), .sl j b m (.known d) => Nat.beq i j && Nat.beq a b && Nat.beq n m && Nat.beq c d
 | .sl i a n (.minus c), .sl j b m (.minus d) => Nat.beq i j && Nat.beq a b && Nat.beq n m && Nat.beq c d
 | _, _ => false
noncomputable def redo (call : CallF) (t : T) (lo : Nat) (o : Oper) (v : AV) (h : H) : Bool :=
 match o.op, v with
 | .load .., .p (.one c) => (match evOp ty call (ev1 t) lo o.op h with | .ok (.p (.one d)) _ _ => cvIs c d | _ => false)
 | _, _ => false
structure OSt where
 t : T
 ls : List Ent
noncomputable def after (ops : List Oper) (S base i : Nat) (draw : Bool) (l : Log) (ls : List Ent) (h : H) (re : H → Bool) (k : List Ent → R OSt) : R OSt :=
 match draw with
 | false => k (addLog i (l.out (base + i * S) (base + (i + 1) * S)) re ls)
 | true => match mayGo ops S base i (l.out (base + i * S) (base + (i + 1) * S)) ls h with
  | true => k (addLog i (l.out (base + i * S) (base + (i + 1) * S)) re ls)
  | false => .no
noncomputable def evOps (call : CallF) (ops : List Oper) (S base : Nat) (draw : Bool) : List Oper → Nat → T → H → List Ent → R OSt
 | [], _, t, h, ls => .ok ⟨t, ls⟩ h ⟨[], []⟩
 | o :: rest, i, t, h, ls =>
  match guardOk ops t o with
  | none => .no
  | some false => evOps call ops S base draw rest (i + 1) (setD t o.dst (.tup [])) h ls
  | some true =>
   match evOp ty call (ev1 t) (base + i * S) o.op h with
   | .no => .no
   | .ok v h' l => match l with
    | ⟨[], []⟩ => evOps call ops S base draw rest (i + 1) (setD t o.dst v) h' ls
    | l => after ops S base i draw l ls h' (redo ty call t (base + i * S) o v) fun ls => evOps call ops S base draw rest (i + 1) (setD t o.dst v) h' ls
noncomputable def joinLogs (lo hi : Nat) : List Ent → Log
 | [] => ⟨[], []⟩
 | x :: r => (x.2.1.out lo hi).app (joinLogs lo hi r)
structure CSt where
 e : Ex
 t : T
 n : Nat
noncomputable def seqR (r : R CSt) (k : T → Nat → H → R CSt) : R CSt :=
 match r with
 | .no => .no
 | .ok s h l => match s.e with
  | .normal => match k s.t s.n h with
   | .ok s' h' m => .ok s' h' (m.app l)
   | .no => .no
  | _ => .ok s h l
noncomputable def blockR (id : Nat) (r : R CSt) : R CSt :=
 match r with
 | .no => .no
 | .ok s h l => match s.e with
  | .exit j => match Nat.beq j id with
   | true => .ok ⟨.normal, s.t, s.n⟩ h l
   | false => .ok s h l
  | _ => .ok s h l
noncomputable def regionR (S lo hi n len : Nat) (r : R OSt) : R CSt :=
 match r with
 | .no => .no
 | .ok s h _ => match Nat.ble (n + len * S) hi with
  | true => .ok ⟨.normal, s.t, n + len * S⟩ h (joinLogs lo hi s.ls)
  | false => .no
noncomputable def evCode (call : CallF) (S lo hi : Nat) : Nat → Code → T → Nat → H → R CSt
 | 0, _, _, _, _ => .no
 | f + 1, c, t, n, h =>
  match c with
  | .skip => .ok ⟨.normal, t, n⟩ h ⟨[], []⟩
  | .region _ ops draw => regionR S lo hi n ops.toList.length (evOps ty call ops.toList S n draw ops.toList 0 t h [])
  | .seq a b => seqR (evCode call S lo hi f a t n h) (evCode call S lo hi f b)
  | .cond c a b => match evC (ev1 t) c with
   | some (.bool true) => evCode call S lo hi f a t n h
   | some (.bool false) => evCode call S lo hi f b t n h
   | _ => .no
  | .block id b => blockR id (evCode call S lo hi f b t n h)
  | .loop b => seqR (evCode call S lo hi f b t n h) (evCode call S lo hi f (.loop b))
  | .exit id => .ok ⟨.exit id, t, n⟩ h ⟨[], []⟩
  | .ret => .ok ⟨.ret, t, n⟩ h ⟨[], []⟩
  | _ => .no
noncomputable def tmpsOf (l : List Operand) : List Nat := match l with
 | [] => []
 | .tmp t :: r => t :: tmpsOf r
 | _ :: r => tmpsOf r
noncomputable def looks (ops : List Oper) (o : Oper) : List Nat :=
 match o.guard with
 | some (g, _) => (match ops[g]? with | some { dst := some d, .. } => [d] | _ => []) ++ tmpsOf o.op.operands.toList
 | none => tmpsOf o.op.operands.toList
noncomputable def dstOut (d : Option Nat) (l : List Nat) : Bool := match d with | some d => (match memB d l with | true => false | false => true) | none => true
noncomputable def tapart (ops : List Oper) (x y : Oper) : Bool := dstOut x.dst (looks ops y) && dstOut y.dst (looks ops x) && dstOut x.dst y.dst.toList
noncomputable def okFrom (ops : List Oper) (j : Nat) (y : Oper) (an : List Nat) : List Oper → Nat → Bool
 | [], _ => true
 | x :: r, i => (match Nat.blt i j with | true => memB i an || tapart ops x y | false => true) && okFrom ops j y an r (i + 1)
noncomputable def okEdges (i : Nat) (l : List Nat) : Bool := List.rec (motive := fun _ => Bool) true (fun x _ ih => Nat.blt x i && ih) l
noncomputable def okOps (ops : List Oper) : List Oper → Nat → Bool
 | [], _ => true
 | y :: r, j => okEdges j (predsE y.after.toList) && okFrom ops j y (anc ops 2000 (preds ops j) []) ops 0 && okOps ops r (j + 1)
noncomputable def okDst (nt : Nat) : List Oper → Bool
 | [] => true
 | o :: r => (match o.dst with | some d => Nat.blt d nt | none => true) && okDst nt r
noncomputable def okCode (nt : Nat) : Code → Bool
 | .region _ ops draw => okDst nt ops.toList && (match draw with | true => okOps ops.toList ops.toList 0 | false => true)
 | .seq a b => okCode nt a && okCode nt b
 | .cond _ a b => okCode nt a && okCode nt b
 | .block _ b => okCode nt b
 | .loop b => okCode nt b
 | _ => true
noncomputable def putArgs : List PV → Nat → T → T
 | [], _, t => t
 | v :: l, i, t => putArgs l (i + 1) (Tr.set t i (.p v))
noncomputable def evResult (t : T) : ResultVar → (PV → M AV) → M AV
 | .tmp k, K => match Tr.get t k with | some (.p v) => K v | _ => .fail
 | .cell a ti, K => match Tr.get t a, ty ti with
  | some (.p (.one (.ptr id off))), some i => .get id fun row => rd row (match row.cut off i.size with
    | some cs => match PV.of i.agg cs with | some v => K v | none => .fail
    | none => .fail)
  | _, _ => .fail
noncomputable def evResults (t : T) : List ResultVar → List PV → M AV
 | [], acc => match acc.reverse with | [v] => .pure (.p v) | vs => .pure (.tup vs)
 | x :: l, acc => evResult ty t x fun v => evResults t l (v :: acc)
variable (fns : Nat → Option (Code × List ResultVar)) (ext : Nat → List PV → Option (Nat → M AV))
noncomputable def retR (lo hi : Nat) (r : R CSt) (k : T → M AV) : R AV :=
 match r with
 | .no => .no
 | .ok s h l => match s.e with
  | .exit _ => .no
  | _ => match (k s.t).run h with
   | .ok v h' m => .ok v h' ((m.out lo hi).app l)
   | .no => .no
noncomputable def evCall (fuel : Nat) : Nat → CallF
 | 0, _, _, _, _ => .no
 | d + 1, f, args, lo, h =>
  match ext f args with
  | some g => (g lo).run h
  | none =>
  match fns f with
  | none => .no
  | some (c, rs) => retR lo (lo + 2 ^ (24 * (d + 1))) (evCode ty (evCall fuel d) (2 ^ (24 * d)) lo (lo + 2 ^ (24 * (d + 1))) fuel c (putArgs args 0 .nil) lo h) fun t => evResults ty t rs []
end
end Ev
end
section
namespace Ev
open Go
theorem bool_beq {γ : Type} (a b : Nat) (x y : γ) : Bool.rec (motive := fun _ => γ) y x (Nat.beq a b) = if a = b then x else y := by
 cases h : Nat.beq a b
 ·exact (if_neg (Nat.ne_of_beq_eq_false h)).symm
 ·exact (if_pos (Nat.eq_of_beq_eq_true h)).symm
theorem Tr.get_nil {α : Type} (k : Nat) : Tr.get (.nil : Tr α) k = none := rfl
theorem Tr.get_node {α : Type} (v : Option α) (a b : Tr α) (k : Nat) : Tr.get (.node v a b) k = if k = 0 then v else if k % 2 = 1 then Tr.get a (k / 2) else Tr.get b (k / 2 - 1) := by
 show Bool.rec (motive := fun _ => Option α) (Bool.rec (motive := fun _ => Option α) (Tr.get b (k / 2 - 1)) (Tr.get a (k / 2)) (Nat.beq (k % 2) 1)) v (Nat.beq k 0) = _
 rw [bool_beq, bool_beq]
theorem Tr.one_succ {α : Type} (x : α) (d k : Nat) : Tr.one x (d + 1) k = if k = 0 then .node (some x) .nil .nil else if k % 2 = 1 then .node none (Tr.one x d (k / 2)) .nil else .node none .nil (Tr.one x d (k / 2 - 1)) := by
 show Bool.rec (motive := fun _ => Tr α) (Bool.rec (motive := fun _ => Tr α) (.node none .nil (Tr.one x d (k / 2 - 1))) (.node none (Tr.one x d (k / 2)) .nil) (Nat.beq (k % 2) 1)) (.node (some x) .nil .nil) (Nat.beq k 0) = _
 rw [bool_beq, bool_beq]
theorem Tr.set_nil {α : Type} (x : α) (k : Nat) : Tr.set (.nil : Tr α) k x = Tr.one x 20 k := rfl
theorem Tr.set_node {α : Type} (v : Option α) (a b : Tr α) (k : Nat) (x : α) : Tr.set (.node v a b) k x = if k = 0 then .node (some x) a b else if k % 2 = 1 then .node v (Tr.set a (k / 2) x) b else .node v a (Tr.set b (k / 2 - 1) x) := by
 show Bool.rec (motive := fun _ => Tr α) (Bool.rec (motive := fun _ => Tr α) (.node v a (Tr.set b (k / 2 - 1) x)) (.node v (Tr.set a (k / 2) x) b) (Nat.beq (k % 2) 1)) (.node (some x) a b) (Nat.beq k 0) = _
 rw [bool_beq, bool_beq]
theorem Tr.get_one {α : Type} (x : α) : ∀ (d k j : Nat), k + 1 < 2 ^ d → Tr.get (Tr.one x d k) j = if j = k then some x else none
 | 0, k, j, h => by simp at h
 | d + 1, k, j, h => by
  have ih := Tr.get_one x d
  have hp : 2 ^ (d + 1) = 2 * 2 ^ d := by rw [Nat.pow_succ]; omega
  rw [Tr.one_succ]
  by_cases hk : k = 0
  ·subst hk
   simp only [if_true, Tr.get_node, Tr.get_nil, ite_self]
  by_cases hk1 : k % 2 = 1
  ·rw [if_neg hk, if_pos hk1, Tr.get_node, ih _ _ (by omega), Tr.get_nil]
   by_cases hj : j = 0
   ·rw [if_pos hj, if_neg (by omega)]
   ·by_cases hj1 : j % 2 = 1
    ·rw [if_neg hj, if_pos hj1]
     by_cases e : j = k
     ·rw [if_pos e, if_pos (by omega)]
     ·rw [if_neg e, if_neg (by omega)]
    ·rw [if_neg hj, if_neg hj1, if_neg (by omega)]
  ·rw [if_neg hk, if_neg hk1, Tr.get_node, ih _ _ (by omega), Tr.get_nil]
   by_cases hj : j = 0
   ·rw [if_pos hj, if_neg (by omega)]
   ·by_cases hj1 : j % 2 = 1
    ·rw [if_neg hj, if_pos hj1, if_neg (by omega)]
    ·rw [if_neg hj, if_neg hj1]
     by_cases e : j = k
     ·rw [if_pos e, if_pos (by omega)]
     ·rw [if_neg e, if_neg (by omega)]
theorem Tr.get_one_some {α : Type} (x y : α) : ∀ (d k j : Nat), Tr.get (Tr.one x d k) j = some y → j = k ∧ y = x
 | 0, k, j, h => by cases h
 | d + 1, k, j, h => by
  have ih := Tr.get_one_some x y d
  rw [Tr.one_succ] at h
  by_cases hk : k = 0
  ·subst hk
   simp only [if_true, Tr.get_node, Tr.get_nil, ite_self] at h
   by_cases hj : j = 0
   ·rw [if_pos hj] at h; exact ⟨hj, (Option.some.inj h).symm⟩
   ·rw [if_neg hj] at h; cases h
  by_cases hk1 : k % 2 = 1
  ·rw [if_neg hk, if_pos hk1, Tr.get_node, Tr.get_nil] at h
   by_cases hj : j = 0
   ·rw [if_pos hj] at h; cases h
   ·by_cases hj1 : j % 2 = 1
    ·rw [if_neg hj, if_pos hj1] at h
     have := ih _ _ h
     exact ⟨by omega, this.2⟩
    ·rw [if_neg hj, if_neg hj1] at h; cases h
  ·rw [if_neg hk, if_neg hk1, Tr.get_node, Tr.get_nil] at h
   by_cases hj : j = 0
   ·rw [if_pos hj] at h; cases h
   ·by_cases hj1 : j % 2 = 1
    ·rw [if_neg hj, if_pos hj1] at h; cases h
    ·rw [if_neg hj, if_neg hj1] at h
     have := ih _ _ h
     exact ⟨by omega, this.2⟩
theorem Tr.get_set {α : Type} (x : α) : ∀ (d : Nat) (t : Tr α) (k j : Nat), d ≤ 20 → k + 1 < 2 ^ d → Tr.get (Tr.set t k x) j = if j = k then some x else Tr.get t j
 | d, .nil, k, j, hd, h => by
  rw [Tr.set_nil, Tr.get_one _ _ _ _ (Nat.lt_of_lt_of_le h (Nat.pow_le_pow_right (by omega) hd)), Tr.get_nil]
 | 0, .node v a b, k, j, hd, h => by simp at h
 | d + 1, .node v a b, k, j, hd, h => by
  have ih := Tr.get_set x d
  have hp : 2 ^ (d + 1) = 2 * 2 ^ d := by rw [Nat.pow_succ]; omega
  rw [Tr.set_node]
  by_cases hk : k = 0
  ·subst hk
   rw [if_pos rfl, Tr.get_node, Tr.get_node]
   by_cases hj : j = 0 <;> simp [hj]
  by_cases hk1 : k % 2 = 1
  ·rw [if_neg hk, if_pos hk1, Tr.get_node, Tr.get_node, ih _ _ _ (by omega) (by omega)]
   by_cases hj : j = 0
   ·rw [if_pos hj, if_neg (by omega), if_pos hj]
   ·by_cases hj1 : j % 2 = 1
    ·rw [if_neg hj, if_pos hj1]
     by_cases e : j = k
     ·rw [if_pos e, if_pos (by omega)]
     ·rw [if_neg e, if_neg (by omega), if_neg hj, if_pos hj1]
    ·rw [if_neg hj, if_neg hj1, if_neg (by omega), if_neg hj, if_neg hj1]
  ·rw [if_neg hk, if_neg hk1, Tr.get_node, Tr.get_node, ih _ _ _ (by omega) (by omega)]
   by_cases hj : j = 0
   ·rw [if_pos hj, if_neg (by omega), if_pos hj]
   ·by_cases hj1 : j % 2 = 1
    ·rw [if_neg hj, if_pos hj1, if_neg (by omega), if_neg hj, if_pos hj1]
    ·rw [if_neg hj, if_neg hj1]
     by_cases e : j = k
     ·rw [if_pos e, if_pos (by omega)]
     ·rw [if_neg e, if_neg (by omega), if_neg hj, if_neg hj1]
theorem Tr.get_set_some {α : Type} (x y : α) : ∀ (t : Tr α) (k j : Nat), Tr.get (Tr.set t k x) j = some y → (j = k ∧ y = x) ∨ (j ≠ k ∧ Tr.get t j = some y)
 | .nil, k, j, h => .inl (Tr.get_one_some x y 20 k j (by rw [Tr.set_nil] at h; exact h))
 | .node v a b, k, j, h => by
  have iha := Tr.get_set_some x y a
  have ihb := Tr.get_set_some x y b
  rw [Tr.set_node] at h
  by_cases hk : k = 0
  ·subst hk
   rw [if_pos rfl, Tr.get_node] at h
   rw [Tr.get_node]
   by_cases hj : j = 0
   ·rw [if_pos hj] at h; exact .inl ⟨hj, (Option.some.inj h).symm⟩
   ·rw [if_neg hj] at h ⊢; exact .inr ⟨hj, h⟩
  by_cases hk1 : k % 2 = 1
  ·rw [if_neg hk, if_pos hk1, Tr.get_node] at h
   rw [Tr.get_node]
   by_cases hj : j = 0
   ·rw [if_pos hj] at h ⊢; exact .inr ⟨by omega, h⟩
   ·by_cases hj1 : j % 2 = 1
    ·rw [if_neg hj, if_pos hj1] at h ⊢
     rcases iha _ _ h with h | h
     ·exact .inl ⟨by omega, h.2⟩
     ·exact .inr ⟨fun e => h.1 (by rw [e]), h.2⟩
    ·rw [if_neg hj, if_neg hj1] at h ⊢
     exact .inr ⟨fun e => hj1 (e ▸ hk1), h⟩
  ·rw [if_neg hk, if_neg hk1, Tr.get_node] at h
   rw [Tr.get_node]
   by_cases hj : j = 0
   ·rw [if_pos hj] at h ⊢; exact .inr ⟨by omega, h⟩
   ·by_cases hj1 : j % 2 = 1
    ·rw [if_neg hj, if_pos hj1] at h ⊢
     exact .inr ⟨fun e => hk1 (e ▸ hj1), h⟩
    ·rw [if_neg hj, if_neg hj1] at h ⊢
     rcases ihb _ _ h with h | h
     ·exact .inl ⟨by omega, h.2⟩
     ·exact .inr ⟨fun e => h.1 (by rw [e]), h.2⟩
theorem findId_nil (id : Nat) : findId id [] = none := rfl
theorem findId_cons (id : Nat) (x : Nat × Row) (l : List (Nat × Row)) : findId id (x :: l) = if x.1 = id then some x.2 else findId id l := by
 show Bool.rec (motive := fun _ => Option Row) (findId id l) (some x.2) (Nat.beq x.1 id) = _
 rw [bool_beq]
theorem setId_nil (id : Nat) (r : Row) : setId id r [] = [(id, r)] := rfl
theorem setId_cons (id : Nat) (r : Row) (x : Nat × Row) (l : List (Nat × Row)) : setId id r (x :: l) = if x.1 = id then (id, r) :: l else x :: setId id r l := by
 show Bool.rec (motive := fun _ => List (Nat × Row)) (x :: setId id r l) ((id, r) :: l) (Nat.beq x.1 id) = _
 rw [bool_beq]
theorem findId_set (id : Nat) (r : Row) (j : Nat) : ∀ l, findId j (setId id r l) = if j = id then some r else findId j l
 | [] => by
  rw [setId_nil, findId_cons, findId_nil]
  by_cases e : j = id
  ·rw [if_pos e, if_pos e.symm]
  ·rw [if_neg e, if_neg (Ne.symm e)]
 | x :: l => by
  have ih := findId_set id r j l
  rw [setId_cons]
  by_cases h : x.1 = id
  ·rw [if_pos h, findId_cons, findId_cons]
   by_cases e : j = id
   ·rw [if_pos e, if_pos e.symm]
   ·rw [if_neg e, if_neg (Ne.symm e), if_neg (fun he => e (by rw [← he, h]))]
  ·rw [if_neg h, findId_cons, findId_cons, ih]
   by_cases e : x.1 = j
   ·rw [if_pos e, if_pos e, if_neg (fun he => h (by rw [e, he]))]
   ·rw [if_neg e, if_neg e]
theorem find_put (h : H) (id j : Nat) (r : Row) : H.find (h.put id r) j = if j = id then some r else h.find j := by
 unfold H.find H.put H.bucket
 have hb : hk id + 1 < 2 ^ 12 := by unfold hk; omega
 rw [Tr.get_set _ 12 _ _ _ (by omega) hb]
 by_cases hkk : hk j = hk id
 ·rw [if_pos hkk, hkk]
  exact findId_set id r j _
 ·have : j ≠ id := fun e => hkk (by rw [e])
  rw [if_neg hkk, if_neg this]
theorem memB_iff (x : Nat) : ∀ l, memB x l = true ↔ x ∈ l
 | [] => by simp [memB]
 | y :: l => by
  have ih := memB_iff x l
  have : memB x (y :: l) = Bool.rec (motive := fun _ => Bool) (memB x l) true (Nat.beq y x) := rfl
  rw [this]
  cases h : Nat.beq y x
  ·have h := Nat.ne_of_beq_eq_false h
   simp only [ih, List.mem_cons]
   constructor
   ·exact .inr
   ·rintro (e | e)
    ·exact absurd e.symm h
    ·exact e
  ·have h := Nat.eq_of_beq_eq_true h
   simp [h]
theorem mem_ins {x y : Nat} {l : List Nat} : x ∈ ins y l ↔ x = y ∨ x ∈ l := by
 unfold ins
 split
 ·rename_i h
  rw [memB_iff] at h
  constructor
  ·exact .inr
  ·rintro (rfl | h')
   ·exact h
   ·exact h'
 ·simp
theorem mem_union {x : Nat} : ∀ {a b : List Nat}, x ∈ union a b ↔ x ∈ a ∨ x ∈ b
 | [], b => by simp [union]
 | y :: a, b => by
  have ih := mem_union (x := x) (a := a) (b := b)
  have : union (y :: a) b = ins y (union a b) := rfl
  rw [this, mem_ins, ih, List.mem_cons, or_assoc]
theorem beyond_iff (lo hi x : Nat) : beyond lo hi x = true ↔ ¬ (lo ≤ x ∧ x < hi) := by
 unfold beyond
 cases h : Nat.ble lo x
 ·have : ¬ lo ≤ x := fun e => by rw [Nat.ble_eq_true_of_le e] at h; cases h
  simp [this]
 ·have : lo ≤ x := Nat.le_of_ble_eq_true h
  simp only [Nat.ble_eq, this, true_and]
  omega
theorem mem_outl {lo hi x : Nat} : ∀ {l : List Nat}, x ∈ outl lo hi l ↔ x ∈ l ∧ ¬ (lo ≤ x ∧ x < hi)
 | [] => by simp [outl]
 | y :: l => by
  have ih := mem_outl (lo := lo) (hi := hi) (x := x) (l := l)
  have : outl lo hi (y :: l) = Bool.rec (motive := fun _ => List Nat) (outl lo hi l) (y :: outl lo hi l) (beyond lo hi y) := rfl
  rw [this]
  cases h : beyond lo hi y
  ·have h' : lo ≤ y ∧ y < hi := Decidable.byContradiction fun e => by rw [(beyond_iff lo hi y).2 e] at h; cases h
   show x ∈ outl lo hi l ↔ _
   rw [ih, List.mem_cons]
   constructor
   ·exact fun e => ⟨.inr e.1, e.2⟩
   ·rintro ⟨rfl | e, e2⟩
    ·exact absurd h' e2
    ·exact ⟨e, e2⟩
  ·have h' := (beyond_iff lo hi y).1 h
   show x ∈ y :: outl lo hi l ↔ _
   rw [List.mem_cons, ih, List.mem_cons]
   constructor
   ·rintro (rfl | e)
    ·exact ⟨.inl rfl, h'⟩
    ·exact ⟨.inr e.1, e.2⟩
   ·rintro ⟨rfl | e, e2⟩
    ·exact .inl rfl
    ·exact .inr ⟨e, e2⟩
def Tch (lo hi : Nat) (l : Log) (i : Nat) : Prop := i ∈ l.r ∨ i ∈ l.w ∨ (lo ≤ i ∧ i < hi)
def Unw (lo hi : Nat) (l : Log) (i : Nat) : Prop := i ∉ l.w ∧ ¬ (lo ≤ i ∧ i < hi)
theorem Unw.of_not {lo hi : Nat} {l : Log} {i : Nat} (h : ¬ Tch lo hi l i) : Unw lo hi l i := ⟨fun x => h (.inr (.inl x)), fun x => h (.inr (.inr x))⟩
structure FrOk {α : Type} (lo hi : Nat) (f : H → R α) (h : H) (a : α) (h' : H) (l : Log) : Prop where
 out : ∀ i, Unw lo hi l i → h'.find i = h.find i
 again : ∀ h2 : H, (∀ i, Tch lo hi l i → h2.find i = h.find i) → ∃ h2', f h2 = .ok a h2' l ∧ (∀ i, Tch lo hi l i → h2'.find i = h'.find i) ∧ ∀ i, Unw lo hi l i → h2'.find i = h2.find i
def Fr {α : Type} (lo hi : Nat) (f : H → R α) : Prop := ∀ h a h' l, f h = .ok a h' l → FrOk lo hi f h a h' l
theorem Fr.pure {α : Type} (lo hi : Nat) (a : α) : Fr lo hi (fun h => .ok a h ⟨[], []⟩) := by
 intro h b h' l e
 cases e
 exact ⟨fun i _ => rfl, fun h2 hh => ⟨h2, rfl, hh, fun i _ => rfl⟩⟩
theorem Fr.no {α : Type} (lo hi : Nat) : Fr lo hi (fun _ => (R.no : R α)) := fun _ _ _ _ e => by cases e
theorem app_ok (lo hi : Nat) (m l : Log) (i : Nat) : (Tch lo hi (m.app l) i ↔ Tch lo hi m i ∨ Tch lo hi l i) ∧ (Unw lo hi (m.app l) i ↔ Unw lo hi m i ∧ Unw lo hi l i) := by
 unfold Tch Unw Log.app
 simp only [mem_union]
 constructor <;> grind
theorem outApp_ok (lo hi : Nat) (m l : Log) (i : Nat) : (Tch lo hi ((m.out lo hi).app l) i ↔ Tch lo hi m i ∨ Tch lo hi l i) ∧ (Unw lo hi ((m.out lo hi).app l) i ↔ Unw lo hi m i ∧ Unw lo hi l i) := by
 unfold Tch Unw Log.app Log.out
 simp only [mem_union, mem_outl]
 constructor <;> grind
theorem Fr.wide {α : Type} {lo hi lo' hi' : Nat} {f : H → R α} (hf : Fr lo hi f) (h1 : lo' ≤ lo) (h2 : hi ≤ hi') : Fr lo' hi' f := by
 intro h a h' l e
 have k := hf _ _ _ _ e
 have hT : ∀ i, Tch lo hi l i → Tch lo' hi' l i := fun i hq => by
  rcases hq with h | h | h
  ·exact .inl h
  ·exact .inr (.inl h)
  ·exact .inr (.inr ⟨by omega, by omega⟩)
 have hU : ∀ i, Unw lo' hi' l i → Unw lo hi l i := fun i hq => ⟨hq.1, fun x => hq.2 ⟨by omega, by omega⟩⟩
 refine ⟨fun i hw => k.out i (hU i hw), fun g2 hh => ?_⟩
 obtain ⟨g3, e3, a3, o3⟩ := k.again g2 (fun i hq => hh i (hT i hq))
 refine ⟨g3, e3, fun i hq => ?_, fun i hw => o3 i (hU i hw)⟩
 by_cases hc : Tch lo hi l i
 ·exact a3 i hc
 ·rw [o3 i (.of_not hc), k.out i (.of_not hc)]
  exact hh i hq
theorem Fr.run {α : Type} (lo hi : Nat) : ∀ m : M α, Fr lo hi m.run
 | .pure a => Fr.pure lo hi a
 | .fail => Fr.no lo hi
 | .get id k => by
  intro h a h' l e
  simp only [M.run] at e
  split at e
  ·rename_i r hr
   split at e
   ·rename_i a2 h2 l2 e2
    cases e
    have k1 := Fr.run lo hi (k r) _ _ _ _ e2
    have hT : ∀ i, Tch lo hi l2 i → Tch lo hi ⟨id :: l2.r, l2.w⟩ i := fun i hq => by
     rcases hq with h | h | h
     ·exact .inl (List.mem_cons_of_mem _ h)
     ·exact .inr (.inl h)
     ·exact .inr (.inr h)
    refine ⟨fun i hu => k1.out i hu, fun g2 hh => ?_⟩
    obtain ⟨g3, e3, a3, o3⟩ := k1.again g2 (fun i hq => hh i (hT i hq))
    have hid : g2.find id = some r := by rw [hh id (.inl (List.mem_cons_self ..))]; exact hr
    refine ⟨g3, by simp only [M.run, hid, e3], fun i hq => ?_, fun i hu => o3 i hu⟩
    by_cases hc : Tch lo hi l2 i
    ·exact a3 i hc
    ·rw [o3 i (.of_not hc), k1.out i (.of_not hc)]
     exact hh i hq
   ·cases e
  ·cases e
 | .put id r k => by
  intro h a h' l e
  simp only [M.run] at e
  split at e
  ·rename_i r0 hr
   split at e
   ·rename_i a2 h2 l2 e2
    cases e
    have k1 := Fr.run lo hi k _ _ _ _ e2
    have hT : ∀ i, Tch lo hi l2 i → Tch lo hi ⟨l2.r, id :: l2.w⟩ i := fun i hq => by
     rcases hq with h | h | h
     ·exact .inl h
     ·exact .inr (.inl (List.mem_cons_of_mem _ h))
     ·exact .inr (.inr h)
    have hU : ∀ i, Unw lo hi ⟨l2.r, id :: l2.w⟩ i → Unw lo hi l2 i ∧ i ≠ id := fun i hq => ⟨⟨fun x => hq.1 (List.mem_cons_of_mem _ x), hq.2⟩, fun x => hq.1 (x ▸ List.mem_cons_self ..)⟩
    refine ⟨fun i hu => ?_, fun g2 hh => ?_⟩
    ·rw [k1.out i (hU i hu).1, find_put, if_neg (hU i hu).2]
    ·have hid : g2.find id = some r0 := by rw [hh id (.inr (.inl (List.mem_cons_self ..)))]; exact hr
     obtain ⟨g3, e3, a3, o3⟩ := k1.again (g2.put id r) (fun i hq => by
      rw [find_put, find_put]
      split
      ·rfl
      ·exact hh i (hT i hq))
     refine ⟨g3, by simp only [M.run, hid, e3], fun i hq => ?_, fun i hu => ?_⟩
     ·by_cases hc : Tch lo hi l2 i
      ·exact a3 i hc
      ·rw [o3 i (.of_not hc), k1.out i (.of_not hc), find_put, find_put]
       split
       ·rfl
       ·exact hh i hq
     ·rw [o3 i (hU i hu).1, find_put, if_neg (hU i hu).2]
   ·cases e
  ·cases e
 | .new id r k => by
  intro h a h' l e
  simp only [M.run] at e
  split at e
  ·cases e
  ·rename_i hr
   split at e
   ·rename_i a2 h2 l2 e2
    cases e
    have k1 := Fr.run lo hi k _ _ _ _ e2
    have hT : ∀ i, Tch lo hi l2 i → Tch lo hi ⟨l2.r, id :: l2.w⟩ i := fun i hq => by
     rcases hq with h | h | h
     ·exact .inl h
     ·exact .inr (.inl (List.mem_cons_of_mem _ h))
     ·exact .inr (.inr h)
    have hU : ∀ i, Unw lo hi ⟨l2.r, id :: l2.w⟩ i → Unw lo hi l2 i ∧ i ≠ id := fun i hq => ⟨⟨fun x => hq.1 (List.mem_cons_of_mem _ x), hq.2⟩, fun x => hq.1 (x ▸ List.mem_cons_self ..)⟩
    refine ⟨fun i hu => ?_, fun g2 hh => ?_⟩
    ·rw [k1.out i (hU i hu).1, find_put, if_neg (hU i hu).2]
    ·have hid : g2.find id = none := by rw [hh id (.inr (.inl (List.mem_cons_self ..)))]; exact hr
     obtain ⟨g3, e3, a3, o3⟩ := k1.again (g2.put id r) (fun i hq => by
      rw [find_put, find_put]
      split
      ·rfl
      ·exact hh i (hT i hq))
     refine ⟨g3, by simp only [M.run, hid, e3], fun i hq => ?_, fun i hu => ?_⟩
     ·by_cases hc : Tch lo hi l2 i
      ·exact a3 i hc
      ·rw [o3 i (.of_not hc), k1.out i (.of_not hc), find_put, find_put]
       split
       ·rfl
       ·exact hh i hq
     ·rw [o3 i (hU i hu).1, find_put, if_neg (hU i hu).2]
   ·cases e
end Ev
end
section
namespace Ev
open Go
noncomputable def aggK (p : Program) (t : Nat) : Bool := match p.underlying t with | some (.struct _) | some (.array _ _) => true | _ => false
noncomputable def fieldTI (p : Program) (f : Field) : Nat × Nat × Bool := (f.offset, match p.underlying f.type with | some _ => p.cellsOf f.type | none => 0, aggK p f.type)
noncomputable def tkOf (p : Program) : TypeDesc → TK
 | .bool => .bool
 | .int k => .int k
 | .string => .str
 | .pointer e => .ptr e
 | .slice e => .slice e
 | .array n e => .arr n e
 | .struct fs => .struct (fs.toList.map (fieldTI p))
 | .func .. => .func
 | .map .. => .map
 | _ => .other
noncomputable def fieldsOk (p : Program) : TypeDesc → Bool
 | .struct fs => fs.toList.all fun f => (p.underlying f.type).isSome
 | _ => true
noncomputable def tiOf (p : Program) (t : Nat) : Option TI :=
 match p.info? t, p.underlying t with
 | some i, some d => match i.zero with
  | some z => match cvsOf z.cells.toList with
   | some l => if l.length = i.size ∧ fieldsOk p d = true then some ⟨i.size, i.bytes, tkOf p d, l⟩ else none
   | none => none
  | none => none
 | _, _ => none
end Ev
end
