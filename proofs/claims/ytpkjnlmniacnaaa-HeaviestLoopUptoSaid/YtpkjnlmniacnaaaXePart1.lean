/- An exact run of code with open numbers, and that it is sound, part 1. Conditions: those in each theorem. -/
import Derived.Test.YtpkjnlmniacnaaaAbPart2
import Derived.Test.YtpkjnlmniacnaaaAbPart4
import Derived.Test.YtpkjnlmniacnaaaAbPart6
set_option linter.unusedVariables false
set_option linter.unusedSimpArgs false
/- An exact run of code that makes all its memory itself: numbers may be open terms; where such numbers are compared, a given answer is taken and owed. -/
namespace Go.Xe
open Go.Ab (tk TK)

/-- Values: 's' marks numbers that are open. -/
inductive EV where
  | any
  | und
  | con (v : Value)
  | int (k : IntKind) (s : Bool) (n : Int)
  | bool (b : Bool)
  | ptr (id off : Nat)
  | slc (id off len sz : Nat)
  | fn (f : Nat) (fi ca : List EV)
  | agg (cs : List EV)
  | tup (vs : List EV)
  deriving Inhabited

/-- Trees by number. -/
inductive Tr (α : Type) where
  | lf
  | nd (l : Tr α) (v : Option α) (r : Tr α)
  deriving Inhabited
noncomputable def Tr.get {α : Type} (t : Tr α) : Nat → Option α :=
  Tr.rec (motive := fun _ => Nat → Option α) (fun _ => none) (fun _ v _ gl gr k => cond (Nat.beq k 0) v (cond (Nat.beq (k % 2) 1) (gl (k / 2)) (gr (k / 2 - 1)))) t
noncomputable def Tr.put {α : Type} (n : Nat) : Tr α → Nat → Option α → Tr α :=
  Nat.rec (motive := fun _ => Tr α → Nat → Option α → Tr α) (fun _ _ _ => .lf)
    (fun _ ih t k x => Tr.rec (motive := fun _ => Tr α)
      (cond (Nat.beq k 0) (.nd .lf x .lf) (cond (Nat.beq (k % 2) 1) (.nd (ih .lf (k / 2) x) none .lf) (.nd .lf none (ih .lf (k / 2 - 1) x))))
      (fun l v r _ _ => cond (Nat.beq k 0) (.nd l x r) (cond (Nat.beq (k % 2) 1) (.nd (ih l (k / 2) x) v r) (.nd l v (ih r (k / 2 - 1) x)))) t) n

/-- A comparison that was answered: 'op x y' is 'b'. -/
structure Owe where
  op : BinOp
  x : Int
  y : Int
  b : Bool

structure St where
  sl : Tr EV
  nt : Nat
  bl : Tr (List EV)
  cnt : Nat
  ora : List Bool
  owe : List Owe
  tch : List Nat

inductive Ex where
  | nrm
  | ext (n : Nat)
  | ret

noncomputable def St.slot (σ : St) (k : Nat) : EV := (σ.sl.get k).getD .any
noncomputable def St.setSlot (σ : St) (d : Option Nat) (v : EV) : St := match d with
  | some d => { σ with sl := σ.sl.put 20 d (cond (Nat.blt d σ.nt) (some v) none) }
  | none => σ
noncomputable def St.blk (σ : St) (id : Nat) : Option (List EV) := σ.bl.get id
/-- A new block. -/
noncomputable def St.new (σ : St) (cs : List EV) : St := { σ with bl := σ.bl.put 40 σ.cnt (some cs), cnt := σ.cnt + 1 }
noncomputable def St.upd (σ : St) (id : Nat) (cs : List EV) : St := { σ with bl := σ.bl.put 40 id (some cs), tch := id :: σ.tch }
noncomputable def St.eat (σ : St) (id : Nat) : St := { σ with bl := σ.bl.put 40 id none, tch := id :: σ.tch }

noncomputable def conE : Value → EV
  | .int k n => .int k false n
  | .bool b => .bool b
  | v => .con v
noncomputable def St.ev (σ : St) : Operand → EV
  | .tmp t => σ.slot t
  | .const v => conE v
  | .func f => .fn f [] []
  | .global _ => .any

noncomputable def EV.cells : EV → List EV
  | .agg cs => cs
  | v => [v]
/-- One cell. -/
noncomputable def EV.one : EV → Bool
  | .con v => v.oneCell'
  | .int _ _ _ => true
  | .bool _ => true
  | .ptr _ _ => true
  | .slc _ _ _ _ => true
  | .fn _ _ _ => true
  | _ => false
/-- What can lie in cells. -/
noncomputable def EV.sto : EV → Bool
  | .agg _ => true
  | v => v.one
noncomputable def okT (P : Program) (t : Nat) : Bool := match tk P t with
  | .other => false
  | _ => true
noncomputable def mkE (P : Program) (t : Nat) (cs : List EV) : EV := cond (Go.Ab.isAgg (tk P t)) (.agg cs) (cs.headD .any)
noncomputable def sizeT (P : Program) (t : Nat) : Nat := P.cellsOf t
/-- A type's zero. -/
noncomputable def zeroT (P : Program) (t : Nat) : Option (List EV) := match P.info? t with
  | some i => match i.zero with
    | some z => cond (okT P t && (Nat.beq z.cells.size (P.cellsOf t) && z.cells.toList.all fun v => v.oneCell')) (some (z.cells.toList.map conE)) none
    | none => none
  | none => none
noncomputable def elemT (P : Program) (t : Nat) : Option Nat := match tk P t with
  | .slc e => some e
  | _ => none

noncomputable def seg {α : Type} (cs : List α) (o n : Nat) : List α := (cs.drop o).take n
noncomputable def splice {α : Type} (l : List α) (o : Nat) (ns : List α) : List α := l.take o ++ ns ++ l.drop (o + ns.length)

noncomputable def cmpI (op : BinOp) (x y : Int) : Option Bool := match op with
  | .eql => some (decide (x = y))
  | .neq => some (!decide (x = y))
  | .lss => some (decide (x < y))
  | .leq => some (decide (x ≤ y))
  | .gtr => some (decide (y < x))
  | .geq => some (decide (y ≤ x))
  | _ => none
noncomputable def arI (op : BinOp) (k : IntKind) (x y : Int) : Option Int := match op with
  | .add => some (k.wrap (x + y))
  | .sub => some (k.wrap (x - y))
  | .mul => some (k.wrap (x * y))
  | .rem => cond (decide (y = 0)) none (some (x.tmod y))
  | _ => none
/-- Numbers that are closed are computed. -/
noncomputable def mkI (k : IntKind) (s : Bool) (n : Int) : EV := .int k s n

/-- Two numbers. -/
noncomputable def binE (op : BinOp) (k : IntKind) (s1 : Bool) (x : Int) (s2 : Bool) (y : Int) (σ : St) : Option (EV × St) :=
  match arI op k x y with
  | some n => match op with
    | .rem => cond s2 none (some (mkI k s1 n, σ))
    | _ => some (mkI k (s1 || s2) n, σ)
  | none => match cond (s1 || s2) none (cmpI op x y) with
    | some b => some (.bool b, σ)
    | none => match σ.ora with
      | b :: r => match op with
        | .eql | .neq | .lss | .leq | .gtr | .geq => some (.bool b, { σ with ora := r, owe := ⟨op, x, y, b⟩ :: σ.owe })
        | _ => none
      | [] => none

noncomputable def natI : EV → Option Nat
  | .int .i64 false (.ofNat n) => some n
  | _ => none

noncomputable def parts (σ : St) (off sz : Nat → Nat) : List EV → List (Nat × Operand) → Option (List EV)
  | l, [] => some l
  | l, (j, x) :: r => cond ((σ.ev x).sto && (Nat.beq (σ.ev x).cells.length (sz j) && Nat.ble (off j + sz j) l.length)) (parts σ off sz (splice l (off j) (σ.ev x).cells) r) none
noncomputable def fieldOff (P : Program) (t j : Nat) : Nat := match tk P t with
  | .struct fs => ((fs[j]?).map (·.2)).getD 0
  | _ => 0

/-- The cells of a slice. -/
noncomputable def slcCells (σ : St) : EV → Option (List EV)
  | .con (.slice none 0 0) => some []
  | .slc id off len sz => match σ.blk id with
    | some cs => cond (Nat.ble (off + len * sz) cs.length) (some (seg cs off (len * sz))) none
    | none => none
  | _ => none

abbrev R := Option (EV × St)
noncomputable def opPick (c a b : Operand) (σ : St) : R := match σ.ev c with
  | .bool v => some (cond v (σ.ev a) (σ.ev b), σ)
  | _ => none
noncomputable def opAlloc (P : Program) (t : Nat) (σ : St) : R := match zeroT P t with
  | some cs => some (.ptr σ.cnt 0, σ.new cs)
  | none => none
noncomputable def opLoad (P : Program) (t : Nat) (a : Operand) (σ : St) : R := match σ.ev a with
  | .ptr id off => match σ.blk id with
    | some cs => cond (okT P t && Nat.ble (off + sizeT P t) cs.length) (some (mkE P t (seg cs off (sizeT P t)), σ)) none
    | none => none
  | _ => none
noncomputable def opStore (P : Program) (t : Nat) (a x : Operand) (σ : St) : R := match σ.ev a with
  | .ptr id off => match σ.blk id with
    | some cs => cond (okT P t && ((σ.ev x).sto && (Nat.ble (off + sizeT P t) cs.length && Nat.beq (σ.ev x).cells.length (sizeT P t)))) (some (.any, σ.upd id (splice cs off (σ.ev x).cells))) none
    | none => none
  | _ => none
noncomputable def opNilCheck (x : Operand) (σ : St) : R := match σ.ev x with
  | .ptr id off => some (.ptr id off, σ)
  | .fn f a b => some (.fn f a b, σ)
  | _ => none
noncomputable def opShr (k : IntKind) (s : Bool) (n n' : Int) (σ : St) : R :=
  cond s none (cond (decide (0 ≤ n')) (some (mkI k false (n.fdiv (2 ^ min n'.toNat k.bits)), σ)) none)
noncomputable def opBinNil (op : BinOp) (b : Bool) (σ : St) : R := match op with
  | .eql => some (.bool b, σ)
  | .neq => some (.bool (!b), σ)
  | _ => none
noncomputable def isNilE : EV → Bool
  | .con (.slice none 0 0) => true
  | _ => false
noncomputable def opBinS (P : Program) (t : Nat) (op : BinOp) (b : Bool) (y : EV) (σ : St) : R := match elemT P t with
  | some _ => cond (isNilE y) (opBinNil op b σ) none
  | none => none
noncomputable def opBin (P : Program) (op : BinOp) (t : Nat) (x y : Operand) (σ : St) : R := match σ.ev x with
  | .int k s n => match σ.ev y with
    | .int k' s' n' => match op with
      | .shr => opShr k (s || s') n n' σ
      | .shl => none
      | _ => cond (decide (k = k')) (binE op k s n s' n' σ) none
    | _ => none
  | .slc _ _ _ _ => opBinS P t op false (σ.ev y) σ
  | .con v => cond (isNilE (.con v)) (opBinS P t op true (σ.ev y) σ) none
  | _ => none
noncomputable def opNot (x : Operand) (σ : St) : R := match σ.ev x with
  | .bool b => some (.bool (!b), σ)
  | _ => none
noncomputable def opConv (P : Program) (s0 d : Nat) (x : Operand) (σ : St) : R := match σ.ev x, tk P s0, tk P d with
  | .int _ s n, .int _, .int k => some (mkI k s (k.wrap n), σ)
  | _, _, _ => none
noncomputable def opField (P : Program) (s : Nat) (x : Operand) (j : Nat) (σ : St) : R := match σ.ev x, tk P s with
  | .ptr id off, .struct fs => match fs[j]? with
    | some (ft, o) => cond (Nat.beq (P.cellsOf ft) 0) none (some (.ptr id (off + o), σ))
    | none => none
  | _, _ => none
noncomputable def opIndex (P : Program) (t : Nat) (x i : Operand) (σ : St) : R := match σ.ev x, natI (σ.ev i), elemT P t with
  | .slc id off len sz, some n, some e => cond (Nat.blt n len && Nat.beq sz (sizeT P e)) (some (.ptr id (off + n * sz), σ)) none
  | _, _, _ => none
noncomputable def opBuild (P : Program) (t : Nat) (ps : Array (Nat × Operand)) (σ : St) : R := match zeroT P t, tk P t with
  | some cs, .struct fs => match parts σ (fun j => ((fs[j]?).map (·.2)).getD (cs.length + 1)) (fun j => ((fs[j]?).map fun x => P.cellsOf x.1).getD 0) cs ps.toList with
    | some l => some (.agg l, σ)
    | none => none
  | _, _ => none
noncomputable def opBuildSlice (P : Program) (t n : Nat) (ps : Array (Nat × Operand)) (σ : St) : R := match elemT P t with
  | some e => match zeroT P e with
    | some z => match parts σ (fun j => j * sizeT P e) (fun _ => sizeT P e) ((List.replicate n z).flatten) ps.toList with
      | some l => cond (Nat.ble (n * sizeT P e) 1000000) (some (.slc σ.cnt 0 n (sizeT P e), σ.new l)) none
      | none => none
    | none => none
  | none => none
noncomputable def opMakeSlice (P : Program) (t : Nat) (l c : Operand) (σ : St) : R := match elemT P t, natI (σ.ev l), natI (σ.ev c) with
  | some e, some l, some c => match zeroT P e with
    | some z => cond (Nat.beq l c && (Nat.ble l 1000 && (Nat.blt 0 (P.bytesOf e) && Nat.ble (P.bytesOf e) 1000000))) (some (.slc σ.cnt 0 l (sizeT P e), σ.new ((List.replicate l z).flatten))) none
    | none => none
  | _, _, _ => none
noncomputable def bnd (σ : St) (d : Nat) : Option Operand → Option Nat
  | none => some d
  | some y => natI (σ.ev y)
noncomputable def opSlice (P : Program) (t : Nat) (x : Operand) (lo hi : Option Operand) (σ : St) : R := match elemT P t, σ.ev x, bnd σ 0 lo with
  | some e, .slc id off len sz, some l => match bnd σ len hi with
    | some h => cond (Nat.beq sz (sizeT P e) && (Nat.ble l h && Nat.ble h len)) (some (.slc id (off + l * sz) (h - l) sz, σ)) none
    | none => none
  | _, _, _ => none
noncomputable def opExtract (x : Operand) (i : Nat) (σ : St) : R := match σ.ev x with
  | .tup l => (l[i]?).map fun v => (v, σ)
  | _ => none
noncomputable def lenE : EV → Option Nat
  | .con (.slice none 0 0) => some 0
  | .slc _ _ n _ => some n
  | _ => none
noncomputable def opLen (P : Program) (xs : List Operand) (ts : List Nat) (σ : St) : R := match xs, ts with
  | [x], [t] => match elemT P t, lenE (σ.ev x) with
    | some _, some n => some (.int .i64 false n, σ)
    | _, _ => none
  | _, _ => none
noncomputable def opAppend1 (P : Program) (e : Nat) (a b : List EV) (n : Nat) (x : EV) (σ : St) : R := match x with
  | .slc id _ len sz => cond (Nat.beq sz (sizeT P e) && Nat.ble (len + n) 1000000) (some (.slc σ.cnt 0 (len + n) sz, (σ.eat id).new (a ++ b))) none
  | _ => cond (Nat.ble n 1000000) (some (.slc σ.cnt 0 n (sizeT P e), σ.new b)) none
noncomputable def okBytes (P : Program) (e : Nat) : Bool := Nat.blt 0 (P.bytesOf e) && Nat.ble (P.bytesOf e) 1000000
/-- What is added: nothing, or some elements of so many cells. -/
noncomputable def tailE (σ : St) (sz : Nat) (y : EV) : Option (List EV × Nat) := match y with
  | .slc _ _ n sz' => match slcCells σ y with
    | some cs => cond (Nat.beq sz' sz) (some (cs, n)) none
    | none => none
  | .con _ => match slcCells σ y with
    | some _ => some ([], 0)
    | none => none
  | _ => none
noncomputable def opAppend (P : Program) (xs : List Operand) (ts : List Nat) (σ : St) : R := match xs, ts with
  | [x, y], [t, tx] => match elemT P t, elemT P tx with
    | some e, some _ => match slcCells σ (σ.ev x), tailE σ (sizeT P e) (σ.ev y), zeroT P e with
      | some a, some (b, n), some _ => cond (Nat.beq n 0) (some (σ.ev x, σ)) (cond (okBytes P e) (opAppend1 P e a b n (σ.ev x) σ) none)
      | _, _, _ => none
    | _, _ => none
  | _, _ => none
noncomputable def opMax (xs : List Operand) (σ : St) : R := match xs with
  | [x, y] => match σ.ev x, σ.ev y with
    | .int k false a, .int k' false b => cond (decide (k = k')) (some (.int k false (cond (decide (a < b)) b a), σ)) none
    | _, _ => none
  | _ => none
noncomputable def opClear (P : Program) (xs : List Operand) (ts : List Nat) (σ : St) : R := match xs, ts with
  | [x], [t] => match elemT P t, σ.ev x with
    | some e, .slc id off len sz => match zeroT P e, σ.blk id with
      | some z, some cs => cond (Nat.beq sz (sizeT P e) && (Nat.beq z.length sz && Nat.ble (off + len * sz) cs.length)) (some (.tup [], cond (Nat.beq len 0) σ (σ.upd id (splice cs off ((List.replicate len z).flatten))))) none
      | _, _ => none
    | _, _ => none
  | _, _ => none
noncomputable def opCallB (P : Program) (b : Builtin) (xs : List Operand) (ts : List Nat) (σ : St) : R := match b with
  | .len => opLen P xs ts σ
  | .append => opAppend P xs ts σ
  | .max => opMax xs σ
  | .clear => opClear P xs ts σ
  | _ => none
/-- ONE OPERATION that is no call of a function. -/
noncomputable def stepX (P : Program) (o : Op) (σ : St) : R :=
  match o with
  | .move x => some (σ.ev x, σ)
  | .assign x => some (σ.ev x, σ)
  | .pick c a b => opPick c a b σ
  | .alloc t => opAlloc P t σ
  | .box _ x => cond (σ.ev x).sto (some (.ptr σ.cnt 0, σ.new (σ.ev x).cells)) none
  | .load t a => opLoad P t a σ
  | .store t a x => opStore P t a x σ
  | .nilCheck x => opNilCheck x σ
  | .binOp op t x y _ => opBin P op t x y σ
  | .unOp .not _ x => opNot x σ
  | .convert s d x => opConv P s d x σ
  | .fieldAddr s x j => opField P s x j σ
  | .indexAddr t x i => opIndex P t x i σ
  | .build t ps => opBuild P t ps σ
  | .buildSlice t n ps => opBuildSlice P t n ps σ
  | .makeSlice t l c => opMakeSlice P t l c σ
  | .slice t x lo hi none => opSlice P t x lo hi σ
  | .extract x i => opExtract x i σ
  | .makeFunc (.func f) fi ca => some (.fn f (fi.toList.map σ.ev) (ca.toList.map σ.ev), σ)
  | .call c => match c.callee with
    | .builtin b => opCallB P b c.args.toList c.argTypes.toList σ
    | _ => none
  | _ => none

noncomputable def initSl : Nat → List EV → Tr EV
  | _, [] => .lf
  | k, v :: l => (initSl (k + 1) l).put 20 k (some v)

noncomputable def resE (P : Program) (σ : St) : ResultVar → Option EV
  | .tmp t => some (σ.slot t)
  | .cell a t => match σ.slot a with
    | .ptr id off => match σ.blk id with
      | some cs => cond (okT P t && Nat.ble (off + sizeT P t) cs.length) (some (mkE P t (seg cs off (sizeT P t)))) none
      | none => none
    | _ => none
noncomputable def resEs (P : Program) (σ : St) : List ResultVar → Option (List EV)
  | [] => some []
  | r :: l => match resE P σ r, resEs P σ l with
    | some v, some vs => some (v :: vs)
    | _, _ => none
noncomputable def outE : List EV → EV
  | [v] => v
  | l => .tup l

noncomputable def callX (cal : Nat → List EV → St → R) (x : EV) (args : List EV) (σ : St) : R := match x with
  | .fn f fi ca => cal f (fi ++ (args ++ ca)) σ
  | _ => none
/-- An operation; 'cal' runs functions. -/
noncomputable def operX (P : Program) (cal : Nat → List EV → St → R) (o : Op) (σ : St) : R :=
  match o with
  | .call c => match c.callee with
    | .value x => callX cal (σ.ev x) (c.args.toList.map σ.ev) σ
    | .builtin b => opCallB P b c.args.toList c.argTypes.toList σ
    | _ => none
  | o => stepX P o σ
noncomputable def putR (d : Option Nat) : R → Option St
  | some (v, σ') => some (σ'.setSlot d v)
  | none => none
noncomputable def guardX (P : Program) (cal : Nat → List EV → St → R) (ops : Array Oper) (o : Oper) (σ : St) : Option St :=
  match o.guard with
  | none => putR o.dst (operX P cal o.op σ)
  | some (j, want) => match (ops[j]?).bind (·.dst) with
    | some s => match σ.slot s with
      | .bool b => cond (cond b want (!want)) (putR o.dst (operX P cal o.op σ)) (some (σ.setSlot o.dst .und))
      | .und => some (σ.setSlot o.dst .und)
      | _ => none
    | none => none
noncomputable def seqX (P : Program) (cal : Nat → List EV → St → R) (ops : Array Oper) (l : List Oper) : St → Option St :=
  List.rec (motive := fun _ => St → Option St) some (fun o _ ih σ => Option.rec (motive := fun _ => Option St) none ih (guardX P cal ops o σ)) l

/-- Slots that an operation reads. -/
noncomputable def readsO (ops : Array Oper) (o : Oper) : List Nat :=
  (match o.guard with
  | some (j, _) => match (ops[j]?).bind (·.dst) with
    | some s => [s]
    | none => []
  | none => []) ++ o.op.operands.toList.filterMap fun x => match x with
  | .tmp t => some t
  | _ => none
mutual
noncomputable def EV.ids : EV → List Nat
  | .ptr id _ => [id]
  | .slc id _ _ _ => [id]
  | .fn _ a b => idsL a ++ idsL b
  | .agg l => idsL l
  | .tup l => idsL l
  | _ => []
noncomputable def idsL : List EV → List Nat
  | [] => []
  | v :: l => v.ids ++ idsL l
end
noncomputable def isCal (o : Oper) : Bool := match o.op with
  | .call c => match c.callee with
    | .value _ => true
    | _ => false
  | _ => false
noncomputable def hasN (l : List Nat) (k : Nat) : Bool := l.any (Nat.beq k)
/-- What can be come to. -/
noncomputable def reach (σ : St) : Nat → List Nat → List Nat → List Nat
  | 0, _, l => l
  | n + 1, todo, l => match todo with
    | [] => l
    | id :: r => cond (hasN l id) (reach σ n r l) (reach σ n (((σ.blk id).map idsL).getD [] ++ r) (id :: l))
/-- The part of a state that an operation sees. -/
noncomputable def subSl (σ : St) : List Nat → Tr EV
  | [] => .lf
  | s :: l => (subSl σ l).put 20 s (σ.sl.get s)
noncomputable def subBl (σ : St) : List Nat → Tr (List EV)
  | [] => .lf
  | id :: l => (subBl σ l).put 40 id (σ.blk id)
noncomputable def sub (σ : St) (rd R : List Nat) (lo : Nat) (ora : List Bool) : St := { sl := subSl σ rd, nt := σ.nt, bl := subBl σ R, cnt := lo, ora := ora, owe := [], tch := [] }
noncomputable def copyBl (τ : St) : List Nat → Tr (List EV) → Tr (List EV)
  | [], b => b
  | id :: l, b => copyBl τ l (b.put 40 id (τ.blk id))
noncomputable def rangeN (lo : Nat) : Nat → List Nat
  | 0 => []
  | n + 1 => lo :: rangeN (lo + 1) n
/-- What an operation did, put into a state. -/
noncomputable def mergeSl (σ τ : St) (dst : Option Nat) : Tr EV := match dst with
  | some d => σ.sl.put 20 d (τ.sl.get d)
  | none => σ.sl
noncomputable def merge (σ τ : St) (lo hi : Nat) (dst : Option Nat) : St :=
  { σ with sl := mergeSl σ τ dst, bl := copyBl τ (τ.tch ++ rangeN lo (hi - lo)) σ.bl, tch := τ.tch ++ σ.tch }
/-- Footprints. -/
structure Fp where
  i : Nat
  rd : List Nat
  dst : Option Nat
  R : List Nat
  W : List Nat
  lo : Nat
  hi : Nat
noncomputable def dstIn (d : Option Nat) (l : List Nat) : Bool := match d with
  | some d => hasN l d
  | none => false
noncomputable def outR (l : List Nat) (lo hi : Nat) : Bool := l.all fun id => !(Nat.ble lo id && Nat.blt id hi)
noncomputable def disj (l m : List Nat) : Bool := l.all fun a => !hasN m a
noncomputable def indep (a b : Fp) : Bool :=
  !dstIn a.dst b.rd && (!dstIn b.dst a.rd && (!dstIn a.dst b.dst.toList && (disj a.W b.R && (disj b.W a.R && (disj a.W b.W && (outR b.R a.lo a.hi && (outR a.R b.lo b.hi && (outR b.W a.lo a.hi && outR a.W b.lo b.hi))))))))
noncomputable def anc (ops : Array Oper) : Nat → Nat → Nat → Bool
  | 0, _, _ => false
  | n + 1, i, j => match ops[i]? with
    | some o => o.after.toList.any fun e => Region.binds .any e && (Nat.beq e.on j || anc ops n e.on j)
    | none => false
noncomputable def fwdOk (ops : Array Oper) : Bool := (List.range ops.size).all fun i => match ops[i]? with
  | some o => o.after.toList.all fun e => !Region.binds .any e || Nat.blt e.on i
  | none => true
noncomputable def isMem (o : Oper) : Bool := match o.op with
  | .load _ _ => true
  | .store _ _ _ => true
  | .call c => match c.callee with
    | .builtin .append => true
    | .builtin .clear => true
    | _ => false
  | _ => false
/-- Which blocks an operation looks at. -/
noncomputable def looks (ops : Array Oper) (o : Oper) (σ : St) : List Nat :=
  cond (isCal o) (reach σ 2000 (idsL ((readsO ops o).map σ.slot)) []) (cond (isMem o) (idsL ((readsO ops o).map σ.slot)) [])
/-- Numbers are small enough for trees. -/
noncomputable def smallO (o : Oper) (τ : St) : Bool := (match o.dst with
  | some d => Nat.blt d 1000000
  | none => true) && (τ.tch.all (fun id => Nat.blt id τ.cnt) && Nat.blt τ.cnt 1000000000000)
noncomputable def drawX (P : Program) (cal : Nat → List EV → St → R) (ops : Array Oper) : List Oper → Nat → List Fp → St → Option St
  | [], _, _, σ => some σ
  | o :: l, i, fps, σ => match guardX P cal ops o (sub σ (readsO ops o) (looks ops o σ) σ.cnt σ.ora) with
    | some τ => cond (smallO o τ && fps.all fun p => anc ops ops.size i p.i || indep p ⟨i, readsO ops o, o.dst, looks ops o σ, τ.tch, σ.cnt, τ.cnt⟩)
        (drawX P cal ops l (i + 1) (⟨i, readsO ops o, o.dst, looks ops o σ, τ.tch, σ.cnt, τ.cnt⟩ :: fps) { (merge σ τ σ.cnt τ.cnt o.dst) with cnt := τ.cnt, ora := τ.ora, owe := τ.owe ++ σ.owe }) none
    | none => none

noncomputable def loopX (body : St → Option (Ex × St)) : Nat → St → Option (Ex × St)
  | 0, _ => none
  | m + 1, σ => match body σ with
    | some (.nrm, σ') => loopX body m σ'
    | r => r
noncomputable def codeX (P : Program) (cal : Nat → List EV → St → R) (n : Nat) : Code → St → Option (Ex × St)
  | .skip, σ => some (.nrm, σ)
  | .region _ ops draw, σ => match cond draw (cond (fwdOk ops) (drawX P cal ops ops.toList 0 [] σ) none) (seqX P cal ops ops.toList σ) with
    | some σ' => some (.nrm, σ')
    | none => none
  | .seq a b, σ => match codeX P cal n a σ with
    | some (.nrm, σ') => codeX P cal n b σ'
    | r => r
  | .cond c a b, σ => match σ.ev c with
    | .bool v => cond v (codeX P cal n a σ) (codeX P cal n b σ)
    | _ => none
  | .block id c, σ => match codeX P cal n c σ with
    | some (.ext i, σ') => cond (Nat.beq i id) (some (.nrm, σ')) (some (.ext i, σ'))
    | r => r
  | .loop c, σ => loopX (codeX P cal n c) n σ
  | .exit id, σ => some (.ext id, σ)
  | .ret, σ => some (.ret, σ)
  | _, _ => none

/-- A function. -/
noncomputable def funX (P : Program) : Nat → Nat → List EV → St → R
  | 0, _, _, _ => none
  | n + 1, f, args, σ => match P.funcs[f]? with
    | some fn => match fn.body with
      | some c => match codeX P (funX P n) n c { σ with sl := initSl 0 args, nt := fn.ntmps } with
        | some (.ext _, _) => none
        | some (_, σ') => match resEs P σ' fn.results.toList with
          | some vs => some (outE vs, { σ' with sl := σ.sl, nt := σ.nt })
          | none => none
        | none => none
      | none => none
    | none => none

noncomputable def st0 (ora : List Bool) : St := ⟨.lf, 0, .lf, 0, ora, [], []⟩
end Go.Xe

/- How an exact run's state stands to the world. -/
namespace Go.Xe
open Go.Ab (tk TK WF Keeps Row mkV addRow)

/-! Trees. -/
theorem get_lf {α : Type} (k : Nat) : (Tr.lf : Tr α).get k = none := rfl
theorem get_nd {α : Type} (l r : Tr α) (v : Option α) (k : Nat) : (Tr.nd l v r).get k = cond (Nat.beq k 0) v (cond (Nat.beq (k % 2) 1) (l.get (k / 2)) (r.get (k / 2 - 1))) := rfl
theorem put_lf {α : Type} (n k : Nat) (x : Option α) : Tr.put (n + 1) .lf k x = cond (Nat.beq k 0) (.nd .lf x .lf) (cond (Nat.beq (k % 2) 1) (.nd (Tr.put n .lf (k / 2) x) none .lf) (.nd .lf none (Tr.put n .lf (k / 2 - 1) x))) := rfl
theorem put_nd {α : Type} (n k : Nat) (x : Option α) (l r : Tr α) (v : Option α) : Tr.put (n + 1) (.nd l v r) k x = cond (Nat.beq k 0) (.nd l x r) (cond (Nat.beq (k % 2) 1) (.nd (Tr.put n l (k / 2) x) v r) (.nd l v (Tr.put n r (k / 2 - 1) x))) := rfl

theorem nbt {i j : Nat} (h : i = j) : Nat.beq i j = true := Go.Ab.beq_iff.2 h
theorem nbf {i j : Nat} (h : i ≠ j) : Nat.beq i j = false := by
  rw [Bool.eq_false_iff, Ne, Go.Ab.beq_iff]
  exact h
theorem get0 {α : Type} (l r : Tr α) (v : Option α) : (Tr.nd l v r).get 0 = v := rfl
theorem get1 {α : Type} (l r : Tr α) (v : Option α) {k : Nat} (h : k % 2 = 1) : (Tr.nd l v r).get k = l.get (k / 2) := by
  rw [get_nd, nbf (by omega : k ≠ 0), cond_false, nbt h, cond_true]
theorem get2 {α : Type} (l r : Tr α) (v : Option α) {k : Nat} (h0 : k ≠ 0) (h : k % 2 ≠ 1) : (Tr.nd l v r).get k = r.get (k / 2 - 1) := by
  rw [get_nd, nbf h0, cond_false, nbf h, cond_false]
theorem get_put {α : Type} : ∀ (n : Nat) (t : Tr α) (k : Nat) (x : Option α) (j : Nat) (v : α), (Tr.put n t k x).get j = some v → (j = k ∧ x = some v) ∨ (j ≠ k ∧ t.get j = some v)
  | 0, t, k, x, j, v, h => by cases h
  | n + 1, t, k, x, j, v, h => by
    have key : ∀ (l r : Tr α) (u : Option α), (cond (Nat.beq k 0) (Tr.nd l x r) (cond (Nat.beq (k % 2) 1) (.nd (Tr.put n l (k / 2) x) u r) (.nd l u (Tr.put n r (k / 2 - 1) x)))).get j = some v →
        (j = k ∧ x = some v) ∨ (j ≠ k ∧ (Tr.nd l u r).get j = some v) := by
      intro l r u h
      by_cases hk0 : k = 0
      · rw [nbt hk0, cond_true] at h
        by_cases hj0 : j = 0
        · subst hj0
          exact .inl ⟨hk0.symm, h⟩
        · refine .inr ⟨by omega, ?_⟩
          by_cases hj : j % 2 = 1
          · rw [get1 _ _ _ hj] at h ⊢; exact h
          · rw [get2 _ _ _ hj0 hj] at h ⊢; exact h
      · rw [nbf hk0, cond_false] at h
        by_cases hk : k % 2 = 1
        · rw [nbt hk, cond_true] at h
          by_cases hj0 : j = 0
          · subst hj0
            exact .inr ⟨by omega, h⟩
          · by_cases hj : j % 2 = 1
            · rw [get1 _ _ _ hj] at h ⊢
              rcases get_put n l (k / 2) x (j / 2) v h with ⟨a, b⟩ | ⟨a, b⟩
              · exact .inl ⟨by omega, b⟩
              · exact .inr ⟨fun e => a (by rw [e]), b⟩
            · rw [get2 _ _ _ hj0 hj] at h ⊢
              exact .inr ⟨fun e => hj (e ▸ hk), h⟩
        · rw [nbf hk, cond_false] at h
          by_cases hj0 : j = 0
          · subst hj0
            exact .inr ⟨by omega, h⟩
          · by_cases hj : j % 2 = 1
            · rw [get1 _ _ _ hj] at h ⊢
              exact .inr ⟨fun e => hk (e ▸ hj), h⟩
            · rw [get2 _ _ _ hj0 hj] at h ⊢
              rcases get_put n r (k / 2 - 1) x (j / 2 - 1) v h with ⟨a, b⟩ | ⟨a, b⟩
              · exact .inl ⟨by omega, b⟩
              · exact .inr ⟨fun e => a (by rw [e]), b⟩
    cases t with
    | lf =>
      rw [put_lf] at h
      rcases key .lf .lf none h with h | ⟨h1, h2⟩
      · exact .inl h
      · exfalso
        by_cases hj0 : j = 0
        · subst hj0; cases h2
        · by_cases hj : j % 2 = 1
          · rw [get1 _ _ _ hj] at h2; cases h2
          · rw [get2 _ _ _ hj0 hj] at h2; cases h2
    | nd l u r =>
      rw [put_nd] at h
      exact key l r u h

/-! Values. -/
abbrev Loc := Nat → Option (Nat × Nat)
inductive VR (ι : Loc) (w : World) : EV → Value → Prop
  | any {v} : VR ι w .any v
  | und : VR ι w .und undef
  | con {v} : VR ι w (.con v) v
  | int {k s m} : VR ι w (.int k s m) (.int k m)
  | bool {b} : VR ι w (.bool b) (.bool b)
  | ptr {id off b o} : ι id = some (b, o) → VR ι w (.ptr id off) (.pointer (some ⟨b, o + off, none⟩))
  | slc {id off len sz b o cap E} {c : Array Value} : ι id = some (b, o) → w.heap[b]? = some (.cells c E (0, 0)) → len ≤ cap → o + off + cap * sz ≤ c.size → VR ι w (.slc id off len sz) (.slice (some ⟨b, o + off, none⟩) len cap)
  | slc0 {id off sz ad} : VR ι w (.slc id off 0 sz) (.slice (some ad) 0 0)
  | fn {f} {fi ca : List EV} {vf vc : Array Value} : vf.size = fi.length → (∀ i, i < fi.length → VR ι w (fi.getD i .any) (vf.getD i undef)) → vc.size = ca.length → (∀ i, i < ca.length → VR ι w (ca.getD i .any) (vc.getD i undef)) → VR ι w (.fn f fi ca) (.func (.func f) vf vc)
  | agg {cs : List EV} {vs : Array Value} : vs.size = cs.length → (∀ i, i < cs.length → VR ι w (cs.getD i .any) (vs.getD i undef)) → (∀ i, i < cs.length → (cs.getD i .any).one = true) → VR ι w (.agg cs) (.agg vs)
  | tup {l : List EV} {vs : Array Value} : vs.size = l.length → (∀ i, i < l.length → VR ι w (l.getD i .any) (vs.getD i undef)) → VR ι w (.tup l) (.tuple vs)

/-- Blocks keep their sizes. -/
structure Ext (w w' : World) : Prop where
  size : w.heap.size ≤ w'.heap.size
  blk : ∀ (b : Nat) (c : Array Value) (E : TypeId), w.heap[b]? = some (.cells c E (0, 0)) → ∃ c' : Array Value, w'.heap[b]? = some (.cells c' E (0, 0)) ∧ c'.size = c.size
theorem Ext.refl (w : World) : Ext w w := ⟨Nat.le_refl _, fun _ c _ h => ⟨c, h, rfl⟩⟩
theorem Ext.trans {a b c : World} (h : Ext a b) (k : Ext b c) : Ext a c :=
  ⟨Nat.le_trans h.size k.size, fun x d E hx => by
    obtain ⟨d1, h1, h2⟩ := h.blk x d E hx
    obtain ⟨d2, h3, h4⟩ := k.blk x d1 E h1
    exact ⟨d2, h3, h4.trans h2⟩⟩

theorem VR.mono {ι ι' : Loc} {w w' : World} (hι : ∀ id p, ι id = some p → ι' id = some p) (he : Ext w w') {e : EV} {v : Value} (h : VR ι w e v) : VR ι' w' e v := by
  induction h with
  | any => exact .any
  | und => exact .und
  | con => exact .con
  | int => exact .int
  | bool => exact .bool
  | ptr h => exact .ptr (hι _ _ h)
  | slc h1 h2 h3 h4 =>
    obtain ⟨c', g1, g2⟩ := he.blk _ _ _ h2
    exact .slc (hι _ _ h1) g1 h3 (by rw [g2]; exact h4)
  | slc0 => exact .slc0
  | fn h1 _ h3 _ i1 i2 => exact .fn h1 i1 h3 i2
  | agg h1 _ h3 i1 => exact .agg h1 i1 h3
  | tup h1 _ i1 => exact .tup h1 i1

theorem VR.conE {ι : Loc} {w : World} (v : Value) : VR ι w (conE v) v := by
  unfold Xe.conE
  split
  · exact .int
  · exact .bool
  · exact .con

theorem VR.one {ι : Loc} {w : World} {e : EV} {v : Value} (h : VR ι w e v) (ho : e.one = true) : v.oneCell' = true := by
  cases h <;> first | rfl | exact ho | simp [EV.one] at ho

/-- What lies where. -/
structure Mem (w0 : World) (ι : Loc) (σ : St) (w : World) : Prop where
  blk : ∀ id cs, σ.blk id = some cs → ∃ (b o : Nat) (c : Array Value) (E : TypeId), ι id = some (b, o) ∧ w.heap[b]? = some (.cells c E (0, 0)) ∧ o + cs.length ≤ c.size ∧
    ∀ i, i < cs.length → VR ι w (cs.getD i .any) (c.getD (o + i) undef) ∧ (cs.getD i .any).one = true
  inj : ∀ id id' cs cs' b o b' o', σ.blk id = some cs → σ.blk id' = some cs' → id ≠ id' → ι id = some (b, o) → ι id' = some (b', o') → b ≠ b'
  own : ∀ id b o, ι id = some (b, o) → w0.heap.size ≤ b ∧ b < w.heap.size
  keep : Keeps (fun _ => False) w0 w

def SlotsOk (ι : Loc) (σ : St) (w : World) (tmps : Array Value) : Prop := ∀ s, VR ι w (σ.slot s) (tmps.getD s undef)

/-- A step's outcome. -/
structure Stp (w0 : World) (ι : Loc) (σ : St) (w : World) (ι' : Loc) (σ' : St) (w' : World) : Prop where
  mem : Mem w0 ι' σ' w'
  agree : ∀ id p, ι id = some p → ι' id = some p
  dom : ∀ id p, ι' id = some p → ι id = some p ∨ (σ.cnt ≤ id ∧ id < σ'.cnt ∧ (w.heap.size ≤ p.1 ∨ ∃ id0 q, id0 ∈ σ'.tch ∧ ι id0 = some q ∧ q.1 = p.1))
  cnt : σ.cnt ≤ σ'.cnt
  tch : ∀ id, id ∈ σ.tch → id ∈ σ'.tch
  ext : Ext w w'
  frame : ∀ b, b < w.heap.size → (∀ id p, id ∈ σ'.tch → ι id = some p → p.1 ≠ b) → w'.heap[b]? = w.heap[b]?
  owe : ∀ o, o ∈ σ.owe → o ∈ σ'.owe
  tin : ∀ id, id ∈ σ'.tch → id ∈ σ.tch ∨ (∃ cs, σ.blk id = some cs) ∨ σ.cnt ≤ id
  bin : ∀ id cs, σ'.blk id = some cs → (∃ cs', σ.blk id = some cs') ∨ (σ.cnt ≤ id ∧ id < σ'.cnt)

theorem Stp.trans {w0 : World} {ι ι1 ι2 : Loc} {σ σ1 σ2 : St} {w w1 w2 : World} (h : Stp w0 ι σ w ι1 σ1 w1) (k : Stp w0 ι1 σ1 w1 ι2 σ2 w2) : Stp w0 ι σ w ι2 σ2 w2 where
  mem := k.mem
  agree id p hp := k.agree id p (h.agree id p hp)
  dom id p hp := by
    rcases k.dom id p hp with h1 | ⟨h1, h2, h3⟩
    · rcases h.dom id p h1 with g1 | ⟨g1, g2, g3⟩
      · exact .inl g1
      · refine .inr ⟨g1, Nat.lt_of_lt_of_le g2 k.cnt, ?_⟩
        rcases g3 with g3 | ⟨i0, q, a, b, c⟩
        · exact .inl g3
        · exact .inr ⟨i0, q, k.tch _ a, b, c⟩
    · refine .inr ⟨Nat.le_trans h.cnt h1, h2, ?_⟩
      rcases h3 with h3 | ⟨i0, q, a, b, c⟩
      · exact .inl (Nat.le_trans h.ext.size h3)
      · rcases h.dom i0 q b with g1 | ⟨_, _, g3⟩
        · exact .inr ⟨i0, q, a, g1, c⟩
        · rcases g3 with g3 | ⟨i1, q1, a1, b1, c1⟩
          · exact .inl (c ▸ g3)
          · exact .inr ⟨i1, q1, k.tch _ a1, b1, c1.trans c⟩
  cnt := Nat.le_trans h.cnt k.cnt
  tch id hid := k.tch id (h.tch id hid)
  ext := h.ext.trans k.ext
  frame b hb hf := by
    rw [k.frame b (Nat.lt_of_lt_of_le hb h.ext.size) fun id p hid hp => ?_, h.frame b hb fun id p hid hp => hf id p (k.tch id hid) hp]
    rcases h.dom id p hp with g1 | ⟨_, _, g3⟩
    · exact hf id p hid g1
    · rcases g3 with g3 | ⟨i1, q1, a1, b1, c1⟩
      · omega
      · rw [← c1]
        exact hf i1 q1 (k.tch _ a1) b1
  owe o ho := k.owe o (h.owe o ho)
  tin id hid := by
    rcases k.tin id hid with h1 | ⟨cs, h1⟩ | h1
    · exact h.tin id h1
    · rcases h.bin id cs h1 with h2 | h2
      · exact .inr (.inl h2)
      · exact .inr (.inr h2.1)
    · exact .inr (.inr (Nat.le_trans h.cnt h1))
  bin id cs hc := by
    rcases k.bin id cs hc with ⟨cs', h1⟩ | ⟨h1, h2⟩
    · rcases h.bin id cs' h1 with h2 | ⟨h2, h3⟩
      · exact .inl h2
      · exact .inr ⟨h2, Nat.lt_of_lt_of_le h3 k.cnt⟩
    · exact .inr ⟨Nat.le_trans h.cnt h1, h2⟩

theorem Stp.refl {w0 : World} {ι : Loc} {σ : St} {w : World} (h : Mem w0 ι σ w) : Stp w0 ι σ w ι σ w :=
  ⟨h, fun _ _ h => h, fun _ _ h => .inl h, Nat.le_refl _, fun _ h => h, Ext.refl w, fun _ _ _ => rfl, fun _ h => h, fun _ h => .inl h, fun _ cs h => .inl ⟨cs, h⟩⟩

/-- Only slots, numbers of temporaries, answers and debts differ. -/
theorem Mem.congr {w0 : World} {ι : Loc} {σ σ' : St} {w : World} (h : Mem w0 ι σ w) (hb : σ'.bl = σ.bl) : Mem w0 ι σ' w := by
  have e : ∀ id, σ'.blk id = σ.blk id := fun id => by unfold St.blk; rw [hb]
  exact ⟨fun id cs hc => h.blk id cs (by rw [← e]; exact hc), fun id id' cs cs' b o b' o' h1 h2 => h.inj id id' cs cs' b o b' o' (by rw [← e]; exact h1) (by rw [← e]; exact h2), h.own, h.keep⟩

/-- A world with more draws is the same. -/
theorem Stp.same {w0 : World} {ι : Loc} {σ σ' : St} {w : World} (h : Mem w0 ι σ w) (hb : σ'.bl = σ.bl) (hc : σ'.cnt = σ.cnt) (ht : σ'.tch = σ.tch) (ho : ∀ o, o ∈ σ.owe → o ∈ σ'.owe) : Stp w0 ι σ w ι σ' w :=
  ⟨h.congr hb, fun _ _ h => h, fun _ _ h => .inl h, by rw [hc]; exact Nat.le_refl _, fun _ h => by rw [ht]; exact h, Ext.refl w, fun _ _ _ => rfl, ho, fun _ h => .inl (by rw [← ht]; exact h), fun id cs h => .inl ⟨cs, by unfold St.blk at h ⊢; rw [← hb]; exact h⟩⟩

/-- A NEW BLOCK. -/
theorem stp_new {w0 : World} {ι : Loc} {σ : St} {w w' : World} {cs : List EV} {c : Array Value} {E : TypeId} (h : Mem w0 ι σ w) (hf : ι σ.cnt = none) (hk : Keeps (fun _ => False) w w') (hs : w'.heap.size = w.heap.size + 1)
    (hb : w'.heap[w.heap.size]? = some (.cells c E (0, 0))) (hl : cs.length ≤ c.size) (hv : ∀ i, i < cs.length → VR ι w (cs.getD i .any) (c.getD i undef) ∧ (cs.getD i .any).one = true) :
    Stp w0 ι σ w (fun id => if id = σ.cnt then some (w.heap.size, 0) else ι id) (σ.new cs) w' := by
  have hagree : ∀ id p, ι id = some p → (fun id => if id = σ.cnt then some (w.heap.size, 0) else ι id) id = some p := fun id p hp => by
    have : id ≠ σ.cnt := fun e => by rw [e, hf] at hp; cases hp
    simp only [if_neg this, hp]
  have hext : Ext w w' := ⟨by omega, fun b d F hd => ⟨d, by rw [hk.block b (Array.getElem?_eq_some_iff.1 hd).1 id]; exact hd, rfl⟩⟩
  have hmono : ∀ {e v}, VR ι w e v → VR (fun id => if id = σ.cnt then some (w.heap.size, 0) else ι id) w' e v := fun hv => hv.mono hagree hext
  have hblk : ∀ id ds, (σ.new cs).blk id = some ds → (id = σ.cnt ∧ ds = cs) ∨ (id ≠ σ.cnt ∧ σ.blk id = some ds) := fun id ds hd => by
    rcases get_put 40 σ.bl σ.cnt (some cs) id ds hd with ⟨a, b⟩ | h
    · exact .inl ⟨a, by injection b with b; exact b.symm⟩
    · exact .inr h
  refine ⟨⟨fun id ds hd => ?_, fun id id' ds ds' b o b' o' hd hd' hne hi hi' => ?_, fun id b o hi => ?_, ?_⟩, hagree, fun id p hp => ?_, Nat.le_succ _, fun _ h => h, hext, fun b hb' _ => hk.block b hb' id, fun _ h => h, fun _ h => .inl h, fun id ds hd => ?_⟩
  · rcases hblk id ds hd with ⟨rfl, rfl⟩ | ⟨h1, h2⟩
    · exact ⟨w.heap.size, 0, c, E, if_pos rfl, hb, by omega, fun i hi => ⟨by rw [Nat.zero_add]; exact hmono (hv i hi).1, (hv i hi).2⟩⟩
    · obtain ⟨b, o, d, F, g1, g2, g3, g4⟩ := h.blk id ds h2
      exact ⟨b, o, d, F, hagree _ _ g1, by rw [hk.block b (Array.getElem?_eq_some_iff.1 g2).1 _root_.id]; exact g2, g3, fun i hi => ⟨hmono (g4 i hi).1, (g4 i hi).2⟩⟩
  · replace hi : (if id = σ.cnt then some (w.heap.size, 0) else ι id) = some (b, o) := hi
    replace hi' : (if id' = σ.cnt then some (w.heap.size, 0) else ι id') = some (b', o') := hi'
    rcases hblk id ds hd with ⟨rfl, _⟩ | ⟨h1, h2⟩
    · rcases hblk id' ds' hd' with ⟨rfl, _⟩ | ⟨h1', h2'⟩
      · exact absurd rfl hne
      · rw [if_pos rfl] at hi
        rw [if_neg h1'] at hi'
        injection hi with hi
        have := (h.own _ _ _ hi').2
        simp only [Prod.mk.injEq] at hi
        omega
    · rw [if_neg h1] at hi
      rcases hblk id' ds' hd' with ⟨rfl, _⟩ | ⟨h1', h2'⟩
      · rw [if_pos rfl] at hi'
        injection hi' with hi'
        have := (h.own _ _ _ hi).2
        simp only [Prod.mk.injEq] at hi'
        omega
      · rw [if_neg h1'] at hi'
        exact h.inj id id' ds ds' b o b' o' h2 h2' hne hi hi'
  · replace hi : (if id = σ.cnt then some (w.heap.size, 0) else ι id) = some (b, o) := hi
    split at hi
    · simp only [Option.some.injEq, Prod.mk.injEq] at hi
      have := h.keep.size
      omega
    · have := h.own _ _ _ hi
      omega
  · exact h.keep.trans hk (fun _ h => h) fun _ _ h => h
  · replace hp : (if id = σ.cnt then some (w.heap.size, 0) else ι id) = some p := hp
    split at hp
    · rename_i e
      simp only [Option.some.injEq] at hp
      subst hp
      exact .inr ⟨by omega, by simp [St.new]; omega, .inl (Nat.le_refl _)⟩
    · exact .inl hp
  · rcases hblk id ds hd with ⟨rfl, _⟩ | ⟨_, h2⟩
    · exact .inr ⟨Nat.le_refl _, Nat.lt_succ_self _⟩
    · exact .inl ⟨ds, h2⟩

/-- A BLOCK's CELLS CHANGE. -/
theorem stp_upd {w0 : World} {ι : Loc} {σ : St} {w w' : World} {id b o : Nat} {cs ds : List EV} {c c' : Array Value} {E : TypeId} (h : Mem w0 ι σ w) (hi : ι id = some (b, o)) (hc : σ.blk id = some cs)
    (hb : w.heap[b]? = some (.cells c E (0, 0))) (hb' : w'.heap[b]? = some (.cells c' E (0, 0))) (hsz : c'.size = c.size) (hoth : ∀ x, x ≠ b → w'.heap[x]? = w.heap[x]?) (hhs : w'.heap.size = w.heap.size)
    (hos : w'.os = w.os) (htp : w'.tape = w.tape) (hou : w'.output = w.output) (hl : o + ds.length ≤ c'.size) (hv : ∀ i, i < ds.length → VR ι w (ds.getD i .any) (c'.getD (o + i) undef) ∧ (ds.getD i .any).one = true) :
    Stp w0 ι σ w ι (σ.upd id ds) w' := by
  have hext : Ext w w' := ⟨by omega, fun x d F hd => by
    by_cases e : x = b
    · subst e
      rw [hb] at hd
      injection hd with hd
      injection hd with h1 h2 h3
      subst h1 h2
      exact ⟨c', hb', hsz⟩
    · exact ⟨d, by rw [hoth x e]; exact hd, rfl⟩⟩
  have hblk : ∀ j es, (σ.upd id ds).blk j = some es → (j = id ∧ es = ds) ∨ (j ≠ id ∧ σ.blk j = some es) := fun j es hd => by
    rcases get_put 40 σ.bl id (some ds) j es hd with ⟨a, b⟩ | h
    · exact .inl ⟨a, by injection b with b; exact b.symm⟩
    · exact .inr h
  have hin : ∀ j es, (σ.upd id ds).blk j = some es → ∃ fs, σ.blk j = some fs := fun j es hd => by
    rcases hblk j es hd with ⟨rfl, _⟩ | ⟨_, h2⟩
    · exact ⟨cs, hc⟩
    · exact ⟨es, h2⟩
  refine ⟨⟨fun j es hd => ?_, fun j j' es es' x p x' p' hd hd' hne hi1 hi2 => ?_, fun j x p hj => ?_, ?_⟩, fun _ _ h => h, fun _ _ h => .inl h, Nat.le_refl _, fun _ h => List.mem_cons_of_mem _ h, hext, fun x hx hf => ?_, fun _ h => h, fun j hj => ?_, fun j es hd => .inl (hin j es hd)⟩
  · rcases hblk j es hd with ⟨rfl, rfl⟩ | ⟨h1, h2⟩
    · exact ⟨b, o, c', E, hi, hb', hl, fun i hi' => ⟨(hv i hi').1.mono (fun _ _ h => h) hext, (hv i hi').2⟩⟩
    · obtain ⟨x, p, d, F, g1, g2, g3, g4⟩ := h.blk j es h2
      have hx : x ≠ b := h.inj j id es cs x p b o h2 hc h1 g1 hi
      exact ⟨x, p, d, F, g1, by rw [hoth x hx]; exact g2, g3, fun i hi' => ⟨(g4 i hi').1.mono (fun _ _ h => h) hext, (g4 i hi').2⟩⟩
  · obtain ⟨fs, hf⟩ := hin j es hd
    obtain ⟨fs', hf'⟩ := hin j' es' hd'
    exact h.inj j j' fs fs' x p x' p' hf hf' hne hi1 hi2
  · have := h.own j x p hj
    omega
  · refine h.keep.trans ⟨hos, htp, hou, by omega, fun x hx _ => ?_⟩ (fun _ h => h) (Y' := fun x => x = b) (fun x hx e => ?_)
    · exact hoth x ‹_›
    · have := (h.own _ _ _ hi).1
      omega
  · exact hoth x fun e => hf id (b, o) (by simp [St.upd]) hi e.symm
  · rcases List.mem_cons.1 hj with rfl | hj
    · exact .inr (.inl ⟨cs, hc⟩)
    · exact .inl hj

end Go.Xe

/- What single operations do: those that touch no memory. -/
namespace Go.Xe
open Go.Ab (tk TK WF Keeps Row mkV addRow Does und_int und_slc und_struct run_sizeOf addr_add beq_iff int_beq)
variable {P : Program}

noncomputable def Owe.ok (o : Owe) : Prop := cmpI o.op o.x o.y = some o.b
/-- What a step leaves. -/
def Res (w0 : World) (ι : Loc) (σ : St) (w : World) (e : EV) (σ' : St) : Value → World → Prop := fun v w' => ∃ ι', Stp w0 ι σ w ι' σ' w' ∧ VR ι' w' e v

theorem cndT {α : Type} {b : Bool} {x : α} {y : α} (h : cond b (some x) none = some y) : b = true ∧ x = y := by
  cases b
  · cases h
  · exact ⟨rfl, by injection h⟩
theorem cndO {α : Type} {b : Bool} {x : Option α} {y : α} (h : cond b x none = some y) : b = true ∧ x = some y := by
  cases b
  · cases h
  · exact ⟨rfl, h⟩
theorem pr {e e' : EV} {σ σ' : St} (h : some (e, σ) = some (e', σ')) : e = e' ∧ σ = σ' := by
  injection h with h
  injection h with h1 h2
  exact ⟨h1, h2⟩

section
variable {w0 : World} {ι : Loc} {σ σ' : St} {a : Act} {w : World} {o : Oper} {e : EV} {v : Value}

theorem ev_ok (S : SlotsOk ι σ w a.tmps) (x : Operand) : VR ι w (σ.ev x) (a.eval x) := by
  cases x with
  | tmp t => exact S t
  | const v => exact VR.conE v
  | func f => exact VR.fn (vf := #[]) (vc := #[]) rfl (fun i h => (Nat.not_lt_zero i h).elim) rfl (fun i h => (Nat.not_lt_zero i h).elim)
  | global g => exact .any
theorem Res.pure (M : Mem w0 ι σ w) (h : VR ι w e v) : Res w0 ι σ w e σ v w := ⟨ι, Stp.refl M, h⟩

theorem VR.bool_inv {b : Bool} (h : VR ι w (.bool b) v) : v = .bool b := by cases h; rfl
theorem VR.int_inv {k : IntKind} {s : Bool} {n : Int} (h : VR ι w (.int k s n) v) : v = .int k n := by cases h; rfl
theorem VR.con_inv {u : Value} (h : VR ι w (.con u) v) : v = u := by cases h; rfl
theorem VR.ptr_inv {id off : Nat} (h : VR ι w (.ptr id off) v) : ∃ b o, ι id = some (b, o) ∧ v = .pointer (some ⟨b, o + off, none⟩) := by
  cases h with
  | ptr h => exact ⟨_, _, h, rfl⟩
theorem VR.slc_inv {id off len sz : Nat} (h : VR ι w (.slc id off len sz) v) : (∃ b o cap E, ∃ c : Array Value, v = .slice (some ⟨b, o + off, none⟩) len cap ∧ ι id = some (b, o) ∧ w.heap[b]? = some (.cells c E (0, 0)) ∧ len ≤ cap ∧ o + off + cap * sz ≤ c.size) ∨ (len = 0 ∧ ∃ ad, v = .slice (some ad) 0 0) := by
  cases h with
  | slc h1 h2 h3 h4 => exact .inl ⟨_, _, _, _, _, rfl, h1, h2, h3, h4⟩
  | slc0 => exact .inr ⟨rfl, _, rfl⟩
theorem VR.slc_some {id off len sz : Nat} (h : VR ι w (.slc id off len sz) v) : ∃ ad cap, v = .slice (some ad) len cap ∧ len ≤ cap := by
  rcases h.slc_inv with ⟨b, o, cap, E, c, h1, _, _, h2, _⟩ | ⟨rfl, ad, h1⟩
  · exact ⟨_, _, h1, h2⟩
  · exact ⟨_, _, h1, Nat.le_refl _⟩
theorem isNilE_eq (h : isNilE e = true) : e = .con (.slice none 0 0) := by
  unfold isNilE at h
  split at h
  · rfl
  · cases h
theorem VR.nil (hn : isNilE e = true) (h : VR ι w e v) : v = .slice none 0 0 := by
  rw [isNilE_eq hn] at h
  exact h.con_inv
theorem elemT_eq {t e : Nat} (h : elemT P t = some e) : tk P t = .slc e := by
  unfold elemT at h
  split at h
  · injection h with h; subst h; assumption
  · cases h
theorem natI_eq {n : Nat} (h : natI e = some n) : e = .int .i64 false (n : Int) := by
  unfold natI at h
  split at h
  · injection h with h; subst h; rfl
  · cases h

theorem st_pick {c x y : Operand} (ho : o.op = .pick c x y) (M : Mem w0 ι σ w) (S : SlotsOk ι σ w a.tmps) (h : opPick c x y σ = some (e, σ')) : Does P o a w (Res w0 ι σ w e σ') := by
  unfold opPick at h
  split at h <;> try contradiction
  rename_i b hb
  obtain ⟨rfl, rfl⟩ := pr h
  have e1 := (hb ▸ ev_ok S c).bool_inv
  cases b
  · exact Does.value (v := a.eval y) (w' := w) (by simp [execOp, ho, e1, asBool]) (Res.pure M (ev_ok S y))
  · exact Does.value (v := a.eval x) (w' := w) (by simp [execOp, ho, e1, asBool]) (Res.pure M (ev_ok S x))

theorem st_nilCheck {x : Operand} (ho : o.op = .nilCheck x) (M : Mem w0 ι σ w) (S : SlotsOk ι σ w a.tmps) (h : opNilCheck x σ = some (e, σ')) : Does P o a w (Res w0 ι σ w e σ') := by
  unfold opNilCheck at h
  have hx := ev_ok S x
  split at h <;> try contradiction
  · rename_i id off hb
    obtain ⟨rfl, rfl⟩ := pr h
    rw [hb] at hx
    obtain ⟨b, p, h1, h2⟩ := hx.ptr_inv
    exact Does.value (v := a.eval x) (w' := w) (by simp only [execOp, ho, h2, Sem.run_pure]) (Res.pure M (by rw [h2]; exact .ptr h1))
  · rename_i f fi ca hb
    obtain ⟨rfl, rfl⟩ := pr h
    rw [hb] at hx
    obtain ⟨vf, vc, hv⟩ : ∃ vf vc, a.eval x = .func (.func f) vf vc := by
      generalize a.eval x = v at hx
      cases hx with
      | fn g1 g2 g3 g4 => exact ⟨_, _, rfl⟩
    exact Does.value (v := a.eval x) (w' := w) (by simp only [execOp, ho, hv, Sem.run_pure]) (Res.pure M hx)

theorem st_not {x : Operand} {t : Nat} (ho : o.op = .unOp .not t x) (M : Mem w0 ι σ w) (S : SlotsOk ι σ w a.tmps) (h : opNot x σ = some (e, σ')) : Does P o a w (Res w0 ι σ w e σ') := by
  unfold opNot at h
  have hx := ev_ok S x
  split at h <;> try contradiction
  rename_i b hb
  obtain ⟨rfl, rfl⟩ := pr h
  rw [hb] at hx
  have e1 := hx.bool_inv
  exact Does.value (v := .bool (!b)) (w' := w) (by simp [execOp, ho, e1, Op.unary]) (Res.pure M .bool)

theorem st_conv {x : Operand} {s d : Nat} (ho : o.op = .convert s d x) (M : Mem w0 ι σ w) (S : SlotsOk ι σ w a.tmps) (h : opConv P s d x σ = some (e, σ')) : Does P o a w (Res w0 ι σ w e σ') := by
  unfold opConv at h
  have hx := ev_ok S x
  split at h <;> try contradiction
  rename_i k0 s0 n k1 k hb hs hd
  obtain ⟨rfl, rfl⟩ := pr h
  rw [hb] at hx
  have e1 := hx.int_inv
  exact Does.value (v := .int k (k.wrap n)) (w' := w) (by simp [execOp, ho, e1, convert, run_underlying (und_int hs), run_underlying (und_int hd), Conv.intToInt]) (Res.pure M .int)

theorem st_field (W : WF P) {x : Operand} {s j : Nat} (ho : o.op = .fieldAddr s x j) (M : Mem w0 ι σ w) (S : SlotsOk ι σ w a.tmps) (h : opField P s x j σ = some (e, σ')) : Does P o a w (Res w0 ι σ w e σ') := by
  unfold opField at h
  have hx := ev_ok S x
  split at h <;> try contradiction
  rename_i id off fs hb hs
  split at h <;> try contradiction
  rename_i ft po hj
  rw [Go.Ab.cond_eq] at h
  split at h <;> try contradiction
  rename_i hz
  have hz' : P.cellsOf ft ≠ 0 := fun e => hz (beq_iff.2 e)
  obtain ⟨rfl, rfl⟩ := pr h
  rw [hb] at hx
  obtain ⟨b, p, h1, h2⟩ := hx.ptr_inv
  obtain ⟨f, hf, hfs⟩ := und_struct hs
  have hne := (W.struct _ _ hs _ _ _ hj).2
  obtain ⟨fd, hfd, hft, hfo⟩ : ∃ fd : Field, f[j]? = some fd ∧ fd.type = ft ∧ fd.offset = po := by
    rw [hfs] at hj
    simp only [List.getElem?_map, Option.map_eq_some_iff, Array.getElem?_toList] at hj
    obtain ⟨fd, h1, h2⟩ := hj
    simp only [Prod.mk.injEq] at h2
    exact ⟨fd, h1, h2.1, h2.2⟩
  exact Does.value (v := .pointer (some ⟨b, p + (off + po), none⟩)) (w' := w) (by simp [execOp, ho, h2, Instr.fieldAt, run_underlying hf, hfd, Instr.sureAddr, fieldPlace, hft, run_sizeOf hne, hz', addr_add, hfo, Nat.add_assoc]) (Res.pure M (.ptr h1))

theorem st_index (W : WF P) {x ix : Operand} {t : Nat} (ho : o.op = .indexAddr t x ix) (M : Mem w0 ι σ w) (S : SlotsOk ι σ w a.tmps) (h : opIndex P t x ix σ = some (e, σ')) : Does P o a w (Res w0 ι σ w e σ') := by
  unfold opIndex at h
  have hx := ev_ok S x
  have hi := ev_ok S ix
  split at h <;> try contradiction
  rename_i id off len sz n el hb hn he
  obtain ⟨hc, h⟩ := cndO h
  obtain ⟨rfl, rfl⟩ := pr h
  simp only [Bool.and_eq_true, Nat.blt_eq, beq_iff] at hc
  rw [hb] at hx
  rw [natI_eq hn] at hi
  have e2 := hi.int_inv
  rcases hx.slc_inv with ⟨b, p, cap, E, c, h1, h2, _, _, _⟩ | ⟨h0, _⟩
  · have hr := Go.Ab.run_index (P := P) (w := w) (elemT_eq he) ho h1 e2 (by omega) (by omega) (W.elem _ _ (elemT_eq he))
    refine Does.value hr (Res.pure M ?_)
    have : p + off + (n : Int).toNat * P.cellsOf el = p + (off + n * sz) := by rw [hc.2, Nat.add_assoc]; rfl
    rw [this]
    exact .ptr h2
  · omega

theorem st_extract {x : Operand} {i : Nat} (ho : o.op = .extract x i) (M : Mem w0 ι σ w) (S : SlotsOk ι σ w a.tmps) (h : opExtract x i σ = some (e, σ')) : Does P o a w (Res w0 ι σ w e σ') := by
  unfold opExtract at h
  have hx := ev_ok S x
  split at h <;> try contradiction
  rename_i l hb
  rw [hb] at hx
  rw [Option.map_eq_some_iff] at h
  obtain ⟨u, hu, h⟩ := h
  injection h with h1 h2
  subst h1 h2
  have hi := (List.getElem?_eq_some_iff.1 hu).1
  generalize hv : a.eval x = v at hx
  cases hx with
  | tup g1 g2 =>
    rename_i vs
    have h3 := g2 i hi
    have h4 : vs[i]? = some (vs.getD i undef) := by
      rw [Array.getD_eq_getD_getElem?, Array.getElem?_eq_getElem (by omega)]
      rfl
    rw [List.getD_eq_getElem?_getD, hu] at h3
    exact Does.value (v := vs.getD i undef) (w' := w) (by simp only [execOp, ho, hv, Instr.extract, h4]; simp) (Res.pure M h3)

theorem VR.arr (S : SlotsOk ι σ w a.tmps) (xs : Array Operand) : (xs.map a.eval).size = (xs.toList.map σ.ev).length ∧ ∀ i, i < (xs.toList.map σ.ev).length → VR ι w ((xs.toList.map σ.ev).getD i .any) ((xs.map a.eval).getD i undef) := by
  refine ⟨by simp, fun i hi => ?_⟩
  simp only [List.length_map, Array.length_toList] at hi
  have h1 : (xs.toList.map σ.ev).getD i .any = σ.ev xs[i] := by
    rw [List.getD_eq_getElem?_getD, List.getElem?_map, Array.getElem?_toList, Array.getElem?_eq_getElem hi]; rfl
  have h2 : (xs.map a.eval).getD i undef = a.eval xs[i] := by
    rw [Array.getD_eq_getD_getElem?, Array.getElem?_map, Array.getElem?_eq_getElem hi]; rfl
  rw [h1, h2]
  exact ev_ok S _

theorem st_makeFunc {f : Nat} {fi ca : Array Operand} (ho : o.op = .makeFunc (.func f) fi ca) (M : Mem w0 ι σ w) (S : SlotsOk ι σ w a.tmps) (h : some (EV.fn f (fi.toList.map σ.ev) (ca.toList.map σ.ev), σ) = some (e, σ')) : Does P o a w (Res w0 ι σ w e σ') := by
  obtain ⟨rfl, rfl⟩ := pr h
  exact Does.value (v := .func (.func f) (fi.map a.eval) (ca.map a.eval)) (w' := w) (by simp [execOp, ho, Instr.makeFunc]) (Res.pure M (.fn (VR.arr S fi).1 (VR.arr S fi).2 (VR.arr S ca).1 (VR.arr S ca).2))

theorem lenE_ok {n : Nat} (h : lenE e = some n) (hv : VR ι w e v) : ∃ ad cap, v = .slice ad n cap := by
  unfold lenE at h
  split at h
  · injection h with h
    subst h
    exact ⟨_, _, hv.con_inv⟩
  · injection h with h
    subst h
    obtain ⟨ad, cap, h1, _⟩ := hv.slc_some
    exact ⟨_, _, h1⟩
  · cases h

theorem st_len {c : Call} (ho : o.op = .call c) (hc : c.callee = .builtin .len) (M : Mem w0 ι σ w) (S : SlotsOk ι σ w a.tmps) (h : opLen P c.args.toList c.argTypes.toList σ = some (e, σ')) : Does P o a w (Res w0 ι σ w e σ') := by
  unfold opLen at h
  split at h <;> try contradiction
  rename_i x t hxs ht
  split at h <;> try contradiction
  rename_i el n he hn
  obtain ⟨rfl, rfl⟩ := pr h
  have hat : c.argTypes = #[t] := by rw [← Array.toList_inj]; exact ht
  have hxa : c.args = #[x] := by rw [← Array.toList_inj]; exact hxs
  obtain ⟨ad, cap, e1⟩ := lenE_ok hn (ev_ok S x)
  exact Does.value (v := .int .i64 n) (w' := w) (by simp [execOp, ho, resolve, hc, hat, hxa, invoke, builtin, Builtin.len_, e1, run_underlying (und_slc (elemT_eq he)), goInt]) (Res.pure M .int)

theorem st_max {c : Call} (ho : o.op = .call c) (hc : c.callee = .builtin .max) (M : Mem w0 ι σ w) (S : SlotsOk ι σ w a.tmps) (h : opMax c.args.toList σ = some (e, σ')) : Does P o a w (Res w0 ι σ w e σ') := by
  unfold opMax at h
  split at h <;> try contradiction
  rename_i x y hxs
  split at h <;> try contradiction
  rename_i k m k' n h1 h2
  obtain ⟨hk, h⟩ := cndO h
  obtain ⟨rfl, rfl⟩ := pr h
  have hk := of_decide_eq_true hk
  subst hk
  have hxa : c.args = #[x, y] := by rw [← Array.toList_inj]; exact hxs
  have e1 := (h1 ▸ ev_ok S x).int_inv
  have e2 := (h2 ▸ ev_ok S y).int_inv
  refine Does.value (v := .int k (if n > m then n else m)) (w' := w) (by simp [execOp, ho, resolve, hc, hxa, invoke, builtin, Builtin.max_, Builtin.max2, e1, e2]) (Res.pure M ?_)
  rw [Go.Ab.cond_eq]
  by_cases hmn : m < n
  · rw [if_pos (by simpa using hmn), if_pos hmn]; exact .int
  · rw [if_neg (by simpa using hmn), if_neg hmn]; exact .int

/-! Two operands. -/
theorem cmp_run {op : BinOp} {k : IntKind} {m n : Int} {b : Bool} {x y : Operand} {tx ty : Nat} (ho : o.op = .binOp op tx x y ty) (hx : a.eval x = .int k m) (hy : a.eval y = .int k n) (h : cmpI op m n = some b) : (execOp a.eval o).run P w = .ok (.value (.bool b)) w := by
  have hg : ∀ w, (eqGuard op tx x y (.int k m) (.int k n)).run P w = .ok () w := by
    intro w
    unfold eqGuard
    cases op <;> simp
  unfold cmpI at h
  split at h <;> try contradiction
  all_goals injection h with h
  all_goals subst h
  all_goals simp only [execOp, ho, hx, hy, Sem.run_bind, hg, Result.andThen_ok]
  all_goals simp [binOp, Op.intCmp, bne, int_beq]

theorem ar_run {op : BinOp} {k : IntKind} {m n r : Int} {x y : Operand} {tx ty : Nat} (ho : o.op = .binOp op tx x y ty) (hx : a.eval x = .int k m) (hy : a.eval y = .int k n) (h : arI op k m n = some r) : (execOp a.eval o).run P w = .ok (.value (.int k r)) w := by
  have hg : ∀ w, (eqGuard op tx x y (.int k m) (.int k n)).run P w = .ok () w := by
    intro w
    unfold eqGuard
    cases op <;> simp
  unfold arI at h
  split at h <;> try contradiction
  · injection h with h; subst h; simp only [execOp, ho, hx, hy, Sem.run_bind, hg, Result.andThen_ok]; simp [binOp, Op.intArith]
  · injection h with h; subst h; simp only [execOp, ho, hx, hy, Sem.run_bind, hg, Result.andThen_ok]; simp [binOp, Op.intArith]
  · injection h with h; subst h; simp only [execOp, ho, hx, hy, Sem.run_bind, hg, Result.andThen_ok]; simp [binOp, Op.intArith]
  · rw [Go.Ab.cond_eq] at h
    split at h <;> try contradiction
    rename_i h0
    have h0 : ¬ n = 0 := by simpa using h0
    injection h with h; subst h; simp only [execOp, ho, hx, hy, Sem.run_bind, hg, Result.andThen_ok]; simp [binOp, Op.intDiv, h0]

theorem st_bin2 {op : BinOp} {k : IntKind} {m n : Int} {s1 s2 : Bool} {x y : Operand} {tx ty : Nat} (ho : o.op = .binOp op tx x y ty) (hx : a.eval x = .int k m) (hy : a.eval y = .int k n) (M : Mem w0 ι σ w)
    (h : binE op k s1 m s2 n σ = some (e, σ')) (hg : ∀ o, o ∈ σ'.owe → o.ok) : Does P o a w (Res w0 ι σ w e σ') := by
  unfold binE at h
  split at h
  · rename_i r hr
    have hrun := ar_run (P := P) (w := w) ho hx hy hr
    split at h
    · rw [Go.Ab.cond_eq] at h
      split at h <;> try contradiction
      obtain ⟨rfl, rfl⟩ := pr h
      exact Does.value hrun (Res.pure M .int)
    · obtain ⟨rfl, rfl⟩ := pr h
      exact Does.value hrun (Res.pure M .int)
  · split at h
    · rename_i b hb
      obtain ⟨rfl, rfl⟩ := pr h
      rw [Go.Ab.cond_eq] at hb
      split at hb <;> try contradiction
      exact Does.value (cmp_run (P := P) (w := w) ho hx hy hb) (Res.pure M .bool)
    · split at h <;> try contradiction
      rename_i b r hb
      have : some (EV.bool b, { σ with ora := r, owe := ⟨op, m, n, b⟩ :: σ.owe }) = some (e, σ') := by
        split at h <;> first | exact h | cases h
      obtain ⟨rfl, rfl⟩ := pr this
      have hok : cmpI op m n = some b := hg ⟨op, m, n, b⟩ (List.mem_cons_self ..)
      exact Does.value (cmp_run (P := P) (w := w) ho hx hy hok) ⟨ι, Stp.same M rfl rfl rfl (fun o ho => List.mem_cons_of_mem _ ho), .bool⟩

theorem st_nil {op : BinOp} {b : Bool} {x y : Operand} {tx ty el : Nat} {ad : Option Addr} {l c : Nat} (ho : o.op = .binOp op tx x y ty) (he : elemT P tx = some el) (hx : a.eval x = .slice ad l c) (hy : a.eval y = .slice none 0 0) (hb : ad.isNone = b) (M : Mem w0 ι σ w)
    (h : opBinNil op b σ = some (e, σ')) : Does P o a w (Res w0 ι σ w e σ') := by
  unfold opBinNil at h
  split at h <;> try contradiction
  · obtain ⟨rfl, rfl⟩ := pr h
    subst hb
    exact Does.value (v := .bool ad.isNone) (w' := w) (by simp [execOp, ho, hx, hy, eqGuard, binOp, run_equal_slice_nil w tx el ad l c (und_slc (elemT_eq he))]) (Res.pure M .bool)
  · obtain ⟨rfl, rfl⟩ := pr h
    subst hb
    exact Does.value (v := .bool (!ad.isNone)) (w' := w) (by simp [execOp, ho, hx, hy, eqGuard, binOp, run_equal_slice_nil w tx el ad l c (und_slc (elemT_eq he))]) (Res.pure M .bool)

theorem st_binS {op : BinOp} {b : Bool} {x y : Operand} {tx ty : Nat} {ad : Option Addr} {l c : Nat} (ho : o.op = .binOp op tx x y ty) (hx : a.eval x = .slice ad l c) (hb : ad.isNone = b) (M : Mem w0 ι σ w) (S : SlotsOk ι σ w a.tmps)
    (h : opBinS P tx op b (σ.ev y) σ = some (e, σ')) : Does P o a w (Res w0 ι σ w e σ') := by
  unfold opBinS at h
  split at h <;> try contradiction
  rename_i el he
  obtain ⟨hn, h⟩ := cndO h
  exact st_nil ho he hx ((ev_ok S y).nil hn) hb M h

theorem st_bin {op : BinOp} {x y : Operand} {tx ty : Nat} (ho : o.op = .binOp op tx x y ty) (M : Mem w0 ι σ w) (S : SlotsOk ι σ w a.tmps)
    (h : opBin P op tx x y σ = some (e, σ')) (hg : ∀ o, o ∈ σ'.owe → o.ok) : Does P o a w (Res w0 ι σ w e σ') := by
  unfold opBin at h
  have hx := ev_ok S x
  have hy := ev_ok S y
  split at h <;> try contradiction
  · rename_i k s n h1
    split at h <;> try contradiction
    rename_i k' s' n' h2
    rw [h1] at hx
    rw [h2] at hy
    have e1 := hx.int_inv
    have e2 := hy.int_inv
    split at h <;> try contradiction
    · unfold opShr at h
      rw [Go.Ab.cond_eq] at h
      split at h <;> try contradiction
      obtain ⟨h0, h⟩ := cndO h
      obtain ⟨rfl, rfl⟩ := pr h
      have h0 : 0 ≤ n' := by simpa using h0
      have h0' : ¬ n' < 0 := by omega
      exact Does.value (v := .int k (n.fdiv (2 ^ min n'.toNat k.bits))) (w' := w) (by simp [execOp, ho, e1, e2, eqGuard, binOp, Op.shift, h0']) (Res.pure M .int)
    · obtain ⟨hk, h'⟩ := cndO h
      have hk := of_decide_eq_true hk
      subst hk
      exact st_bin2 ho e1 e2 M h' hg
  · rename_i h1
    rw [h1] at hx
    obtain ⟨ad, cap, e1, _⟩ := hx.slc_some
    exact st_binS ho e1 rfl M S h
  · rename_i u h1
    rw [h1] at hx
    obtain ⟨hn, h⟩ := cndO h
    exact st_binS ho (hx.nil hn) rfl M S h

/-! Slices of slices. -/
theorem bnd_ok (S : SlotsOk ι σ w a.tmps) {d n : Nat} {y : Option Operand} (h : bnd σ d y = some n) : (y = none ∧ n = d) ∨ ∃ z, y = some z ∧ a.eval z = .int .i64 (n : Int) := by
  cases y with
  | none => injection h with h; exact .inl ⟨rfl, h.symm⟩
  | some z => exact .inr ⟨z, rfl, (natI_eq h ▸ ev_ok S z).int_inv⟩

theorem st_slice (W : WF P) {t : Nat} {x : Operand} {lo hi : Option Operand} (ho : o.op = .slice t x lo hi none) (M : Mem w0 ι σ w) (S : SlotsOk ι σ w a.tmps) (h : opSlice P t x lo hi σ = some (e, σ')) : Does P o a w (Res w0 ι σ w e σ') := by
  unfold opSlice at h
  have hx := ev_ok S x
  split at h <;> try contradiction
  rename_i el id off len sz l he hb hl
  split at h <;> try contradiction
  rename_i u hu
  obtain ⟨hc, h⟩ := cndO h
  obtain ⟨rfl, rfl⟩ := pr h
  simp only [Bool.and_eq_true, beq_iff, Nat.ble_eq] at hc
  obtain ⟨rfl, h2, h3⟩ := hc
  rw [hb] at hx
  obtain ⟨ad, cap, e1, hlc⟩ := hx.slc_some
  have hk := elemT_eq he
  have hne := W.elem _ _ hk
  have hsb : (Instr.sliceBounds true len cap (lo.map a.eval) (hi.map a.eval) none).run P w = .ok (l, u, cap) w := by
    have hh : (match hi.map a.eval with | some v => Instr.sliceBound v cap .sliceAcap | none => pure len : Sem Nat).run P w = .ok u w := by
      rcases bnd_ok S hu with ⟨rfl, rfl⟩ | ⟨z, rfl, e2⟩
      · simp
      · simp only [Option.map_some, Instr.sliceBound, e2, asIntOf, Sem.run_bind, Sem.run_pure, Result.andThen_ok]
        rw [if_pos (by omega)]
        simp
    have hl' : (match lo.map a.eval with | some v => Instr.sliceBound v u .sliceB | none => pure 0 : Sem Nat).run P w = .ok l w := by
      rcases bnd_ok S hl with ⟨rfl, rfl⟩ | ⟨z, rfl, e2⟩
      · simp
      · simp only [Option.map_some, Instr.sliceBound, e2, asIntOf, Sem.run_bind, Sem.run_pure, Result.andThen_ok]
        rw [if_pos (by omega)]
        simp
    unfold Instr.sliceBounds
    cases hi <;> cases lo <;> simp_all
  refine Does.value (v := .slice (if cap = l then some ad else (some ad).map (·.add (l * P.cellsOf el))) (u - l) (cap - l)) (w' := w) ?_ (Res.pure M ?_)
  · simp only [execOp, ho, Instr.sliceAt, Instr.slice, Sem.run_bind, run_underlying (und_slc hk), Result.andThen_ok, e1, Option.map_none, hsb, run_sizeOf hne, Sem.run_pure]
  · by_cases hcl : cap = l
    · rw [if_pos hcl, show u - l = 0 by omega, show cap - l = 0 by omega]
      exact .slc0
    · rw [if_neg hcl]
      rcases hx.slc_inv with ⟨b, p, cap', E, c, g1, g2, g3, g4, g5⟩ | ⟨rfl, ad', g1⟩
      · rw [g1] at e1
        injection e1 with e1 _ e3
        injection e1 with e1
        subst e1 e3
        simp only [Option.map_some, addr_add]
        rw [Nat.add_assoc]
        refine .slc g2 g3 (by omega) ?_
        have : (cap' - l) * sizeT P el + l * sizeT P el = cap' * sizeT P el := by rw [← Nat.add_mul]; congr 1; omega
        show p + (off + l * sizeT P el) + (cap' - l) * sizeT P el ≤ c.size
        omega
      · rw [g1] at e1
        injection e1 with _ _ e3
        omega

end
end Go.Xe

/- What single operations do: literals, loads and stores, new memory. -/
namespace Go.Xe
open Go.Ab (tk TK WF Keeps Row mkV addRow Does und_int und_slc und_struct run_sizeOf addr_add beq_iff Wr addRow_keeps addRow_here addRow_size)
variable {P : Program}

theorem seg_len {α : Type} {cs : List α} {o n : Nat} (h : o + n ≤ cs.length) : (seg cs o n).length = n := by
  simp [seg]
  omega
theorem seg_getD {α : Type} {cs : List α} {o n i : Nat} {d : α} (h : i < n) : (seg cs o n).getD i d = cs.getD (o + i) d := by
  simp only [seg, List.getD_eq_getElem?_getD, List.getElem?_take, if_pos h, List.getElem?_drop]
theorem splice_len {α : Type} {l ns : List α} {o : Nat} (h : o + ns.length ≤ l.length) : (splice l o ns).length = l.length := by
  simp [splice]
  omega
theorem splice_getD {α : Type} {l ns : List α} {o : Nat} (h : o + ns.length ≤ l.length) (i : Nat) (d : α) : (splice l o ns).getD i d = if i < o then l.getD i d else if i < o + ns.length then ns.getD (i - o) d else l.getD i d := by
  simp only [splice, List.getD_eq_getElem?_getD, List.getElem?_append, List.length_append, List.length_take, List.getElem?_take, List.getElem?_drop]
  by_cases h1 : i < o
  · rw [if_pos (by omega), if_pos (by omega), if_pos h1, if_pos h1]
  · by_cases h2 : i < o + ns.length
    · rw [if_pos (by omega), if_neg (by omega), if_neg h1, if_pos h2, show min o l.length = o by omega]
    · rw [if_neg (by omega), if_neg h1, if_neg h2, show o + ns.length + (i - (min o l.length + ns.length)) = i by omega]
theorem rep_len {α : Type} (n : Nat) (z : List α) : ((List.replicate n z).flatten).length = n * z.length := by
  induction n with
  | zero => simp
  | succ n ih => rw [List.replicate_succ, List.flatten_cons, List.length_append, ih, Nat.succ_mul]; omega
theorem rep_getD {α : Type} (z : List α) (d : α) : ∀ (n i : Nat), i < n * z.length → ((List.replicate n z).flatten).getD i d = z.getD (i % z.length) d
  | 0, i, h => by rw [Nat.zero_mul] at h; omega
  | n + 1, i, h => by
    rw [List.replicate_succ, List.flatten_cons, List.getD_eq_getElem?_getD, List.getElem?_append]
    by_cases h1 : i < z.length
    · rw [if_pos h1, ← List.getD_eq_getElem?_getD, Nat.mod_eq_of_lt h1]
    · rw [Nat.succ_mul] at h
      rw [if_neg h1, ← List.getD_eq_getElem?_getD, rep_getD z d n (i - z.length) (by omega), ← Nat.mod_eq_sub_mod (by omega)]

/-- Cells of a run and of the world. -/
structure CR (ι : Loc) (w : World) (l : List EV) (vs : List Value) : Prop where
  len : vs.length = l.length
  get : ∀ i, i < l.length → VR ι w (l.getD i .any) (vs.getD i undef) ∧ (l.getD i .any).one = true
section
variable {w0 : World} {ι : Loc} {σ σ' : St} {a : Act} {w : World} {o : Oper} {e : EV} {v : Value} {l : List EV} {vs : List Value}

theorem CR.seg (h : CR ι w l vs) {o n : Nat} (ho : o + n ≤ l.length) : CR ι w (seg l o n) (seg vs o n) := by
  have hv := h.len
  have h1 := seg_len ho
  refine ⟨by rw [h1, seg_len (by omega)], fun i hi => ?_⟩
  rw [h1] at hi
  rw [seg_getD hi, seg_getD hi]
  exact h.get _ (by omega)
theorem CR.splice {m : List EV} {us : List Value} (h : CR ι w l vs) (k : CR ι w m us) {o : Nat} (ho : o + m.length ≤ l.length) : CR ι w (splice l o m) (splice vs o us) := by
  have hv := h.len
  have hu := k.len
  refine ⟨by rw [splice_len ho, splice_len (by omega)]; exact hv, fun i hi => ?_⟩
  rw [splice_len ho] at hi
  rw [splice_getD ho, splice_getD (by omega), hu]
  by_cases h1 : i < o
  · rw [if_pos h1, if_pos h1]; exact h.get i hi
  · rw [if_neg h1, if_neg h1]
    by_cases h2 : i < o + m.length
    · rw [if_pos h2, if_pos h2]; exact k.get _ (by omega)
    · rw [if_neg h2, if_neg h2]; exact h.get i hi
theorem CR.append {m : List EV} {us : List Value} (h : CR ι w l vs) (k : CR ι w m us) : CR ι w (l ++ m) (vs ++ us) := by
  have hv := h.len
  have hu := k.len
  refine ⟨by simp [hv, hu], fun i hi => ?_⟩
  rw [List.length_append] at hi
  simp only [List.getD_eq_getElem?_getD, List.getElem?_append, hv]
  by_cases h1 : i < l.length
  · rw [if_pos h1, if_pos h1, ← List.getD_eq_getElem?_getD, ← List.getD_eq_getElem?_getD]; exact h.get i h1
  · rw [if_neg h1, if_neg h1, ← List.getD_eq_getElem?_getD, ← List.getD_eq_getElem?_getD]; exact k.get _ (by omega)
theorem CR.nil : CR ι w [] [] := ⟨rfl, fun i h => (Nat.not_lt_zero i h).elim⟩
theorem CR.one (h : CR ι w l vs) : ∀ v ∈ vs, v.oneCell' = true := by
  intro v hv
  obtain ⟨i, hi, e⟩ := List.mem_iff_getElem.1 hv
  obtain ⟨h1, h2⟩ := h.get i (by rw [← h.len]; exact hi)
  rw [List.getD_eq_getElem?_getD (l := vs), List.getElem?_eq_getElem hi] at h1
  rw [← e]
  exact h1.one h2
theorem CR.rep (h : CR ι w l vs) (n : Nat) : CR ι w ((List.replicate n l).flatten) ((List.replicate n vs).flatten) := by
  have hv := h.len
  refine ⟨by rw [rep_len, rep_len, hv], fun i hi => ?_⟩
  rw [rep_len] at hi
  rw [rep_getD _ _ _ _ hi, rep_getD _ _ _ _ (by rw [hv]; exact hi), hv]
  refine h.get _ (Nat.mod_lt _ ?_)
  rcases Nat.eq_zero_or_pos l.length with e | e
  · rw [e, Nat.mul_zero] at hi; omega
  · exact e
theorem CR.mono {ι' : Loc} {w' : World} (h : CR ι w l vs) (hι : ∀ id p, ι id = some p → ι' id = some p) (he : Ext w w') : CR ι' w' l vs := ⟨h.len, fun i hi => ⟨(h.get i hi).1.mono hι he, (h.get i hi).2⟩⟩

theorem made_eq (z : Array Value) (n : Nat) : ((Array.range (n * z.size)).map (z[· % z.size]!)).toList = (List.replicate n z.toList).flatten := by
  apply List.ext_getElem
  · simp [rep_len]
  · intro i h1 h2
    have h3 : i < n * z.size := by simpa using h1
    have hp : 0 < z.size := by
      rcases Nat.eq_zero_or_pos z.size with e | e
      · rw [e, Nat.mul_zero] at h3; omega
      · exact e
    have h4 := rep_getD z.toList undef n i (by simpa using h3)
    rw [List.getD_eq_getElem?_getD, List.getElem?_eq_getElem h2, Option.getD_some] at h4
    rw [h4]
    have h5 : i % z.size < z.size := Nat.mod_lt _ hp
    simp [List.getD_eq_getElem?_getD, h5]

/-- A value's cells. -/
theorem cells_ok (h : VR ι w e v) (hs : e.sto = true) : CR ι w e.cells v.cells.toList := by
  have key : ∀ {e : EV} {v : Value}, VR ι w e v → e.one = true → (∀ cs, e ≠ .agg cs) → CR ι w e.cells v.cells.toList := by
    intro e v h ho hn
    have h1 := h.one ho
    have e1 : e.cells = [e] := by cases e <;> first | rfl | exact absurd rfl (hn _)
    have e2 : v.cells.toList = [v] := by cases v <;> first | rfl | (simp [Value.oneCell'] at h1)
    rw [e1, e2]
    refine ⟨rfl, fun i hi => ?_⟩
    have : i = 0 := by simp at hi; omega
    subst this
    exact ⟨h, ho⟩
  cases e with
  | agg cs =>
    cases h with
    | agg g1 g2 g3 =>
      rename_i vs
      exact ⟨by simpa [Value.cells, EV.cells] using g1, fun i hi => ⟨by simpa [Value.cells, EV.cells, Array.getD_eq_getD_getElem?, List.getD_eq_getElem?_getD] using g2 i hi, g3 i hi⟩⟩
  | any => cases hs
  | und => cases hs
  | tup l => cases hs
  | con u => exact key h hs (by intro _ h; cases h)
  | int k s n => exact key h rfl (by intro _ h; cases h)
  | bool b => exact key h rfl (by intro _ h; cases h)
  | ptr i o => exact key h rfl (by intro _ h; cases h)
  | slc i o n z => exact key h rfl (by intro _ h; cases h)
  | fn f x y => exact key h rfl (by intro _ h; cases h)

/-- A block's cells. -/
theorem Mem.cells (M : Mem w0 ι σ w) {id : Nat} {cs : List EV} (h : σ.blk id = some cs) : ∃ (b o : Nat) (c : Array Value) (E : TypeId), ι id = some (b, o) ∧ w.heap[b]? = some (.cells c E (0, 0)) ∧ o + cs.length ≤ c.size ∧ CR ι w cs (seg c.toList o cs.length) := by
  obtain ⟨b, o, c, E, h1, h2, h3, h4⟩ := M.blk id cs h
  have hl : (seg c.toList o cs.length).length = cs.length := seg_len (by simpa using h3)
  exact ⟨b, o, c, E, h1, h2, h3, hl, fun i hi => ⟨by rw [seg_getD hi]; simpa [Array.getD_eq_getD_getElem?, List.getD_eq_getElem?_getD] using (h4 i hi).1, (h4 i hi).2⟩⟩

/-- A type's zero. -/
theorem zeroT_ok {t : Nat} {cs : List EV} (h : zeroT P t = some cs) : ∃ i z, P.info? t = some i ∧ i.zero = some z ∧ cs.length = P.cellsOf t ∧ tk P t ≠ .other ∧ z.cells.size = P.cellsOf t ∧ ∀ (ι : Loc) (w : World), CR ι w cs z.cells.toList := by
  unfold zeroT at h
  split at h <;> try contradiction
  rename_i i hi
  split at h <;> try contradiction
  rename_i z hz
  obtain ⟨hb, rfl⟩ := cndT h
  simp only [Bool.and_eq_true, beq_iff, List.all_eq_true] at hb
  obtain ⟨h1, h2, h3⟩ := hb
  refine ⟨i, z, hi, hz, by simpa using h2, fun e => ?_, h2, fun ι w => ⟨by simp, fun j hj => ?_⟩⟩
  · unfold okT at h1
    rw [e] at h1
    cases h1
  · simp only [List.length_map] at hj
    have e1 : (z.cells.toList.map conE).getD j .any = conE z.cells.toList[j] := by
      rw [List.getD_eq_getElem?_getD, List.getElem?_map, List.getElem?_eq_getElem hj]; rfl
    have e2 : z.cells.toList.getD j undef = z.cells.toList[j] := by
      rw [List.getD_eq_getElem?_getD, List.getElem?_eq_getElem hj]; rfl
    rw [e1, e2]
    refine ⟨VR.conE _, ?_⟩
    have := h3 _ (List.getElem_mem hj)
    revert this
    cases z.cells.toList[j] <;> intro this <;> first | rfl | exact this

theorem okT_ne {t : Nat} (h : okT P t = true) : tk P t ≠ .other := by
  intro e
  unfold okT at h
  rw [e] at h
  cases h

/-! Literals. -/
theorem parts_ok (S : SlotsOk ι σ w a.tmps) {off sz : Nat → Nat} {place : Nat → Option (Nat × Nat)} : ∀ (ps : List (Nat × Operand)) {l l' : List EV} {cells : Array Value}, (∀ j n, off j + n ≤ l.length → place j = some (off j, sz j)) → CR ι w l cells.toList → parts σ off sz l ps = some l' →
    ∃ cells', Instr.fill place cells (ps.map fun x => (x.1, a.eval x.2)) = some cells' ∧ CR ι w l' cells'.toList ∧ l'.length = l.length
  | [], l, l', cells, hp, hc, h => by
    injection h with h
    subst h
    exact ⟨cells, rfl, hc, rfl⟩
  | (j, x) :: ps, l, l', cells, hp, hc, h => by
    unfold parts at h
    obtain ⟨hb, h⟩ := cndO h
    simp only [Bool.and_eq_true, beq_iff, Nat.ble_eq] at hb
    obtain ⟨h1, h2, h3⟩ := hb
    have hx := cells_ok (ev_ok S x) h1
    have hxl : (a.eval x).cells.size = (σ.ev x).cells.length := by simpa using hx.len
    have hcl : cells.size = l.length := by simpa using hc.len
    have hle : off j + (a.eval x).cells.size ≤ cells.size := by omega
    have hs := hc.splice hx (o := off j) (by omega)
    obtain ⟨c', g1, g2, g3⟩ := parts_ok S ps (l := splice l (off j) (σ.ev x).cells) (l' := l') (cells := (splice cells.toList (off j) (a.eval x).cells.toList).toArray) (fun k n hk => hp k n (by rw [splice_len (by omega)] at hk; exact hk)) (by simpa using hs) h
    refine ⟨c', ?_, g2, by rw [g3, splice_len (by omega)]⟩
    simp only [List.map_cons, Instr.fill, hp j _ h3]
    rw [if_neg (by simp only [Bool.or_eq_true, decide_eq_true_eq, ne_eq]; omega)]
    rw [← g1]
    congr 1
    exact Go.Ab.fill_splice hle

theorem st_build (W : WF P) {t : Nat} {ps : Array (Nat × Operand)} (ho : o.op = .build t ps) (M : Mem w0 ι σ w) (S : SlotsOk ι σ w a.tmps) (h : opBuild P t ps σ = some (e, σ')) : Does P o a w (Res w0 ι σ w e σ') := by
  unfold opBuild at h
  split at h <;> try contradiction
  rename_i cs fs hz hk
  split at h <;> try contradiction
  rename_i l hl
  obtain ⟨rfl, rfl⟩ := pr h
  obtain ⟨i, z, z1, z2, z3, _, z4, z5⟩ := zeroT_ok hz
  obtain ⟨c', g1, g2, g3⟩ := parts_ok (place := fun j => (fs[j]?).map fun x => (x.2, P.cellsOf x.1)) S ps.toList (fun j n hj => by
    cases hf : fs[j]? with
    | none => simp only [hf, Option.map_none, Option.getD_none] at hj; omega
    | some y => rfl) (z5 ι w) hl
  have hb := Go.Ab.built_struct W hk z1 z2 (ps.toList.map fun x => (x.1, a.eval x.2))
  rw [g1] at hb
  refine Does.value (v := .agg c') (w' := w) ?_ (Res.pure M ?_)
  · have := run_build w t (ps.map fun (i, x) => (i, a.eval x)) c' (by
      rw [← hb]
      congr 1
      simp)
    simp only [execOp, ho, Sem.run_bind, this, Result.andThen_ok, Sem.run_pure]
  · exact .agg (by simpa using g2.len) (fun i hi => by simpa [Array.getD_eq_getD_getElem?, List.getD_eq_getElem?_getD] using (g2.get i hi).1) fun i hi => (g2.get i hi).2

/-! New memory. -/
theorem res_new {cs : List EV} {c : Array Value} {E : TypeId} {x : EV} {u : Value} (M : Mem w0 ι σ w) (hf : ι σ.cnt = none) (hc : CR ι w cs c.toList) (hv : VR (fun id => if id = σ.cnt then some (w.heap.size, 0) else ι id) (addRow w c E) x u) : Res w0 ι σ w x (σ.new cs) u (addRow w c E) := by
  have hl : c.size = cs.length := by simpa using hc.len
  exact ⟨_, stp_new (c := c) (E := E) M hf (addRow_keeps w c E) (addRow_size w c E) (addRow_here w c E) (by omega) (fun i hi => by
    have := hc.get i hi
    simpa [Array.getD_eq_getD_getElem?, List.getD_eq_getElem?_getD] using this), hv⟩
theorem res_ptr {cs : List EV} {c : Array Value} {E : TypeId} (M : Mem w0 ι σ w) (hf : ι σ.cnt = none) (hc : CR ι w cs c.toList) : Res w0 ι σ w (.ptr σ.cnt 0) (σ.new cs) (.pointer (some ⟨w.heap.size, 0, none⟩)) (addRow w c E) :=
  res_new M hf hc (VR.ptr (o := 0) (off := 0) (if_pos rfl))
theorem res_slc {cs : List EV} {c : Array Value} {E : TypeId} {n sz : Nat} (M : Mem w0 ι σ w) (hf : ι σ.cnt = none) (hc : CR ι w cs c.toList) (hn : cs.length = n * sz) : Res w0 ι σ w (.slc σ.cnt 0 n sz) (σ.new cs) (.slice (some ⟨w.heap.size, 0, none⟩) n n) (addRow w c E) :=
  res_new M hf hc (VR.slc (o := 0) (off := 0) (if_pos rfl) (addRow_here w c E) (Nat.le_refl _) (by
    have : c.size = cs.length := by simpa using hc.len
    omega))

theorem st_alloc {t : Nat} (ho : o.op = .alloc t) (M : Mem w0 ι σ w) (hf : ι σ.cnt = none) (h : opAlloc P t σ = some (e, σ')) : Does P o a w (Res w0 ι σ w e σ') := by
  unfold opAlloc at h
  split at h <;> try contradiction
  rename_i cs hz
  obtain ⟨rfl, rfl⟩ := pr h
  obtain ⟨i, z, z1, z2, z3, _, z4, z5⟩ := zeroT_ok hz
  exact Does.value (v := .pointer (some ⟨w.heap.size, 0, none⟩)) (w' := addRow w z.cells t) (by simp [execOp, ho, Instr.alloc, zeroValue, typeInfo, z1, z2, newVar, newRow, addRow]) (res_ptr M hf (z5 ι w))

theorem st_box {t : Nat} {x : Operand} (ho : o.op = .box t x) (M : Mem w0 ι σ w) (S : SlotsOk ι σ w a.tmps) (hf : ι σ.cnt = none) (h : cond (σ.ev x).sto (some (EV.ptr σ.cnt 0, σ.new (σ.ev x).cells)) none = some (e, σ')) : Does P o a w (Res w0 ι σ w e σ') := by
  obtain ⟨hs, h⟩ := cndO h
  obtain ⟨rfl, rfl⟩ := pr h
  exact Does.value (v := .pointer (some ⟨w.heap.size, 0, none⟩)) (w' := addRow w (a.eval x).cells t) (by simp [execOp, ho, Instr.box, newVar, newRow, addRow]) (res_ptr M hf (cells_ok (ev_ok S x) hs))

theorem mk_ok (W : WF P) {t : Nat} (ht : tk P t ≠ .other) (hl : l.length = P.cellsOf t) (h : CR ι w l vs) : VR ι w (mkE P t l) (mkV P t vs) := by
  unfold mkE mkV
  by_cases ha : Go.Ab.isAgg (tk P t) = true
  · rw [ha, if_pos rfl]
    exact .agg (by simpa using h.len) (fun i hi => by simpa [Array.getD_eq_getD_getElem?, List.getD_eq_getElem?_getD] using (h.get i hi).1) fun i hi => (h.get i hi).2
  · have h1 := W.one t (by simpa using ha) ht
    have ha : Go.Ab.isAgg (tk P t) = false := by simpa using ha
    rw [ha, if_neg (by simp), cond_false]
    have h2 := h.len
    match l, vs, hl.trans h1, h2, h with
    | [x], [u], _, _, h => exact (h.get 0 (by simp)).1

theorem st_loadAt (W : WF P) {t b p off : Nat} {c : Array Value} {E : TypeId} {cs : List EV} (ht : tk P t ≠ .other) (hb : w.heap[b]? = some (.cells c E (0, 0))) (hl : p + cs.length ≤ c.size) (hc : CR ι w cs (seg c.toList p cs.length)) (ho : off + P.cellsOf t ≤ cs.length) :
    ∃ v, (loadVar t ⟨b, p + off, none⟩).run P w = .ok v w ∧ VR ι w (mkE P t (seg cs off (P.cellsOf t))) v := by
  have hrow := Row.of_block (o := p + off) (n := P.cellsOf t) hb (by omega)
  have hs : (Go.Ab.seg c.toList (p + off) (P.cellsOf t)).length = P.cellsOf t := Go.Ab.seg_length (by simp; omega)
  refine ⟨_, Go.Ab.run_loadVarRow W ht hrow hs, mk_ok W ht (seg_len ho) ?_⟩
  have h1 := hc.seg ho
  have h2 : seg (seg c.toList p cs.length) off (P.cellsOf t) = Go.Ab.seg c.toList (p + off) (P.cellsOf t) := Go.Ab.seg_seg ho
  rw [h2] at h1
  exact h1

theorem st_load (W : WF P) {t : Nat} {x : Operand} (ho : o.op = .load t x) (M : Mem w0 ι σ w) (S : SlotsOk ι σ w a.tmps) (h : opLoad P t x σ = some (e, σ')) : Does P o a w (Res w0 ι σ w e σ') := by
  unfold opLoad at h
  have hx := ev_ok S x
  split at h <;> try contradiction
  rename_i id off hb
  split at h <;> try contradiction
  rename_i cs hcs
  obtain ⟨hc, h⟩ := cndO h
  obtain ⟨rfl, rfl⟩ := pr h
  simp only [Bool.and_eq_true, Nat.ble_eq] at hc
  rw [hb] at hx
  obtain ⟨b, p, h1, h2⟩ := hx.ptr_inv
  obtain ⟨b', p', c, E, g1, g2, g3, g4⟩ := M.cells hcs
  rw [h1] at g1
  injection g1 with g1
  injection g1 with g1 g1'
  subst g1 g1'
  obtain ⟨v, r1, r2⟩ := st_loadAt W (okT_ne hc.1) g2 g3 g4 hc.2
  exact Does.value (v := v) (w' := w) (by simp [execOp, ho, h2, Instr.loadAt, Instr.sureAddr, asAddr, r1]) (Res.pure M r2)

theorem run_storeV {t b o : Nat} {v : Value} {w : World} (ht : tk P t ≠ .other) (hl : v.cells.size = P.cellsOf t) {c : Array Value} {E : TypeId}
    (hb : w.heap[b]? = some (.cells c E (0, 0))) (hf : o + v.cells.size ≤ c.size) (h1 : ∀ u ∈ v.cells.toList, u.oneCell' = true) :
    ∃ w', (storeVar t ⟨b, o, none⟩ v).run P w = .ok () w' ∧ Wr w w' b o v.cells.toList := by
  have hst := run_storeCells_at (P := P) b o E v.cells.toList 0 c w hb (by simpa using hf) h1
  refine ⟨w.setRow b (c.toList.take (o + 0) ++ v.cells.toList ++ c.toList.drop (o + 0 + v.cells.toList.length)).toArray, ?_, ?_⟩
  · unfold storeVar
    simp only [Sem.run_bind, run_sizeOf ht, Result.andThen_ok, hl, ne_eq, not_true, if_false, hst]
  · refine ⟨rfl, rfl, rfl, by simp [World.setRow], fun b' hb' => ?_, c, _, E, hb, ?_, by simpa using hf, rfl⟩
    · simp only [World.setRow]
      rw [Array.getElem?_modify]
      rw [if_neg (fun e => hb' e.symm)]
    · rw [setRow_heap w b c _ E _ hb]
      simp

/-- Cells of a block are written. -/
theorem res_wr {id b p off : Nat} {cs ns : List EV} {us : List Value} {c : Array Value} {E : TypeId} {w' : World} {x : EV} {u : Value} (M : Mem w0 ι σ w) (hi : ι id = some (b, p)) (hcs : σ.blk id = some cs) (hb : w.heap[b]? = some (.cells c E (0, 0))) (hl : p + cs.length ≤ c.size)
    (hc : CR ι w cs (seg c.toList p cs.length)) (hn : CR ι w ns us) (ho : off + ns.length ≤ cs.length) (hw : Wr w w' b (p + off) us) (hv : ∀ w', Ext w w' → VR ι w' x u) : Res w0 ι σ w x (σ.upd id (splice cs off ns)) u w' := by
  obtain ⟨c1, c', E', q1, q2, q3, q4⟩ := hw.here
  rw [hb] at q1
  injection q1 with q1
  injection q1 with q1 q1' _
  subst q1 q1'
  have hus := hn.len
  have hlen : c'.size = c.size := by
    have := congrArg List.length q4
    rw [Array.length_toList, Go.Ab.splice_length (by simpa using q3)] at this
    simpa using this
  have hs := hc.splice hn ho
  have heq : seg c'.toList p cs.length = splice (seg c.toList p cs.length) off us := by
    apply List.ext_getElem?
    intro i
    rw [q4]
    by_cases hi : i < cs.length
    · have e1 : (seg (Go.Ab.splice c.toList (p + off) us) p cs.length)[i]? = (Go.Ab.splice c.toList (p + off) us)[p + i]? := Go.Ab.seg_get hi
      have e2 : ∀ k, k < cs.length → (seg c.toList p cs.length)[k]? = c.toList[p + k]? := fun k hk => Go.Ab.seg_get hk
      have e3 := Go.Ab.splice_get (l := seg c.toList p cs.length) (ns := us) (o := off) (by rw [seg_len (by simpa using hl)]; omega) i
      rw [e1, Go.Ab.splice_get (by simpa using q3)]
      refine Eq.trans ?_ e3.symm
      rw [e2 i hi]
      by_cases h1 : i < off
      · rw [if_pos (by omega), if_pos h1]
      · rw [if_neg (by omega), if_neg h1]
        by_cases h2 : i < off + us.length
        · rw [if_pos (by omega), if_pos h2]; congr 1; omega
        · rw [if_neg (by omega), if_neg h2]
    · rw [List.getElem?_eq_none, List.getElem?_eq_none]
      · rw [splice_len (by rw [seg_len (by simpa using hl)]; omega), seg_len (by simpa using hl)]; omega
      · rw [seg_len (by rw [Go.Ab.splice_length (by simpa using q3)]; simpa using hl)]; omega
  rw [← heq] at hs
  have hsl := splice_len ho
  have hstp := stp_upd (ds := splice cs off ns) M hi hcs hb q2 hlen (fun x hx => hw.other x hx) hw.size hw.os hw.tape hw.output (by rw [hsl, hlen]; exact hl) (fun i hi => by
    have := hs.get i hi
    rw [hsl] at hi
    rw [seg_getD hi] at this
    simpa [Array.getD_eq_getD_getElem?, List.getD_eq_getElem?_getD] using this)
  exact ⟨ι, hstp, hv w' hstp.ext⟩

theorem st_store {t : Nat} {x y : Operand} (ho : o.op = .store t x y) (M : Mem w0 ι σ w) (S : SlotsOk ι σ w a.tmps) (h : opStore P t x y σ = some (e, σ')) : Does P o a w (Res w0 ι σ w e σ') := by
  unfold opStore at h
  have hx := ev_ok S x
  split at h <;> try contradiction
  rename_i id off hb
  split at h <;> try contradiction
  rename_i cs hcs
  obtain ⟨hc, h⟩ := cndO h
  obtain ⟨rfl, rfl⟩ := pr h
  simp only [Bool.and_eq_true, Nat.ble_eq, beq_iff] at hc
  obtain ⟨c1, c2, c3, c4⟩ := hc
  rw [hb] at hx
  obtain ⟨b, p, h1, h2⟩ := hx.ptr_inv
  obtain ⟨b', p', c, E, g1, g2, g3, g4⟩ := M.cells hcs
  rw [h1] at g1
  injection g1 with g1
  injection g1 with g1 g1'
  subst g1 g1'
  have hy := cells_ok (ev_ok S y) c2
  have hyl : (a.eval y).cells.size = (σ.ev y).cells.length := by simpa using hy.len
  have c3 : off + P.cellsOf t ≤ cs.length := c3
  have c4 : (σ.ev y).cells.length = P.cellsOf t := c4
  obtain ⟨w', r1, r2⟩ := run_storeV (w := w) (b := b) (o := p + off) (okT_ne c1) (hyl.trans c4) g2 (by omega) hy.one
  exact Does.skip (w' := w') (by simp [execOp, ho, h2, Instr.storeAt, Instr.sureAddr, asAddr, r1]) (res_wr M h1 hcs g2 g3 g4 hy (by omega) r2 fun _ _ => .any)

end
end Go.Xe

/- What single operations do: slices made, appended to and cleared. -/
namespace Go.Xe
open Go.Ab (tk TK WF Keeps Row mkV addRow Does und_int und_slc und_struct run_sizeOf addr_add beq_iff Wr addRow_keeps addRow_here addRow_size info_of_tk)
variable {P : Program}
section
variable {w0 : World} {ι : Loc} {σ σ' : St} {a : Act} {w : World} {o : Oper} {e : EV} {v : Value} {l : List EV} {vs : List Value}

theorem st_buildSlice (W : WF P) {t n : Nat} {ps : Array (Nat × Operand)} (ho : o.op = .buildSlice t n ps) (M : Mem w0 ι σ w) (S : SlotsOk ι σ w a.tmps) (hf : ι σ.cnt = none) (h : opBuildSlice P t n ps σ = some (e, σ')) : Does P o a w (Res w0 ι σ w e σ') := by
  unfold opBuildSlice at h
  split at h <;> try contradiction
  rename_i el he
  split at h <;> try contradiction
  rename_i cs hz
  split at h <;> try contradiction
  rename_i l hl
  obtain ⟨hb, h⟩ := cndO h
  obtain ⟨rfl, rfl⟩ := pr h
  have hb := Nat.le_of_ble_eq_true hb
  obtain ⟨i, z, z1, z2, z3, z0, z4, z5⟩ := zeroT_ok hz
  have hk := elemT_eq he
  have hzl : z.cells.toList.length = P.cellsOf el := by simpa using z4
  have hrep : CR ι w ((List.replicate n cs).flatten) (((Array.range (n * z.cells.size)).map (z.cells[· % z.cells.size]!))).toList := by
    rw [made_eq]
    exact (z5 ι w).rep n
  obtain ⟨c', g1, g2, g3⟩ := parts_ok (place := fun j => some (j * sizeT P el, sizeT P el)) S ps.toList (fun j n hj => rfl) hrep hl
  have hlen : l.length = n * sizeT P el := by rw [g3, rep_len, z3]; rfl
  have h24 : ¬ (n * P.cellsOf el > 2 ^ 24) := by have : n * P.cellsOf el ≤ 1000000 := hb; omega
  refine Does.value (v := .slice (some ⟨w.heap.size, 0, none⟩) n n) (w' := addRow w c' el) ?_ (res_slc M hf g2 hlen)
  have hfill : Instr.fill (fun i => some (i * P.cellsOf el, P.cellsOf el)) ((Array.range (n * P.cellsOf el)).map (z.cells[· % z.cells.size]!)) (ps.map fun (i, x) => (i, a.eval x)).toList = some c' := by
    rw [← g1, z4]
    congr 1
    simp
  by_cases h0 : n * P.cellsOf el = 0
  · have harr : (Array.range (n * P.cellsOf el)).map (fun x => (#[] : Array Value)[x % (#[] : Array Value).size]!) = (Array.range (n * P.cellsOf el)).map (z.cells[· % z.cells.size]!) := by simp [h0]
    simp only [execOp, ho, Instr.buildSlice, Sem.run_bind, run_underlying (und_slc hk), Result.andThen_ok, run_sizeOf (W.elem t el hk), if_neg h24, if_pos h0, Sem.run_pure, harr, hfill]
    simp [newRow, addRow]
  · have hzv : (zeroValue el).run P w = .ok z w := by simp [zeroValue, typeInfo, z1, z2]
    simp only [execOp, ho, Instr.buildSlice, Sem.run_bind, run_underlying (und_slc hk), Result.andThen_ok, run_sizeOf (W.elem t el hk), if_neg h24, if_neg h0, Sem.run_pure, hzv, hfill]
    simp [newRow, addRow]

theorem st_makeSlice {t : Nat} {x y : Operand} (ho : o.op = .makeSlice t x y) (M : Mem w0 ι σ w) (S : SlotsOk ι σ w a.tmps) (hf : ι σ.cnt = none) (h : opMakeSlice P t x y σ = some (e, σ')) : Does P o a w (Res w0 ι σ w e σ') := by
  unfold opMakeSlice at h
  split at h <;> try contradiction
  rename_i el m c he hl hc
  split at h <;> try contradiction
  rename_i cs hz
  obtain ⟨hb, h⟩ := cndO h
  obtain ⟨rfl, rfl⟩ := pr h
  simp only [Bool.and_eq_true, beq_iff, Nat.ble_eq, Nat.blt_eq] at hb
  obtain ⟨rfl, b1, b2, b3⟩ := hb
  obtain ⟨i, z, z1, z2, z3, z0, z4, z5⟩ := zeroT_ok hz
  have hk := elemT_eq he
  have e1 := (natI_eq hl ▸ ev_ok S x).int_inv
  have e2 := (natI_eq hc ▸ ev_ok S y).int_inv
  obtain ⟨i', i1, i2, i3⟩ := info_of_tk z0
  rw [z1] at i1
  injection i1 with i1
  subst i1
  have hbb : i.bytes * m ≤ 1000000 * 1000 := Nat.mul_le_mul (by rw [i3]; exact b3) b1
  have hrun := run_make (P := P) w t el i z (und_slc hk) z1 z2 .i64 .i64 m m (by omega) (by omega) (by
    have : ((i.bytes * m : Nat) : Int) ≤ ((1000000 * 1000 : Nat) : Int) := Int.ofNat_le.2 hbb
    rw [Int.natCast_mul] at this
    omega) (by omega)
  have hcr : CR ι w ((List.replicate m cs).flatten) (madeCells z.cells (m * i.size)).toList := by
    have := (z5 ι w).rep m
    rw [← made_eq] at this
    unfold madeCells
    rw [i2, ← z4]
    exact this
  refine Does.value (v := .slice (some ⟨w.heap.size, 0, none⟩) m m) (w' := addRow w (madeCells z.cells (m * i.size)) el) ?_ (res_slc M hf hcr (by rw [rep_len, z3]; rfl))
  simp only [execOp, ho, e1, e2, Sem.run_bind, hrun, Result.andThen_ok, Sem.run_pure]
  rfl

/-! Appending. -/
/-- The cells of a slice in the world. -/
theorem slc_cells (M : Mem w0 ι σ w) {id off len sz : Nat} {cs : List EV} (h : slcCells σ (.slc id off len sz) = some cs) (hv : VR ι w (.slc id off len sz) v) : cs.length = len * sz ∧ ∃ fs p b c E, ∃ cur : Array Value, σ.blk id = some fs ∧ ι id = some (b, p) ∧ w.heap[b]? = some (.cells cur E (0, 0)) ∧ off + len * sz ≤ fs.length ∧ p + fs.length ≤ cur.size ∧
    CR ι w fs (seg cur.toList p fs.length) ∧ CR ι w cs (seg cur.toList (p + off) (len * sz)) ∧ cs = seg fs off (len * sz) ∧ ((v = .slice (some ⟨b, p + off, none⟩) len c ∧ len ≤ c ∧ p + off + c * sz ≤ cur.size) ∨ (len = 0 ∧ ∃ ad, v = .slice (some ad) 0 0)) := by
  change (match σ.blk id with
    | some cs => cond (Nat.ble (off + len * sz) cs.length) (some (seg cs off (len * sz))) none
    | none => none) = some cs at h
  split at h <;> try contradiction
  rename_i fs hfs
  obtain ⟨hb, h⟩ := cndT h
  have hb := Nat.le_of_ble_eq_true hb
  obtain ⟨b, p, cur, E, g1, g2, g3, g4⟩ := M.cells hfs
  have h5 := g4.seg hb
  have h6 : seg (seg cur.toList p fs.length) off (len * sz) = seg cur.toList (p + off) (len * sz) := Go.Ab.seg_seg hb
  rw [h6] at h5
  subst h
  rcases hv.slc_inv with ⟨b', p', cap, E', c', q1, q2, q3, q4, q5⟩ | ⟨q1, q2⟩
  · rw [g1] at q2
    injection q2 with q2
    injection q2 with q2 q2'
    subst q2 q2'
    rw [g2] at q3
    injection q3 with q3
    injection q3 with q3 _ _
    subst q3
    exact ⟨seg_len hb, fs, p, b, cap, E, cur, hfs, g1, g2, hb, g3, g4, h5, rfl, .inl ⟨q1, q4, q5⟩⟩
  · exact ⟨seg_len hb, fs, p, b, 0, E, cur, hfs, g1, g2, hb, g3, g4, h5, rfl, .inr ⟨q1, q2⟩⟩

theorem blk_new {cs : List EV} {j : Nat} {es : List EV} (h : (σ.new cs).blk j = some es) : (j = σ.cnt ∧ es = cs) ∨ (j ≠ σ.cnt ∧ σ.blk j = some es) := by
  rcases get_put 40 σ.bl σ.cnt (some cs) j es h with ⟨a, b⟩ | h
  · exact .inl ⟨a, by injection b with b; exact b.symm⟩
  · exact .inr h
theorem blk_eat {id : Nat} {j : Nat} {es : List EV} (h : (σ.eat id).blk j = some es) : j ≠ id ∧ σ.blk j = some es := by
  rcases get_put 40 σ.bl id none j es h with ⟨_, b⟩ | h
  · cases b
  · exact h
theorem stp_eat (M : Mem w0 ι σ w) {id : Nat} {cs : List EV} (h : σ.blk id = some cs) : Stp w0 ι σ w ι (σ.eat id) w := by
  refine ⟨⟨fun j es hj => M.blk j es (blk_eat hj).2, fun j j' es es' b o b' o' hj hj' => M.inj j j' es es' b o b' o' (blk_eat hj).2 (blk_eat hj').2, M.own, M.keep⟩, fun _ _ h => h, fun _ _ h => .inl h, Nat.le_refl _, fun _ h => List.mem_cons_of_mem _ h, Ext.refl w, fun _ _ _ => rfl, fun _ h => h, fun j hj => ?_, fun j es hj => .inl ⟨es, (blk_eat hj).2⟩⟩
  rcases List.mem_cons.1 hj with rfl | hj
  · exact .inr (.inl ⟨cs, h⟩)
  · exact .inl hj

/-- An append that finds room. -/
theorem res_room {id b p off len n sz cap : Nat} {fs ys : List EV} {news : List Value} {cur c' : Array Value} {E : TypeId} {w' : World} (M : Mem w0 ι σ w) (hf : ι σ.cnt = none) (hi : ι id = some (b, p)) (hfs : σ.blk id = some fs) (hb : w.heap[b]? = some (.cells cur E (0, 0))) (ho : off + len * sz ≤ fs.length) (hl : p + fs.length ≤ cur.size)
    (hc : CR ι w fs (seg cur.toList p fs.length)) (hn : CR ι w ys news) (hnl : ys.length = n * sz) (hroom : len + n ≤ cap) (hcap : p + off + cap * sz ≤ cur.size) (hc' : c'.toList = splice cur.toList (p + off + len * sz) news) (hb' : w'.heap[b]? = some (.cells c' E (0, 0)))
    (hoth : ∀ x, x ≠ b → w'.heap[x]? = w.heap[x]?) (hhs : w'.heap.size = w.heap.size) (hos : w'.os = w.os) (htp : w'.tape = w.tape) (hou : w'.output = w.output) :
    Res w0 ι σ w (.slc σ.cnt 0 (len + n) sz) ((σ.eat id).new (seg fs off (len * sz) ++ ys)) (.slice (some ⟨b, p + off, none⟩) (len + n) cap) w' := by
  have hns := hn.len
  have hmul : (len + n) * sz ≤ cap * sz := Nat.mul_le_mul_right _ hroom
  rw [Nat.add_mul] at hmul
  have hfit : p + off + len * sz + news.length ≤ cur.toList.length := by simp only [Array.length_toList]; omega
  have hsz : c'.size = cur.size := by
    have := congrArg List.length hc'
    rw [splice_len hfit] at this
    simpa using this
  have hext : Ext w w' := ⟨by omega, fun x d F hd => by
    by_cases e : x = b
    · subst e
      rw [hb] at hd
      injection hd with hd
      injection hd with h1 h2 h3
      subst h1 h2
      exact ⟨_, hb', hsz⟩
    · exact ⟨d, by rw [hoth x e]; exact hd, rfl⟩⟩
  let ι' : Loc := fun j => if j = σ.cnt then some (b, p + off) else ι j
  have hagree : ∀ j q, ι j = some q → ι' j = some q := fun j q hj => by
    have : j ≠ σ.cnt := fun e => by rw [e, hf] at hj; cases hj
    simp only [ι', if_neg this, hj]
  have hcnt : ι' σ.cnt = some (b, p + off) := if_pos rfl
  have hidne : id ≠ σ.cnt := fun e => by rw [e, hf] at hi; cases hi
  have hown := M.own _ _ _ hi
  have hblk : ∀ j es, ((σ.eat id).new (seg fs off (len * sz) ++ ys)).blk j = some es → (j = σ.cnt ∧ es = seg fs off (len * sz) ++ ys) ∨ (j ≠ σ.cnt ∧ j ≠ id ∧ σ.blk j = some es) := fun j es hj => by
    rcases blk_new hj with h | ⟨h1, h2⟩
    · exact .inl h
    · exact .inr ⟨h1, blk_eat h2⟩
  have hoff : ∀ j, j ≠ σ.cnt → ι' j = ι j := fun j h => if_neg h
  refine ⟨ι', ⟨⟨fun j es hj => ?_, fun j j' es es' b1 o1 b2 o2 hj hj' hne h1 h2 => ?_, fun j x q hj => ?_, ?_⟩, hagree, fun j q hj => ?_, Nat.le_succ _, fun _ h => List.mem_cons_of_mem _ h, hext, fun x hx hf' => ?_, fun _ h => h, fun j hj => ?_, fun j es hj => ?_⟩, ?_⟩
  · rcases hblk j es hj with ⟨rfl, rfl⟩ | ⟨h1, h2, h3⟩
    · have hsg := hc.seg ho
      have h6 : seg (seg cur.toList p fs.length) off (len * sz) = seg cur.toList (p + off) (len * sz) := Go.Ab.seg_seg ho
      rw [h6] at hsg
      have hall := hsg.append hn
      have hl1 : (seg fs off (len * sz)).length = len * sz := seg_len ho
      refine ⟨b, p + off, _, E, hcnt, hb', by rw [hsz, List.length_append, hl1, hnl]; omega, fun i hi' => ?_⟩
      have h7 := hall.get i hi'
      rw [List.length_append, hl1, hnl] at hi'
      refine ⟨VR.mono hagree hext ?_, h7.2⟩
      have h8 : (seg cur.toList (p + off) (len * sz) ++ news).getD i undef = c'.getD (p + off + i) undef := by
        have h9 : (seg cur.toList (p + off) (len * sz)).length = len * sz := seg_len (by simp only [Array.length_toList]; omega)
        have ha : c'.getD (p + off + i) undef = (splice cur.toList (p + off + len * sz) news).getD (p + off + i) undef := by
          rw [← hc']
          simp [Array.getD_eq_getD_getElem?, List.getD_eq_getElem?_getD]
        rw [ha, splice_getD hfit]
        by_cases hlt : i < len * sz
        · rw [if_pos (by omega), List.getD_eq_getElem?_getD, List.getElem?_append_left (by omega), ← List.getD_eq_getElem?_getD, seg_getD hlt]
        · rw [if_neg (by omega), if_pos (by omega), List.getD_eq_getElem?_getD, List.getElem?_append_right (by omega), ← List.getD_eq_getElem?_getD, h9]
          congr 1
          omega
      rw [← h8]
      exact h7.1
    · obtain ⟨x, q, d, F, g1, g2, g3, g4⟩ := M.blk j es h3
      have hx : x ≠ b := M.inj j id es fs x q b p h3 hfs h2 g1 hi
      exact ⟨x, q, d, F, hagree _ _ g1, by rw [hoth x hx]; exact g2, g3, fun i hi' => ⟨(g4 i hi').1.mono hagree hext, (g4 i hi').2⟩⟩
  · rcases hblk j es hj with ⟨rfl, _⟩ | ⟨a1, a2, a3⟩
    · rcases hblk j' es' hj' with ⟨rfl, _⟩ | ⟨c1, c2, c3⟩
      · exact absurd rfl hne
      · rw [hcnt] at h1
        injection h1 with h1
        injection h1 with h1 _
        rw [hoff _ c1] at h2
        rw [← h1]
        exact (M.inj j' id es' fs b2 o2 b p c3 hfs c2 h2 hi).symm
    · rw [hoff _ a1] at h1
      rcases hblk j' es' hj' with ⟨rfl, _⟩ | ⟨c1, c2, c3⟩
      · rw [hcnt] at h2
        injection h2 with h2
        injection h2 with h2 _
        rw [← h2]
        exact M.inj j id es fs b1 o1 b p a3 hfs a2 h1 hi
      · rw [hoff _ c1] at h2
        exact M.inj j j' es es' b1 o1 b2 o2 a3 c3 hne h1 h2
  · by_cases e : j = σ.cnt
    · subst e
      rw [hcnt] at hj
      injection hj with hj
      injection hj with hj _
      omega
    · rw [hoff _ e] at hj
      have := M.own _ _ _ hj
      omega
  · refine M.keep.trans ⟨hos, htp, hou, by omega, fun x hx _ => ?_⟩ (fun _ h => h) (Y' := fun x => x = b) (fun x hx e => ?_)
    · exact hoth x ‹_›
    · omega
  · by_cases e : j = σ.cnt
    · subst e
      rw [hcnt] at hj
      injection hj with hj
      subst hj
      exact .inr ⟨Nat.le_refl _, Nat.lt_succ_self _, .inr ⟨id, _, List.mem_cons_self .., hi, rfl⟩⟩
    · rw [hoff _ e] at hj
      exact .inl hj
  · exact hoth x fun e => hf' id (b, p) (List.mem_cons_self ..) hi e.symm
  · rcases List.mem_cons.1 hj with rfl | hj
    · exact .inr (.inl ⟨fs, hfs⟩)
    · exact .inl hj
  · rcases hblk j es hj with ⟨rfl, _⟩ | ⟨_, _, h3⟩
    · exact .inr ⟨Nat.le_refl _, Nat.lt_succ_self _⟩
    · exact .inl ⟨es, h3⟩
  · exact .slc (cap := cap) hcnt hb' hroom (by rw [hsz]; exact hcap)

/-- A row that grew. -/
theorem res_grow {cs : List EV} {n sz gc : Nat} {c : Array Value} {E : TypeId} (M : Mem w0 ι σ w) (hf : ι σ.cnt = none) (hl : cs.length = n * sz) (hgc : n ≤ gc) (hcs : c.size = gc * sz) (hc : CR ι w cs (seg c.toList 0 (n * sz))) :
    Res w0 ι σ w (.slc σ.cnt 0 n sz) (σ.new cs) (.slice (some ⟨w.heap.size, 0, none⟩) n gc) (w.drew.alloc (.cells c E)) := by
  have hmul : n * sz ≤ gc * sz := Nat.mul_le_mul_right _ hgc
  have hkeep : Keeps (fun _ => False) w (w.drew.alloc (.cells c E)) := ⟨rfl, rfl, rfl, by show w.heap.size ≤ (w.heap.push _).size; rw [Array.size_push]; exact Nat.le_succ _, fun b hb _ => heap_alloc_old w.drew _ hb⟩
  have hsz : (w.drew.alloc (.cells c E)).heap.size = w.heap.size + 1 := by show (w.heap.push _).size = _; rw [Array.size_push]
  have hhere : (w.drew.alloc (.cells c E)).heap[w.heap.size]? = some (.cells c E (0, 0)) := heap_alloc_new w.drew _
  refine ⟨_, stp_new M hf hkeep hsz hhere (by omega) (fun i hi => ?_), ?_⟩
  · have := hc.get i hi
    rw [seg_getD (by omega), Nat.zero_add] at this
    simpa [Array.getD_eq_getD_getElem?, List.getD_eq_getElem?_getD] using this
  · exact .slc (o := 0) (off := 0) (cap := gc) (if_pos rfl) hhere hgc (by omega)

end
end Go.Xe

/- What single operations do: append, clear; all of them. -/
namespace Go.Xe
open Go.Ab (tk TK WF Keeps Row mkV addRow Does und_int und_slc und_struct run_sizeOf addr_add beq_iff Wr addRow_keeps addRow_here addRow_size info_of_tk)
variable {P : Program}
section
variable {w0 : World} {ι : Loc} {σ σ' : St} {a : Act} {w : World} {o : Oper} {e : EV} {v : Value} {l : List EV} {vs : List Value}

theorem run_app_zero {t tx ty e e' : Nat} (ht : P.underlying t = some (.slice e)) (htx : P.underlying tx = some (.slice e')) {i : TypeInfo} (hi : P.info? e = some i) (ad base : Option Addr) {len cap c : Nat} (hle : len ≤ cap) :
    (Builtin.append_ #[t, tx] ty #[.slice ad len cap, .slice base 0 c]).run P w = .ok (.slice ad len cap) w := by
  cases base <;> cases ad <;> simp [Builtin.append_, run_underlying ht, run_underlying htx, sizeOf, typeInfo, hi, Builtin.lenOf, hle, Builtin.firstCells, loadCells, loadCellsFrom, storeCells]

theorem run_appendOp {c : Call} {t u : Nat} {x y : Operand} {v : Value} {w' : World} (ho : o.op = .call c) (hc : c.callee = .builtin .append) (hxs : c.args.toList = [x, y]) (hts : c.argTypes.toList = [t, u])
    (h : (Builtin.append_ #[t, u] o.type #[a.eval x, a.eval y]).run P w = .ok v w') : (execOp a.eval o).run P w = .ok (.value v) w' := by
  have e1 : c.args = #[x, y] := by rw [← Array.toList_inj]; exact hxs
  have e2 : c.argTypes = #[t, u] := by rw [← Array.toList_inj]; exact hts
  simp only [execOp, ho, resolve, invoke, builtin, hc, e1, e2, Sem.run_bind, Sem.run_pure, Result.andThen_ok, List.map_toArray, List.map_cons, List.map_nil, h]

theorem slc_con {u : Value} {cs : List EV} (h : slcCells σ (.con u) = some cs) : u = .slice none 0 0 ∧ cs = [] := by
  unfold slcCells at h
  split at h
  · rename_i hh
    injection hh with hh
    injection h with h
    exact ⟨hh, h.symm⟩
  · rename_i hh; cases hh
  · cases h

theorem cell_seg {b p n : Nat} {cur : Array Value} {E : TypeId} (hb : w.heap[b]? = some (.cells cur E (0, 0))) {j : Nat} {u : Value} (h : (seg cur.toList p n)[j]? = some u) : w.cell? ((⟨b, p, none⟩ : Addr).add j) = some u := by
  have hj : j < n := by
    have h1 := (List.getElem?_eq_some_iff.1 h).1
    simp only [seg, List.length_take] at h1
    omega
  rw [addr_add, Go.Ab.cell_of_block hb, ← Array.getElem?_toList, ← h]
  exact (Go.Ab.seg_get hj).symm

theorem tail_ok (M : Mem w0 ι σ w) {sz n : Nat} {y : EV} {ys : List EV} (h : tailE σ sz y = some (ys, n)) (hv : VR ι w y v) : ∃ base c news, v = .slice base n c ∧ CR ι w ys news ∧ ys.length = n * sz ∧ (base = none → n = 0) ∧ ∀ a, base = some a → ∀ j u, news[j]? = some u → w.cell? (a.add j) = some u := by
  unfold tailE at h
  split at h <;> try contradiction
  · rename_i id off m sz'
    split at h <;> try contradiction
    rename_i cs hcs
    obtain ⟨hb, hh⟩ := cndT h
    have hb := beq_iff.1 hb
    subst hb
    clear h
    injection hh with h1 h2
    subst h1 h2
    obtain ⟨q1, fs, p, b, c, E, cur, g1, g2, g3, g4, g5, g6, g7, g8, g9⟩ := slc_cells M hcs hv
    rcases g9 with ⟨h1, h2, h3⟩ | ⟨h1, ad, h2⟩
    · exact ⟨_, c, _, h1, g7, q1, (fun h => by cases h), fun a ha j u hu => by
        injection ha with ha
        subst ha
        exact cell_seg g3 hu⟩
    · subst h1
      rw [Nat.zero_mul] at q1
      have := List.eq_nil_of_length_eq_zero q1
      subst this
      exact ⟨_, 0, [], h2, CR.nil, by simp, fun _ => rfl, fun a _ j u hu => by simp at hu⟩
  · rename_i u
    split at h <;> try contradiction
    rename_i cs hcs
    injection h with h
    injection h with h1 h2
    subst h1 h2
    obtain ⟨rfl, _⟩ := slc_con hcs
    exact ⟨none, 0, [], hv.con_inv, CR.nil, by simp, fun _ => rfl, fun a _ j u hu => by simp at hu⟩

theorem grow_cells {z : Array Value} {olds news : List Value} {l m : List EV} {n k gc : Nat} (h1 : CR ι w l olds) (h2 : CR ι w m news) (hl : l.length = n * z.size) (hm : m.length = k * z.size) (hgc : n + k ≤ gc) :
    (olds.toArray ++ news.toArray ++ Builtin.zeroCells z (gc - (n + k))).size = gc * z.size ∧ CR ι w (l ++ m) (seg (olds.toArray ++ news.toArray ++ Builtin.zeroCells z (gc - (n + k))).toList 0 ((n + k) * z.size)) := by
  have e1 := h1.len
  have e2 := h2.len
  have hmul : (gc - (n + k)) * z.size + (n + k) * z.size = gc * z.size := by rw [← Nat.add_mul]; congr 1; omega
  rw [Nat.add_mul] at hmul
  refine ⟨by simp only [Array.size_append, List.size_toArray, size_zeroCells]; omega, ?_⟩
  have : seg (olds.toArray ++ news.toArray ++ Builtin.zeroCells z (gc - (n + k))).toList 0 ((n + k) * z.size) = olds ++ news := by
    simp only [seg, List.drop_zero, Array.toList_append]
    rw [List.take_append_of_le_length (by simp; rw [Nat.add_mul]; omega), List.take_of_length_le (by simp; rw [Nat.add_mul]; omega)]
  rw [this]
  exact h1.append h2

theorem st_append {c : Call} (ho : o.op = .call c) (hc : c.callee = .builtin .append) (M : Mem w0 ι σ w) (S : SlotsOk ι σ w a.tmps) (hf : σ.cnt < σ'.cnt → ι σ.cnt = none) (h : opAppend P c.args.toList c.argTypes.toList σ = some (e, σ')) : Does P o a w (Res w0 ι σ w e σ') := by
  unfold opAppend at h
  split at h <;> try contradiction
  rename_i x y t tx hxs hts
  split at h <;> try contradiction
  rename_i el el2 he he2
  split at h <;> try contradiction
  rename_i xs ys n zs hx hy hz
  obtain ⟨i, z, z1, z2, z3, z0, z4, z5⟩ := zeroT_ok hz
  have hk := und_slc (elemT_eq he)
  have hk2 := und_slc (elemT_eq he2)
  obtain ⟨i', i1, i2, i3⟩ := info_of_tk z0
  rw [z1] at i1
  injection i1 with i1
  subst i1
  have hvx := ev_ok S x
  obtain ⟨base, cy, news, y1, y2, y3, y4, y5⟩ := tail_ok M hy (ev_ok S y)
  have hnl : news.length = n * i.size := by rw [y2.len, y3, i2]; rfl
  rw [Go.Ab.cond_eq] at h
  split at h
  · rename_i h0
    have h0 := beq_iff.1 h0
    subst h0
    obtain ⟨rfl, rfl⟩ := pr h
    obtain ⟨ad, len, cap, e1, hle⟩ : ∃ ad len cap, a.eval x = .slice ad len cap ∧ len ≤ cap := by
      generalize σ.ev x = ex at hx hvx
      cases ex with
      | slc id off len sz =>
        obtain ⟨ad, cap, h1, h2⟩ := hvx.slc_some
        exact ⟨_, _, _, h1, h2⟩
      | con u =>
        obtain ⟨rfl, _⟩ := slc_con hx
        exact ⟨_, _, _, hvx.con_inv, Nat.le_refl _⟩
      | _ => simp [slcCells] at hx
    refine Does.value (v := a.eval x) (w' := w) (run_appendOp ho hc hxs hts ?_) (Res.pure M hvx)
    rw [y1, e1]
    exact run_app_zero hk hk2 z1 ad base hle
  · rename_i h0
    have h0 : n ≠ 0 := fun e => h0 (beq_iff.2 e)
    obtain ⟨hby, h⟩ := cndO h
    unfold okBytes at hby
    simp only [Bool.and_eq_true, Nat.blt_eq, Nat.ble_eq] at hby
    unfold opAppend1 at h
    have hfit : ∀ m sCap, m ≤ 1000000 → sCap < m → Builtin.nextslicecap m sCap * i.bytes ≤ 281474976710656 := fun m sCap hm hlt => growslice_fits hlt (by
      have : m * i.bytes ≤ 1000000 * 1000000 := Nat.mul_le_mul hm (by rw [i3]; exact hby.2)
      omega)
    generalize σ.ev x = ex at hx hvx h
    split at h
    · rename_i id off len sz
      obtain ⟨hb, h⟩ := cndO h
      obtain ⟨rfl, rfl⟩ := pr h
      simp only [Bool.and_eq_true, beq_iff, Nat.ble_eq] at hb
      obtain ⟨hsz, hle⟩ := hb
      subst hsz
      have hf := hf (Nat.lt_succ_self _)
      obtain ⟨q1, fs, p, b, cap, E, cur, g1, g2, g3, g4, g5, g6, g7, g8, g9⟩ := slc_cells M hx hvx
      have hgrow : ∀ (bs : Option Addr) (sCap : Nat) (olds : List Value), a.eval x = .slice bs len sCap → CR ι w xs olds → (bs = none → len = 0) → (∀ a, bs = some a → ∀ j v, olds[j]? = some v → w.cell? (a.add j) = some v) → sCap < len + n → Does P o a w (Res w0 ι σ w (.slc σ.cnt 0 (len + n) (sizeT P el)) ((σ.eat id).new (xs ++ ys))) := by
        intro bs sCap olds e1 ho1 hbs hold hlt
        have hr := Go.Ab.run_app_grow (P := P) (w := w) (ty := o.type) hk hk2 z1 z2 (bs := bs) (sLen := len) (sCap := sCap) (olds := olds) (by rw [ho1.len, q1, i2]; rfl) hbs hold (base := base) (n := n) (c := cy) (news := news) hnl y4 y5 hlt (by omega) (hfit _ _ hle hlt)
        rw [← e1, ← y1] at hr
        refine Does.value (run_appendOp ho hc hxs hts hr) ?_
        have hst := stp_eat M g1
        obtain ⟨c1, c2⟩ := grow_cells (z := z.cells) ho1 y2 (n := len) (k := n) (by rw [q1, z4]; rfl) (by rw [y3, z4]; rfl) (grownCap_ge w (len + n) sCap el)
        rw [z4] at c1 c2
        obtain ⟨ι', k1, k2⟩ := res_grow (σ := σ.eat id) (E := el) (sz := sizeT P el) (n := len + n) hst.mem hf (by rw [List.length_append, q1, y3, Nat.add_mul]) (grownCap_ge w (len + n) sCap el) c1 c2
        exact ⟨ι', hst.trans k1, k2⟩
      rcases g9 with ⟨h1, h2, h3⟩ | ⟨h1, ad, h2⟩
      · by_cases hroom : len + n ≤ cap
        · have hmul : (len + n) * sizeT P el ≤ cap * sizeT P el := Nat.mul_le_mul_right _ hroom
          rw [Nat.add_mul] at hmul
          have hnl' : news.length = n * sizeT P el := by rw [hnl, i2]; rfl
          have i2 : i.size = sizeT P el := i2
          have hr := Go.Ab.run_app_room (P := P) (w := w) (ty := o.type) hk hk2 z1 g3 (off := p + off) (sLen := len) (sCap := cap) (base := base) (n := n) (c := cy) hnl y4 y5 y2.one hroom (by rw [i2, hnl']; omega)
          rw [← h1, ← y1, i2] at hr
          refine Does.value (run_appendOp ho hc hxs hts hr) ?_
          rw [g8]
          exact res_room (c' := (splice cur.toList (p + off + len * sizeT P el) news).toArray) M hf g2 g1 g3 g4 g5 g6 y2 y3 hroom h3 (by simp) (setRow_heap w b cur _ E _ g3) (fun x h => setRow_other w b x _ h) (by simp) rfl rfl rfl
        · exact hgrow _ cap _ h1 g7 (fun h => by cases h) (fun a ha j u hu => by
            injection ha with ha
            subst ha
            exact cell_seg g3 hu) (by omega)
      · subst h1
        rw [Nat.zero_mul] at q1
        have := List.eq_nil_of_length_eq_zero q1
        subst this
        exact hgrow _ 0 [] h2 CR.nil (fun _ => rfl) (fun a _ j u hu => by simp at hu) (by omega)
    · rename_i hns
      obtain ⟨hb, h⟩ := cndO h
      obtain ⟨rfl, rfl⟩ := pr h
      have hle := Nat.le_of_ble_eq_true hb
      have hf := hf (Nat.lt_succ_self _)
      have hex : ∃ u, ex = .con u := by
        cases ex with
        | slc id off len sz => exact absurd rfl (hns _ _ _ _)
        | con u => exact ⟨u, rfl⟩
        | _ => simp [slcCells] at hx
      obtain ⟨u, rfl⟩ := hex
      obtain ⟨rfl, rfl⟩ := slc_con hx
      have e1 := hvx.con_inv
      have hr := Go.Ab.run_app_grow (P := P) (w := w) (ty := o.type) hk hk2 z1 z2 (bs := none) (sLen := 0) (sCap := 0) (olds := []) (by simp) (fun _ => rfl) (fun a h => by cases h) (base := base) (n := n) (c := cy) (news := news) hnl y4 y5 (by omega) (by omega) (hfit _ _ (by omega) (by omega))
      rw [← e1, ← y1] at hr
      refine Does.value (run_appendOp ho hc hxs hts hr) ?_
      obtain ⟨c1, c2⟩ := grow_cells (z := z.cells) (ι := ι) (w := w) CR.nil y2 (n := 0) (k := n) (by simp) (by rw [y3, z4]; rfl) (grownCap_ge w (0 + n) 0 el)
      rw [z4] at c1 c2
      have := res_grow (σ := σ) (E := el) (sz := sizeT P el) (n := 0 + n) M hf (cs := [] ++ ys) (by rw [List.nil_append, y3, Nat.zero_add]) (grownCap_ge w (0 + n) 0 el) c1 c2
      rw [List.nil_append] at this
      simp only [Nat.zero_add] at this ⊢
      exact this

theorem st_clear {c : Call} (ho : o.op = .call c) (hc : c.callee = .builtin .clear) (M : Mem w0 ι σ w) (S : SlotsOk ι σ w a.tmps) (h : opClear P c.args.toList c.argTypes.toList σ = some (e, σ')) : Does P o a w (Res w0 ι σ w e σ') := by
  unfold opClear at h
  split at h <;> try contradiction
  rename_i x t hxs hts
  have e1 : c.args = #[x] := by rw [← Array.toList_inj]; exact hxs
  have e2 : c.argTypes = #[t] := by rw [← Array.toList_inj]; exact hts
  have hx := ev_ok S x
  split at h <;> try contradiction
  rename_i el id off len sz he hb
  split at h <;> try contradiction
  rename_i zs cs hz hcs
  obtain ⟨hcc, hh⟩ := cndO h
  clear h
  simp only [Bool.and_eq_true, beq_iff, Nat.ble_eq] at hcc
  obtain ⟨rfl, k2, k3⟩ := hcc
  obtain ⟨i, z, z1, z2, z3, z0, z4, z5⟩ := zeroT_ok hz
  rw [hb] at hx
  have hrun : ∀ {v : Value} {w' : World}, (Builtin.clear_ #[t] o.type #[a.eval x]).run P w = .ok v w' → (execOp a.eval o).run P w = .ok (.value v) w' := fun h => by
    simp only [execOp, ho, resolve, invoke, builtin, hc, e1, e2, Sem.run_bind, Sem.run_pure, Result.andThen_ok, List.map_toArray, List.map_cons, List.map_nil, h]
  have htup : ∀ (ι : Loc) (w : World), VR ι w (.tup []) (.tuple #[]) := fun ι w => .tup rfl fun i h => (Nat.not_lt_zero i h).elim
  by_cases h0 : len = 0
  · subst h0
    obtain ⟨rfl, rfl⟩ := pr hh
    obtain ⟨ad, cap, h1, _⟩ := hx.slc_some
    refine Does.value (v := .tuple #[]) (w' := w) (hrun ?_) (Res.pure M (htup _ _))
    rw [h1]
    simp [Builtin.clear_, run_underlying (und_slc (elemT_eq he))]
  · rw [show Nat.beq len 0 = false from nbf h0, cond_false] at hh
    obtain ⟨rfl, rfl⟩ := pr hh
    obtain ⟨b', p', cc, E', g1, g2, g3, g4⟩ := M.cells hcs
    rcases hx.slc_inv with ⟨b, p, cap, E, cur, h1, h2, h3, h4, h5⟩ | ⟨h1, _⟩
    · rw [h2] at g1
      injection g1 with g1
      injection g1 with g1 g1'
      subst g1 g1'
      have hzv : (zeroValue el).run P w = .ok z w := by simp [zeroValue, typeInfo, z1, z2]
      have hcr : CR ι w ((List.replicate len zs).flatten) (Builtin.zeroCells z.cells len).toList := by
        have := (z5 ι w).rep len
        rw [← made_eq] at this
        exact this
      have hzl : ((List.replicate len zs).flatten).length = len * sizeT P el := by rw [rep_len, z3]; rfl
      have hnl : (Builtin.zeroCells z.cells len).toList.length = len * sizeT P el := by rw [hcr.len, hzl]
      have hst := run_storeCells_at (P := P) b (p + off) E' (Builtin.zeroCells z.cells len).toList 0 cc w g2 (by rw [hnl]; omega) hcr.one
      obtain ⟨m, rfl⟩ : ∃ m, len = m + 1 := ⟨len - 1, by omega⟩
      refine Does.value (v := .tuple #[]) (hrun (w' := w.setRow b (cc.toList.take (p + off + 0) ++ (Builtin.zeroCells z.cells (m + 1)).toList ++ cc.toList.drop (p + off + 0 + (Builtin.zeroCells z.cells (m + 1)).toList.length)).toArray) ?_) (res_wr M h2 hcs g2 g3 g4 hcr (by rw [hzl]; exact k3) ?_ fun w' _ => htup _ _)
      · rw [h1]
        simp [Builtin.clear_, run_underlying (und_slc (elemT_eq he)), hzv, hst]
      · refine ⟨rfl, rfl, rfl, by simp [World.setRow], fun x hx => setRow_other w b x _ hx, cc, _, E', g2, setRow_heap w b cc _ E' _ g2, by rw [hnl]; omega, by simp [Go.Ab.splice]⟩
    · exact absurd h1 h0

/-- ONE OPERATION. -/
theorem st_callB {c : Call} {b : Builtin} (ho : o.op = .call c) (hc : c.callee = .builtin b) (M : Mem w0 ι σ w) (S : SlotsOk ι σ w a.tmps) (hf : σ.cnt < σ'.cnt → ι σ.cnt = none) (h : opCallB P b c.args.toList c.argTypes.toList σ = some (e, σ')) : Does P o a w (Res w0 ι σ w e σ') := by
  unfold opCallB at h
  split at h <;> try contradiction
  · exact st_len ho hc M S h
  · exact st_append ho hc M S hf h
  · exact st_max ho hc M S h
  · exact st_clear ho hc M S h

theorem st_step (W : WF P) (M : Mem w0 ι σ w) (S : SlotsOk ι σ w a.tmps) (hf : σ.cnt < σ'.cnt → ι σ.cnt = none) (hg : ∀ o, o ∈ σ'.owe → o.ok) (h : stepX P o.op σ = some (e, σ')) : Does P o a w (Res w0 ι σ w e σ') := by
  unfold stepX at h
  split at h <;> try contradiction
  · rename_i x ho
    obtain ⟨rfl, rfl⟩ := pr h
    exact Does.value (v := a.eval x) (w' := w) (by simp [execOp, ho]) (Res.pure M (ev_ok S x))
  · rename_i x ho
    obtain ⟨rfl, rfl⟩ := pr h
    exact Does.value (v := a.eval x) (w' := w) (by simp [execOp, ho]) (Res.pure M (ev_ok S x))
  · rename_i ho; exact st_pick ho M S h
  · rename_i ho
    have hh := h
    unfold opAlloc at hh
    split at hh <;> try contradiction
    obtain ⟨_, rfl⟩ := pr hh
    exact st_alloc ho M (hf (Nat.lt_succ_self _)) h
  · rename_i ho
    obtain ⟨_, hh⟩ := cndO h
    obtain ⟨_, rfl⟩ := pr hh
    exact st_box ho M S (hf (Nat.lt_succ_self _)) h
  · rename_i ho; exact st_load W ho M S h
  · rename_i ho; exact st_store ho M S h
  · rename_i ho; exact st_nilCheck ho M S h
  · rename_i ho; exact st_bin ho M S h hg
  · rename_i ho; exact st_not ho M S h
  · rename_i ho; exact st_conv ho M S h
  · rename_i ho; exact st_field W ho M S h
  · rename_i ho; exact st_index W ho M S h
  · rename_i ho; exact st_build W ho M S h
  · rename_i ho
    have hh := h
    unfold opBuildSlice at hh
    repeat (split at hh <;> try contradiction)
    obtain ⟨_, hh⟩ := cndO hh
    obtain ⟨_, rfl⟩ := pr hh
    exact st_buildSlice W ho M S (hf (Nat.lt_succ_self _)) h
  · rename_i ho
    have hh := h
    unfold opMakeSlice at hh
    repeat (split at hh <;> try contradiction)
    obtain ⟨_, hh⟩ := cndO hh
    obtain ⟨_, rfl⟩ := pr hh
    exact st_makeSlice ho M S (hf (Nat.lt_succ_self _)) h
  · rename_i ho; exact st_slice W ho M S h
  · rename_i ho; exact st_extract ho M S h
  · rename_i ho; exact st_makeFunc ho M S h
  · rename_i c ho
    split at h <;> try contradiction
    rename_i b hc
    exact st_callB ho hc M S hf h

end
end Go.Xe

/- Calls, guards, regions in order, code, functions. -/
namespace Go.Xe
open Go.Ab (tk TK WF Keeps Row mkV Does beq_iff yielded_eq exists_min range_ops run_callFunc resVal run_results)
variable {P : Program}

/-- What every step does to a state. -/
structure Mono (σ σ' : St) : Prop where
  cnt : σ.cnt ≤ σ'.cnt
  owe : ∀ o, o ∈ σ.owe → o ∈ σ'.owe
  nt : σ'.nt = σ.nt
theorem Mono.refl (σ : St) : Mono σ σ := ⟨Nat.le_refl _, fun _ h => h, rfl⟩
theorem Mono.trans {a b c : St} (h : Mono a b) (k : Mono b c) : Mono a c := ⟨Nat.le_trans h.cnt k.cnt, fun o ho => k.owe o (h.owe o ho), k.nt.trans h.nt⟩
/-- Slots stay. -/
structure MonoS (σ σ' : St) : Prop extends Mono σ σ' where
  sl : σ'.sl = σ.sl
theorem MonoS.refl (σ : St) : MonoS σ σ := ⟨Mono.refl σ, rfl⟩
theorem MonoS.new (σ : St) (cs : List EV) : MonoS σ (σ.new cs) := ⟨⟨Nat.le_succ _, fun _ h => h, rfl⟩, rfl⟩
theorem MonoS.upd (σ : St) (i : Nat) (cs : List EV) : MonoS σ (σ.upd i cs) := ⟨⟨Nat.le_refl _, fun _ h => h, rfl⟩, rfl⟩
theorem MonoS.app (σ : St) (i : Nat) (cs : List EV) : MonoS σ ((σ.eat i).new cs) := ⟨⟨Nat.le_succ _, fun _ h => h, rfl⟩, rfl⟩

section
variable {w0 : World} {ι : Loc} {σ σ' : St} {a : Act} {w : World} {o : Oper} {e : EV} {v : Value}

theorem mono_bin {op : BinOp} {k : IntKind} {s1 s2 : Bool} {x y : Int} (h : binE op k s1 x s2 y σ = some (e, σ')) : MonoS σ σ' := by
  unfold binE at h
  split at h
  · split at h
    · rw [Go.Ab.cond_eq] at h
      split at h <;> try contradiction
      obtain ⟨_, rfl⟩ := pr h; exact .refl _
    · obtain ⟨_, rfl⟩ := pr h; exact .refl _
  · split at h
    · obtain ⟨_, rfl⟩ := pr h; exact .refl _
    · split at h <;> try contradiction
      split at h <;> try contradiction
      all_goals (obtain ⟨_, rfl⟩ := pr h; exact ⟨⟨Nat.le_refl _, fun _ h => List.mem_cons_of_mem _ h, rfl⟩, rfl⟩)

theorem mono_nil {op : BinOp} {b : Bool} (h : opBinNil op b σ = some (e, σ')) : MonoS σ σ' := by
  unfold opBinNil at h
  split at h <;> try contradiction
  all_goals (obtain ⟨_, rfl⟩ := pr h; exact .refl _)

theorem mono_binS {t : Nat} {op : BinOp} {b : Bool} {y : EV} (h : opBinS P t op b y σ = some (e, σ')) : MonoS σ σ' := by
  unfold opBinS at h
  split at h <;> try contradiction
  exact mono_nil (cndO h).2

theorem mono_callB {b : Builtin} {xs : List Operand} {ts : List Nat} (h : opCallB P b xs ts σ = some (e, σ')) : MonoS σ σ' := by
  unfold opCallB at h
  split at h <;> try contradiction
  · unfold opLen at h
    repeat (split at h <;> try contradiction)
    obtain ⟨_, rfl⟩ := pr h; exact .refl _
  · unfold opAppend at h
    repeat (split at h <;> try contradiction)
    rw [Go.Ab.cond_eq] at h
    split at h
    · obtain ⟨_, rfl⟩ := pr h; exact .refl _
    · obtain ⟨_, h⟩ := cndO h
      unfold opAppend1 at h
      split at h
      · obtain ⟨_, h⟩ := cndO h
        obtain ⟨_, rfl⟩ := pr h; exact .app _ _ _
      · obtain ⟨_, h⟩ := cndO h
        obtain ⟨_, rfl⟩ := pr h; exact .new _ _
  · unfold opMax at h
    repeat (split at h <;> try contradiction)
    obtain ⟨_, h⟩ := cndO h
    obtain ⟨_, rfl⟩ := pr h; exact .refl _
  · unfold opClear at h
    repeat (split at h <;> try contradiction)
    obtain ⟨_, h⟩ := cndO h
    obtain ⟨_, rfl⟩ := pr h
    rename_i len _ _ _ _ _ _ _ _ _ _ _
    rw [Go.Ab.cond_eq]
    split
    · exact .refl _
    · exact .upd _ _ _

theorem mono_step {o : Op} (h : stepX P o σ = some (e, σ')) : MonoS σ σ' := by
  unfold stepX at h
  split at h <;> try contradiction
  · obtain ⟨_, rfl⟩ := pr h; exact .refl _
  · obtain ⟨_, rfl⟩ := pr h; exact .refl _
  · unfold opPick at h
    split at h <;> try contradiction
    obtain ⟨_, rfl⟩ := pr h; exact .refl _
  · unfold opAlloc at h
    split at h <;> try contradiction
    obtain ⟨_, rfl⟩ := pr h; exact .new _ _
  · obtain ⟨_, h⟩ := cndO h
    obtain ⟨_, rfl⟩ := pr h; exact .new _ _
  · unfold opLoad at h
    repeat (split at h <;> try contradiction)
    obtain ⟨_, h⟩ := cndO h
    obtain ⟨_, rfl⟩ := pr h; exact .refl _
  · unfold opStore at h
    repeat (split at h <;> try contradiction)
    obtain ⟨_, h⟩ := cndO h
    obtain ⟨_, rfl⟩ := pr h; exact .upd _ _ _
  · unfold opNilCheck at h
    split at h <;> try contradiction
    all_goals (obtain ⟨_, rfl⟩ := pr h; exact .refl _)
  · unfold opBin at h
    split at h <;> try contradiction
    · split at h <;> try contradiction
      split at h <;> try contradiction
      · unfold opShr at h
        rw [Go.Ab.cond_eq] at h
        split at h <;> try contradiction
        obtain ⟨_, h⟩ := cndO h
        obtain ⟨_, rfl⟩ := pr h; exact .refl _
      · exact mono_bin (cndO h).2
    · exact mono_binS h
    · exact mono_binS (cndO h).2
  · unfold opNot at h
    split at h <;> try contradiction
    obtain ⟨_, rfl⟩ := pr h; exact .refl _
  · unfold opConv at h
    split at h <;> try contradiction
    obtain ⟨_, rfl⟩ := pr h; exact .refl _
  · unfold opField at h
    repeat (split at h <;> try contradiction)
    rw [Go.Ab.cond_eq] at h
    split at h <;> try contradiction
    obtain ⟨_, rfl⟩ := pr h; exact .refl _
  · unfold opIndex at h
    split at h <;> try contradiction
    obtain ⟨_, h⟩ := cndO h
    obtain ⟨_, rfl⟩ := pr h; exact .refl _
  · unfold opBuild at h
    repeat (split at h <;> try contradiction)
    obtain ⟨_, rfl⟩ := pr h; exact .refl _
  · unfold opBuildSlice at h
    repeat (split at h <;> try contradiction)
    obtain ⟨_, h⟩ := cndO h
    obtain ⟨_, rfl⟩ := pr h; exact .new _ _
  · unfold opMakeSlice at h
    repeat (split at h <;> try contradiction)
    obtain ⟨_, h⟩ := cndO h
    obtain ⟨_, rfl⟩ := pr h; exact .new _ _
  · unfold opSlice at h
    repeat (split at h <;> try contradiction)
    obtain ⟨_, h⟩ := cndO h
    obtain ⟨_, rfl⟩ := pr h; exact .refl _
  · unfold opExtract at h
    split at h <;> try contradiction
    rw [Option.map_eq_some_iff] at h
    obtain ⟨u, _, h⟩ := h
    injection h with _ h2
    subst h2
    exact .refl _
  · obtain ⟨_, rfl⟩ := pr h; exact .refl _
  · split at h <;> try contradiction
    exact mono_callB h

/-- What is asked ahead of a step. -/
structure Good (ι : Loc) (σ σ' : St) : Prop where
  new : ∀ id, σ.cnt ≤ id → id < σ'.cnt → ι id = none
  owe : ∀ o, o ∈ σ'.owe → o.ok
theorem Good.fst {σ1 σ2 : St} (h : Good ι σ σ2) (m : Mono σ1 σ2) : Good ι σ σ1 := ⟨fun id h1 h2 => h.new id h1 (Nat.lt_of_lt_of_le h2 m.cnt), fun o ho => h.owe o (m.owe o ho)⟩
theorem Good.snd {ι1 : Loc} {σ1 σ2 : St} {w1 : World} (h : Good ι σ σ2) (s : Stp w0 ι σ w ι1 σ1 w1) : Good ι1 σ1 σ2 := ⟨fun id h1 h2 => by
  cases hi : ι1 id with
  | none => rfl
  | some p =>
    rcases s.dom id p hi with h3 | ⟨_, h4, _⟩
    · rw [h.new id (Nat.le_trans s.cnt h1) h2] at h3; cases h3
    · omega, h.owe⟩

/-- A state stands for an activation. -/
structure Stand (w0 : World) (ι : Loc) (σ : St) (a : Act) (w : World) : Prop where
  mem : Mem w0 ι σ w
  sl : SlotsOk ι σ w a.tmps
  nt : σ.nt ≤ a.tmps.size
  df : a.defers = []

theorem Stp.congr {ι' : Loc} {σ1 σ2 : St} {w' : World} (h : Stp w0 ι σ w ι' σ1 w') (hb : σ2.bl = σ1.bl) (hc : σ2.cnt = σ1.cnt) (ht : σ2.tch = σ1.tch) (ho : σ2.owe = σ1.owe) : Stp w0 ι σ w ι' σ2 w' := by
  have e : ∀ id, σ2.blk id = σ1.blk id := fun id => by unfold St.blk; rw [hb]
  refine ⟨h.mem.congr hb, h.agree, ?_, by rw [hc]; exact h.cnt, by rw [ht]; exact h.tch, h.ext, by rw [ht]; exact h.frame, by rw [ho]; exact h.owe, by rw [ht]; exact h.tin, fun id cs hi => by rw [hc]; exact h.bin id cs (by rw [← e]; exact hi)⟩
  rw [hc, ht]
  exact h.dom
theorem Stp.congr0 {ι' : Loc} {σ0 σ1 : St} {w' : World} (h : Stp w0 ι σ w ι' σ1 w') (hb : σ0.bl = σ.bl) (hc : σ0.cnt = σ.cnt) (ht : σ0.tch = σ.tch) (ho : σ0.owe = σ.owe) : Stp w0 ι σ0 w ι' σ1 w' := by
  have e : ∀ id, σ0.blk id = σ.blk id := fun id => by unfold St.blk; rw [hb]
  refine ⟨h.mem, h.agree, by rw [hc]; exact h.dom, by rw [hc]; exact h.cnt, by rw [ht]; exact h.tch, h.ext, h.frame, by rw [ho]; exact h.owe, fun id hid => ?_, fun id cs hi => ?_⟩
  · rw [ht, hc, e]; exact h.tin id hid
  · rw [hc, e]; exact h.bin id cs hi

theorem setSlot_st (d : Option Nat) (x : EV) : (σ.setSlot d x).bl = σ.bl ∧ (σ.setSlot d x).cnt = σ.cnt ∧ (σ.setSlot d x).tch = σ.tch ∧ (σ.setSlot d x).owe = σ.owe ∧ (σ.setSlot d x).nt = σ.nt := by
  cases d <;> exact ⟨rfl, rfl, rfl, rfl, rfl⟩
theorem mono_set (d : Option Nat) (x : EV) : Mono σ (σ.setSlot d x) := by
  obtain ⟨_, h2, _, h4, h5⟩ := setSlot_st (σ := σ) d x
  exact ⟨by rw [h2]; exact Nat.le_refl _, by rw [h4]; exact fun _ h => h, h5⟩

theorem put_slots (S : SlotsOk ι σ w a.tmps) (hn : σ.nt ≤ a.tmps.size) (hv : VR ι w e v) (d : Option Nat) : SlotsOk ι (σ.setSlot d e) w (a.put d v).tmps := by
  cases d with
  | none => exact S
  | some d =>
    intro s
    unfold St.slot
    cases hg : (σ.setSlot (some d) e).sl.get s with
    | none => exact .any
    | some x =>
      rcases get_put 20 σ.sl d _ s x hg with ⟨rfl, h⟩ | ⟨h1, h2⟩
      · obtain ⟨h3, h4⟩ := cndT h
        subst h4
        have : s < a.tmps.size := Nat.lt_of_lt_of_le (by simpa using h3) hn
        simp only [Option.getD_some, Act.put, Array.getD_eq_getD_getElem?, Array.getElem?_setIfInBounds, if_true, if_pos this]
        exact hv
      · have := S s
        unfold St.slot at this
        rw [h2] at this
        simp only [Option.getD_some] at this ⊢
        simp only [Act.put, Array.getD_eq_getD_getElem?, Array.getElem?_setIfInBounds, if_neg (fun h => h1 (Eq.symm h))]
        simpa [Array.getD_eq_getD_getElem?] using this

theorem SlotsOk.keep {ι' : Loc} {w' : World} {tmps : Array Value} (S : SlotsOk ι σ w tmps) (s : Stp w0 ι σ w ι' σ' w') (he : σ'.sl = σ.sl) : SlotsOk ι' σ' w' tmps := fun k => by
  unfold St.slot
  rw [he]
  exact (S k).mono s.agree s.ext

theorem Stand.app {ι' : Loc} {w' : World} {d : Option Nat} (S : Stand w0 ι σ a w) (s : Stp w0 ι σ w ι' σ' w') (m : MonoS σ σ') (hv : VR ι' w' e v) : Stp w0 ι σ w ι' (σ'.setSlot d e) w' ∧ Stand w0 ι' (σ'.setSlot d e) (a.put d v) w' := by
  obtain ⟨h1, h2, h3, h4, h5⟩ := setSlot_st (σ := σ') d e
  refine ⟨s.congr h1 h2 h3 h4, ⟨s.mem.congr h1, put_slots (S.sl.keep s m.sl) (by rw [m.nt]; exact S.nt) hv d, ?_, ?_⟩⟩
  · rw [h5, m.nt]
    have := S.nt
    cases d
    · exact this
    · simpa [Act.put] using this
  · cases d <;> exact S.df

/-- What is asked of calls. -/
structure CalOk (P : Program) (cal : Nat → List EV → St → R) : Prop where
  mono : ∀ f args σ e σ', cal f args σ = some (e, σ') → MonoS σ σ'
  run : ∀ f args σ e σ', cal f args σ = some (e, σ') → (∃ fn, P.funcs[f]? = some fn ∧ fn.body.isSome = true) ∧ ∀ (w0 : World) (ι : Loc) (w : World) (vals : Array Value), Mem w0 ι σ w → Good ι σ σ' → vals.size = args.length → (∀ i, i < args.length → VR ι w (args.getD i .any) (vals.getD i undef)) →
    Calls P f vals w fun en w' => ∃ v, en = .returned v ∧ Res w0 ι σ w e σ' v w'

variable {cal : Nat → List EV → St → R}
theorem mono_oper (hC : CalOk P cal) {o : Op} (h : operX P cal o σ = some (e, σ')) : MonoS σ σ' := by
  unfold operX at h
  split at h
  · split at h <;> try contradiction
    · unfold callX at h
      split at h <;> try contradiction
      exact hC.mono _ _ _ _ _ h
    · exact mono_callB h
  · exact mono_step h

theorem st_call (W : WF P) (hC : CalOk P cal) {c : Call} {x : Operand} (ho : o.op = .call c) (hc : c.callee = .value x) (M : Mem w0 ι σ w) (S : SlotsOk ι σ w a.tmps) (G : Good ι σ σ') (h : callX cal (σ.ev x) (c.args.toList.map σ.ev) σ = some (e, σ')) : Does P o a w (Res w0 ι σ w e σ') := by
  unfold callX at h
  have hx := ev_ok S x
  split at h <;> try contradiction
  rename_i f fi ca hfn
  rw [hfn] at hx
  generalize hev : a.eval x = u at hx
  cases hx with
  | fn g1 g2 g3 g4 =>
    rename_i vf vc
    obtain ⟨⟨fn, hf, hb⟩, hrun⟩ := hC.run _ _ _ _ _ h
    have hex : (execOp a.eval o).run P w = .ok (.enter f (vf ++ c.args.map a.eval ++ vc)) w := by
      simp only [execOp, ho, resolve, hc, hev, Deferred.ofValue, Sem.run_bind, Sem.run_pure, Result.andThen_ok, invoke, run_callFunc W hf hb]
    obtain ⟨a1, a2⟩ := VR.arr S c.args
    have hcalls := hrun w0 ι w (vf ++ c.args.map a.eval ++ vc) M G (by
      simp only [Array.size_append, List.length_append]
      omega) (fun i hi => by
      simp only [List.length_append] at hi
      simp only [Array.getD_eq_getD_getElem?, List.getD_eq_getElem?_getD, List.getElem?_append, Array.getElem?_append, Array.size_append]
      by_cases h1 : i < fi.length
      · have := g2 i h1
        rw [if_pos h1, if_pos (by omega), if_pos (by omega)]
        simpa [Array.getD_eq_getD_getElem?, List.getD_eq_getElem?_getD] using this
      · by_cases h2 : i - fi.length < (c.args.toList.map σ.ev).length
        · have := a2 _ h2
          rw [if_neg h1, if_pos h2, if_pos (by omega), if_neg (by omega), g1]
          simpa [Array.getD_eq_getD_getElem?, List.getD_eq_getElem?_getD] using this
        · have := g4 (i - fi.length - (c.args.toList.map σ.ev).length) (by omega)
          rw [if_neg h1, if_neg h2, if_neg (by omega), show i - (vf.size + (c.args.map a.eval).size) = i - fi.length - (c.args.toList.map σ.ev).length by omega]
          simpa [Array.getD_eq_getD_getElem?, List.getD_eq_getElem?_getD] using this)
    intro next Q hnext
    unfold Oper.wp
    rw [hex]
    refine Calls.mono hcalls fun e' w' he' => ?_
    obtain ⟨v, rfl, hr⟩ := he'
    exact hnext v w' hr

theorem st_oper (W : WF P) (hC : CalOk P cal) (M : Mem w0 ι σ w) (S : SlotsOk ι σ w a.tmps) (G : Good ι σ σ') (h : operX P cal o.op σ = some (e, σ')) : Does P o a w (Res w0 ι σ w e σ') := by
  unfold operX at h
  split at h
  · rename_i c ho
    split at h <;> try contradiction
    · rename_i x hc
      exact st_call W hC ho hc M S G h
    · rename_i b hc
      exact st_callB ho hc M S (fun hl => G.new _ (Nat.le_refl _) hl) h
  · exact st_step W M S (fun hl => G.new _ (Nat.le_refl _) hl) G.owe h

/-! Guards. -/
theorem guard_inv {ops : Array Oper} (h : guardX P cal ops o σ = some σ') : (∃ e σ1, operX P cal o.op σ = some (e, σ1) ∧ σ' = σ1.setSlot o.dst e) ∨ σ' = σ.setSlot o.dst .und := by
  have key : ∀ {σ'}, putR o.dst (operX P cal o.op σ) = some σ' → ∃ e σ1, operX P cal o.op σ = some (e, σ1) ∧ σ' = σ1.setSlot o.dst e := fun h => by
    unfold putR at h
    split at h
    · rename_i v σ1 hv
      injection h with h
      exact ⟨v, σ1, hv, h.symm⟩
    · cases h
  unfold guardX at h
  split at h
  · exact .inl (key h)
  · split at h <;> try contradiction
    split at h <;> try contradiction
    · rw [Go.Ab.cond_eq] at h
      split at h
      · exact .inl (key h)
      · injection h with h; exact .inr h.symm
    · injection h with h; exact .inr h.symm
theorem mono_guard (hC : CalOk P cal) {ops : Array Oper} (h : guardX P cal ops o σ = some σ') : Mono σ σ' := by
  rcases guard_inv h with ⟨e, σ1, h1, rfl⟩ | rfl
  · exact (mono_oper hC h1).toMono.trans (mono_set _ _)
  · exact mono_set _ _

/-- An operation under its guard: what comes of it. -/
def OneOk (P : Program) (ops : Array Oper) (o : Oper) (a : Act) (w : World) (R : Value → World → Prop) : Prop :=
  ∀ (next : Act → World → Prop) (Q : Exit → Act → World → Prop), (∀ v w', R v w' → next (a.put o.dst v) w') → if Region.wanted o (yielded ops a.tmps) then o.wp P a w next Q else next (a.put o.dst undef) w

theorem guard_one (W : WF P) (hC : CalOk P cal) {ops : Array Oper} (h : guardX P cal ops o σ = some σ') (M : Mem w0 ι σ w) (S : SlotsOk ι σ w a.tmps) (G : Good ι σ σ') :
    OneOk P ops o a w fun v w' => ∃ e σ1, σ' = σ1.setSlot o.dst e ∧ MonoS σ σ1 ∧ Res w0 ι σ w e σ1 v w' := by
  intro next Q hn
  have key : ∀ {σ'}, Good ι σ σ' → putR o.dst (operX P cal o.op σ) = some σ' → (∀ v w', (∃ e σ1, σ' = σ1.setSlot o.dst e ∧ MonoS σ σ1 ∧ Res w0 ι σ w e σ1 v w') → next (a.put o.dst v) w') → o.wp P a w next Q := fun G h hn => by
    unfold putR at h
    split at h
    · rename_i v σ1 hv
      injection h with h
      subst h
      refine st_oper W hC M S (G.fst (mono_set _ _)) hv next Q fun v' w' hr => hn v' w' ⟨_, _, rfl, mono_oper hC hv, hr⟩
    · cases h
  unfold guardX at h
  split at h
  · rename_i hg
    rw [if_pos (by simp [Region.wanted, hg])]
    exact key G h hn
  · rename_i j want hg
    split at h <;> try contradiction
    rename_i s hs
    split at h <;> try contradiction
    · rename_i b hb
      have hv := S s
      rw [hb] at hv
      have hv := hv.bool_inv
      have hy : yielded ops a.tmps j = some b := by rw [yielded_eq hs, hv]
      have hw : Region.wanted o (yielded ops a.tmps) = (b == want) := by
        simp only [Region.wanted, hg, hy]
        cases b <;> cases want <;> rfl
      rw [hw]
      cases b <;> cases want <;> simp only [cond_true, cond_false, Bool.not_true, Bool.not_false] at h
      · rw [if_pos (by decide)]; exact key G h hn
      · rw [if_neg (by decide)]
        injection h with h
        exact hn undef w ⟨.und, σ, h.symm, .refl _, Res.pure M .und⟩
      · rw [if_neg (by decide)]
        injection h with h
        exact hn undef w ⟨.und, σ, h.symm, .refl _, Res.pure M .und⟩
      · rw [if_pos (by decide)]; exact key G h hn
    · rename_i hb
      have hv := S s
      rw [hb] at hv
      have hv : a.tmps.getD s undef = undef := by
        generalize a.tmps.getD s undef = u at hv
        cases hv
        rfl
      have hy : yielded ops a.tmps j = none := by rw [yielded_eq hs, hv]; rfl
      rw [if_neg (by simp [Region.wanted, hg, hy])]
      injection h with h
      exact hn undef w ⟨.und, σ, h.symm, .refl _, Res.pure M .und⟩

theorem guard_ok (W : WF P) (hC : CalOk P cal) {ops : Array Oper} (h : guardX P cal ops o σ = some σ') (S : Stand w0 ι σ a w) (G : Good ι σ σ') :
    OneOk P ops o a w fun v w' => ∃ ι', Stp w0 ι σ w ι' σ' w' ∧ Stand w0 ι' σ' (a.put o.dst v) w' := by
  intro next Q hn
  refine guard_one W hC h S.mem S.sl G next Q fun v w' hr => hn v w' ?_
  obtain ⟨e, σ1, rfl, hm, ι', s, hv⟩ := hr
  exact ⟨ι', S.app s hm hv⟩

/-- A continuation. -/
abbrev Kont (w0 : World) (ι : Loc) (σ : St) (w : World) (σ' : St) (R : Act → World → Prop) : Prop := ∀ ι' a' w', Stp w0 ι σ w ι' σ' w' → Stand w0 ι' σ' a' w' → R a' w'

theorem mono_seq (hC : CalOk P cal) {ops : Array Oper} : ∀ (l : List Oper) (σ σ' : St), seqX P cal ops l σ = some σ' → Mono σ σ'
  | [], σ, σ', h => by
    injection h with h
    subst h
    exact .refl _
  | o :: l, σ, σ', h => by
    have h : (Option.rec (motive := fun _ => Option St) none (seqX P cal ops l) (guardX P cal ops o σ)) = some σ' := h
    cases hg : guardX P cal ops o σ with
    | none => rw [hg] at h; cases h
    | some σ1 =>
      rw [hg] at h
      exact (mono_guard hC hg).trans (mono_seq hC l σ1 σ' h)

/-- Regions in order. -/
theorem seq_ok (W : WF P) (hC : CalOk P cal) {ops : Array Oper} {Q : Exit → Act → World → Prop} : ∀ (is : List Nat) (ι : Loc) (σ σ' : St) (a : Act) (w : World), seqX P cal ops (is.filterMap fun i => ops[i]?) σ = some σ' → Stand w0 ι σ a w → Good ι σ σ' → Kont w0 ι σ w σ' (Q .normal) → wpOps P ops Q is a w
  | [], ι, σ, σ', a, w, h, S, G, hQ => by
    injection h with h
    subst h
    exact hQ ι a w (Stp.refl S.mem) S
  | i :: is, ι, σ, σ', a, w, h, S, G, hQ => by
    simp only [wpOps]
    rw [List.filterMap_cons] at h
    cases ho : ops[i]? with
    | none =>
      rw [ho] at h
      exact seq_ok W hC is ι σ σ' a w h S G hQ
    | some o =>
      rw [ho] at h
      have h : (Option.rec (motive := fun _ => Option St) none (seqX P cal ops (is.filterMap fun i => ops[i]?)) (guardX P cal ops o σ)) = some σ' := h
      cases hg : guardX P cal ops o σ with
      | none => rw [hg] at h; cases h
      | some σ1 =>
        rw [hg] at h
        have h : seqX P cal ops (is.filterMap fun i => ops[i]?) σ1 = some σ' := h
        have := guard_ok W hC hg S (G.fst (mono_seq hC _ _ _ h)) (wpOps P ops Q is) Q fun v w' hr => by
          obtain ⟨ι', s, S'⟩ := hr
          exact seq_ok W hC is ι' σ1 σ' _ w' h S' (G.snd s) fun ι2 a2 w2 s2 S2 => hQ ι2 a2 w2 (s.trans s2) S2
        simp only
        split at this
        · rename_i hw; rw [if_pos hw]; exact .inl this
        · rename_i hw; rw [if_neg hw]; exact this

/-- Regions in any order: what is asked. -/
structure DrawOk (P : Program) (cal : Nat → List EV → St → R) : Prop where
  mono : ∀ (ops : Array Oper) (σ σ' : St), drawX P cal ops ops.toList 0 [] σ = some σ' → Mono σ σ'
  run : ∀ (ops : Array Oper) (σ σ' : St), fwdOk ops = true → drawX P cal ops ops.toList 0 [] σ = some σ' → ∀ (w0 : World) (ι : Loc) (a : Act) (w : World) (Q : Exit → Act → World → Prop) (id : Nat), Stand w0 ι σ a w → Good ι σ σ' → Kont w0 ι σ w σ' (Q .normal) → (Code.region id ops true).wp P Q a w

def Ex.exit : Ex → Exit
  | .nrm => .normal
  | .ext i => .exit i
  | .ret => .ret

theorem mono_loop {body : St → Option (Ex × St)} (hb : ∀ σ x σ', body σ = some (x, σ') → Mono σ σ') : ∀ (n : Nat) (σ : St) (x : Ex) (σ' : St), loopX body n σ = some (x, σ') → Mono σ σ'
  | 0, σ, x, σ', h => by cases h
  | n + 1, σ, x, σ', h => by
    unfold loopX at h
    split at h
    · rename_i σ1 h1
      exact (hb _ _ _ h1).trans (mono_loop hb n σ1 x σ' h)
    · exact hb _ _ _ h

theorem mono_code (hC : CalOk P cal) (hD : DrawOk P cal) {n : Nat} : ∀ (c : Code) (σ : St) (x : Ex) (σ' : St), codeX P cal n c σ = some (x, σ') → Mono σ σ'
  | .skip, σ, x, σ', h => by injection h with h; injection h with _ h; subst h; exact .refl _
  | .ret, σ, x, σ', h => by injection h with h; injection h with _ h; subst h; exact .refl _
  | .exit i, σ, x, σ', h => by injection h with h; injection h with _ h; subst h; exact .refl _
  | .region id ops draw, σ, x, σ', h => by
    unfold codeX at h
    cases draw with
    | false =>
      rw [cond_false] at h
      split at h <;> try contradiction
      rename_i σ1 h1
      injection h with h; injection h with _ h; subst h
      exact mono_seq hC _ _ _ h1
    | true =>
      rw [cond_true] at h
      split at h <;> try contradiction
      rename_i σ1 h1
      injection h with h; injection h with _ h; subst h
      exact hD.mono _ _ _ (cndO h1).2
  | .seq c d, σ, x, σ', h => by
    unfold codeX at h
    split at h
    · rename_i σ1 h1
      exact (mono_code hC hD c _ _ _ h1).trans (mono_code hC hD d _ _ _ h)
    · exact mono_code hC hD c _ _ _ h
  | .cond k c d, σ, x, σ', h => by
    unfold codeX at h
    split at h <;> try contradiction
    rename_i b hb
    cases b
    · exact mono_code hC hD d _ _ _ h
    · exact mono_code hC hD c _ _ _ h
  | .block id c, σ, x, σ', h => by
    unfold codeX at h
    split at h
    · rename_i i σ1 h1
      have hm := mono_code hC hD c _ _ _ h1
      rw [Go.Ab.cond_eq] at h
      split at h
      all_goals (injection h with h; injection h with _ h; subst h; exact hm)
    · exact mono_code hC hD c _ _ _ h
  | .loop c, σ, x, σ', h => mono_loop (fun σ x σ' h => mono_code hC hD c σ x σ' h) n σ x σ' h
  | .label _, σ, x, σ', h => by cases h
  | .goto _, σ, x, σ', h => by cases h
  | .scope _, σ, x, σ', h => by cases h
  | .refuse _, σ, x, σ', h => by cases h
  | .rangeFunc .., σ, x, σ', h => by cases h

/-- CODE. -/
theorem code_ok (W : WF P) (hC : CalOk P cal) (hD : DrawOk P cal) {n : Nat} : ∀ (c : Code) (ι : Loc) (σ : St) (x : Ex) (σ' : St) (a : Act) (w : World) (Q : Exit → Act → World → Prop), codeX P cal n c σ = some (x, σ') → Stand w0 ι σ a w → Good ι σ σ' → Kont w0 ι σ w σ' (Q x.exit) → c.wp P Q a w
  | .skip, ι, σ, x, σ', a, w, Q, h, S, G, hQ => by
    injection h with h; injection h with h1 h; subst h1 h
    exact wp_skip (hQ ι a w (Stp.refl S.mem) S)
  | .ret, ι, σ, x, σ', a, w, Q, h, S, G, hQ => by
    injection h with h; injection h with h1 h; subst h1 h
    exact wp_ret (hQ ι a w (Stp.refl S.mem) S)
  | .exit i, ι, σ, x, σ', a, w, Q, h, S, G, hQ => by
    injection h with h; injection h with h1 h; subst h1 h
    exact wp_exit (hQ ι a w (Stp.refl S.mem) S)
  | .region id ops draw, ι, σ, x, σ', a, w, Q, h, S, G, hQ => by
    unfold codeX at h
    cases draw with
    | false =>
      rw [cond_false] at h
      split at h <;> try contradiction
      rename_i σ1 h1
      injection h with h; injection h with h2 h; subst h2 h
      refine wp_region (seq_ok W hC (List.range ops.size) ι σ _ a w ?_ S G hQ)
      rw [range_ops]
      exact h1
    | true =>
      rw [cond_true] at h
      split at h <;> try contradiction
      rename_i σ1 h1
      injection h with h; injection h with h2 h; subst h2 h
      obtain ⟨hf, h1⟩ := cndO h1
      exact hD.run ops σ _ hf h1 w0 ι a w Q id S G hQ
  | .seq c d, ι, σ, x, σ', a, w, Q, h, S, G, hQ => by
    unfold codeX at h
    split at h
    · rename_i σ1 h1
      refine wp_seq (code_ok W hC hD c ι σ _ σ1 a w _ h1 S (G.fst (mono_code hC hD d _ _ _ h)) fun ι' a' w' s S' => ?_)
      exact code_ok W hC hD d ι' σ1 x σ' a' w' Q h S' (G.snd s) fun ι2 a2 w2 s2 S2 => hQ ι2 a2 w2 (s.trans s2) S2
    · rename_i hne
      refine wp_seq (code_ok W hC hD c ι σ x σ' a w _ h S G fun ι' a' w' s S' => ?_)
      cases x with
      | nrm => exact absurd h (hne σ')
      | ext i => exact hQ ι' a' w' s S'
      | ret => exact hQ ι' a' w' s S'
  | .cond k c d, ι, σ, x, σ', a, w, Q, h, S, G, hQ => by
    unfold codeX at h
    split at h <;> try contradiction
    rename_i b hb
    have hev := (hb ▸ ev_ok S.sl k).bool_inv
    refine wp_cond (t := b) hev ?_
    cases b
    · exact code_ok W hC hD d ι σ x σ' a w Q h S G hQ
    · exact code_ok W hC hD c ι σ x σ' a w Q h S G hQ
  | .block id c, ι, σ, x, σ', a, w, Q, h, S, G, hQ => by
    unfold codeX at h
    split at h
    · rename_i i σ1 h1
      rw [Go.Ab.cond_eq] at h
      split at h
      · rename_i hi
        have hi := beq_iff.1 hi
        injection h with h; injection h with h2 h; subst h2 h
        refine wp_block (code_ok W hC hD c ι σ _ _ a w _ h1 S G fun ι' a' w' s S' => ?_)
        simp only [Ex.exit, Exit.inBlock, if_pos hi]
        exact hQ ι' a' w' s S'
      · rename_i hi
        have hi : ¬ i = id := fun e => hi (beq_iff.2 e)
        injection h with h; injection h with h2 h; subst h2 h
        refine wp_block (code_ok W hC hD c ι σ _ _ a w _ h1 S G fun ι' a' w' s S' => ?_)
        simp only [Ex.exit, Exit.inBlock, if_neg hi]
        exact hQ ι' a' w' s S'
    · rename_i hne
      refine wp_block (code_ok W hC hD c ι σ x σ' a w _ h S G fun ι' a' w' s S' => ?_)
      cases x with
      | nrm => exact hQ ι' a' w' s S'
      | ext i => exact absurd h (hne i σ')
      | ret => exact hQ ι' a' w' s S'
  | .loop c, ι, σ, x, σ', a, w, Q, h, S, G, hQ => by
    have h : loopX (codeX P cal n c) n σ = some (x, σ') := h
    let I : Act → World → Nat → Prop := fun a1 w1 m => ∃ ι1 σ1, Stp w0 ι σ w ι1 σ1 w1 ∧ Stand w0 ι1 σ1 a1 w1 ∧ loopX (codeX P cal n c) m σ1 = some (x, σ')
    classical
    refine wp_loop (fun a w => ∃ m, I a w m) (fun a w => if h : ∃ m, I a w m then (exists_min h).choose else 0) ⟨n, ι, σ, Stp.refl S.mem, S, h⟩ fun a1 w1 hI => ?_
    rw [dif_pos hI]
    obtain ⟨ι1, σ1, s1, S1, h1⟩ := (exists_min hI).choose_spec.1
    generalize hm0 : (exists_min hI).choose = m0 at h1
    cases m0 with
    | zero => cases h1
    | succ m =>
      unfold loopX at h1
      split at h1
      · rename_i σ2 hb
        have hm := mono_loop (fun σ x σ' h => mono_code hC hD c σ x σ' h) m σ2 x σ' h1
        refine code_ok W hC hD c ι1 σ1 .nrm σ2 a1 w1 _ hb S1 ((G.snd s1).fst hm) fun ι' a' w' s S' => ?_
        have hI' : I a' w' m := ⟨ι', σ2, s1.trans s, S', h1⟩
        have hex : ∃ m, I a' w' m := ⟨m, hI'⟩
        refine ⟨hex, ?_⟩
        show (if h : ∃ m, I a' w' m then (exists_min h).choose else 0) < m + 1
        rw [dif_pos hex]
        exact Nat.lt_succ_of_le ((exists_min hex).choose_spec.2 m hI')
      · rename_i hne
        refine code_ok W hC hD c ι1 σ1 x σ' a1 w1 _ h1 S1 (G.snd s1) fun ι' a' w' s S' => ?_
        cases x with
        | nrm => exact absurd h1 (hne σ')
        | ext i => exact hQ ι' a' w' (s1.trans s) S'
        | ret => exact hQ ι' a' w' (s1.trans s) S'
  | .label _, ι, σ, x, σ', a, w, Q, h, S, G, hQ => by cases h
  | .goto _, ι, σ, x, σ', a, w, Q, h, S, G, hQ => by cases h
  | .scope _, ι, σ, x, σ', a, w, Q, h, S, G, hQ => by cases h
  | .refuse _, ι, σ, x, σ', a, w, Q, h, S, G, hQ => by cases h
  | .rangeFunc .., ι, σ, x, σ', a, w, Q, h, S, G, hQ => by cases h

end
end Go.Xe
