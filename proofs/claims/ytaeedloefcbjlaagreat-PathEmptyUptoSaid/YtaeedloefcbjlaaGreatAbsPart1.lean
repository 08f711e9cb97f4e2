/- The abstraction layer, part 1: rules that read a program as plain data, and that they are sound. Conditions: those in each theorem. -/
import Derived.Orders
import Derived.Laws.World
import Derived.Calls
import Derived.Laws.CopyRow
import Derived.Laws.Entries
import Derived.Laws.StructEq
set_option linter.unusedVariables false
set_option linter.unusedSimpArgs false
/- A function that goes through all columns within a box, and calls another one for each of them: what it is to do. -/
namespace Go.Ab

/-- What a step leaves alone: all blocks but those of 'Y', and the rest of the world. -/
structure Keeps (Y : Nat → Prop) (w w' : World) : Prop where
 os : w'.os = w.os
 tape : w'.tape = w.tape
 output : w'.output = w.output
 size : w.heap.size ≤ w'.heap.size
 block : ∀ b, b < w.heap.size → ¬ Y b → w'.heap[b]? = w.heap[b]?

/-- One value after the other. -/
def itD {S : Type} (body : Int → S → (S → Prop) → Prop) : Nat → Int → S → (S → Prop) → Prop
 | 0, _, s, Q => Q s
 | n + 1, v, s, Q => body v s fun s' => itD body n (v + 1) s' Q
/-- All columns, in the order of lists. -/
def visD {S : Type} (leaf : List Int → S → (S → Prop) → Prop) : List Int → List Int → S → (S → Prop) → Prop
 | [], pre, s, Q => leaf pre s Q
 | m :: bx, pre, s, Q => itD (fun v s K => visD leaf bx (pre ++ [v]) s K) (m + 1).toNat 0 s Q

/-- Numbers that a slice has. -/
def BoxAt (w : World) (v : Value) (xs : List Int) : Prop :=
 (∃ p, v = .slice p 0 0 ∧ xs = []) ∨ ∃ b off cap, v = .slice (some ⟨b, off, none⟩) xs.length cap ∧ ∀ i, i < xs.length → w.cell? ⟨b, off + i, none⟩ = some (.int .i64 (xs.getD i 0))

/-- The function at 'h' goes through all columns within a box. -/
def EvrOk (P : Program) (h : Nat) : Prop :=
 (∃ fn, P.funcs[h]? = some fn ∧ fn.body.isSome = true) ∧
 ∀ (S : Type) (J : (Nat → Prop) → S → World → Prop) (f : Nat) (caps : Array Value) (bv : Value) (xs : List Int) (leaf : List Int → S → (S → Prop) → Prop),
  (∀ N s w, J N s w → BoxAt w bv xs) →
  (∀ N N' s w w', J N s w → Keeps N w w' → (∀ b, N' b → (N b ∨ w.heap.size ≤ b) ∧ b < w'.heap.size) → J N' s w') →
  (∀ N s w b pre Q, N b → b < w.heap.size → J N s w → (∀ i, i < pre.length → w.cell? ⟨b, i, none⟩ = some (.int .i64 (pre.getD i 0))) → leaf pre s Q →
   (∃ fn, P.funcs[f]? = some fn ∧ fn.body.isSome = true) ∧ Calls P f (#[.slice (some ⟨b, 0, none⟩) pre.length pre.length] ++ caps) w fun e w' => ∃ s', e = .returned (.tuple #[]) ∧ Q s' ∧ J N s' w' ∧ Keeps (fun b => ¬ N b) w w') →
  (∀ x ∈ xs, x < 9223372036854775807) → (xs.length : Int) ≤ 1000000 →
  ∀ s w Q, J (fun _ => False) s w → visD leaf xs [] s Q →
   Calls P h #[bv, .func (.func f) #[] caps] w fun e w' => ∃ N s', e = .returned (.tuple #[]) ∧ Q s' ∧ J N s' w'

end Go.Ab

/- A data-level weakest precondition over the loaded program: values are plain data; memory that a call itself makes is a tree of data with marks that say which parts it owns. -/
namespace Go.Ab

inductive D where
 | und
 | nil
 | int (n : Int)
 | bool (b : Bool)
 | str (s : ByteArray)
 | slc (xs : List D)
 | agg (fs : List D)
 | map (es : List (D × D))
 | ptr (d : D)
 | fn (f : Nat) (caps : List D)
 | ifc (t : Nat) (d : D)
 | mv (f : Nat) (d : D)
 deriving Inhabited

def D.i : D → Int
 | .int n => n
 | _ => 0
def D.b : D → Bool
 | .bool b => b
 | _ => false
def D.s : D → ByteArray
 | .str s => s
 | _ => ByteArray.empty
def D.xs : D → List D
 | .slc l => l
 | _ => []
def D.fs : D → List D
 | .agg l => l
 | _ => []
def D.es : D → List (D × D)
 | .map l => l
 | .agg (.map l :: _) => l
 | _ => []
def D.dr : D → D
 | .ptr d => d
 | _ => .und
def D.len (d : D) : Int := d.xs.length
def D.el (d : D) (i : Int) : D := d.xs.getD i.toNat .und
def D.fld (d : D) (j : Nat) : D := d.fs.getD j .und
def rs (l : List D) (k : Nat) : D := l.getD k .und

inductive Stp where
 | fld (j : Nat)
 | idx (i : Nat)
 | arr (i : Nat)
 deriving DecidableEq

abbrev Pth := List Stp

def D.get : D → Pth → D
 | d, [] => d
 | d, .fld j :: p => (d.fld j).get p
 | d, .idx i :: p => (d.xs.getD i .und).get p
 | d, .arr i :: p => (d.fs.getD i .und).get p
/-- The kind of a type. -/
inductive TK where
 | int (k : IntKind)
 | bool
 | str
 | slc (e : Nat)
 | struct (fs : List (Nat × Nat))
 | arr (n e : Nat)
 | ptr (e : Nat)
 | fn
 | ifc
 | map (k e : Nat)
 | other
 deriving DecidableEq

def tk (P : Program) (t : Nat) : TK :=
 cond (Nat.blt t P.types.size) (match P.underlying t with
 | some (.int k) => .int k
 | some .bool => .bool
 | some .string => .str
 | some (.slice e) => .slc e
 | some (.struct fs) => .struct (fs.toList.map fun f => (f.type, f.offset))
 | some (.array n e) => .arr n e
 | some (.pointer e) => .ptr e
 | some (.func ..) => .fn
 | some (.interface _) => .ifc
 | some (.map k e) => .map k e
 | _ => .other) .other

/-- Data with a place written. Structs are written out field by field. -/
def D.put (P : Program) : Nat → D → Pth → D → D
 | _, _, [], v => v
 | t, d, .fld j :: p, v => match tk P t with
  | .struct fs => .agg (fs.zipIdx.map fun x => cond (Nat.beq x.2 j) (D.put P x.1.1 (d.fld j) p v) (d.fld x.2))
  | _ => .und
 | t, d, .idx i :: p, v => match tk P t with
  | .slc e => .slc (d.xs.set i (D.put P e (d.xs.getD i .und) p v))
  | _ => .und
 | t, d, .arr i :: p, v => match tk P t with
  | .arr _ e => .agg (d.fs.set i (D.put P e (d.fs.getD i .und) p v))
  | _ => .und

def isB (P : Program) (t : Nat) : Bool := match tk P t with
 | .bool => true
 | _ => false
def isI (P : Program) (t : Nat) : Bool := match tk P t with
 | .int .i64 => true
 | _ => false

def sameK (P : Program) (t u : Nat) : Bool := cond (Nat.beq t u) true (decide (tk P t = tk P u))

/-- No pointer inside: such data needs no memory. -/
def flat (P : Program) : Nat → Nat → Bool
 | 0, _ => false
 | n + 1, t => match tk P t with
  | .int _ | .bool | .str => true
  | .struct fs => fs.all fun x => flat P n x.1
  | .arr _ e => flat P n e
  | _ => false
def flatT (P : Program) (t : Nat) : Bool := flat P 6 t

/-- Structs that are compared part by part. -/
def named (P : Program) (t : Nat) : Bool := match P.underlying t with
 | some (.struct fs) => fs.toList.all fun f => f.name != "_"
 | _ => false
def eqT (P : Program) : Nat → Nat → Bool
 | 0, _ => false
 | n + 1, t => match tk P t with
  | .int _ | .bool | .str => true
  | .struct fs => (named P t && !P.stoodInHeld t && !P.eqGuardType P.depth t) && fs.all fun x => eqT P n x.1
  | _ => false

/-- Types whose zero value is written out. -/
def goodT (P : Program) : Nat → Nat → Bool
 | 0, _ => false
 | n + 1, t => match tk P t with
  | .struct fs => fs.all fun x => goodT P n x.1
  | .arr _ e => goodT P n e
  | .other => false
  | _ => true
def zD (P : Program) : Nat → Nat → D
 | 0, _ => .und
 | n + 1, t => match tk P t with
  | .int _ => .int 0
  | .bool => .bool false
  | .str => .str ByteArray.empty
  | .slc _ => .slc []
  | .struct fs => .agg (fs.map fun x => zD P n x.1)
  | .arr m e => .agg (List.replicate m (zD P n e))
  | .map _ _ => .map []
  | _ => .nil
def zero (P : Program) (t : Nat) : D := zD P 8 t

/-- Which parts of a value are owned. Fields that are not listed are not owned. -/
inductive Sh where
 | imm
 | slc (s : Sh) (ex : Option (Nat × Sh))
 | agg (l : List (Nat × Sh))
 | gone
 | mp
 | it
 deriving Inhabited

mutual
def Sh.beq : Sh → Sh → Bool
 | .imm, .imm => true
 | .gone, .gone => true
 | .mp, .mp => true
 | .slc s none, .slc u none => Sh.beq s u
 | .agg l, .agg m => Sh.beqs l m
 | _, _ => false
def Sh.beqs : List (Nat × Sh) → List (Nat × Sh) → Bool
 | [], [] => true
 | (i, s) :: l, (j, u) :: m => Nat.beq i j && Sh.beq s u && Sh.beqs l m
 | _, _ => false
end

def fldL : List (Nat × Sh) → Nat → Sh
 | [], _ => .imm
 | (i, s) :: l, j => cond (Nat.beq i j) s (fldL l j)
def setL : List (Nat × Sh) → Nat → Sh → List (Nat × Sh)
 | [], j, s => [(j, s)]
 | (i, u) :: l, j, s => cond (Nat.beq i j) ((j, s) :: l) (cond (Nat.blt j i) ((j, s) :: (i, u) :: l) ((i, u) :: setL l j s))
def delL (l : List (Nat × Sh)) (j : Nat) : List (Nat × Sh) := l.filter fun x => !Nat.beq x.1 j
def Sh.isImm : Sh → Bool
 | .imm => true
 | _ => false
def Sh.noIt : Sh → Bool
 | .it => false
 | _ => true
def Sh.isGone : Sh → Bool
 | .gone => true
 | _ => false
def mkAgg : List (Nat × Sh) → Sh
 | [] => .imm
 | l => .agg l
/-- A field's shape. -/
def Sh.fld : Sh → Nat → Option Sh
 | .imm, _ => some .imm
 | .agg l, j => some (fldL l j)
 | _, _ => none
def Sh.setFld : Sh → Nat → Sh → Option Sh
 | .imm, j, s => some (cond s.isImm .imm (.agg [(j, s)]))
 | .agg l, j, s => some (cond s.isImm (mkAgg (delL l j)) (.agg (setL l j s)))
 | _, _, _ => none
/-- The shape at a place; none where nothing may be said of it. -/
def Sh.get : Sh → Pth → Option Sh
 | s, [] => some s
 | s, .fld j :: p => match s.fld j with
  | some u => u.get p
  | none => none
 | .slc s none, .idx _ :: p => s.get p
 | _, .idx _ :: _ => none
 | .imm, .arr _ :: p => Sh.get .imm p
 | _, .arr _ :: _ => none
/-- The shape that a stored value takes at its place: 'ix': below an index; 'sv': the value's own (none: a nil). -/
def Sh.want : Sh → Pth → Bool → Option Sh → Sh
 | cur, [], _, none => match cur with
  | .slc s none => .slc s none
  | _ => .imm
 | cur, [], ix, some sv => cond (ix && cur.isImm) .imm sv
 | s, .fld j :: p, ix, sv => match s.fld j with
  | some u => u.want p ix sv
  | none => .imm
 | .slc s none, .idx _ :: p, _, sv => s.want p true sv
 | .slc _ (some (_, si)), .idx _ :: p, _, sv => si.want p true sv
 | s, .arr _ :: p, ix, sv => s.want p ix sv
 | _, .idx _ :: _, _, _ => .imm
/-- The shape behind a store of a value of shape 'v'. -/
def Sh.put : Sh → Pth → Sh → Option Sh
 | _, [], v => some v
 | s, .fld j :: p, v => match s.fld j with
  | some u => match u.put p v with
   | some u' => s.setFld j u'
   | none => none
  | none => none
 | .slc s none, .idx _ :: p, v => match s.put p v with
  | some s' => cond (s'.beq s) (some (.slc s none)) none
  | none => none
 | .slc s (some (k, si)), .idx _ :: p, v => match si.put p v with
  | some s' => cond (s'.beq s) (some (.slc s none)) (some (.slc s (some (k, s'))))
  | none => none
 | _, .idx _ :: _, _ => none
 | .imm, .arr _ :: p, v => match Sh.put .imm p v with
  | some .imm => some .imm
  | _ => none
 | _, .arr _ :: _, _ => none
/-- What a store through holes owes: the index is the hole's. -/
def Sh.owes : Sh → Pth → Prop
 | _, [] => True
 | s, .fld j :: p => match s.fld j with
  | some u => u.owes p
  | none => True
 | .slc _ (some (k, si)), .idx i :: p => k = i ∧ si.owes p
 | .slc s none, .idx _ :: p => s.owes p
 | _, .idx _ :: _ => True
 | _, .arr _ :: _ => True
/-- The shape behind the taking out of a place's value. -/
def Sh.hole : Sh → Pth → Option Sh
 | _, [] => some .gone
 | s, .fld j :: p => match s.fld j with
  | some u => match u.hole p with
   | some u' => s.setFld j u'
   | none => none
  | none => none
 | .slc s none, .idx i :: p => match s.hole p with
  | some s' => some (.slc s (some (i, s')))
  | none => none
 | _, .idx _ :: _ => none
 | _, .arr _ :: _ => none
/-- Nothing is missing. -/
def Sh.plain : Nat → Sh → Bool
 | 0, _ => false
 | _ + 1, .imm => true
 | n + 1, .slc s none => s.plain n
 | n + 1, .agg l => l.all fun x => x.2.plain n
 | _ + 1, .mp => true
 | _ + 1, _ => false
/-- May 's' be read as 'u', which owns less? -/
def Sh.weakN : Nat → Sh → Sh → Bool
 | 0, _, _ => false
 | n + 1, s, .imm => s.plain (n + 1)
 | n + 1, .slc s none, .slc u none => s.weakN n u
 | n + 1, .agg l, .agg m => (l.all fun x => x.2.weakN n (fldL m x.1)) && m.all fun x => (fldL l x.1).weakN n x.2
 | _ + 1, .gone, .gone => true
 | _ + 1, .mp, .mp => true
 | _, _, _ => false
def Sh.weak (s u : Sh) : Bool := s.weakN 8 u
/-- The shape where what lies at a path (at every index) is owned no more. -/
def Sh.frzAt : Sh → Pth → Option Sh
 | s, [] => cond (s.weak .imm) (some .imm) none
 | s, .fld j :: p => match s.fld j with
  | some u => match u.frzAt p with
   | some u' => s.setFld j u'
   | none => none
  | none => none
 | .slc s none, .idx _ :: p => match s.frzAt p with
  | some s' => some (.slc s' none)
  | none => none
 | .imm, _ => some .imm
 | _, _ => none
def zSh (P : Program) : Nat → Nat → Sh
 | 0, _ => .imm
 | n + 1, t => match tk P t with
  | .slc e => .slc (zSh P n e) none
  | .struct fs => mkAgg ((fs.zipIdx.map fun x => (x.2, zSh P n x.1.1)).filter fun x => !x.2.isImm)
  | _ => .imm

/-- The value of a slot. -/
inductive AV where
 | dead
 | und
 | con (v : Value)
 | imm (t : Nat) (d : D)
 | nils (t : Nat)
 | iptr (e : Nat) (d : D)
 | ptr (o : Nat) (p : Pth) (e : Nat)
 | val (o : Nat) (p : Pth) (t : Nat)
 | old (o t : Nat) (d : D)
 | tup (l : List AV)
 | fn (f : Nat)
 | clo (f : Nat) (l : List AV)
 | vptr (o : Nat) (p : Pth) (e : Nat)
 | celp (o e : Nat)
 deriving Inhabited

def AV.flatA : AV → Bool
 | .tup _ => false
 | .clo _ _ => false
 | _ => true
structure Obj where
 box : Bool
 t : Nat
 sh : Sh
 d : D

abbrev Env := List (Nat × AV)
abbrev Objs := List (Nat × Option Obj)
def look : Env → Nat → AV
 | [], _ => .dead
 | (i, v) :: r, k => cond (Nat.beq i k) v (look r k)
def lookO : Objs → Nat → Option Obj
 | [], _ => none
 | (i, v) :: r, k => cond (Nat.beq i k) v (lookO r k)

structure St where
 sl : Env
 ob : Objs

/-- Which references to an object fall: all; those behind a path that is written; all, where something was appended to what was 'd'. -/
inductive KM where
 | all
 | pth (p : Pth)
 | app (d : D)
 | wk (bx : Bool)
 | ln
 | lv
 | cut
 | it
/-- What an operation changes: its own slot, objects, and which references fall. -/
structure Dl where
 v : AV
 os : Objs := []
 ks : List (Nat × KM) := []

def under : Pth → Pth → Bool
 | [], _ => true
 | .fld i :: p, .fld j :: q => Nat.beq i j && under p q
 | .idx _ :: p, .idx _ :: q => under p q
 | .arr _ :: p, .arr _ :: q => under p q
 | _, _ => false
def Stp.isIdx : Stp → Bool
 | .idx _ => true
 | _ => false
def underIdx (p q : Pth) : Bool := under p q && (q.drop p.length).any Stp.isIdx
/-- A reference behind a written place falls; a copy stays where only the object's own cells were written. -/
def fall1 (o : Nat) : KM → AV → AV
 | .all, .ptr o' p e => cond (Nat.beq o o') .dead (.ptr o' p e)
 | .all, .val o' p t => cond (Nat.beq o o' || (match p with
  | [.fld m] => Nat.beq o m
  | _ => false)) .dead (.val o' p t)
 | .all, .vptr o' p t => cond (Nat.beq o o' || (match p with
  | [.fld m] => Nat.beq o m
  | _ => false)) .dead (.vptr o' p t)
 | .all, .old o' t d => cond (Nat.beq o o') .dead (.old o' t d)
 | .all, .celp o' e => cond (Nat.beq o o') .dead (.celp o' e)
 | .app _, .celp o' e => cond (Nat.beq o o') .dead (.celp o' e)
 | .lv, .celp o' e => cond (Nat.beq o o') .dead (.celp o' e)
 | .it, .celp o' e => cond (Nat.beq o o') .dead (.celp o' e)
 | .pth p, .ptr o' q e => cond (Nat.beq o o' && underIdx p q) .dead (.ptr o' q e)
 | .pth p, .val o' q t => cond ((Nat.beq o o' && under p q) || (match q with
  | [.fld m] => Nat.beq o m && under p q
  | _ => false)) .dead (.val o' q t)
 | .pth p, .vptr o' q t => cond ((Nat.beq o o' && under p q) || (match q with
  | [.fld m] => Nat.beq o m && under p q
  | _ => false)) .dead (.vptr o' q t)
 | .pth p, .old o' t d => cond (Nat.beq o o' && p.any Stp.isIdx) .dead (.old o' t d)
 | .app _, .ptr o' p e => cond (Nat.beq o o') .dead (.ptr o' p e)
 | .app x, .val o' p t => cond (Nat.beq o o') (match p with
  | [] => .old o' t x
  | _ => .dead) (.val o' p t)
 | .app _, .vptr o' p t => cond (Nat.beq o o' || (match p with
  | [.fld m] => Nat.beq o m
  | _ => false)) .dead (.vptr o' p t)
 | .app _, .old o' t d => cond (Nat.beq o o') .dead (.old o' t d)
 | .wk _, .ptr o' p e => cond (Nat.beq o o' && p.any Stp.isIdx) .dead (.ptr o' p e)
 | .wk bx, .val o' p t => cond ((Nat.beq o o' && (bx || !p.isEmpty)) || (match p with
  | [.fld m] => Nat.beq o m
  | _ => false)) .dead (.val o' p t)
 | .wk bx, .vptr o' p t => cond ((Nat.beq o o' && (bx || !p.isEmpty)) || (match p with
  | [.fld m] => Nat.beq o m
  | _ => false)) .dead (.vptr o' p t)
 | .ln, .ptr o' p e => cond (Nat.beq o o' && p.any Stp.isIdx) .dead (.ptr o' p e)
 | .ln, .val o' p t => cond (Nat.beq o o' || (match p with
  | [.fld m] => Nat.beq o m
  | _ => false)) .dead (.val o' p t)
 | .ln, .vptr o' p t => cond (Nat.beq o o' || (match p with
  | [.fld m] => Nat.beq o m
  | _ => false)) .dead (.vptr o' p t)
 | .ln, .old o' t d => cond (Nat.beq o o') .dead (.old o' t d)
 | .lv, .ptr o' p e => cond (Nat.beq o o') .dead (.ptr o' p e)
 | .lv, .val o' p t => cond ((Nat.beq o o' && !p.isEmpty) || (match p with
  | [.fld m] => Nat.beq o m
  | _ => false)) .dead (.val o' p t)
 | .lv, .vptr o' p t => cond ((Nat.beq o o' && !p.isEmpty) || (match p with
  | [.fld m] => Nat.beq o m
  | _ => false)) .dead (.vptr o' p t)
 | .lv, .old o' t d => cond (Nat.beq o o') .dead (.old o' t d)
 | .cut, .old o' t d => cond (Nat.beq o o') .dead (.old o' t d)
 | .it, .ptr o' p e => cond (Nat.beq o o') .dead (.ptr o' p e)
 | .it, .old o' t d => cond (Nat.beq o o') .dead (.old o' t d)
 | .it, .val o' p t => cond (match p with
  | [.fld m] => Nat.beq o m
  | _ => false) .dead (.val o' p t)
 | .it, .vptr o' p t => cond (Nat.beq o o' || (match p with
  | [.fld m] => Nat.beq o m
  | _ => false)) .dead (.vptr o' p t)
 | _, a => a
def fall (k : Nat × KM) : AV → AV
 | .clo f l => .clo f (l.map (fall1 k.1 k.2))
 | .tup l => .tup (l.map (fall1 k.1 k.2))
 | a => fall1 k.1 k.2 a
def strike : List (Nat × KM) → AV → AV
 | [], a => a
 | k :: ks, a => strike ks (fall k a)
def strikes : List (Nat × KM) → Env → Env
 | [], sl => sl
 | k :: ks, sl => sl.map fun x => (x.1, strike (k :: ks) x.2)
def St.app (g : St) (dst : Option Nat) (δ : Dl) : St :=
 {sl := match dst with
   | some d => (d, δ.v) :: strikes δ.ks g.sl
   | none => strikes δ.ks g.sl
  ob := δ.os ++ g.ob }
def St.av (g : St) : Operand → AV
 | .tmp t => look g.sl t
 | .const v => .con v
 | .func f => .fn f
 | .global _ => .dead

/-- Parameters: data, memory that is only read, memory that is lent. -/
inductive PK where
 | imm (t : Nat)
 | iptr (e : Nat)
 | lent (e : Nat) (sh : Sh) (bx : Bool)
inductive RK where
 | val (t : Nat) (sh : Sh)
 | box (e : Nat) (sh : Sh)
def RK.noIt : RK → Bool
 | .val _ sh => sh.noIt
 | .box _ _ => true
structure Sig where
 ps : List PK
 rs : List RK
 cel : List Nat := []
/-- Does a parameter come as a pointer to a cell that holds the pointer? -/
def isCel (cs : List Nat) (k : Nat) : Bool := cs.any (Nat.beq k)
inductive Cmd where
 | weak (o : Nat) (sh : Sh)
 | frz (o : Nat) (p : Pth)
 | thaw (s : Nat) (sh : Sh)
 | imm (s : Nat)
 | freeze (s : Nat)
 | home (s : Nat)
 | unbox (s : Nat)
 | imb (s : Nat)
structure Ann where
 sig : Nat → Sig
 cmd : Nat → Nat → List Cmd
 loop : Nat → Nat → List Cmd × List Nat × List Nat
 own : Nat → Nat → Bool
 prim : Nat → Bool := fun _ => false
 sp : Nat → Option (List D → List D → Prop) := fun _ => none

def PK.beq : PK → PK → Bool
 | .imm t, .imm u => Nat.beq t u
 | .iptr t, .iptr u => Nat.beq t u
 | .lent t s b, .lent u r c => Nat.beq t u && (s.beq r && (cond b c (!c)))
 | _, _ => false
def PK.beqs : List PK → List PK → Bool
 | [], [] => true
 | a :: l, b :: m => PK.beq a b && PK.beqs l m
 | _, _ => false

def conD (P : Program) (t : Nat) (v : Value) : Option D :=
 match tk P t, v with
 | .int k, .int k' n => cond (decide (k = k')) (some (.int n)) none
 | .bool, .bool b => some (.bool b)
 | .str, .string s => some (.str s)
 | .slc _, .slice none 0 0 => some (.slc [])
 | .ptr _, .pointer none => some .nil
 | .fn, .nilFunc => some .nil
 | .ifc, .nilIface => some .nil
 | .map _ _, .map none => some (.map [])
 | _, _ => none

/-- A slot's value as data of a type. -/
def St.data (P : Program) (g : Nat → Option Obj) (t : Nat) : AV → Option D
 | .imm u d => cond (sameK P t u) (some d) none
 | .con v => conD P t v
 | .nils u => cond (sameK P t u) (some (.slc [])) none
 | .old o u d => cond (sameK P t u) (match g o with
  | some _ => some d
  | none => none) none
 | .val o p u => cond (sameK P t u) (match g o with
  | some ob => match ob.sh.get p with
   | some s => cond (s.plain 8) (some (ob.d.get p)) none
   | none => none
  | none => none) none
 | _ => none

/-- A slot's value as a number. -/
def intOf (P : Program) : AV → Option Int
 | .imm t d => match tk P t with
  | .int _ => some d.i
  | _ => none
 | .con (.int _ n) => some n
 | _ => none

/-- The typed form of what is moved. -/
def norm (P : Program) (t : Nat) : AV → AV
 | .con v => match tk P t, v with
  | .slc _, .slice none 0 0 => .nils t
  | _, _ => match conD P t v with
   | some d => .imm t d
   | none => .dead
 | a => a

/-- The value is taken for good: its shape (none: a nil slice), its data, what becomes of objects. -/
def takeV (P : Program) (g : Nat → Option Obj) (t : Nat) : AV → Option (Option Sh × D × Objs)
 | .val o [] u => cond (sameK P t u) (match g o with
  | some ob => cond (ob.box || ob.sh.isGone) none (some (some ob.sh, ob.d, cond ob.sh.isImm [] [(o, none)]))
  | none => none) none
 | .val o (x :: p) u => cond (sameK P t u) (match g o with
  | some ob => match ob.sh.get (x :: p) with
   | some .imm => some (some .imm, ob.d.get (x :: p), [])
   | _ => none
  | none => none) none
 | .nils u => cond (sameK P t u) (some (none, .slc [], [])) none
 | .con (.slice none 0 0) => match tk P t with
  | .slc _ => some (none, .slc [], [])
  | _ => none
 | .imm u d => cond (sameK P t u) (some (some .imm, d, [])) none
 | .con v => match conD P t v with
  | some d => some (some .imm, d, [])
  | none => none
 | _ => none

def newO (_g : Nat → Option Obj) (o : Nat) (v : AV) (ob : Obj) (os : Objs) : Dl :=
 { v, os := (o, some ob) :: os, ks := [(o, .all)] }

def room (n bytes : Int) : Prop := n * bytes ≤ 70368744177664

/-- Is what lies there owned by nobody? -/
def immAt (g : Nat → Option Obj) (o : Nat) (p : Pth) : Bool := match g o with
 | some ob => match ob.sh.get p with
  | some .imm => true
  | _ => false
 | none => false

/-- Captured values and arguments as data, and which objects are lent to be read. -/
def capD (P : Program) (g : Nat → Option Obj) : PK → AV → Option (D × List (Nat × Option Pth))
 | .iptr e, .iptr u d => cond (sameK P e u) (some (.ptr d, [])) none
 | .iptr e, .ptr o p u => cond (sameK P e u) (match g o with
  | some ob => match ob.sh.get p with
   | some s => cond (s.plain 8) (some (.ptr (ob.d.get p), [(o, none)])) none
   | none => none
  | none => none) none
 | .imm t, .val o p u => match St.data P g t (.val o p u) with
  | some d => some (d, cond (immAt g o p) [] [(o, some p)])
  | none => none
 | .imm t, .old o u d => match St.data P g t (.old o u d) with
  | some d => some (d, [(o, some [])])
  | none => none
 | .imm t, a => match St.data P g t a with
  | some d => some (d, [])
  | none => none
 | _, _ => none
def capsD (P : Program) (g : Nat → Option Obj) : List PK → List AV → Option (List D × List (Nat × Option Pth))
 | [], [] => some ([], [])
 | k :: ks, a :: l => match capD P g k a, capsD P g ks l with
  | some (d, o), some (ds, os) => some (d :: ds, o ++ os)
  | _, _ => none
 | _, _ => none

/-- An argument: its data, what is borrowed, what is lent. -/
def argD (P : Program) (A : Ann) (g : Nat → Option Obj) : PK → AV → Option (D × List (Nat × Option Pth) × List Nat)
 | .imm t, .clo f l => match tk P t with
  | .fn => match capsD P g ((A.sig f).ps.drop ((A.sig f).ps.length - l.length)) l with
   | some (ds, os) => some (.fn f ds, os, [])
   | none => none
  | _ => none
 | .imm t, .fn f => match tk P t with
  | .fn => some (.fn f [], [], [])
  | _ => none
 | .lent e sh true, .ptr o [] u => cond (sameK P e u) (match g o with
  | some ob => cond (Nat.beq ob.t e && (ob.box && ob.sh.beq sh)) (some (ob.d, [], [o])) none
  | none => none) none
 | .lent e sh false, .val o [] u => cond (sameK P e u) (match g o with
  | some ob => cond (Nat.beq ob.t e && (!ob.box && (ob.sh.beq sh && sh.noIt))) (some (ob.d, [], [o])) none
  | none => none) none
 | .iptr e, .iptr u d => cond (sameK P e u) (some (d, [], [])) none
 | .iptr e, .ptr o p u => match capD P g (.iptr e) (.ptr o p u) with
  | some (d, os) => some (d.dr, os, [])
  | none => none
 | .imm t, a => match capD P g (.imm t) a with
  | some (d, os) => some (d, os, [])
  | none => none
 | _, _ => none
/-- A pointer to what is lent, in a cell. -/
def argC (P : Program) (g : Nat → Option Obj) : PK → AV → Option (D × List (Nat × Option Pth) × List Nat)
 | .lent e sh true, .celp o u => cond (sameK P e u) (match g o with
  | some ob => cond (Nat.beq ob.t e && (ob.box && ob.sh.beq sh)) (some (ob.d, [], [o])) none
  | none => none) none
 | _, _ => none
def argsD (P : Program) (A : Ann) (g : Nat → Option Obj) (cs : List Nat) : Nat → List PK → List AV → Option (List D × List (Nat × Option Pth) × List Nat)
 | _, [], [] => some ([], [], [])
 | i, k :: ks, a :: l => match cond (isCel cs i) (argC P g k a) (argD P A g k a), argsD P A g cs (i + 1) ks l with
  | some (d, b, o), some (ds, bs, os) => some (d :: ds, b ++ bs, o ++ os)
  | _, _ => none
 | _, _, _ => none
def shFlat (P : Program) : Nat → Nat → Sh → Bool
 | 0, _, _ => false
 | n + 1, t, .imm => flat P n t
 | n + 1, t, .slc s none => match tk P t with
  | .slc e => shFlat P n e s
  | _ => false
 | n + 1, t, .agg l => match tk P t with
  | .struct fs => fs.zipIdx.all fun x => shFlat P n x.1.1 (fldL l x.2)
  | _ => false
 | _, _, _ => false
def noAlias (P : Program) (s : Sig) : Bool :=
 (s.rs.all fun
  | .val t sh => shFlat P 8 t sh
  | .box t sh => shFlat P 8 t sh) &&
 s.ps.all fun
  | .lent t sh _ => shFlat P 8 t sh
  | _ => true
def nodupB : List Nat → Bool
 | [] => true
 | a :: l => !(l.any (Nat.beq a)) && nodupB l
def apartB (l m : List Nat) : Bool := l.all fun a => !(m.any (Nat.beq a))

/-- A result as the slot's value and its object. -/
def resV (o : Nat) (d : D) : RK → AV × Objs
 | .val t .imm => (.imm t d, [])
 | .val t sh => (.val o [] t, [(o, some ⟨false, t, sh, d⟩)])
 | .box e sh => (.ptr o [] e, [(o, some ⟨true, e, sh, d⟩)])
def resVs (base : Nat) : Nat → List D → List RK → List AV × Objs
 | _, _, [] => ([], [])
 | k, r, x :: l => ((resV (base + k) (r.getD k .und) x).1 :: (resVs base (k + 1) r l).1, (resV (base + k) (r.getD k .und) x).2 ++ (resVs base (k + 1) r l).2)
/-- Which references fall to what was lent. -/
def lnM (g : Nat → Option Obj) (o : Nat) : KM := match g o with
 | some ob => cond ob.box .ln .lv
 | none => .ln
def lentUp (g : Nat → Option Obj) : Nat → List D → List Nat → Objs
 | _, _, [] => []
 | k, r, o :: l => (match g o with
  | some ob => [(o, some { ob with d := r.getD k .und })]
  | none => []) ++ lentUp g (k + 1) r l

structure Hnd where
 cal : Nat → List D → (List D → Prop) → Prop
 dyn : D → List PK → List RK → List D → (List D → Prop) → Prop
 inv : D → String → List PK → List RK → List D → (List D → Prop) → Prop

def overs (os : Objs) : List (Nat × KM) := os.map fun x => (x.1, .all)
def wks (os : Objs) : List (Nat × KM) := os.map fun x => (x.1, .wk (match x.2 with
 | some ob => ob.box
 | none => true))

/-- What is borrowed, and from then on never written again. -/
def frzSh (o : Nat) : Sh → List (Nat × Option Pth) → Option Sh
 | s, [] => some s
 | s, (o', p) :: l => cond (Nat.beq o o') (match p with
  | some p => match s.frzAt p with
   | some s' => frzSh o s' l
   | none => none
  | none => none) (frzSh o s l)
def frz (g : Nat → Option Obj) (bs : List (Nat × Option Pth)) : List (Nat × Option Pth) → Option Objs
 | [] => some []
 | (o, _) :: l => match g o, frz g bs l with
  | some ob, some r => match frzSh o ob.sh bs with
   | some sh => some ((o, some { ob with sh }) :: r)
   | none => none
  | none, some r => some r
  | _, none => none
/-- A call. -/
def callD (P : Program) (A : Ann) (H : Hnd) (dst : Option Nat) (f : Nat) (args : List AV) (g : Nat → Option Obj) (K : Dl → Prop) : Prop :=
 match argsD P A g (A.sig f).cel 0 (A.sig f).ps args with
 | some (ds, bs, os) =>
  match cond (noAlias P (A.sig f)) (some []) (frz g bs bs) with
  | some fz => cond (nodupB os && apartB (bs.map (·.1)) os && (A.sig f).rs.all RK.noIt)
   (H.cal f ds fun r =>
    match dst, (A.sig f).rs with
    | some t, [x] => K { v := (resV t (r.getD 0 .und) x).1, os := (resV t (r.getD 0 .und) x).2 ++ (lentUp g 1 r os ++ fz), ks := overs (resV t (r.getD 0 .und) x).2 ++ ((os.map fun o => (o, lnM g o)) ++ wks fz) }
    | some _, [] => K { v := .und, os := lentUp g 0 r os ++ fz, ks := (os.map fun o => (o, lnM g o)) ++ wks fz }
    | some t, l => K { v := .tup (resVs ((t + 1) * 1000) 0 r l).1, os := (resVs ((t + 1) * 1000) 0 r l).2 ++ (lentUp g l.length r os ++ fz), ks := overs (resVs ((t + 1) * 1000) 0 r l).2 ++ ((os.map fun o => (o, lnM g o)) ++ wks fz) }
    | none, [] => K { v := .und, os := lentUp g 0 r os ++ fz, ks := (os.map fun o => (o, lnM g o)) ++ wks fz }
    | none, _ => False)
   False
  | none => False
 | none => False

/-- Runs of equal numbers, each put together. -/
def cptF : Int → List Int → List Int
 | _, [] => []
 | p, x :: l => cond (decide (x = p)) (cptF p l) (x :: cptF x l)
def cptI : List Int → List Int
 | [] => []
 | x :: l => x :: cptF x l
def cptD (xs : List D) : List D := (cptI (xs.map D.i)).map D.int
def isCpt (P : Program) (h : Nat) : Bool := match P.funcs[h]? with
 | some fn => fn.name == "slices.Compact[[]int,int]"
 | none => false
/-- slices.Compact of numbers: what was there is taken, what is left is read from then on. -/
def primD (P : Program) (dst : Option Nat) (h : Nat) (args : List AV) (g : Nat → Option Obj) (K : Dl → Prop) : Prop :=
 match dst, args with
 | some _, [.val o [] u] => match g o, tk P u with
  | some ob, .slc e => match tk P e, ob.sh with
   | .int .i64, .slc .imm none => cond (isCpt P h && (sameK P ob.t u && !ob.box)) (ob.d.len ≤ 9223372036854775807 ∧ K { v := .imm u (.slc (cptD ob.d.xs)), os := [(o, none)] }) False
   | _, _ => False
  | _, _ => False
 | _, _ => False

/-- A call to which a slice of numbers or of plain structs, which lies in a struct in a box, is lent. -/
def partD (P : Program) (A : Ann) (H : Hnd) (f : Nat) (args : List AV) (g : Nat → Option Obj) (K : Dl → Prop) : Prop :=
 match args, (A.sig f).ps, (A.sig f).rs with
 | .val o [.fld j] _ :: l, .lent e sh false :: ps, [] => match g o, argsD P A g [] 1 ps l with
  | some ob, some (ds, [], []) => match tk P ob.t, ob.sh with
   | .struct fs, .agg m => match fs[j]?, fldL m j with
    | some (ft, _), .slc .imm none => cond (ob.box && (sh.beq (.slc .imm none) && (Nat.beq ft e && ((A.sig f).cel.isEmpty && ps.all fun | .lent _ _ _ => false | _ => true))))
     (H.cal f (ob.d.get [.fld j] :: ds) fun r => K { v := .und, os := [(o, some { ob with d := D.put P ob.t ob.d [.fld j] (r.getD 0 .und) })], ks := [(o, .ln)] }) False
    | _, _ => False
   | _, _ => False
  | _, _ => False
 | _, _, _ => False
def isPart (A : Ann) (f : Nat) (args : List AV) : Bool := match args, (A.sig f).ps with
 | .val _ (.fld _ :: _) _ :: _, .lent _ _ false :: _ => true
 | _, _ => false

/-- What is lent by arguments, and arguments in which that is given anew. -/
def lentDs : List PK → List D → List D
 | .lent _ _ _ :: ps, d :: ds => d :: lentDs ps ds
 | _ :: ps, _ :: ds => lentDs ps ds
 | _, _ => []
def fillL : Nat → List PK → List D → List D → List D
 | j, .lent _ _ _ :: ps, _ :: ds, r => r.getD j .und :: fillL (j + 1) ps ds r
 | j, _ :: ps, d :: ds, r => d :: fillL j ps ds r
 | _, _, _, _ => []
/-- A call of a function that goes through all columns within a box, with a closure to which memory is lent. -/
def everyD (P : Program) (A : Ann) (H : Hnd) (h : Nat) (args : List AV) (g : Nat → Option Obj) (K : Dl → Prop) : Prop :=
 match args with
 | [.imm t d, .clo f l] => match (A.sig f).ps, (A.sig f).rs, tk P t with
  | .imm e :: ps, [], .slc u => match argsD P A g [] 1 ps l, tk P u, tk P e with
   | some (ds, bs, os), .int .i64, .slc u' => cond (isI P u' && (nodupB os && (apartB (bs.map (·.1)) os && (noAlias P (A.sig f) && ((A.sig f).cel.isEmpty && ps.all fun | .lent _ _ bx => bx | _ => true)))))
    (EvrOk P h ∧ ((∀ x ∈ d.xs, x.i < 9223372036854775807) ∧ ((d.xs.length : Int) ≤ 1000000 ∧
     visD (fun pre r Q => H.cal f (.slc (pre.map .int) :: fillL 0 ps ds r) Q) (d.xs.map D.i) [] (lentDs ps ds) fun r => K { v := .und, os := lentUp g 0 r os, ks := os.map fun o => (o, lnM g o) }))) False
   | _, _, _ => False
  | _, _, _ => False
 | _ => False
def isEvery (A : Ann) (args : List AV) : Bool := match args with
 | [.imm _ _, .clo f _] => (A.sig f).ps.any fun | .lent _ _ _ => true | _ => false
 | _ => false

def intOp (op : BinOp) (k : IntKind) (a b : Int) (K : D → Prop) : Prop :=
 match op with
 | .add => K (.int (k.wrap (a + b)))
 | .sub => K (.int (k.wrap (a - b)))
 | .mul => K (.int (k.wrap (a * b)))
 | .quo => b ≠ 0 ∧ K (.int (k.wrap (a.tdiv b)))
 | .rem => b ≠ 0 ∧ K (.int (a.tmod b))
 | .and => K (.int (k.wrap (BitVec.ofInt k.bits a &&& BitVec.ofInt k.bits b).toNat))
 | .or => K (.int (k.wrap (BitVec.ofInt k.bits a ||| BitVec.ofInt k.bits b).toNat))
 | .xor => K (.int (k.wrap (BitVec.ofInt k.bits a ^^^ BitVec.ofInt k.bits b).toNat))
 | .eql => K (.bool (decide (a = b)))
 | .neq => K (.bool (!decide (a = b)))
 | .lss => K (.bool (decide (a < b)))
 | .leq => K (.bool (decide (a ≤ b)))
 | .gtr => K (.bool (decide (b < a)))
 | .geq => K (.bool (decide (b ≤ a)))
 | _ => False
def shOp (op : BinOp) (k : IntKind) (a b : Int) (K : D → Prop) : Prop :=
 match op with
 | .shl => 0 ≤ b ∧ K (.int (k.wrap (a * 2 ^ min b.toNat k.bits)))
 | .shr => 0 ≤ b ∧ K (.int (a.fdiv (2 ^ min b.toNat k.bits)))
 | _ => False

/-- Equality of flat data. -/
def D.same : Nat → D → D → Bool
 | 0, _, _ => false
 | _ + 1, .int a, .int b => decide (a = b)
 | _ + 1, .bool a, .bool b => decide (a = b)
 | _ + 1, .str a, .str b => decide (a.toList = b.toList)
 | n + 1, .agg l, .agg m => sames n l m
 | _, _, _ => false
where
 sames (n : Nat) : List D → List D → Bool
  | [], [] => true
  | a :: l, b :: m => D.same n a b && sames n l m
  | _, _ => false

def okRes (P : Program) (op : BinOp) (k : IntKind) (tr : Nat) : Bool :=
 match op with
 | .eql | .neq | .lss | .leq | .gtr | .geq => isB P P.rt.bool
 | _ => decide (tk P tr = .int k)
def resT (P : Program) (op : BinOp) (tr : Nat) : Nat :=
 match op with
 | .eql | .neq | .lss | .leq | .gtr | .geq => P.rt.bool
 | _ => tr

def binD (P : Program) (g : Nat → Option Obj) (op : BinOp) (tx ty tr : Nat) (x y : AV) (K : AV → Prop) : Prop :=
 match tk P tx with
 | .int k => cond (okRes P op k tr) (match St.data P g tx x with
  | some a => match op with
   | .shl | .shr => match tk P ty with
    | .int _ => match St.data P g ty y with
     | some b => shOp op k a.i b.i fun d => K (.imm (resT P op tr) d)
     | none => False
    | _ => False
   | _ => match St.data P g tx y with
    | some b => intOp op k a.i b.i fun d => K (.imm (resT P op tr) d)
    | none => False
  | none => False) False
 | .bool => cond (isB P P.rt.bool) (match St.data P g tx x, St.data P g tx y with
  | some a, some b => match op with
   | .eql => K (.imm P.rt.bool (.bool (decide (a.b = b.b))))
   | .neq => K (.imm P.rt.bool (.bool (!decide (a.b = b.b))))
   | _ => False
  | _, _ => False) False
 | .slc _ => cond (isB P P.rt.bool) (match St.data P g tx x, y with
  | some a, .con (.slice none 0 0) => match op with
   | .eql => ∀ b : Bool, (b = true → a.len = 0) → K (.imm P.rt.bool (.bool b))
   | .neq => ∀ b : Bool, (b = true → a.len = 0) → K (.imm P.rt.bool (.bool (!b)))
   | _ => False
  | _, _ => False) False
 | .struct _ => cond (eqT P 8 tx && isB P P.rt.bool) (match St.data P g tx x, St.data P g tx y with
  | some a, some b => match op with
   | .eql => K (.imm P.rt.bool (.bool (D.same 8 a b)))
   | .neq => K (.imm P.rt.bool (.bool (!D.same 8 a b)))
   | _ => False
  | _, _ => False) False
 | _ => False

def unD (P : Program) (g : Nat → Option Obj) (op : UnOp) (t : Nat) (x : AV) (K : AV → Prop) : Prop :=
 match tk P t, op, St.data P g t x with
 | .int k, .neg, some a => K (.imm t (.int (k.wrap (0 - a.i))))
 | .bool, .not, some a => K (.imm t (.bool (!a.b)))
 | _, _, _ => False

/-- The address of a field, of an element. -/
def fieldD (P : Program) (g : Nat → Option Obj) (s : Nat) (x : AV) (j : Nat) (K : AV → Prop) : Prop :=
 match tk P s with
 | .struct fs => match fs[j]? with
  | some (ft, _) => cond (Nat.beq (P.cellsOf ft) 0) False (match x with
   | .iptr u d => cond (sameK P s u) (K (.iptr ft (d.fld j))) False
   | .ptr o p u => cond (sameK P s u) (match g o with
    | some _ => K (.ptr o (p ++ [.fld j]) ft)
    | none => False) False
   | .vptr o [] u => cond (sameK P s u) (match g o with
    | some ob => match ob.sh.get [.fld j] with
     | some (.slc _ none) => K (.vptr o [.fld j] ft)
     | _ => False
    | none => False) False
   | _ => False)
  | none => False
 | _ => False
def indexD (P : Program) (g : Nat → Option Obj) (t : Nat) (x i : AV) (K : AV → Prop) : Prop :=
 match tk P t with
 | .slc e => match intOf P i with
  | some n => match x with
   | .imm u d => cond (sameK P t u) ((0 ≤ n ∧ n < d.len) ∧ K (.iptr e (d.el n))) False
   | .val o p u => cond (sameK P t u) (match g o with
    | some ob => match ob.sh.get p with
     | some .imm => (0 ≤ n ∧ n < (ob.d.get p).len) ∧ K (.iptr e ((ob.d.get p).el n))
     | some (.slc _ _) => (0 ≤ n ∧ n < (ob.d.get p).len) ∧ K (.ptr o (p ++ [.idx n.toNat]) e)
     | _ => False
    | none => False) False
   | _ => False
  | none => False
 | .arr m e => match intOf P i with
  | some n => match x with
   | .iptr u d => cond (sameK P t u) ((0 ≤ n ∧ n < m) ∧ K (.iptr e (d.fs.getD n.toNat .und))) False
   | .ptr o p u => cond (sameK P t u) (match g o with
    | some _ => (0 ≤ n ∧ n < m) ∧ K (.ptr o (p ++ [.arr n.toNat]) e)
    | none => False) False
   | _ => False
  | none => False
 | _ => False

def loadD (P : Program) (g : Nat → Option Obj) (t : Nat) (a : AV) (K : AV → Prop) : Prop :=
 match a with
 | .iptr u d => cond (sameK P t u) (K (.imm t d)) False
 | .ptr o p u => cond (sameK P t u) (match g o with
  | some ob => match ob.sh.get p with
   | some .imm => K (.imm t (ob.d.get p))
   | some (.slc _ none) => K (.val o p t)
   | some .mp => K (.val o p t)
   | some (.agg l) => cond ((Sh.agg l).weak .imm) (K (.old o t (ob.d.get p))) False
   | _ => False
  | none => False) False
 | .vptr o p u => cond (sameK P t u) (match tk P t with
  | .slc _ => K (.val o p t)
  | .struct _ => K (.val o p t)
  | _ => False) False
 | .celp o u => match tk P t with
  | .ptr e => cond (sameK P e u) (K (.ptr o [] u)) False
  | _ => False
 | _ => False

def storeD (P : Program) (g : Nat → Option Obj) (t : Nat) (a x : AV) (K : Dl → Prop) : Prop :=
 match a with
 | .ptr o p u => cond (sameK P t u) (match takeV P g t x with
  | some (sv, d, os) => match g o with
   | some ob => match ob.sh.put p (ob.sh.want p false sv) with
    | some sh => cond ((ob.box || !p.isEmpty) && ob.sh.noIt && sh.noIt && (match sv with
      | some s => s.plain 8 && s.weak (ob.sh.want p false sv)
      | none => true))
      (cond (os.any fun y => Nat.beq y.1 o) False
       (ob.sh.owes p ∧ K { v := .und, os := (o, some { ob with sh, d := D.put P ob.t ob.d p d }) :: os, ks := [(o, .pth p)] })) False
    | none => False
   | none => False
  | none => False) False
 | _ => False

/-- The elements' shape that fits an appended slice, and what becomes of its object. -/
def appTail (P : Program) (g : Nat → Option Obj) (t : Nat) (y : AV) : Option (Option Sh × List D × Objs) :=
 match y with
 | .val o [] u => cond (sameK P t u) (match g o with
  | some ob => match ob.sh with
   | .slc s none => some (some s, ob.d.xs, cond s.isImm [] [(o, none)])
   | .imm => some (some .imm, ob.d.xs, [])
   | _ => none
  | none => none) none
 | .val o p u => cond (sameK P t u) (match g o with
  | some ob => match ob.sh.get p with
   | some .imm => some (some .imm, (ob.d.get p).xs, [])
   | some (.slc .imm none) => some (some .imm, (ob.d.get p).xs, [])
   | _ => none
  | none => none) none
 | .old o u d => match tk P t with
  | .slc e => cond (flatT P e) (match St.data P g t (.old o u d) with
   | some d => some (some .imm, d.xs, [])
   | none => none) none
  | _ => none
 | _ => match St.data P g t y with
  | some d => some (some .imm, d.xs, [])
  | none => none
/-- Elements of shape 's' go behind elements of shape 'cur'. -/
def fitEl (cur s : Sh) : Bool := s.plain 8 && s.weak cur

def appendD (P : Program) (g : Nat → Option Obj) (dst : Nat) (t : Nat) (x y : AV) (K : Dl → Prop) : Prop :=
 match tk P t, appTail P g t y with
 | .slc e, some (some s, ys, os) => cond (goodT P 8 e && Nat.blt 0 (P.bytesOf e) && s.plain 8) (match norm P t x with
  | .nils _ => room ys.length (P.bytesOf e) ∧ K (newO g dst (.val dst [] t) ⟨false, t, .slc s none, .slc ys⟩ os)
  | .val o p u => cond (sameK P t u) (match g o with
   | some ob => match ob.sh.get p with
    | some (.slc cur none) => cond (fitEl cur s)
     (room (((ob.d.get p).xs.length : Int) + ys.length) (P.bytesOf e) ∧ match p with
      | [] => cond (os.any fun z => Nat.beq z.1 o) False
        (cond ob.box False (K { v := .val o [] t, os := (o, some { ob with d := .slc ((ob.d.get p).xs ++ ys) }) :: os, ks := [(o, cond (ob.sh.weak .imm) (.app ob.d) .all)] }))
      | _ => match ob.sh.hole p with
       | some sh => cond (os.any fun z => Nat.beq z.1 o) False
        (K { newO g dst (.val dst [] t) ⟨false, t, .slc cur none, .slc ((ob.d.get p).xs ++ ys)⟩ ((o, some { ob with sh }) :: os) with ks := (o, .pth p) :: (o, .cut) :: (newO g dst (.val dst [] t) ⟨false, t, .slc cur none, .slc ((ob.d.get p).xs ++ ys)⟩ []).ks })
       | none => False) False
    | _ => False
   | none => False) False
  | _ => False) False
 | _, _ => False

def lenD (P : Program) (g : Nat → Option Obj) (t : Nat) (x : AV) (K : AV → Prop) (tr : Nat) : Prop :=
 match St.data P g t x with
 | some d => cond (isI P tr) (match tk P t with
  | .slc _ => K (.imm tr (.int d.len))
  | .map _ _ => K (.imm tr (.int d.es.length))
  | .str => K (.imm tr (.int d.s.size))
  | _ => False) False
 | none => False

def minmax (mx : Bool) (a b : Int) : Int := if (if mx then a < b else b < a) then b else a
def foldMM (mx : Bool) : Int → List Int → Int
 | a, [] => a
 | a, b :: l => foldMM mx (minmax mx a b) l
def ints (P : Program) (g : Nat → Option Obj) (k : TK) : List Nat → List AV → Option (List Int)
 | [], [] => some []
 | t :: ts, a :: l => cond (decide (tk P t = k)) (match k, St.data P g t a, ints P g k ts l with
  | .int _, some d, some r => some (d.i :: r)
  | _, _, _ => none) none
 | _, _ => none

/-- Parts of a literal: data by place, the shapes of owned ones, objects. -/
def partsD (P : Program) (g : Nat → Option Obj) (ty : Nat → Option Nat) : List (Nat × AV) → Option (List (Nat × Option Sh × D) × Objs)
 | [] => some ([], [])
 | (j, a) :: l => match ty j with
  | some t => match takeV P g t a, partsD P g ty l with
   | some (sv, d, os), some (r, os') => some ((j, sv, d) :: r, os ++ os')
   | _, _ => none
  | none => none
def putParts : List D → List (Nat × Option Sh × D) → List D
 | l, [] => l
 | l, (j, _, d) :: r => putParts (l.set j d) r
/-- The fields' shapes: 'z': those of the zero value. A nil fits any shape of a slice. -/
def shParts (z : Sh) : List (Nat × Option Sh × D) → Option Sh
 | [] => some z
 | (j, sv, _) :: r => match shParts z r with
  | some u => match sv, u.fld j with
   | none, some (.slc _ none) => some u
   | none, _ => u.setFld j .imm
   | some s, _ => u.setFld j s
  | none => none
/-- The elements' shape: one for all, or none is owned. -/
def elParts : List (Nat × Option Sh × D) → Option Sh
 | [] => none
 | (_, none, _) :: r => elParts r
 | (_, some s, _) :: r => match elParts r with
  | some u => cond (s.beq u) (some s) (some .imm)
  | none => some s

def plainPart (x : Nat × Option Sh × D) : Bool := match x.2.1 with
 | some s => s.plain 8
 | none => true
def buildSliceD (P : Program) (g : Nat → Option Obj) (dst : Nat) (t len : Nat) (parts : List (Nat × AV)) (K : Dl → Prop) : Prop :=
 match tk P t with
 | .slc e => match partsD P g (fun j => cond (Nat.blt j len) (some e) none) parts with
  | some (r, os) => cond (goodT P 8 e && nodupB (parts.map (·.1)) && nodupB (os.map (·.1)) && Nat.ble (len * P.cellsOf e) 1000000 && (r.all plainPart) && (((elParts r).getD .imm).isImm || Nat.beq r.length len))
     (K (newO g dst (.val dst [] t) ⟨false, t, .slc ((elParts r).getD .imm) none, .slc (putParts (List.replicate len (zero P e)) r)⟩ os)) False
  | none => False
 | _ => False
def buildD (P : Program) (own : Bool) (g : Nat → Option Obj) (dst : Nat) (t : Nat) (parts : List (Nat × AV)) (K : Dl → Prop) : Prop :=
 match tk P t with
 | .struct fs => match partsD P g (fun j => (fs[j]?).map (·.1)) parts with
  | some (r, os) => cond (goodT P 8 t && nodupB (parts.map (·.1)) && nodupB (os.map (·.1)))
   (match shParts (cond own (zSh P 4 t) .imm) r with
    | some .imm => K { v := .imm t (.agg (putParts (fs.map fun x => zero P x.1) r)), os := os }
    | some s => K (newO g dst (.val dst [] t) ⟨false, t, s, .agg (putParts (fs.map fun x => zero P x.1) r)⟩ os)
    | none => False) False
  | none => False
 | .arr n e => match partsD P g (fun j => cond (Nat.blt j n) (some e) none) parts with
  | some (r, os) => cond (goodT P 8 t && nodupB (parts.map (·.1)) && os.isEmpty) (K { v := .imm t (.agg (putParts (List.replicate n (zero P e)) r)) }) False
  | none => False
 | _ => False

def makeSliceD (P : Program) (g : Nat → Option Obj) (dst : Nat) (t : Nat) (l c : Int) (K : Dl → Prop) : Prop :=
 match tk P t with
 | .slc e => cond (goodT P 8 e && Nat.blt 0 (P.bytesOf e)) ((0 ≤ l ∧ l ≤ c ∧ room c (P.bytesOf e)) ∧
   K (newO g dst (.val dst [] t) ⟨false, t, .slc (zSh P 4 e) none, .slc (List.replicate l.toNat (zero P e))⟩ [])) False
 | _ => False

def sliceOfD (P : Program) (g : Nat → Option Obj) (t : Nat) (x : AV) (lo hi : Option Int) (K : AV → Prop) : Prop :=
 match tk P t, St.data P g t x with
 | .slc _, some d =>
  let l := lo.getD 0
  let h := hi.getD d.len
  match x with
  | .val o p _ => match g o with
   | some ob => match ob.sh.get p with
    | some .imm => (0 ≤ l ∧ l ≤ h ∧ h ≤ d.len) ∧ K (.imm t (.slc ((d.xs.take h.toNat).drop l.toNat)))
    | _ => False
   | none => False
  | .old _ _ _ => False
  | _ => (0 ≤ l ∧ l ≤ h ∧ h ≤ d.len) ∧ K (.imm t (.slc ((d.xs.take h.toNat).drop l.toNat)))
 | _, _ => False

def mapPut : List (D × D) → D → D → List (D × D)
 | [], k, v => [(k, v)]
 | (a, b) :: l, k, v => cond (D.same 8 a k) ((k, v) :: l) ((a, b) :: mapPut l k v)
def mapGet : List (D × D) → D → Option D
 | [], _ => none
 | (a, b) :: l, k => cond (D.same 8 a k) (some b) (mapGet l k)
def keyT (P : Program) (t : Nat) : Bool := match tk P t with
 | .int _ | .bool | .str => true
 | _ => false
def mapStoreD (P : Program) (g : Nat → Option Obj) (t : Nat) (m k v : AV) (K : Dl → Prop) : Prop :=
 match tk P t with
 | .map kt et => cond (keyT P kt) (match m, St.data P g kt k, takeV P g et v with
  | .val o [] u, some k, some (sv, v, os) => cond (sameK P t u && (match sv with
    | some s => s.plain 8
    | none => true)) (match g o with
   | some ob => match ob.sh with
    | .mp => cond (os.any fun z => Nat.beq z.1 o) False (K { v := .und, os := (o, some { ob with d := .map (mapPut ob.d.es k v) }) :: os, ks := [(o, .pth [.fld o]), (o, .cut)] })
    | _ => False
   | none => False) False
  | _, _, _ => False) False
 | _ => False
def lookupD (P : Program) (g : Nat → Option Obj) (t : Nat) (m k : AV) (K : AV → Prop) : Prop :=
 match tk P t with
 | .map kt et => cond (keyT P kt && goodT P 8 et) (match m, St.data P g kt k with
  | .val o [] u, some kd => cond (sameK P t u) (match g o with
   | some ob => match ob.sh with
    | .mp => K (.imm et ((mapGet ob.d.es kd).getD (zero P et)))
    | _ => False
   | none => False) False
  | _, _ => False) False
 | _ => False
/-- A string's byte. -/
def indexSD (P : Program) (g : Nat → Option Obj) (t tr : Nat) (x i : AV) (K : AV → Prop) : Prop :=
 match tk P t, St.data P g t x, intOf P i with
 | .str, some d, some n => cond (decide (tk P tr = .int .u8)) ((0 ≤ n ∧ n < d.s.size) ∧ K (.imm tr (.int ((d.s.data.getD n.toNat 0).toNat : Int)))) False
 | _, _, _ => False
def D.isT (d : D) (t : Nat) : Bool := match d with
 | .ifc u _ => Nat.beq u t
 | _ => false
def D.un : D → D
 | .ifc _ d => d
 | _ => .und
def isIfc (P : Program) (t : Nat) : Bool := match tk P t with
 | .ifc => true
 | _ => false
def methodOf (P : Program) (t : Nat) (name : String) : Option Nat :=
 match (P.info? t).bind fun i => i.methods.find? (·.name == name) with
 | some m => match m.func, m.path.size with
  | some (f, false), 0 => some f
  | _, _ => none
 | none => none
def bothI (P : Program) (look : Operand → AV) (o : Option Operand) (K : Option Int → Prop) : Prop :=
 match o with
 | none => K none
 | some x => match intOf P (look x) with
  | some d => K (some d)
  | none => False

def lentIds : Nat → List PK → List Nat
 | _, [] => []
 | k, .lent _ _ _ :: l => k :: lentIds (k + 1) l
 | k, _ :: l => lentIds (k + 1) l
/-- A copy of a struct that is lent, in cells of its own that nobody writes. -/
def boxD (P : Program) (A : Ann) (f dst t : Nat) (x : AV) (g : Nat → Option Obj) (K : Dl → Prop) (C : Prop) : Prop :=
 match x with
 | .val o [] u => cond ((lentIds 0 (A.sig f).ps).any (Nat.beq o)) (cond (sameK P t u) (match g o with
  | some ob => match ob.sh with
   | .agg _ => cond ob.box False (K { v := .vptr o [] t })
   | _ => False
  | none => False) False) C
 | .ptr o [] u => match tk P t with
  | .ptr e => cond (sameK P e u) (match g o with
   | some _ => K { v := .celp o u }
   | none => C) C
  | _ => C
 | _ => C

def onV (K : Dl → Prop) (v : AV) : Prop := K { v }

/-- A method, and the value whose method it is. -/
def mvD (P : Program) (A : Ann) (f : Nat) (first caps : List AV) (t : Nat) (K : AV → Prop) : Prop :=
 match first, caps with
 | [.imm u d], [] => match (A.sig f).ps, tk P t with
  | .imm e :: _, .fn => cond (sameK P e u) (K (.imm t (.mv f d))) False
  | _, _ => False
 | _, _ => False
/-- A part of a slice of numbers or plain values that is owned: what is cut off is gone. -/
def isCut (g : Nat → Option Obj) (x : AV) : Bool := match x with
 | .val o [] _ => match g o with
  | some ob => match ob.sh with
   | .slc .imm none => !ob.box
   | _ => false
  | none => false
 | _ => false
def cutD (P : Program) (g : Nat → Option Obj) (t : Nat) (x : AV) (lo hi : Option Int) (K : Dl → Prop) : Prop :=
 match x with
 | .val o [] u => cond (sameK P t u) (match g o, tk P t with
  | some ob, .slc _ => (0 ≤ lo.getD 0 ∧ lo.getD 0 ≤ hi.getD ob.d.len ∧ hi.getD ob.d.len ≤ ob.d.len) ∧ K { v := .val o [] t, os := [(o, some { ob with d := .slc ((ob.d.xs.take (hi.getD ob.d.len).toNat).drop (lo.getD 0).toNat) })], ks := [(o, .all)] }
  | _, _ => False) False
 | _ => False

/-- ONE OPERATION, by what its operands are and what objects are. -/
def stepD (P : Program) (A : Ann) (H : Hnd) (f : Nat) (o : Oper) (av : Operand → AV) (g : Nat → Option Obj) (K : Dl → Prop) : Prop :=
 match o.op with
 | .move x | .assign x => match norm P o.type (av x) with
  | .dead => False
  | v => K { v }
 | .pick c a b => match av c with
  | .imm t d => cond (isB P t) (cond d.b (onV K (norm P o.type (av a))) (onV K (norm P o.type (av b)))) False
  | .con (.bool v) => cond v (onV K (norm P o.type (av a))) (onV K (norm P o.type (av b)))
  | _ => False
 | .alloc t => match o.dst with
  | some dst => cond (goodT P 8 t) (K (newO g dst (.ptr dst [] t) ⟨true, t, zSh P 4 t, zero P t⟩ [])) False
  | none => False
 | .box t x => match o.dst, takeV P g t (av x) with
  | some dst, some (sv, d, os) => boxD P A f dst t (av x) g K (K (newO g dst (.ptr dst [] t) ⟨true, t, sv.getD .imm, d⟩ os))
  | some dst, none => boxD P A f dst t (av x) g K False
  | _, _ => False
 | .load t a => loadD P g t (av a) (onV K)
 | .store t a x => storeD P g t (av a) (av x) K
 | .nilCheck x => match av x with
  | .ptr o p e => match g o with
   | some _ => K { v := .ptr o p e }
   | none => False
  | .iptr e d => K { v := .iptr e d }
  | .clo f l => K { v := .clo f l }
  | _ => False
 | .binOp op tx x y ty => binD P g op tx ty o.type (av x) (av y) (onV K)
 | .unOp op t x => unD P g op t (av x) (onV K)
 | .convert s d x => match tk P s, tk P d, St.data P g s (av x) with
  | .int _, .int k, some a => K { v := .imm d (.int (k.wrap a.i)) }
  | _, _, _ => False
 | .index t x i => indexSD P g t o.type (av x) (av i) (onV K)
 | .lookup t m k false => lookupD P g t (av m) (av k) (onV K)
 | .fieldAddr s x j => fieldD P g s (av x) j (onV K)
 | .indexAddr t x i => indexD P g t (av x) (av i) (onV K)
 | .build t parts => match o.dst with
  | some dst => buildD P (A.own f dst) g dst t (parts.toList.map fun x => (x.1, av x.2)) K
  | none => False
 | .buildSlice t len parts => match o.dst with
  | some dst => buildSliceD P g dst t len (parts.toList.map fun x => (x.1, av x.2)) K
  | none => False
 | .makeSlice t l c => match o.dst, intOf P (av l), intOf P (av c) with
  | some dst, some l, some c => makeSliceD P g dst t l c K
  | _, _, _ => False
 | .slice t x lo hi none => bothI P av lo fun l => bothI P av hi fun h => cond (isCut g (av x)) (cutD P g t (av x) l h K) (sliceOfD P g t (av x) l h (onV K))
 | .makeFunc (.func f) first caps => cond (Nat.beq first.size 0) (cond (caps.toList.all fun x => (av x).flatA) (K { v := .clo f (caps.toList.map av) }) False) (mvD P A f (first.toList.map av) (caps.toList.map av) o.type (onV K))
 | .makeMap t none => match o.dst, tk P t with
  | some dst, .map _ _ => K (newO g dst (.val dst [] t) ⟨false, t, .mp, .map []⟩ [])
  | _, _ => False
 | .range t x => match o.dst, tk P t, av x with
  | some dst, .map _ _, .val m [] u => cond (sameK P t u) (match g m with
   | some ob => match ob.sh with
    | .mp => cond (Nat.beq m dst) False (K (newO g dst (.val dst [.fld m] t) ⟨false, t, .it, .map ob.d.es⟩ []))
    | _ => False
   | none => False) False
  | _, _, _ => False
 | .next it false => match av it with
  | .val q [.fld m] t => match tk P t, g q, g m with
   | .map kt et, some ob, some _ => match ob.sh with
    | .it => cond (isB P P.rt.bool) ((ob.d.es = [] → K { v := .tup [.imm P.rt.bool (.bool false)] }) ∧
     ∀ i, i < ob.d.es.length → K { v := .tup [.imm P.rt.bool (.bool true), .imm kt (ob.d.es.getD i (.und, .und)).1, .imm et (ob.d.es.getD i (.und, .und)).2], os := [(q, some { ob with d := .agg [.map (ob.d.es.eraseIdx i), (ob.d.es.getD i (.und, .und)).1, (ob.d.es.getD i (.und, .und)).2] })], ks := [(q, .it)] }) False
    | _ => False
   | _, _, _ => False
  | _ => False
 | .entry it => match av it with
  | .val q [.fld m] t => match tk P t, g q, g m with
   | .map kt et, some ob, some _ => match ob.sh, ob.d with
    | .it, .agg [_, k, v] => K { v := .tup [.imm kt k, .imm et v] }
    | _, _ => False
   | _, _, _ => False
  | _ => False
 | .mapUpdate t m k v => mapStoreD P g t (av m) (av k) (av v) K
 | .makeInterface t x => match St.data P g t (av x), tk P t with
  | some _, .ifc => False
  | some _, .other => False
  | some d, _ => cond (isIfc P o.type) (match av x with
   | .val _ _ _ => False
   | .old _ _ _ => False
   | _ => K { v := .imm o.type (.ifc t d) }) False
  | none, _ => False
 | .typeAssert x _ t true => match av x, tk P t with
  | .imm _ _, .ifc => False
  | .imm s d, _ => cond (isIfc P s && goodT P 8 t && isB P P.rt.bool) (cond (d.isT t) (K { v := .tup [.imm t d.un, .imm P.rt.bool (.bool true)] }) (K { v := .tup [.imm t (zero P t), .imm P.rt.bool (.bool false)] })) False
  | _, _ => False
 | .extract t i => match av t with
  | .tup l => match l[i]? with
   | some (.val k [] u) => match o.dst, g k with
    | some dst, some ob => K (newO g dst (.val dst [] u) ob [(k, none)])
    | _, _ => False
   | some (.ptr k [] u) => match o.dst, g k with
    | some dst, some ob => K (newO g dst (.ptr dst [] u) ob [(k, none)])
    | _, _ => False
   | some (.imm t d) => K { v := .imm t d }
   | _ => False
  | _ => False
 | .call c => match c.callee with
  | .invoke x name => match av x with
   | .imm _ d => match argsD P A g [] 0 (c.argTypes.toList.map .imm) (c.args.toList.map av) with
    | some (ds, bs, _) => cond (bs.isEmpty || flatT P o.type)
      (H.inv d name (c.argTypes.toList.map .imm) [.val o.type .imm] ds fun r => K { v := .imm o.type (r.getD 0 .und) }) False
    | none => False
   | _ => False
  | .builtin .len => match c.argTypes.toList, c.args.toList with
   | [t], [x] => lenD P g t (av x) (onV K) o.type
   | _, _ => False
  | .builtin .append => match o.dst, c.argTypes.toList, c.args.toList with
   | some dst, [t, u], [x, y] => cond (sameK P t u) (appendD P g dst t (av x) (av y) K) False
   | _, _, _ => False
  | .builtin .min => match ints P g (tk P o.type) c.argTypes.toList (c.args.toList.map av) with
   | some (a :: l) => K { v := .imm o.type (.int (foldMM false a l)) }
   | _ => False
  | .builtin .max => match ints P g (tk P o.type) c.argTypes.toList (c.args.toList.map av) with
   | some (a :: l) => K { v := .imm o.type (.int (foldMM true a l)) }
   | _ => False
  | .value x => match av x with
   | .fn h => cond (A.prim h) (primD P o.dst h (c.args.toList.map av) g K) (cond (isPart A h (c.args.toList.map av)) (partD P A H h (c.args.toList.map av) g K) (cond (isEvery A (c.args.toList.map av)) (everyD P A H h (c.args.toList.map av) g K) (callD P A H o.dst h (c.args.toList.map av) g K)))
   | .clo h l => callD P A H o.dst h (c.args.toList.map av ++ l) g K
   | .imm _ d => match argsD P A g [] 0 (c.argTypes.toList.map .imm) (c.args.toList.map av) with
    | some (ds, bs, _) => cond (bs.isEmpty || flatT P o.type)
      (H.dyn d (c.argTypes.toList.map .imm) [.val o.type .imm] ds fun r => K { v := .imm o.type (r.getD 0 .und) }) False
    | none => False
   | _ => False
  | _ => False
 | _ => False

def ntm (P : Program) (f : Nat) : Nat := ((P.funcs[f]?).map (·.ntmps)).getD 0
def dstOk (P : Program) (A : Ann) (f : Nat) : Option Nat → Bool
 | some d => Nat.blt d (ntm P f) && !((lentIds 0 (A.sig f).ps).any (Nat.beq d))
 | none => true
def St.step (P : Program) (A : Ann) (H : Hnd) (f : Nat) (o : Oper) (g : St) (K : St → Prop) : Prop :=
 cond (dstOk P A f o.dst) (stepD P A H f o g.av (lookO g.ob) fun δ => K (g.app o.dst δ)) False

/-- A guard's slot, once it is known. -/
def St.know (g : St) (s : Nat) (b : Bool) : St := { g with sl := (s, match look g.sl s with
 | .imm t _ => .imm t (.bool b)
 | a => a) :: g.sl }

/-- AN OPERATION UNDER ITS GUARD. -/
def St.guard (P : Program) (A : Ann) (H : Hnd) (f : Nat) (ops : Array Oper) (o : Oper) (g : St) (K : St → Prop) : Prop :=
 match o.guard with
 | none => g.step P A H f o K
 | some (j, want) => match (ops[j]?).bind (·.dst) with
  | some s => match look g.sl s with
   | .imm t d => cond (isB P t) (cond d.b
     (cond want ((g.know s true).step P A H f o K) (cond (dstOk P A f o.dst) (K ((g.know s true).app o.dst { v := .und })) False))
     (cond want (cond (dstOk P A f o.dst) (K ((g.know s false).app o.dst { v := .und })) False) ((g.know s false).step P A H f o K))) False
   | .und => cond (dstOk P A f o.dst) (K (g.app o.dst { v := .und })) False
   | _ => False
  | none => False

/-- An operation's turn, under its guard: does it run, the state before it (its guard known), what it changes. -/
def St.turn (P : Program) (A : Ann) (H : Hnd) (f : Nat) (ops : Array Oper) (o : Oper) (g : St) (K : Bool → St → Dl → Prop) : Prop :=
 match o.guard with
 | none => stepD P A H f o g.av (lookO g.ob) fun δ => K true g δ
 | some (j, want) => match (ops[j]?).bind (·.dst) with
  | some s => match look g.sl s with
   | .imm t d => cond (isB P t) (cond d.b
     (cond want (stepD P A H f o (g.know s true).av (lookO g.ob) fun δ => K true (g.know s true) δ) (K false (g.know s true) { v := .und }))
     (cond want (K false (g.know s false) { v := .und }) (stepD P A H f o (g.know s false).av (lookO g.ob) fun δ => K true (g.know s false) δ))) False
   | .und => K false g { v := .und }
   | _ => False
  | none => False

def wpL (P : Program) (A : Ann) (H : Hnd) (f : Nat) (ops : Array Oper) : List Oper → St → (St → Prop) → Prop
 | [], g, K => K g
 | o :: l, g, K => g.guard P A H f ops o fun g' => wpL P A H f ops l g' K

inductive Ex where
 | nrm
 | ext (n : Nat)
 | ret

def St.weakAt (g : St) (o : Nat) (sh : Sh) : Option St :=
 match lookO g.ob o with
 | some ob => cond (ob.sh.weak sh) (some (g.app none { v := .und, os := [(o, some { ob with sh := sh })], ks := [(o, .wk ob.box)] })) none
 | none => none
def St.frzAt (g : St) (o : Nat) (p : Pth) : Option St :=
 match lookO g.ob o with
 | some ob => match ob.sh.frzAt p with
  | some sh => g.weakAt o sh
  | none => none
 | none => none
def St.immAt (g : St) (s : Nat) : Option St :=
 match look g.sl s with
 | .val o p t => match lookO g.ob o with
  | some ob => match ob.sh.get p with
   | some .imm => some { g with sl := (s, .imm t (ob.d.get p)) :: g.sl }
   | _ => none
  | none => none
 | .nils t => some { g with sl := (s, .imm t (.slc [])) :: g.sl }
 | .imm _ _ => some g
 | _ => none
def St.run1 (P : Program) (g : St) : Cmd → Option St
 | .weak o sh => g.weakAt o sh
 | .frz o p => g.frzAt o p
 | .thaw s sh => match look g.sl s with
  | .nils t => match lookO g.ob s with
   | none => some (g.app (some s) { v := .val s [] t, os := [(s, some ⟨false, t, .slc sh none, .slc []⟩)], ks := [(s, .all)] })
   | some _ => none
  | .val _ _ _ => some g
  | _ => none
 | .imm s => g.immAt s
 | .freeze s => match look g.sl s with
  | .val o p _ => match g.frzAt o p with
   | some g' => g'.immAt s
   | none => none
  | _ => g.immAt s
 | .home s => match look g.sl s with
  | .val o [] t => cond (Nat.beq o s) (some g) (match lookO g.ob o with
   | some ob => some (g.app (some s) { v := .val s [] t, os := [(s, some ob), (o, none)], ks := (o, .all) :: overs [(s, some ob)] })
   | none => none)
  | .ptr o [] t => cond (Nat.beq o s) (some g) (match lookO g.ob o with
   | some ob => some (g.app (some s) { v := .ptr s [] t, os := [(s, some ob), (o, none)], ks := (o, .all) :: overs [(s, some ob)] })
   | none => none)
  | _ => none
 | .unbox s => match look g.sl s with
  | .ptr o [] t => match lookO g.ob o with
   | some ob => cond (ob.box && (match ob.sh with
     | .agg _ => sameK P ob.t t
     | _ => false)) (some (g.app (some s) { v := .vptr o [] t, os := [(o, some { ob with box := false })], ks := [(o, .all)] })) none
   | none => none
  | .vptr _ _ _ => some g
  | _ => none
 | .imb s => match look g.sl s with
  | .ptr o [] t => match lookO g.ob o with
   | some ob => cond (ob.box && sameK P ob.t t && ob.sh.plain 8) (some (g.app (some s) { v := .iptr t ob.d, os := [(o, none)], ks := [(o, .all)] })) none
   | none => none
  | .iptr _ _ => some g
  | _ => none
def St.run (P : Program) (g : St) : List Cmd → (St → Prop) → Prop
 | [], K => K g
 | c :: l, K => match g.run1 P c with
  | some g' => g'.run P l K
  | none => False

/-- Which objects a slot's value speaks of. -/
def AV.refs1 : AV → List Nat
 | .ptr o _ _ => [o]
 | .val o [.fld m] _ => [o, m]
 | .val o _ _ => [o]
 | .vptr o [.fld m] _ => [o, m]
 | .vptr o _ _ => [o]
 | .celp o _ => [o]
 | .old o _ _ => [o]
 | _ => []
def AV.refs : AV → List Nat
 | .clo _ l => l.flatMap AV.refs1
 | .tup l => l.flatMap AV.refs1
 | a => a.refs1
def AV.live1 : AV → Bool
 | .dead => false
 | _ => true
def AV.live : AV → Bool
 | .clo _ l => l.all AV.live1
 | .tup l => l.all AV.live1
 | a => a.live1
/-- Operations with one outcome. -/
def simOp (P : Program) : Op → Bool
 | .move _ | .assign _ | .pick .. | .load .. | .nilCheck _ | .fieldAddr .. | .indexAddr .. | .unOp .. | .convert .. | .makeSlice .. | .build .. | .buildSlice .. | .alloc _ | .box .. | .store .. | .extract .. => true
 | .binOp _ tx _ _ _ => match tk P tx with
  | .int _ | .bool => true
  | _ => false
 | .call c => match c.callee with
  | .builtin .len => true
  | .builtin .append => true
  | .builtin .min => true
  | .builtin .max => true
  | _ => false
 | _ => false
def calOp : Op → Bool
 | .call c => match c.callee with
  | .value _ => true
  | _ => false
 | _ => false
def AV.tag : AV → Nat
 | .dead => 0
 | .und => 1
 | .con _ => 2
 | .imm _ _ => 3
 | .nils _ => 4
 | .iptr _ _ => 5
 | .ptr _ _ _ => 6
 | .val _ _ _ => 7
 | .old _ _ _ => 8
 | .tup _ => 9
 | .fn _ => 10
 | .clo _ _ => 11
 | .vptr _ _ _ => 12
 | .celp _ _ => 13
def keeps1 (ks : List (Nat × KM)) (a : AV) : Bool := ks.all fun k => Nat.beq (fall1 k.1 k.2 a).tag a.tag
/-- Does no reference of 'a' fall? -/
def keepsV (ks : List (Nat × KM)) : AV → Bool
 | .clo _ l => l.all (keeps1 ks)
 | .tup l => l.all (keeps1 ks)
 | a => keeps1 ks a
def KM.app? : KM → Bool
 | .app _ => true
 | _ => false
/-- 'a' was the same before. -/
def keptV (ks : List (Nat × KM)) (a : AV) : Bool := a.live && ks.all fun k => !k.2.app? || !(a.refs.any (Nat.beq k.1))
/-- The objects that an operation looks at. -/
def loadRefs : AV → List Nat
 | .celp _ _ => []
 | a => a.refs
def opRefs (av : Operand → AV) : Op → List Nat
 | .move _ | .assign _ | .pick .. => []
 | .load _ x => loadRefs (av x)
 | .extract x i => match av x with
  | .tup l => match l[i]? with
   | some a => a.refs1
   | none => []
  | _ => []
 | op => op.operands.toList.flatMap fun x => (av x).refs
/-- What an operation touched. -/
structure FP where
 i : Nat
 gs : Option Nat
 dst : Option Nat
 sl : List Nat
 vs : List AV
 v : AV
 ro : List Nat
 oi : List Nat
 ks : List (Nat × KM)
 sim : Bool
 loc : Bool
 sr : Option (Nat × Option Nat)
 sw : Option (Nat × Nat × Nat)
/-- An operation that looks at one object only, and there at one field at most. -/
def softR (av : Operand → AV) : Op → Option (Nat × Option Nat)
 | .nilCheck x => match av x with
  | .ptr q _ _ => some (q, none)
  | _ => none
 | .fieldAddr _ x _ => match av x with
  | .ptr q _ _ => some (q, none)
  | _ => none
 | .load _ x => match av x with
  | .ptr q (.fld i :: _) _ => some (q, some i)
  | _ => none
 | _ => none
/-- An operation that takes a slice out of a field, or writes into a field: the object, the field, how many fields are as they were. -/
def softW (P : Program) (av : Operand → AV) (o : Oper) (os : Objs) : Option (Nat × Nat × Nat) := match o.op with
 | .call c => match c.callee with
  | .builtin .append => match c.args.toList with
   | [x, _] => match av x, o.dst with
    | .val q (.fld j :: _) _, some d => cond (Nat.beq q d) none (some (q, j, 1000000))
    | _, _ => none
   | _ => none
  | _ => none
 | .store _ a _ => match av a with
  | .ptr q (.fld j :: _) _ => match lookO os q with
   | some ob => match tk P ob.t with
    | .struct fs => some (q, j, fs.length)
    | _ => none
   | none => none
  | _ => none
 | _ => none
def softOk (sw : Option (Nat × Nat × Nat)) (sr : Option (Nat × Option Nat)) (c : Nat) : Bool := match sw, sr with
 | some (q, j, m), some (q', i) => Nat.beq q c && (Nat.beq q' c && (match i with
  | none => true
  | some i => !Nat.beq i j && Nat.blt i m))
 | _, _ => false
def opSlots (o : Oper) : List Nat := o.op.operands.toList.filterMap fun
 | .tmp t => some t
 | _ => none
/-- The slot of an operation's guard. -/
def gslot (ops : Array Oper) (o : Oper) : Option Nat := match o.guard with
 | some (j, _) => (ops[j]?).bind (·.dst)
 | none => none
/-- What an operation reads, where it runs. -/
def opnds (r : Bool) (o : Oper) : List Operand := cond r o.op.operands.toList []
def slotsR (r : Bool) (o : Oper) : List Nat := cond r (opSlots o) []
def simR (P : Program) (r : Bool) (o : Oper) : Bool := !r || simOp P o.op
def locR (P : Program) (r : Bool) (o : Oper) : Bool := !r || (simOp P o.op || calOp o.op)
def refsR (r : Bool) (o : Oper) (av : Operand → AV) : List Nat := cond r (opRefs av o.op) []
def mkFP (P : Program) (ops : Array Oper) (i : Nat) (r : Bool) (o : Oper) (av : Operand → AV) (δ : Dl) : FP :=
 { i, gs := gslot ops o, dst := o.dst, sl := slotsR r o, vs := (opnds r o).map av, v := δ.v, ro := refsR r o av, oi := δ.os.map (·.1), ks := δ.ks, sim := simR P r o, loc := locR P r o, sr := cond r (softR av o.op) none, sw := cond r (softW P av o δ.os) none }
def inD (d : Option Nat) (l : List Nat) : Bool := match d with
 | some d => l.any (Nat.beq d)
 | none => false
def AV.nest : AV → Bool
 | .clo _ l => l.all AV.flatA
 | .tup l => l.all AV.flatA
 | _ => true
/-- The guard of 'a' is no affair of 'b'. -/
def gOk (a b : FP) : Bool := match a.gs with
 | none => true
 | some s => !inD b.dst [s] && (!(b.sl.any (Nat.beq s)) || (match b.gs with
  | some s' => Nat.beq s s'
  | none => false))
/-- Two operations, 'a' first, that may change places. -/
def indep (a b : FP) : Bool :=
 gOk a b && gOk b a && a.loc && b.loc && (a.sim || b.sim) && !inD a.dst b.sl && !inD b.dst a.sl && !inD a.dst b.dst.toList && (b.ro.all fun c => !(a.oi.any (Nat.beq c)) || softOk a.sw b.sr c) && (a.ro.all fun c => !(b.oi.any (Nat.beq c)) || softOk b.sw a.sr c) && apartB a.oi b.oi && (a.ks.isEmpty || b.ks.isEmpty || (!(a.ks.any fun k => k.2.app?) && !(b.ks.any fun k => k.2.app?)) || apartB (a.ks.map (·.1)) (b.ks.map (·.1))) && b.vs.all (keptV a.ks) && a.vs.all (keepsV b.ks) && keepsV a.ks b.v && keepsV b.ks a.v && a.vs.all AV.nest && b.vs.all AV.nest
/-- Is 'j' ahead of 'i'? -/
def anc (ops : Array Oper) : Nat → Nat → Nat → Bool
 | 0, _, _ => false
 | n + 1, i, j => match ops[i]? with
  | some o => o.after.toList.any fun e => Region.binds .any e && (Nat.beq e.on j || anc ops n e.on j)
  | none => false
/-- Edges lead back. -/
def fwdOk (ops : Array Oper) : Bool := (List.range ops.size).all fun i => match ops[i]? with
 | some o => o.after.toList.all fun e => !Region.binds .any e || Nat.blt e.on i
 | none => true
/-- Operations one by one, where the order is drawn: what is not ordered must not meet. -/
def wpD (P : Program) (A : Ann) (H : Hnd) (f : Nat) (ops : Array Oper) : List Nat → List FP → St → (St → Prop) → Prop
 | [], _, g, K => K g
 | i :: is, fps, g, K => match ops[i]? with
  | none => wpD P A H f ops is fps g K
  | some o => cond (dstOk P A f o.dst) (g.turn P A H f ops o fun r g1 δ =>
    cond (fps.all fun p => anc ops ops.size i p.i || indep p (mkFP P ops i r o g1.av δ)) (wpD P A H f ops is (mkFP P ops i r o g1.av δ :: fps) (g1.app o.dst δ) K) False) False

def firstRegion : Code → Nat
 | .region id _ _ => id
 | .seq a _ => firstRegion a
 | .cond _ a _ => firstRegion a
 | .block _ c => firstRegion c
 | .loop c => firstRegion c
 | _ => 0

def St.keep (g : St) (l : List Nat × List Nat) : St :=
 { sl := l.1.map fun s => (s, look g.sl s), ob := l.2.map fun o => (o, lookO g.ob o) }

def kLoop (nm : St → (St → Prop) → Prop) (next : St → Prop) (K : Ex → St → Prop) : Ex → St → Prop
 | .nrm, g => nm g next
 | .ext i, g => K (.ext i) g
 | .ret, g => K .ret g
def loopK (body : St → (Ex → St → Prop) → Prop) (nm : St → (St → Prop) → Prop) : Nat → St → (Ex → St → Prop) → Prop
 | 0, _, _ => False
 | m + 1, g, K => body g (kLoop nm (fun g' => loopK body nm m g' K) K)
def nmK (P : Program) (l : List Cmd × List Nat × List Nat) (g : St) (K : St → Prop) : Prop := g.run P l.1 fun g => K (g.keep l.2)

def kSeq (wb : St → (Ex → St → Prop) → Prop) (K : Ex → St → Prop) : Ex → St → Prop
 | .nrm, g => wb g K
 | .ext i, g => K (.ext i) g
 | .ret, g => K .ret g
def kBlock (id : Nat) (K : Ex → St → Prop) : Ex → St → Prop
 | .nrm, g => K .nrm g
 | .ext i, g => cond (Nat.beq i id) (K .nrm g) (K (.ext i) g)
 | .ret, g => K .ret g

def wpC (P : Program) (A : Ann) (H : Hnd) (f n : Nat) : Code → St → (Ex → St → Prop) → Prop
 | .skip, g, K => K .nrm g
 | .region id ops draw, g, K => g.run P (A.cmd f id) fun g => cond draw (cond (fwdOk ops) (wpD P A H f ops (List.range ops.size) [] g (K .nrm)) False) (wpL P A H f ops ops.toList g (K .nrm))
 | .seq a b, g, K => wpC P A H f n a g (kSeq (wpC P A H f n b) K)
 | .cond c a b, g, K => match g.av c with
  | .imm t d => match c with
   | .tmp s => cond (isB P t) (cond d.b (wpC P A H f n a (g.know s true) K) (wpC P A H f n b (g.know s false) K)) False
   | _ => False
  | .con (.bool v) => cond v (wpC P A H f n a g K) (wpC P A H f n b g K)
  | _ => False
 | .block id c, g, K => wpC P A H f n c g (kBlock id K)
 | .loop c, g, K => nmK P (A.loop f (firstRegion c)) g fun g => loopK (wpC P A H f n c) (nmK P (A.loop f (firstRegion c))) n g K
 | .exit id, g, K => K (.ext id) g
 | .ret, g, K => K .ret g
 | _, _, _ => False

def initSl (cs : List Nat) : Nat → List PK → List D → Env
 | _, [], _ => []
 | k, .imm t :: l, ds => (k, .imm t (ds.headD .und)) :: initSl cs (k + 1) l ds.tail
 | k, .iptr e :: l, ds => (k, .iptr e (ds.headD .und)) :: initSl cs (k + 1) l ds.tail
 | k, .lent e _ bx :: l, ds => (k, cond bx (cond (isCel cs k) (.celp k e) (.ptr k [] e)) (.val k [] e)) :: initSl cs (k + 1) l ds.tail
def initOb : Nat → List PK → List D → Objs
 | _, [], _ => []
 | k, .lent e sh bx :: l, ds => (k, some ⟨bx, e, sh, ds.headD .und⟩) :: initOb (k + 1) l ds.tail
 | k, _ :: l, ds => initOb (k + 1) l ds.tail

/-- Results at the end. -/
def outR (P : Program) (g : St) : List ResultVar → List RK → Option (List D × List Nat)
 | [], [] => some ([], [])
 | .tmp t :: l, .val u sh :: m => match takeV P (lookO g.ob) u (look g.sl t), outR P g l m with
  | some (sv, d, os), some (r, ids) => cond (match sv with
    | some s => s.weak sh
    | none => match sh with
     | .imm | .slc _ none => true
     | _ => false) (some (d :: r, os.map (·.1) ++ ids)) none
  | _, _ => none
 | .cell a u :: l, .val v sh :: m => match look g.sl a, outR P g l m with
  | .ptr o [] w, some (r, ids) => cond (sameK P u v && sameK P w v) (match lookO g.ob o with
   | some ob => cond (!ob.sh.isGone && ob.sh.weak sh) (some (ob.d :: r, cond ob.sh.isImm [] [o] ++ ids)) none
   | none => none) none
  | _, _ => none
 | .tmp t :: l, .box e sh :: m => match look g.sl t, outR P g l m with
  | .ptr o [] u, some (r, ids) => cond (sameK P e u) (match lookO g.ob o with
   | some ob => cond (Nat.beq ob.t e && (ob.box && ob.sh.beq sh)) (some (ob.d :: r, o :: ids)) none
   | none => none) none
  | _, _ => none
 | _, _ => none
def celO (cs : List Nat) (k : Nat) : AV → Option Nat
 | .ptr o [] _ => cond (isCel cs k) none (some o)
 | .celp o _ => cond (isCel cs k) (some o) none
 | _ => none
def outL (g : St) (cs : List Nat) : Nat → List PK → Option (List D)
 | _, [] => some []
 | k, .lent e sh true :: l => match celO cs k (look g.sl k), lookO g.ob k, outL g cs (k + 1) l with
  | some o, some ob, some r => cond (Nat.beq o k && (Nat.beq ob.t e && (ob.box && ob.sh.beq sh))) (some (ob.d :: r)) none
  | _, _, _ => none
 | k, .lent e sh false :: l => match look g.sl k, lookO g.ob k, outL g cs (k + 1) l with
  | .val o [] _, some ob, some r => cond (Nat.beq o k && (Nat.beq ob.t e && (!ob.box && (ob.sh.beq sh && sh.noIt)))) (some (ob.d :: r)) none
  | _, _, _ => none
 | k, _ :: l => outL g cs (k + 1) l

def kEnd (P : Program) (fn : Func) (s : Sig) (Q : List D → Prop) : Ex → St → Prop
 | .ext _, _ => False
 | _, g => match outR P g fn.results.toList s.rs, outL g s.cel 0 s.ps with
  | some (r, ids), some l => cond (nodupB (ids ++ lentIds 0 s.ps)) (Q (r ++ l)) False
  | _, _ => False

def wpB (P : Program) (A : Ann) (H : Hnd) (n f : Nat) (fn : Func) (ds : List D) (Q : List D → Prop) : Prop :=
 match fn.body with
 | some c => cond (Nat.beq ds.length (A.sig f).ps.length)
   (wpC P A H f n c { sl := initSl (A.sig f).cel 0 (A.sig f).ps ds, ob := initOb 0 (A.sig f).ps ds } (kEnd P fn (A.sig f) Q)) False
 | none => False

/-- Captured values as a callee's arguments. -/
def unPtr : List PK → List D → List D
 | .iptr _ :: ks, d :: l => d.dr :: unPtr ks l
 | _ :: ks, d :: l => d :: unPtr ks l
 | _, _ => []
def dynH (A : Ann) (cal : Nat → List D → (List D → Prop) → Prop) (d : D) (ks : List PK) (rs : List RK) (ds : List D) (Q : List D → Prop) : Prop :=
 match d with
 | .fn f caps => (PK.beqs ((A.sig f).ps.take ks.length) ks = true ∧ (A.sig f).ps.length = ks.length + caps.length ∧ (A.sig f).rs = rs ∧
   ((A.sig f).ps.all fun | .lent _ _ _ => false | _ => true) = true) ∧ cal f (ds ++ unPtr ((A.sig f).ps.drop ks.length) caps) Q
 | .mv f x => match (A.sig f).ps with
  | .imm _ :: ps => (PK.beqs ps ks = true ∧ (A.sig f).rs = rs ∧ (ks.all fun | .lent _ _ _ => false | _ => true) = true) ∧ cal f (x :: ds) Q
  | _ => False
 | _ => False

def plainT (P : Program) (t : Nat) : Bool := match tk P t with
 | .ptr _ => false
 | .other => false
 | .ifc => false
 | _ => true
def invH (P : Program) (A : Ann) (cal : Nat → List D → (List D → Prop) → Prop) (d : D) (name : String) (ks : List PK) (rs : List RK) (ds : List D) (Q : List D → Prop) : Prop :=
 match d with
 | .ifc t x => match methodOf P t name with
  | some f => (PK.beqs (A.sig f).ps (.imm t :: ks) = true ∧ (A.sig f).rs = rs ∧ plainT P t = true) ∧ cal f (x :: ds) Q
  | none => False
 | _ => False

def wpF (P : Program) (A : Ann) : Nat → Nat → List D → (List D → Prop) → Prop
 | 0, _, _, _ => False
 | n + 1, f, ds, Q => match A.sp f with
  | some post => (∃ r, post ds r) ∧ ∀ r, post ds r → Q r
  | none => match P.funcs[f]? with
   | some fn => wpB P A { cal := wpF P A n, dyn := dynH A (wpF P A n), inv := invH P A (wpF P A n) } n f fn ds Q
   | none => False

def assoc {α : Type} : List (Nat × α) → Nat → α → α
 | [], _, d => d
 | (i, v) :: l, k, d => cond (Nat.beq i k) v (assoc l k d)
def cA : Code → Code
 | .seq a _ => a
 | .cond _ a _ => a
 | .block _ c => c
 | .loop c => c
 | _ => .skip
def cB : Code → Code
 | .seq _ b => b
 | .cond _ _ b => b
 | _ => .skip
def bodyOf (fn : Func) : Code := fn.body.getD .skip
def hnd (P : Program) (A : Ann) (n : Nat) : Hnd := { cal := wpF P A n, dyn := dynH A (wpF P A n), inv := invH P A (wpF P A n) }

end Go.Ab

/- What memory holds: data that is only read ('Rep'), and trees that are owned ('Own'). -/
namespace Go.Ab

def seg (cs : List Value) (o n : Nat) : List Value := (cs.drop o).take n

theorem seg_length {cs : List Value} {o n : Nat} (h : o + n ≤ cs.length) : (seg cs o n).length = n := by
 simp [seg]; omega

theorem seg_get {cs : List Value} {o n i : Nat} (h : i < n) : (seg cs o n)[i]? = cs[o + i]? := by
 simp [seg, h]

theorem seg_seg {cs : List Value} {o n p m : Nat} (h : p + m ≤ n) : seg (seg cs o n) p m = seg cs (o + p) m := by
 apply List.ext_getElem?
 intro i
 simp only [seg, List.getElem?_take, List.getElem?_drop]
 by_cases hi : i < m
 ·simp only [hi, if_true, if_pos (show p + i < n by omega), Nat.add_assoc]
 ·simp [hi]

/-- Cells in memory. -/
def Row (w : World) (b off : Nat) (cs : List Value) : Prop := ∀ i, i < cs.length → w.cell? ⟨b, off + i, none⟩ = cs[i]?

theorem Row.sub {w : World} {b off : Nat} {cs : List Value} (h : Row w b off cs) {o n : Nat} (ho : o + n ≤ cs.length) : Row w b (off + o) (seg cs o n) := by
 intro i hi
 rw [seg_length ho] at hi
 rw [seg_get hi, Nat.add_assoc]
 exact h (o + i) (by omega)

theorem cell_of_block {w : World} {b : Nat} {c : Array Value} {E : TypeId} {fz : Nat × Nat} (h : w.heap[b]? = some (.cells c E fz)) (o : Nat) :
  w.cell? ⟨b, o, none⟩ = c[o]? := by simp [World.cell?, h]

theorem Row.of_block {w : World} {b : Nat} {c : Array Value} {E : TypeId} {fz : Nat × Nat} (h : w.heap[b]? = some (.cells c E fz)) {o n : Nat} (hn : o + n ≤ c.size) :
  Row w b o (seg c.toList o n) := by
 intro i hi
 rw [seg_length (by simpa using hn)] at hi
 rw [cell_of_block h, seg_get hi, Array.getElem?_toList]

theorem Keeps.refl (Y : Nat → Prop) (w : World) : Keeps Y w w := ⟨rfl, rfl, rfl, Nat.le_refl _, fun _ _ _ => rfl⟩
theorem Keeps.trans {Y Y' Z : Nat → Prop} {a b c : World} (h : Keeps Y a b) (k : Keeps Y' b c) (hY : ∀ i, Y i → Z i) (hY' : ∀ i, i < a.heap.size → Y' i → Z i) : Keeps Z a c :=
 ⟨k.os.trans h.os, k.tape.trans h.tape, k.output.trans h.output, Nat.le_trans h.size k.size, fun i hi hz =>
  (k.block i (Nat.lt_of_lt_of_le hi h.size) (fun y => hz (hY' i hi y))).trans (h.block i hi fun y => hz (hY i y))⟩
theorem Keeps.mono {Y Z : Nat → Prop} {a b : World} (h : Keeps Y a b) (hY : ∀ i, Y i → Z i) : Keeps Z a b :=
 ⟨h.os, h.tape, h.output, h.size, fun i hi hz => h.block i hi fun y => hz (hY i y)⟩
theorem Keeps.drew {Y : Nat → Prop} {a b : World} (h : Keeps Y a b) : Keeps Y a b.drew := ⟨h.os, h.tape, h.output, h.size, h.block⟩

theorem cell_keeps {Y : Nat → Prop} {w w' : World} (h : Keeps Y w w') {b o : Nat} {v : Value} (hb : ¬ Y b) (hc : w.cell? ⟨b, o, none⟩ = some v) : w'.cell? ⟨b, o, none⟩ = some v := by
 have hlt : b < w.heap.size := World.block_lt_of_cell? _ _ hc
 have := h.block b hlt hb
 simp only [World.cell?, this] at *
 exact hc

theorem Row.lt {w : World} {b off : Nat} {cs : List Value} (h : Row w b off cs) (hn : 0 < cs.length) : b < w.heap.size := by
 have := h 0 hn
 rw [List.getElem?_eq_getElem hn] at this
 exact World.block_lt_of_cell? _ _ this

theorem Row.keeps {Y : Nat → Prop} {w w' : World} (k : Keeps Y w w') {b off : Nat} {cs : List Value} (hb : ¬ Y b) (h : Row w b off cs) : Row w' b off cs := by
 intro i hi
 have := h i hi
 rw [List.getElem?_eq_getElem hi] at this ⊢
 exact cell_keeps k hb this

def isAgg : TK → Bool
 | .struct _ | .arr _ _ => true
 | _ => false
/-- The value that cells are. -/
def mkV (P : Program) (t : Nat) (cs : List Value) : Value := if isAgg (tk P t) then .agg cs.toArray else cs.headD (.tuple #[])

section
variable (P : Program) (A : Ann) (X : Nat → Prop) (w : World)

/-- DATA THAT IS ONLY READ: cells of a type that hold it, in memory outside 'X'. -/
inductive Rep : Nat → List Value → D → Prop
 | int {t k n} : tk P t = .int k → Rep t [.int k n] (.int n)
 | bool {t b} : tk P t = .bool → Rep t [.bool b] (.bool b)
 | str {t s} : tk P t = .str → Rep t [.string s] (.str s)
 | slcN {t e} {p : Option Addr} : tk P t = .slc e → Rep t [.slice p 0 0] (.slc [])
 | slc {t e b off cap} {xs : List D} {css : Nat → List Value} : tk P t = .slc e → ¬ X b → b < w.heap.size → xs.length ≤ cap →
   (∀ i, i < xs.length → (css i).length = P.cellsOf e) → (∀ i, i < xs.length → Row w b (off + i * P.cellsOf e) (css i)) →
   (∀ i, i < xs.length → Rep e (css i) (xs.getD i .und)) → Rep t [.slice (some ⟨b, off, none⟩) xs.length cap] (.slc xs)
 | struct {t fs} {cs : List Value} {ds : List D} : tk P t = .struct fs → cs.length = P.cellsOf t → ds.length = fs.length →
   (∀ j ft off, fs[j]? = some (ft, off) → Rep ft (seg cs off (P.cellsOf ft)) (ds.getD j .und)) → Rep t cs (.agg ds)
 | arr {t n e} {cs : List Value} {ds : List D} : tk P t = .arr n e → cs.length = P.cellsOf t → ds.length = n →
   (∀ j, j < n → Rep e (seg cs (j * P.cellsOf e) (P.cellsOf e)) (ds.getD j .und)) → Rep t cs (.agg ds)
 | ptrN {t e} : tk P t = .ptr e → Rep t [.pointer none] .nil
 | ptr {t e b off d} {cs : List Value} : tk P t = .ptr e → ¬ X b → b < w.heap.size → Row w b off cs → Rep e cs d → Rep t [.pointer (some ⟨b, off, none⟩)] (.ptr d)
 | fnN {t} : tk P t = .fn → Rep t [.nilFunc] .nil
 | fn {t f} {vs : Array Value} {ds : List D} {ks : List PK} {bs offs : Nat → Nat} {css : Nat → List Value} {dd : Nat → D} : tk P t = .fn →
   ks.length = ds.length → vs.size = ds.length → ks.length ≤ (A.sig f).ps.length → ks = (A.sig f).ps.drop ((A.sig f).ps.length - ks.length) →
   (∀ (j e : Nat), ks[j]? = some (.iptr e) → vs[j]? = some (.pointer (some ⟨bs j, offs j, none⟩)) ∧ ¬ X (bs j) ∧ bs j < w.heap.size ∧ Row w (bs j) (offs j) (css j) ∧ ds.getD j .und = .ptr (dd j)) →
   (∀ (j e : Nat), ks[j]? = some (.iptr e) → Rep e (css j) (dd j)) →
   (∀ (j u : Nat), ks[j]? = some (.imm u) → vs[j]? = some (mkV P u (css j))) →
   (∀ (j u : Nat), ks[j]? = some (.imm u) → Rep u (css j) (ds.getD j .und)) →
   (∀ (j e : Nat) (s : Sh) (b : Bool), ks[j]? ≠ some (PK.lent e s b)) → Rep t [.func (.func f) #[] vs] (.fn f ds)
 | mval {t f u d ps} {cs : List Value} : tk P t = .fn → (A.sig f).ps = .imm u :: ps → Rep u cs d → Rep t [.func (.func f) #[mkV P u cs] #[]] (.mv f d)
 | ifcN {t} : tk P t = .ifc → Rep t [.nilIface] .nil
 | ifc {t u d} {cs : List Value} : tk P t = .ifc → (tk P u ≠ .ifc) → Rep u cs d → Rep t [.iface u (mkV P u cs)] (.ifc u d)
 | mapN {t k e} : tk P t = .map k e → Rep t [.map none] (.map [])
 | map {t k e r clock} {es : Array MapEntry} {l : List (D × D)} {ck ce : Nat → List Value} : tk P t = .map k e → ¬ X r → w.heap[r]? = some (.map es clock) → es.size = l.length →
   (∀ j, j < l.length → (es[j]?).map (·.key) = some (mkV P k (ck j))) → (∀ j, j < l.length → (es[j]?).map (·.val) = some (mkV P e (ce j))) →
   (∀ j, j < l.length → Rep k (ck j) (l.getD j (.und, .und)).1) → (∀ j, j < l.length → Rep e (ce j) (l.getD j (.und, .und)).2) → Rep t [.map (some r)] (.map l)

def RepV (t : Nat) (v : Value) (d : D) : Prop := ∃ cs, Rep P A X w t cs d ∧ v = mkV P t cs

end

variable {P : Program} {A : Ann}

/-- DATA STAYS where its blocks do. -/
theorem Rep.frame {X X' : Nat → Prop} {w w' : World} (hs : w.heap.size ≤ w'.heap.size) (hX : ∀ b, b < w.heap.size → X' b → X b)
  (hk : ∀ b, b < w.heap.size → ¬ X b → w'.heap[b]? = w.heap[b]?) {t : Nat} {cs : List Value} {d : D} (h : Rep P A X w t cs d) : Rep P A X' w' t cs d := by
 have hrow : ∀ {b off : Nat} {cs : List Value}, b < w.heap.size → ¬ X b → Row w b off cs → Row w' b off cs := by
  intro b off cs hb hn hr i hi
  rw [← hr i hi]
  simp only [World.cell?, hk b hb hn]
 induction h with
 | int h => exact .int h
 | bool h => exact .bool h
 | str h => exact .str h
 | slcN h => exact .slcN h
 | slc h hx hb hc hl hr _ ih => exact .slc h (fun y => hx (hX _ hb y)) (Nat.lt_of_lt_of_le hb hs) hc hl (fun i hi => hrow hb hx (hr i hi)) ih
 | struct h hc hd _ ih => exact .struct h hc hd ih
 | arr h hc hd _ ih => exact .arr h hc hd ih
 | ptrN h => exact .ptrN h
 | ptr h hx hb hr _ ih => exact .ptr h (fun y => hx (hX _ hb y)) (Nat.lt_of_lt_of_le hb hs) (hrow hb hx hr) ih
 | fnN h => exact .fnN h
 | fn h h1 h2 h3 h4 h5 _ h7 _ h9 ih1 ih2 =>
  exact .fn h h1 h2 h3 h4 (fun j e hj => let ⟨a, b, c, d, f⟩ := h5 j e hj; ⟨a, fun y => b (hX _ c y), Nat.lt_of_lt_of_le c hs, hrow c b d, f⟩) ih1 h7 ih2 h9
 | mval h h1 _ ih => exact .mval h h1 ih
 | ifcN h => exact .ifcN h
 | ifc h hu _ ih => exact .ifc h hu ih
 | mapN h => exact .mapN h
 | map h hx hr hl h1 h2 _ _ ih1 ih2 =>
  have hb := (Array.getElem?_eq_some_iff.1 hr).1
  exact .map h (fun y => hx (hX _ hb y)) ((hk _ hb hx).trans hr) hl h1 h2 ih1 ih2

theorem Rep.anti {X X' : Nat → Prop} {w : World} (hX : ∀ b, b < w.heap.size → X' b → X b) {t : Nat} {cs : List Value} {d : D} (h : Rep P A X w t cs d) : Rep P A X' w t cs d :=
 h.frame (Nat.le_refl _) hX fun _ _ _ => rfl

theorem RepV.frame {X X' : Nat → Prop} {w w' : World} (hs : w.heap.size ≤ w'.heap.size) (hX : ∀ b, b < w.heap.size → X' b → X b)
  (hk : ∀ b, b < w.heap.size → ¬ X b → w'.heap[b]? = w.heap[b]?) {t : Nat} {v : Value} {d : D} (h : RepV P A X w t v d) : RepV P A X' w' t v d :=
 let ⟨cs, r, e⟩ := h; ⟨cs, r.frame hs hX hk, e⟩

/-- Types of one kind hold the same. -/
theorem Rep.kind {X : Nat → Prop} {w : World} (hsz : ∀ t u, tk P t = tk P u → tk P t ≠ .other → P.cellsOf t = P.cellsOf u) {t u : Nat} {cs : List Value} {d : D} (h : Rep P A X w t cs d) (e : tk P t = tk P u) : Rep P A X w u cs d := by
 cases h with
 | int h => exact .int (e ▸ h)
 | bool h => exact .bool (e ▸ h)
 | str h => exact .str (e ▸ h)
 | slcN h => exact .slcN (e ▸ h)
 | slc h a b c d f g => exact .slc (e ▸ h) a b c d f g
 | struct h a b c => exact .struct (e ▸ h) (by rw [a]; exact hsz _ _ e (by rw [h]; simp)) b c
 | arr h a b c => exact .arr (e ▸ h) (by rw [a]; exact hsz _ _ e (by rw [h]; simp)) b c
 | ptrN h => exact .ptrN (e ▸ h)
 | ptr h a b c d => exact .ptr (e ▸ h) a b c d
 | fnN h => exact .fnN (e ▸ h)
 | fn h a b c d f g i j k => exact .fn (e ▸ h) a b c d f g i j k
 | mval h h1 a => exact .mval (e ▸ h) h1 a
 | ifcN h => exact .ifcN (e ▸ h)
 | ifc h a b => exact .ifc (e ▸ h) a b
 | mapN h => exact .mapN (e ▸ h)
 | map h a b c d f g i => exact .map (e ▸ h) a b c d f g i

theorem mkV_kind {t u : Nat} {cs : List Value} (e : tk P t = tk P u) : mkV P t cs = mkV P u cs := by simp [mkV, e]

end Go.Ab

/- Trees of memory that are owned: what a change elsewhere leaves, and what a store into one makes of it. -/
namespace Go.Ab

/-- Where the parts of an owned tree lie. -/
inductive Lt where
 | leaf
 | nil
 | slc (b off cap : Nat) (kids : List Lt)
 | agg (kids : List Lt)
 | gone
 | mp (r : Nat)
 | it (r : Nat)
 deriving Inhabited

mutual
def Lt.blocks : Lt → List Nat
 | .slc b _ _ kids => b :: blocksL kids
 | .agg kids => blocksL kids
 | .mp r => [r]
 | .it r => [r]
 | _ => []
def blocksL : List Lt → List Nat
 | [] => []
 | k :: ks => k.blocks ++ blocksL ks
end

def Lt.kid : Lt → Nat → Lt
 | .agg ks, j => ks.getD j .leaf
 | _, _ => .leaf
def Lt.el : Lt → Nat → Lt
 | .slc _ _ _ ks, i => ks.getD i .leaf
 | _, _ => .leaf
def elS (s : Sh) (ex : Option (Nat × Sh)) (i : Nat) : Sh :=
 match ex with
 | some (k, si) => if i = k then si else s
 | none => s

theorem mem_blocksL {b : Nat} : ∀ {ks : List Lt}, b ∈ blocksL ks ↔ ∃ i, i < ks.length ∧ b ∈ (ks.getD i .leaf).blocks
 | [] => by simp [blocksL]
 | k :: ks => by
  simp only [blocksL, List.mem_append, mem_blocksL (ks := ks)]
  constructor
  ·rintro (h | ⟨i, hi, h⟩)
   ·exact ⟨0, by simp, by simpa using h⟩
   ·exact ⟨i + 1, by simpa using hi, by simpa using h⟩
  ·rintro ⟨i, hi, h⟩
   cases i with
   | zero => exact .inl (by simpa using h)
   | succ i => exact .inr ⟨i, by simpa using hi, by simpa using h⟩

section
variable (P : Program) (A : Ann) (X : Nat → Prop) (w : World)

/-- AN OWNED TREE. -/
inductive Own : Lt → Sh → Nat → List Value → D → Prop
 | imm {t cs d} : Rep P A X w t cs d → Own .leaf .imm t cs d
 | nil {t e s} : tk P t = .slc e → Own .nil (.slc s none) t [.slice none 0 0] (.slc [])
 | slc {t e s ex b off cap E} {c : Array Value} {kids : List Lt} {xs : List D} : tk P t = .slc e → w.heap[b]? = some (.cells c E (0, 0)) →
   kids.length = xs.length → xs.length ≤ cap → off + cap * P.cellsOf e ≤ c.size →
   (∀ i, i < xs.length → Own (kids.getD i .leaf) (elS s ex i) e (seg c.toList (off + i * P.cellsOf e) (P.cellsOf e)) (xs.getD i .und)) →
   Own (.slc b off cap kids) (.slc s ex) t [.slice (some ⟨b, off, none⟩) xs.length cap] (.slc xs)
 | agg {t l fs} {kids : List Lt} {cs : List Value} {ds : List D} : tk P t = .struct fs → cs.length = P.cellsOf t → kids.length = fs.length → ds.length = fs.length →
   (∀ (j ft o : Nat), fs[j]? = some (ft, o) → Own (kids.getD j .leaf) (fldL l j) ft (seg cs o (P.cellsOf ft)) (ds.getD j .und)) →
   Own (.agg kids) (.agg l) t cs (.agg ds)
 | gone {t d} {cs : List Value} : cs.length = P.cellsOf t → Own .gone .gone t cs d
 | mp {t k e r clock} {es : Array MapEntry} {l : List (D × D)} {ck ce : Nat → List Value} : tk P t = .map k e → w.heap[r]? = some (.map es clock) → es.size = l.length →
   (∀ j, j < l.length → (es[j]?).map (·.key) = some (mkV P k (ck j))) → (∀ j, j < l.length → (es[j]?).map (·.val) = some (mkV P e (ce j))) →
   (∀ j, j < l.length → Rep P A X w k (ck j) (l.getD j (.und, .und)).1) → (∀ j, j < l.length → Rep P A X w e (ce j) (l.getD j (.und, .und)).2) →
   (∀ x ∈ es.toList, x.born < clock) → (es.toList.map (·.born)).Nodup → Own (.mp r) .mp t [.map (some r)] (.map l)
 | it {t k e r m since seen last d} : tk P t = .map k e → w.heap[r]? = some (.mapIter m since seen last) → Own (.it r) .it t [.pointer (some ⟨r, 0, none⟩)] d
end

variable {P : Program} {A : Ann}

theorem Own.frame {X X' : Nat → Prop} {w w' : World} (hs : w.heap.size ≤ w'.heap.size) (hX : ∀ b, b < w.heap.size → X' b → X b)
  (hk : ∀ b, b < w.heap.size → ¬ X b → w'.heap[b]? = w.heap[b]?) {L : Lt} {s : Sh} {t : Nat} {cs : List Value} {d : D} (h : Own P A X w L s t cs d)
  (hB : ∀ b ∈ L.blocks, w'.heap[b]? = w.heap[b]?) : Own P A X' w' L s t cs d := by
 induction h with
 | imm h => exact .imm (h.frame hs hX hk)
 | nil h => exact .nil h
 | slc h hb h1 h2 h3 _ ih =>
  refine .slc h ((hB _ (by simp [Lt.blocks])).trans hb) h1 h2 h3 fun i hi => ih i hi fun b hb' => hB b ?_
  simp only [Lt.blocks, List.mem_cons, mem_blocksL]
  exact .inr ⟨i, by omega, hb'⟩
 | agg h h1 h2 h3 _ ih =>
  refine .agg h h1 h2 h3 fun j ft o hj => ih j ft o hj fun b hb' => hB b ?_
  have hl := (List.getElem?_eq_some_iff.1 hj).1
  simp only [Lt.blocks, mem_blocksL]
  exact ⟨j, by omega, hb'⟩
 | gone h => exact .gone h
 | mp h hr h1 h2 h3 h4 h5 h6 h7 =>
  exact .mp h ((hB _ (by simp [Lt.blocks])).trans hr) h1 h2 h3 (fun j hj => (h4 j hj).frame hs hX hk) (fun j hj => (h5 j hj).frame hs hX hk) h6 h7
 | it h hr => exact .it h ((hB _ (by simp [Lt.blocks])).trans hr)

/-- Cells that are a type's zero. -/
def zOk (P : Program) : Nat → Nat → List Value → Bool
 | 0, _, _ => false
 | n + 1, t, cs => match tk P t with
  | .int k => match cs with
   | [.int k' m] => decide (k = k') && decide (m = 0)
   | _ => false
  | .bool => match cs with
   | [.bool false] => true
   | _ => false
  | .str => match cs with
   | [.string s] => Nat.beq s.size 0
   | _ => false
  | .slc _ => match cs with
   | [.slice none 0 0] => true
   | _ => false
  | .struct fs => (Nat.beq cs.length (P.cellsOf t)) && fs.all fun x => zOk P n x.1 (seg cs x.2 (P.cellsOf x.1))
  | .arr m e => (Nat.beq cs.length (P.cellsOf t)) && (List.range m).all fun i => zOk P n e (seg cs (i * P.cellsOf e) (P.cellsOf e))
  | .ptr _ => match cs with
   | [.pointer none] => true
   | _ => false
  | .fn => match cs with
   | [.nilFunc] => true
   | _ => false
  | .ifc => match cs with
   | [.nilIface] => true
   | _ => false
  | .map _ _ => match cs with
   | [.map none] => true
   | _ => false
  | .other => false

/-- What slices.Compact of numbers does: runs are put together in place, the rest of the world stays. -/
def CompactAt (P : Program) (h : Nat) : Prop := (∃ fn, P.funcs[h]? = some fn ∧ fn.body.isSome = true) ∧
 (∀ (b off n c : Nat) (zs : List Int) (w : World), zs.length = n → n ≤ 9223372036854775807 → n ≤ c → (∀ j, j < n → w.cell? ⟨b, off + j, none⟩ = some (.int .i64 (zs.getD j 0))) → (∀ j, j < n → w.frozen? ⟨b, off + j, none⟩ = false) →
  Calls P h #[.slice (some ⟨b, off, none⟩) n c] w fun e w' => e = .returned (.slice (some ⟨b, off, none⟩) (cptI zs).length c) ∧ Keeps (fun x => x = b) w w' ∧ ∀ j, j < (cptI zs).length → w'.cell? ⟨b, off + j, none⟩ = some (.int .i64 ((cptI zs).getD j 0))) ∧
 ∀ (a : Option Addr) (c : Nat) (w : World), Calls P h #[.slice a 0 c] w fun e w' => e = .returned (.slice a 0 c) ∧ w' = w

/-- What a program's tables must be like. -/
structure WF (P : Program) : Prop where
 one : ∀ t, isAgg (tk P t) = false → tk P t ≠ .other → P.cellsOf t = 1
 struct : ∀ t fs, tk P t = .struct fs → ∀ (j ft o : Nat), fs[j]? = some (ft, o) → o + P.cellsOf ft ≤ P.cellsOf t ∧ tk P ft ≠ .other
 cover : ∀ t fs, tk P t = .struct fs → ∀ i, i < P.cellsOf t → ∃ (j ft o : Nat), fs[j]? = some (ft, o) ∧ o ≤ i ∧ i < o + P.cellsOf ft
 order : ∀ t fs, tk P t = .struct fs → ∀ (j ft o k fu p : Nat), fs[j]? = some (ft, o) → fs[k]? = some (fu, p) → j < k → o + P.cellsOf ft ≤ p
 arr : ∀ t n e, tk P t = .arr n e → P.cellsOf t = n * P.cellsOf e ∧ tk P e ≠ .other
 kind : ∀ t u, tk P t = tk P u → tk P t ≠ .other → P.cellsOf t = P.cellsOf u
 elem : ∀ t e, tk P t = .slc e → tk P e ≠ .other
 names : ∀ (f : Nat) (fn : Func), P.funcs[f]? = some fn → fn.name ≠ "runtime.NumGoroutine"
 cpt : ∀ h, isCpt P h = true → CompactAt P h
 zero : ∀ t, goodT P 8 t = true → ∃ i cs, P.info? t = some i ∧ i.zero = some (mkV P t cs) ∧ zOk P 8 t cs = true

theorem WF.one' (W : WF P) {t : Nat} {k : TK} (h : tk P t = k) (h1 : isAgg k = false) (h2 : k ≠ .other) : P.cellsOf t = 1 := W.one t (h ▸ h1) (h ▸ h2)

theorem Rep.length (W : WF P) {X : Nat → Prop} {w : World} {t : Nat} {cs : List Value} {d : D} (h : Rep P A X w t cs d) : cs.length = P.cellsOf t := by
 cases h with
 | struct h a b c => exact a
 | arr h a b c => exact a
 | _ => exact (W.one' (by assumption) rfl (by simp)).symm

theorem Own.length (W : WF P) {X : Nat → Prop} {w : World} {L : Lt} {s : Sh} {t : Nat} {cs : List Value} {d : D} (h : Own P A X w L s t cs d) : cs.length = P.cellsOf t := by
 cases h with
 | imm h => exact h.length W
 | agg h a b c d => exact a
 | gone h => exact h
 | _ => exact (W.one' (by assumption) rfl (by simp)).symm

/-- The fields of an owned struct. -/
theorem Own.fields {X : Nat → Prop} {w : World} {L : Lt} {s : Sh} {t : Nat} {cs : List Value} {d : D} (h : Own P A X w L s t cs d) {fs : List (Nat × Nat)} (ht : tk P t = .struct fs)
  (hs : ∀ j, ∃ u, s.fld j = some u) :
  ∃ ds, d = .agg ds ∧ ds.length = fs.length ∧ cs.length = P.cellsOf t ∧ ∀ (j ft o : Nat), fs[j]? = some (ft, o) → ∀ u, s.fld j = some u → Own P A X w (L.kid j) u ft (seg cs o (P.cellsOf ft)) (ds.getD j .und) := by
 cases h with
 | imm h =>
  cases h with
  | struct h a b c =>
   rw [h] at ht
   injection ht with ht
   subst ht
   exact ⟨_, rfl, b, a, fun j ft o hj u hu => by simp [Sh.fld] at hu; subst hu; exact .imm (c j ft o hj)⟩
  | _ => simp_all
 | agg h a b c e =>
  rw [h] at ht
  injection ht with ht
  subst ht
  exact ⟨_, rfl, c, a, fun j ft o hj u hu => by simp [Sh.fld] at hu; subst hu; exact e j ft o hj⟩
 | nil => obtain ⟨u, hu⟩ := hs 0; simp [Sh.fld] at hu
 | slc => obtain ⟨u, hu⟩ := hs 0; simp [Sh.fld] at hu
 | gone => obtain ⟨u, hu⟩ := hs 0; simp [Sh.fld] at hu
 | mp => obtain ⟨u, hu⟩ := hs 0; simp [Sh.fld] at hu
 | it => obtain ⟨u, hu⟩ := hs 0; simp [Sh.fld] at hu

theorem Own.leaf_of_imm {X : Nat → Prop} {w : World} {L : Lt} {t : Nat} {cs : List Value} {d : D} (h : Own P A X w L .imm t cs d) : L = .leaf ∧ Rep P A X w t cs d := by
 cases h with
 | imm h => exact ⟨rfl, h⟩

/-- A struct out of its fields. -/
theorem own_of_fields {X : Nat → Prop} {w : World} {s : Sh} {t : Nat} {cs : List Value} {ds : List D} {fs : List (Nat × Nat)} (ht : tk P t = .struct fs)
  (hs : ∀ j, ∃ u, s.fld j = some u) (hc : cs.length = P.cellsOf t) (hd : ds.length = fs.length) (K : Nat → Lt)
  (h : ∀ (j ft o : Nat), fs[j]? = some (ft, o) → ∀ u, s.fld j = some u → Own P A X w (K j) u ft (seg cs o (P.cellsOf ft)) (ds.getD j .und)) :
  ∃ L, Own P A X w L s t cs (.agg ds) ∧ (∀ j, j < fs.length → L.kid j = K j) ∧ (∀ b ∈ L.blocks, ∃ j, j < fs.length ∧ b ∈ (K j).blocks) ∧ (L = .leaf ∨ ∃ ks, L = .agg ks ∧ ks.length = fs.length) := by
 cases s with
 | imm =>
  refine ⟨.leaf, .imm (.struct ht hc hd fun j ft o hj => ?_), fun j hj => ?_, by simp [Lt.blocks], .inl rfl⟩
  ·exact (h j ft o hj .imm rfl).leaf_of_imm.2
  ·have hj' : fs[j]? = some (fs[j].1, fs[j].2) := by simp [List.getElem?_eq_getElem hj]
   rw [(h j _ _ hj' .imm rfl).leaf_of_imm.1]
   rfl
 | agg l =>
  have hk : ∀ j, j < fs.length → ((List.range fs.length).map K).getD j .leaf = K j := by
   intro j hj
   simp [List.getD_eq_getElem?_getD, hj]
  refine ⟨.agg ((List.range fs.length).map K), .agg ht hc (by simp) hd fun j ft o hj => ?_, fun j hj => hk j hj, fun b hb => ?_, .inr ⟨_, rfl, by simp⟩⟩
  ·rw [hk j (List.getElem?_eq_some_iff.1 hj).1]
   exact h j ft o hj _ rfl
  ·simp only [Lt.blocks, mem_blocksL] at hb
   obtain ⟨i, hi, hb⟩ := hb
   have hi' : i < fs.length := by simpa using hi
   rw [hk i hi'] at hb
   exact ⟨i, hi', hb⟩
 | slc => obtain ⟨u, hu⟩ := hs 0; simp [Sh.fld] at hu
 | gone => obtain ⟨u, hu⟩ := hs 0; simp [Sh.fld] at hu
 | mp => obtain ⟨u, hu⟩ := hs 0; simp [Sh.fld] at hu
 | it => obtain ⟨u, hu⟩ := hs 0; simp [Sh.fld] at hu

theorem beq_iff {i j : Nat} : Nat.beq i j = true ↔ i = j := by rw [Nat.beq_eq]
theorem cond_eq {α : Sort _} {b : Bool} {x y : α} : cond b x y = if b then x else y := by cases b <;> rfl

theorem fldL_cons (i : Nat) (u : Sh) (l : List (Nat × Sh)) (k : Nat) : fldL ((i, u) :: l) k = if i = k then u else fldL l k := by
 simp only [fldL, cond_eq, beq_iff]

theorem fldL_setL (l : List (Nat × Sh)) (j : Nat) (s : Sh) (k : Nat) : fldL (setL l j s) k = if k = j then s else fldL l k := by
 induction l with
 | nil =>
  simp only [setL, fldL_cons]
  by_cases h : k = j
  ·subst h; simp
  ·rw [if_neg (fun e => h e.symm), if_neg h]
 | cons x l ih =>
  obtain ⟨i, u⟩ := x
  simp only [setL, cond_eq, beq_iff]
  by_cases h1 : i = j
  ·subst h1
   simp only [if_true, fldL_cons]
   by_cases h : k = i
   ·subst h; simp
   ·rw [if_neg (fun e => h e.symm), if_neg h, if_neg (fun e => h e.symm)]
  ·simp only [if_neg h1]
   by_cases h2 : Nat.blt j i = true
   ·simp only [h2, if_true, fldL_cons]
    by_cases h : k = j
    ·subst h; simp
    ·rw [if_neg (fun e => h e.symm), if_neg h]
   ·simp only [h2, fldL_cons]
    by_cases h : k = j
    ·subst h; simp [h1, fldL_cons, ih]
    ·simp [h, fldL_cons, ih]

theorem fldL_delL (l : List (Nat × Sh)) (j : Nat) (k : Nat) : fldL (delL l j) k = if k = j then .imm else fldL l k := by
 induction l with
 | nil => simp [delL, fldL]
 | cons x l ih =>
  obtain ⟨i, u⟩ := x
  simp only [delL, List.filter_cons]
  by_cases h1 : Nat.beq i j = true
  ·simp only [h1, Bool.not_true, Bool.false_eq_true, if_false, fldL, cond_eq]
   rw [show List.filter (fun x => !Nat.beq x.1 j) l = delL l j from rfl, ih]
   rw [beq_iff] at h1
   by_cases h : k = j
   ·simp [h]
   ·have : Nat.beq i k = false := by rw [Bool.eq_false_iff, Ne, beq_iff]; exact fun e => h (e ▸ h1)
    simp [h, this]
  ·simp only [h1, Bool.not_false, if_true, fldL, cond_eq]
   rw [show List.filter (fun x => !Nat.beq x.1 j) l = delL l j from rfl, ih]
   by_cases h : Nat.beq i k = true
   ·rw [beq_iff] at h
    subst h
    have : ¬ i = j := fun e => h1 (beq_iff.2 e)
    simp [this]
   ·simp [h]

theorem fld_mkAgg (l : List (Nat × Sh)) (k : Nat) : (mkAgg l).fld k = some (fldL l k) := by
 cases l <;> rfl

theorem Sh.fld_all {s : Sh} {j : Nat} {u : Sh} (h : s.fld j = some u) (k : Nat) : ∃ u, s.fld k = some u := by
 cases s <;> simp [Sh.fld] at h ⊢

theorem isImm_iff {s : Sh} : s.isImm = true ↔ s = .imm := by cases s <;> simp [Sh.isImm]

theorem Sh.setFld_fld {s s' : Sh} {j : Nat} {v : Sh} (h : s.setFld j v = some s') (k : Nat) : s'.fld k = if k = j then some v else s.fld k := by
 cases s <;> simp only [Sh.setFld, cond_eq, Option.some.injEq, reduceCtorEq] at h
 ·by_cases hv : v.isImm = true
  ·rw [if_pos hv] at h
   subst h
   rw [isImm_iff.1 hv]
   simp [Sh.fld]
  ·rw [if_neg hv] at h
   subst h
   simp only [Sh.fld, fldL, cond_eq, beq_iff]
   by_cases hk : k = j
   ·simp [hk]
   ·rw [if_neg (fun e => hk e.symm), if_neg hk]
 ·by_cases hv : v.isImm = true
  ·rw [if_pos hv] at h
   subst h
   rw [fld_mkAgg, fldL_delL, isImm_iff.1 hv]
   by_cases hk : k = j <;> simp [hk, Sh.fld]
  ·rw [if_neg hv] at h
   subst h
   simp only [Sh.fld, fldL_setL]
   by_cases hk : k = j <;> simp [hk]

end Go.Ab

/- Places in an owned tree: where they lie, what they hold, and what a store into one leaves. -/
namespace Go.Ab

def tyAt (P : Program) : Nat → Pth → Option Nat
 | t, [] => some t
 | t, .fld j :: p => match tk P t with
  | .struct fs => match fs[j]? with
   | some (ft, _) => tyAt P ft p
   | none => none
  | _ => none
 | t, .idx _ :: p => match tk P t with
  | .slc e => tyAt P e p
  | _ => none
 | t, .arr i :: p => match tk P t with
  | .arr n e => if i < n then tyAt P e p else none
  | _ => none

def Lt.sub : Lt → Pth → Lt
 | L, [] => L
 | L, .fld j :: p => (L.kid j).sub p
 | L, .idx i :: p => (L.el i).sub p
 | _, .arr _ :: p => Lt.leaf.sub p

def Lt.loc (P : Program) : Option (Nat × Nat) → Nat → Lt → Pth → Option (Nat × Nat)
 | lc, _, _, [] => lc
 | lc, t, L, .fld j :: p => match tk P t with
  | .struct fs => match fs[j]? with
   | some (ft, o) => Lt.loc P (lc.map fun x => (x.1, x.2 + o)) ft (L.kid j) p
   | none => none
  | _ => none
 | _, t, .slc b off _ ks, .idx i :: p => match tk P t with
  | .slc e => if i < ks.length then Lt.loc P (some (b, off + i * P.cellsOf e)) e (ks.getD i .leaf) p else none
  | _ => none
 | _, _, _, .idx _ :: _ => none
 | lc, t, _, .arr i :: p => match tk P t with
  | .arr n e => if i < n then Lt.loc P (lc.map fun x => (x.1, x.2 + i * P.cellsOf e)) e .leaf p else none
  | _ => none

/-- The value that a slice, a map has where it lies. -/
def Lt.hv : Lt → Option Value
 | .slc b off cap ks => some (.slice (some ⟨b, off, none⟩) ks.length cap)
 | .nil => some (.slice none 0 0)
 | .mp r => some (.map (some r))
 | .it r => some (.pointer (some ⟨r, 0, none⟩))
 | _ => none

def splice (l : List Value) (o : Nat) (ns : List Value) : List Value := l.take o ++ ns ++ l.drop (o + ns.length)

theorem splice_length {l ns : List Value} {o : Nat} (h : o + ns.length ≤ l.length) : (splice l o ns).length = l.length := by
 simp [splice]; omega

theorem splice_get {l ns : List Value} {o : Nat} (h : o + ns.length ≤ l.length) (i : Nat) :
  (splice l o ns)[i]? = if i < o then l[i]? else if i < o + ns.length then ns[i - o]? else l[i]? := by
 have ht : (l.take o).length = o := by simp; omega
 unfold splice
 by_cases h1 : i < o
 ·rw [if_pos h1, List.append_assoc, List.getElem?_append_left (by omega), List.getElem?_take_of_lt h1]
 ·rw [if_neg h1]
  by_cases h2 : i < o + ns.length
  ·rw [if_pos h2, List.getElem?_append_left (by simp; omega), List.getElem?_append_right (by omega), ht]
  ·rw [if_neg h2, List.getElem?_append_right (by simp; omega), List.getElem?_drop]
   congr 1
   simp
   omega

theorem seg_splice_same {l ns : List Value} {o : Nat} (h : o + ns.length ≤ l.length) : seg (splice l o ns) o ns.length = ns := by
 apply List.ext_getElem?
 intro i
 by_cases hi : i < ns.length
 ·rw [seg_get hi, splice_get h, if_neg (by omega), if_pos (by omega)]
  congr 1
  omega
 ·rw [List.getElem?_eq_none (by rw [seg_length (by rw [splice_length h]; exact h)]; omega), List.getElem?_eq_none (by omega)]

theorem seg_splice_apart {l ns : List Value} {o p n : Nat} (h : o + ns.length ≤ l.length) (ha : p + n ≤ o ∨ o + ns.length ≤ p) : seg (splice l o ns) p n = seg l p n := by
 apply List.ext_getElem?
 intro i
 by_cases hi : i < n
 ·rw [seg_get hi, seg_get hi, splice_get h]
  rcases ha with ha | ha
  ·rw [if_pos (by omega)]
  ·rw [if_neg (by omega), if_neg (by omega)]
 ·simp [seg, List.getElem?_take, hi]

/-- A store: the cells of one place of one block are others. -/
structure Wr (w w' : World) (b o : Nat) (ns : List Value) : Prop where
 os : w'.os = w.os
 tape : w'.tape = w.tape
 output : w'.output = w.output
 size : w'.heap.size = w.heap.size
 other : ∀ b', b' ≠ b → w'.heap[b']? = w.heap[b']?
 here : ∃ (c c' : Array Value) (E : TypeId), w.heap[b]? = some (.cells c E (0, 0)) ∧ w'.heap[b]? = some (.cells c' E (0, 0)) ∧ o + ns.length ≤ c.size ∧ c'.toList = splice c.toList o ns

theorem Wr.cell_other {w w' : World} {b o : Nat} {ns : List Value} (h : Wr w w' b o ns) {b' i : Nat} (hb : b' ≠ b ∨ i < o ∨ o + ns.length ≤ i) : w'.cell? ⟨b', i, none⟩ = w.cell? ⟨b', i, none⟩ := by
 by_cases e : b' = b
 ·subst e
  obtain ⟨c, c', E, h1, h2, h3, h4⟩ := h.here
  rw [cell_of_block h1, cell_of_block h2, ← Array.getElem?_toList, ← Array.getElem?_toList, h4, splice_get (by simpa using h3)]
  rcases hb with hb | hb | hb
  ·exact absurd rfl hb
  ·rw [if_pos hb]
  ·rw [if_neg (by omega), if_neg (by omega)]
 ·simp only [World.cell?, h.other b' e]

theorem Wr.cell_here {w w' : World} {b o : Nat} {ns : List Value} (h : Wr w w' b o ns) {i : Nat} (hi : i < ns.length) : w'.cell? ⟨b, o + i, none⟩ = ns[i]? := by
 obtain ⟨c, c', E, h1, h2, h3, h4⟩ := h.here
 rw [cell_of_block h2, ← Array.getElem?_toList, h4, splice_get (by simpa using h3), if_neg (by omega), if_pos (by omega)]
 congr 1
 omega

theorem Row.ext {w : World} {b o n : Nat} {cs : List Value} {c : Array Value} {E : TypeId} {fz : Nat × Nat} (h : w.heap[b]? = some (.cells c E fz)) (hr : Row w b o cs) (hn : cs.length = n) (hl : o + n ≤ c.size) : seg c.toList o n = cs := by
 apply List.ext_getElem?
 intro i
 by_cases hi : i < n
 ·rw [seg_get hi, ← hr i (by omega), cell_of_block h, Array.getElem?_toList]
 ·rw [List.getElem?_eq_none (by rw [seg_length (by simpa using hl)]; omega), List.getElem?_eq_none (by omega)]

theorem nodup_blocksL {ks : List Lt} (h : (blocksL ks).Nodup) : (∀ i, i < ks.length → (ks.getD i .leaf).blocks.Nodup) ∧ ∀ i j b, i < ks.length → j < ks.length → b ∈ (ks.getD i .leaf).blocks → b ∈ (ks.getD j .leaf).blocks → i = j := by
 induction ks with
 | nil => simp
 | cons k ks ih =>
  simp only [blocksL, List.nodup_append] at h
  obtain ⟨h1, h2, h3⟩ := h
  obtain ⟨i1, i2⟩ := ih h2
  refine ⟨fun i hi => ?_, fun i j b hi hj hb hb' => ?_⟩
  ·cases i with
   | zero => simpa using h1
   | succ i => simpa using i1 i (by simpa using hi)
  ·cases i with
   | zero => cases j with
    | zero => rfl
    | succ j => exact absurd rfl (h3 b (by simpa using hb) b (mem_blocksL.2 ⟨j, by simpa using hj, by simpa using hb'⟩))
   | succ i => cases j with
    | zero => exact absurd rfl (h3 b (by simpa using hb') b (mem_blocksL.2 ⟨i, by simpa using hi, by simpa using hb⟩))
    | succ j => exact congrArg (· + 1) (i2 i j b (by simpa using hi) (by simpa using hj) (by simpa using hb) (by simpa using hb'))

theorem blocks_of_kid {L : Lt} {j b : Nat} (h : b ∈ (L.kid j).blocks) : b ∈ L.blocks := by
 cases L <;> simp only [Lt.kid, Lt.blocks, List.not_mem_nil] at h ⊢
 rename_i ks
 by_cases hj : j < ks.length
 ·exact mem_blocksL.2 ⟨j, hj, h⟩
 ·rw [List.getD_eq_getElem?_getD, List.getElem?_eq_none (by omega)] at h
  simp [Lt.blocks] at h

theorem nodup_kid {L : Lt} (h : L.blocks.Nodup) (j : Nat) : (L.kid j).blocks.Nodup := by
 cases L <;> simp only [Lt.kid, Lt.blocks, List.nodup_nil]
 rename_i ks
 by_cases hj : j < ks.length
 ·exact (nodup_blocksL (by simpa [Lt.blocks] using h)).1 j hj
 ·rw [List.getD_eq_getElem?_getD, List.getElem?_eq_none (by omega)]
  simp [Lt.blocks]

theorem kid_apart {L : Lt} (h : L.blocks.Nodup) {i j b : Nat} (hi : b ∈ (L.kid i).blocks) (hj : b ∈ (L.kid j).blocks) : i = j := by
 cases L <;> simp only [Lt.kid, Lt.blocks, List.not_mem_nil] at hi hj
 rename_i ks
 by_cases h1 : i < ks.length
 ·by_cases h2 : j < ks.length
  ·exact (nodup_blocksL (by simpa [Lt.blocks] using h)).2 i j b h1 h2 hi hj
  ·rw [List.getD_eq_getElem?_getD, List.getElem?_eq_none (by omega)] at hj
   simp [Lt.blocks] at hj
 ·rw [List.getD_eq_getElem?_getD, List.getElem?_eq_none (by omega)] at hi
  simp [Lt.blocks] at hi

variable {P : Program} {A : Ann}

/-- WHERE A PLACE LIES: in the root's own cells, or in a block of the tree. -/
theorem loc_in (W : WF P) : ∀ (p : Pth) {t : Nat} {L : Lt} {lc : Option (Nat × Nat)} {u bt ot : Nat}, L.loc P lc t p = some (bt, ot) → tyAt P t p = some u →
  (∃ b o, lc = some (b, o) ∧ bt = b ∧ o ≤ ot ∧ ot + P.cellsOf u ≤ o + P.cellsOf t) ∨ bt ∈ L.blocks
 | [], t, L, lc, u, bt, ot, h, ht => by
  simp only [Lt.loc, tyAt, Option.some.injEq] at h ht
  subst ht
  exact .inl ⟨bt, ot, h, rfl, Nat.le_refl _, Nat.le_refl _⟩
 | .fld j :: p, t, L, lc, u, bt, ot, h, ht => by
  simp only [Lt.loc, tyAt] at h ht
  split at h <;> try contradiction
  rename_i fs hk
  rw [hk] at ht
  simp only at ht
  split at h <;> try contradiction
  rename_i ft o hj
  rw [hj] at ht
  rcases loc_in W p h ht with ⟨b, o', hl, hb, h1, h2⟩ | hb
  ·cases lc with
   | none => simp at hl
   | some x =>
    simp only [Option.map_some, Option.some.injEq, Prod.mk.injEq] at hl
    have := (W.struct _ _ hk _ _ _ hj).1
    exact .inl ⟨x.1, x.2, rfl, by rw [hb, hl.1], by omega, by omega⟩
  ·exact .inr (blocks_of_kid hb)
 | .idx i :: p, t, L, lc, u, bt, ot, h, ht => by
  cases L <;> simp only [Lt.loc, reduceCtorEq] at h
  rename_i b off cap ks
  simp only [tyAt] at ht
  split at h <;> try contradiction
  rename_i e hk
  rw [hk] at ht
  simp only at ht
  split at h <;> try contradiction
  rename_i hi
  right
  simp only [Lt.blocks, List.mem_cons, mem_blocksL]
  rcases loc_in W p h ht with ⟨b', o', hl, hb, h1, h2⟩ | hb
  ·simp only [Option.some.injEq, Prod.mk.injEq] at hl
   exact .inl (by rw [hb, ← hl.1])
  ·exact .inr ⟨i, hi, hb⟩
 | .arr i :: p, t, L, lc, u, bt, ot, h, ht => by
  simp only [Lt.loc, tyAt] at h ht
  split at h <;> try contradiction
  rename_i n e hk
  rw [hk] at ht
  simp only at ht
  split at h <;> try contradiction
  rename_i hi
  rw [if_pos hi] at ht
  rcases loc_in W p h ht with ⟨b, o', hl, hb, h1, h2⟩ | hb
  ·cases lc with
   | none => simp at hl
   | some x =>
    simp only [Option.map_some, Option.some.injEq, Prod.mk.injEq] at hl
    have hs := (W.arr _ _ _ hk).1
    have : i * P.cellsOf e + P.cellsOf e ≤ n * P.cellsOf e := by
     have := Nat.mul_le_mul_right (P.cellsOf e) (show i + 1 ≤ n by omega)
     rw [Nat.add_mul] at this
     omega
    exact .inl ⟨x.1, x.2, rfl, by rw [hb, hl.1], by omega, by omega⟩
  ·simp [Lt.blocks] at hb

end Go.Ab

/- Reading and writing a place of an owned tree. -/
namespace Go.Ab
variable {P : Program} {A : Ann}

/-- What a place holds. -/
theorem Own.get (W : WF P) {X : Nat → Prop} {w : World} : ∀ (p : Pth) {L : Lt} {s : Sh} {t : Nat} {cs : List Value} {d : D} {lc : Option (Nat × Nat)} {u bt ot : Nat} {v : Sh},
  Own P A X w L s t cs d → s.get p = some v → tyAt P t p = some u → L.loc P lc t p = some (bt, ot) → (∀ b o, lc = some (b, o) → Row w b o cs) →
  ∃ cs', Own P A X w (L.sub p) v u cs' (d.get p) ∧ Row w bt ot cs'
 | [], L, s, t, cs, d, lc, u, bt, ot, v, h, hs, ht, hl, hr => by
  simp only [Sh.get, tyAt, Lt.loc, Option.some.injEq] at hs ht hl
  subst hs ht
  exact ⟨cs, h, hr _ _ hl⟩
 | .fld j :: p, L, s, t, cs, d, lc, u, bt, ot, v, h, hs, ht, hl, hr => by
  simp only [Sh.get] at hs
  split at hs <;> try contradiction
  rename_i sj hsj
  simp only [tyAt, Lt.loc] at ht hl
  split at ht <;> try contradiction
  rename_i fs hk
  rw [hk] at hl
  simp only at hl
  split at ht <;> try contradiction
  rename_i ft o hj
  rw [hj] at hl
  simp only at hl
  obtain ⟨ds, rfl, hd, hc, hf⟩ := h.fields hk (Sh.fld_all hsj)
  have hb := (W.struct _ _ hk _ _ _ hj).1
  exact Own.get W p (hf j ft o hj sj hsj) hs ht hl fun b o' e => by
   cases lc with
   | none => simp at e
   | some x =>
    simp only [Option.map_some, Option.some.injEq, Prod.mk.injEq] at e
    obtain ⟨rfl, rfl⟩ := e
    exact (hr _ _ rfl).sub (by omega)
 | .idx i :: p, L, s, t, cs, d, lc, u, bt, ot, v, h, hs, ht, hl, hr => by
  cases h with
  | slc hk hb h1 h2 h3 h4 =>
   rename_i e s' ex b off cap E c kids xs
   cases ex with
   | some x => simp [Sh.get] at hs
   | none =>
    simp only [Sh.get] at hs
    simp only [tyAt, Lt.loc, hk] at ht hl
    split at hl <;> try contradiction
    rename_i hi
    have hi' : i < xs.length := by omega
    have hroom : off + i * P.cellsOf e + P.cellsOf e ≤ c.size := by
     have := Nat.mul_le_mul_right (P.cellsOf e) (show i + 1 ≤ cap by omega)
     rw [Nat.add_mul] at this
     omega
    have := h4 i hi'
    exact Own.get W p (this : Own P A X w _ s' e _ _) hs ht hl fun b o' e' => by
     simp only [Option.some.injEq, Prod.mk.injEq] at e'
     obtain ⟨rfl, rfl⟩ := e'
     exact Row.of_block hb hroom
  | imm => simp [Sh.get] at hs
  | nil => simp [Lt.loc] at hl
  | agg => simp [Sh.get] at hs
  | gone => simp [Sh.get] at hs
  | mp => simp [Sh.get] at hs
  | it => simp [Sh.get] at hs
 | .arr i :: p, L, s, t, cs, d, lc, u, bt, ot, v, h, hs, ht, hl, hr => by
  cases s <;> simp only [Sh.get, reduceCtorEq] at hs
  obtain ⟨rfl, hR⟩ := h.leaf_of_imm
  simp only [tyAt, Lt.loc] at ht hl
  split at ht <;> try contradiction
  rename_i n e hk
  rw [hk] at hl
  simp only at hl
  split at ht <;> try contradiction
  rename_i hi
  rw [if_pos hi] at hl
  cases hR with
  | arr hk' hc hd hf =>
   rename_i n1 e1 ds1
   rw [hk'] at hk
   injection hk with hn he
   subst hn he
   have hroom : i * P.cellsOf e1 + P.cellsOf e1 ≤ cs.length := by
    have := Nat.mul_le_mul_right (P.cellsOf e1) (show i + 1 ≤ n1 from hi)
    rw [Nat.add_mul, ← (W.arr _ _ _ hk').1, ← hc] at this
    simpa using this
   exact Own.get W p (.imm (hf i hi)) hs ht hl fun b o' e' => by
    cases lc with
    | none => simp at e'
    | some x =>
     simp only [Option.map_some, Option.some.injEq, Prod.mk.injEq] at e'
     obtain ⟨rfl, rfl⟩ := e'
     exact (hr _ _ rfl).sub hroom
  | _ => simp_all

theorem Sh.beq_eq : ∀ (n : Nat) (s u : Sh), SizeOf.sizeOf s ≤ n → s.beq u = true → s = u := by
 intro n
 induction n with
 | zero =>
  intro s u h
  have : 0 < SizeOf.sizeOf s := by cases s <;> simp <;> omega
  omega
 | succ n ih =>
  intro s u hn h
  cases s <;> cases u <;> first | rfl | (simp only [Sh.beq, Bool.false_eq_true] at h; done) | skip
  ·rename_i s ex u eu
   cases ex <;> cases eu <;> simp only [Sh.beq, Bool.false_eq_true] at h
   rw [ih s u (by simp at hn; omega) h]
  ·rename_i l m
   congr 1
   have key : ∀ l : List (Nat × Sh), SizeOf.sizeOf l ≤ n → ∀ m, Sh.beqs l m = true → l = m := by
    intro l
    induction l with
    | nil => intro _ m h; cases m <;> simp [Sh.beqs] at h ⊢
    | cons x l ihl =>
     intro hl m h
     cases m with
     | nil => simp [Sh.beqs] at h
     | cons y m =>
      obtain ⟨i, s⟩ := x
      obtain ⟨j, u⟩ := y
      simp only [Sh.beqs, Bool.and_eq_true, beq_iff] at h
      simp only [List.cons.sizeOf_spec, Prod.mk.sizeOf_spec] at hl
      rw [h.1.1, ih s u (by omega) h.1.2, ihl (by omega) m h.2]
   exact key l (by simp at hn; omega) m h

theorem Sh.eq_of_beq {s u : Sh} (h : s.beq u = true) : s = u := Sh.beq_eq _ s u (Nat.le_refl _) h

theorem getD_set_eq {α : Type _} {l : List α} {i j : Nat} {a x : α} (hi : i < l.length) : (l.set i a).getD j x = if j = i then a else l.getD j x := by
 simp only [List.getD_eq_getElem?_getD, List.getElem?_set]
 by_cases h : j = i
 ·subst h; simp [hi]
 ·rw [if_neg (fun e => h e.symm), if_neg h]

theorem getD_zipIdx_map {α β : Type _} {l : List α} {f : α × Nat → β} {j : Nat} {x : β} (hj : j < l.length) : (l.zipIdx.map f).getD j x = f (l[j], j) := by
 simp [List.getD_eq_getElem?_getD, hj]

theorem put_fields {t : Nat} {fs : List (Nat × Nat)} (hk : tk P t = .struct fs) (d : D) (j : Nat) (p : Pth) (v : D) :
  ∃ ds, D.put P t d (.fld j :: p) v = .agg ds ∧ ds.length = fs.length ∧ ∀ k ft o, fs[k]? = some (ft, o) → ds.getD k .und = if k = j then D.put P ft (d.fld j) p v else d.fld k := by
 refine ⟨_, by rw [D.put, hk], by simp, fun k ft o hf => ?_⟩
 obtain ⟨hl, he⟩ := List.getElem?_eq_some_iff.1 hf
 rw [getD_zipIdx_map hl, cond_eq]
 simp only [beq_iff, he]

theorem loc_noIdx : ∀ (q : Pth) (t : Nat) (L L' : Lt) (lc : Option (Nat × Nat)), q.any Stp.isIdx = false → L.loc P lc t q = L'.loc P lc t q
 | [], t, L, L', lc, h => rfl
 | .fld j :: q, t, L, L', lc, h => by
  simp only [Lt.loc]
  split
  ·split
   ·exact loc_noIdx q _ _ _ _ (by simpa [Stp.isIdx] using h)
   ·rfl
  ·rfl
 | .idx i :: q, t, L, L', lc, h => by simp [Stp.isIdx] at h
 | .arr i :: q, t, L, L', lc, h => rfl

theorem nodup_blocksL_mk : ∀ {ks : List Lt}, (∀ i, i < ks.length → (ks.getD i .leaf).blocks.Nodup) →
  (∀ i j b, i < ks.length → j < ks.length → b ∈ (ks.getD i .leaf).blocks → b ∈ (ks.getD j .leaf).blocks → i = j) → (blocksL ks).Nodup
 | [], _, _ => by simp [blocksL]
 | k :: ks, h1, h2 => by
  simp only [blocksL, List.nodup_append]
  refine ⟨by simpa using h1 0 (by simp), nodup_blocksL_mk (fun i hi => by simpa using h1 (i + 1) (by simpa using hi)) (fun i j b hi hj hb hb' => ?_), fun a ha b hb => ?_⟩
  ·have := h2 (i + 1) (j + 1) b (by simpa using hi) (by simpa using hj) (by simpa using hb) (by simpa using hb')
   omega
  ·rintro rfl
   obtain ⟨i, hi, hb⟩ := mem_blocksL.1 hb
   have := h2 0 (i + 1) a (by simp) (by simpa using hi) (by simpa using ha) (by simpa using hb)
   omega

theorem Own.form {X : Nat → Prop} {w : World} {L : Lt} {s : Sh} {t : Nat} {cs : List Value} {d : D} (h : Own P A X w L s t cs d) {fs : List (Nat × Nat)} (hk : tk P t = .struct fs)
  {j : Nat} {u : Sh} (hs : s.fld j = some u) : L = .leaf ∨ ∃ ks, L = .agg ks ∧ ks.length = fs.length := by
 cases h with
 | imm => exact .inl rfl
 | agg h a b =>
  rw [h] at hk
  injection hk with hk
  subst hk
  exact .inr ⟨_, rfl, b⟩
 | _ => simp [Sh.fld] at hs

theorem kid_beyond {L : Lt} {n j : Nat} (h : L = .leaf ∨ ∃ ks, L = .agg ks ∧ ks.length = n) (hj : n ≤ j) : L.kid j = .leaf := by
 rcases h with rfl | ⟨ks, rfl, hl⟩
 ·rfl
 ·simp [Lt.kid, List.getD_eq_getElem?_getD, List.getElem?_eq_none (show ks.length ≤ j by omega)]

theorem nodup_of_kids {L : Lt} {n : Nat} (h : L = .leaf ∨ ∃ ks, L = .agg ks ∧ ks.length = n) (h1 : ∀ i, i < n → (L.kid i).blocks.Nodup)
  (h2 : ∀ i j b, i < n → j < n → b ∈ (L.kid i).blocks → b ∈ (L.kid j).blocks → i = j) : L.blocks.Nodup := by
 rcases h with rfl | ⟨ks, rfl, rfl⟩
 ·simp [Lt.blocks]
 ·exact nodup_blocksL_mk h1 h2

theorem hv_struct {L : Lt} {n : Nat} (h : L = .leaf ∨ ∃ ks, L = .agg ks ∧ ks.length = n) : L.hv = none := by
 rcases h with rfl | ⟨ks, rfl, rfl⟩ <;> rfl
theorem el_struct {L : Lt} {n : Nat} (h : L = .leaf ∨ ∃ ks, L = .agg ks ∧ ks.length = n) (i : Nat) : L.el i = .leaf := by
 rcases h with rfl | ⟨ks, rfl, rfl⟩ <;> rfl
theorem loc_struct {L : Lt} {n : Nat} (h : L = .leaf ∨ ∃ ks, L = .agg ks ∧ ks.length = n) (lc : Option (Nat × Nat)) (t i : Nat) (q : Pth) : L.loc P lc t (.idx i :: q) = none := by
 rcases h with rfl | ⟨ks, rfl, rfl⟩ <;> rfl

theorem underIdx_cons_fld (j : Nat) (q r : Pth) : underIdx (.fld j :: q) (.fld j :: r) = underIdx q r := by simp [underIdx, under]
theorem underIdx_cons_idx (i k : Nat) (q r : Pth) : underIdx (.idx i :: q) (.idx k :: r) = underIdx q r := by simp [underIdx, under]
theorem splice_self {l : List Value} {o n : Nat} (h : o + n ≤ l.length) : splice l o (seg l o n) = l := by
 have hl := seg_length h
 apply List.ext_getElem?
 intro i
 rw [splice_get (by omega)]
 by_cases h1 : i < o
 ·rw [if_pos h1]
 ·rw [if_neg h1]
  by_cases h2 : i < o + (seg l o n).length
  ·rw [if_pos h2, seg_get (by omega)]
   congr 1
   omega
  ·rw [if_neg h2]

theorem imm_owes : ∀ q : Pth, Sh.imm.owes q
 | [] => trivial
 | .fld j :: q => by simp only [Sh.owes, Sh.fld]; exact imm_owes q
 | .idx i :: q => trivial
 | .arr i :: q => trivial

/-- A part of a row of cells that is written, and the rest. -/
theorem row_splice {w w' : World} {bt ot : Nat} {ncs : List Value} (hw : Wr w w' bt ot ncs) {b o0 o n : Nat} {cs csj : List Value} (hr : Row w b o0 cs) (hn : csj.length = n) (hon : o + n ≤ cs.length)
  (hin : (bt = b ∧ o0 + o ≤ ot ∧ ot + ncs.length ≤ o0 + o + n) ∨ bt ≠ b) (hR : Row w' b (o0 + o) csj) : Row w' b o0 (splice cs o csj) := by
 intro i hi
 rw [splice_length (by omega)] at hi
 rw [splice_get (by omega)]
 by_cases h1 : i < o
 ·rw [if_pos h1, ← hr i hi]
  exact hw.cell_other (by rcases hin with h | h <;> omega)
 ·rw [if_neg h1]
  by_cases h2 : i < o + csj.length
  ·rw [if_pos h2]
   have := hR (i - o) (by omega)
   rwa [show o0 + o + (i - o) = o0 + i from by omega] at this
  ·rw [if_neg h2, ← hr i hi]
   exact hw.cell_other (by rcases hin with h | h <;> omega)

/-- A STORE INTO A PLACE. -/
theorem Own.put (W : WF P) {X X' : Nat → Prop} {w w' : World} {bt ot : Nat} {ncs : List Value} (hw : Wr w w' bt ot ncs) (hXb : X bt)
  (hX : ∀ b, b < w.heap.size → X' b → X b) {Lv : Lt} {v : Sh} {u : Nat} {dv : D} (hv : Own P A X' w' Lv v u ncs dv) :
  ∀ (q : Pth) {L : Lt} {s s' : Sh} {t : Nat} {cs : List Value} {d : D} {lc : Option (Nat × Nat)},
  Own P A X w L s t cs d → s.put q v = some s' → s.owes q → tyAt P t q = some u → L.loc P lc t q = some (bt, ot) →
  (∀ b o, lc = some (b, o) → Row w b o cs ∧ b ∉ L.blocks) → L.blocks.Nodup → (∀ b ∈ Lv.blocks, b ∉ L.blocks) → Lv.blocks.Nodup →
  ∃ L' cs', Own P A X' w' L' s' t cs' (D.put P t d q dv) ∧ (∀ b o, lc = some (b, o) → Row w' b o cs') ∧ (lc = none → cs' = cs) ∧
   (∀ b ∈ L'.blocks, b ∈ L.blocks ∨ b ∈ Lv.blocks) ∧ L'.blocks.Nodup ∧
   (∀ q', underIdx q q' = false → L'.loc P lc t q' = L.loc P lc t q') ∧ (∀ q', under q q' = false → (L'.sub q').hv = (L.sub q').hv) := by
 have hk0 : ∀ b, b < w.heap.size → ¬ X b → w'.heap[b]? = w.heap[b]? := fun b _ hb => hw.other b fun e => hb (e ▸ hXb)
 intro q
 induction q with
 | nil =>
  intro L s s' t cs d lc h hp _ ht hl hr hn hd hdn
  simp only [Sh.put, tyAt, Lt.loc, Option.some.injEq] at hp ht hl
  subst hp ht
  refine ⟨Lv, ncs, (by simpa only [D.put] using hv), (fun b o e => ?_), (fun e => by rw [e] at hl; cases hl), (fun b hb => .inr hb), hdn, (fun q1 hq => ?_), (fun q1 hq => by simp [under] at hq)⟩
  ·rw [hl] at e
   injection e with e
   injection e with e1 e2
   subst e1 e2
   intro i hi
   exact hw.cell_here hi
  ·exact loc_noIdx _ _ _ _ _ (by simpa [underIdx, under] using hq)
 | cons x q ih =>
  intro L s s' t cs d lc h hp ho ht hl hr hn hd hdn
  have hvl := hv.length W
  cases x with
  | fld j =>
   simp only [Sh.put] at hp
   split at hp <;> try contradiction
   rename_i sj hsj
   split at hp <;> try contradiction
   rename_i u' hpj
   simp only [Sh.owes, hsj] at ho
   simp only [tyAt] at ht
   split at ht <;> try contradiction
   rename_i fs hk
   split at ht <;> try contradiction
   rename_i ft o hj
   simp only [Lt.loc, hk, hj] at hl
   obtain ⟨ds, rfl, hd', hc, hf⟩ := h.fields hk (Sh.fld_all hsj)
   have hb := (W.struct _ _ hk _ _ _ hj).1
   have hjl := (List.getElem?_eq_some_iff.1 hj).1
   have hform := h.form hk hsj
   have hin := loc_in W q hl ht
   obtain ⟨Lj, csj, hO, hR, hN, hB, hnd, hS1, hS2⟩ := ih (hf j ft o hj sj hsj) hpj ho ht hl (fun b o' e => by
    cases lc with
    | none => simp at e
    | some x =>
     simp only [Option.map_some, Option.some.injEq, Prod.mk.injEq] at e
     obtain ⟨rfl, rfl⟩ := e
     exact ⟨((hr _ _ rfl).1).sub (by omega), fun hb' => (hr _ _ rfl).2 (blocks_of_kid hb')⟩) (nodup_kid hn j) (fun b hb1 hb2 => hd b hb1 (blocks_of_kid hb2)) hdn
   have hcj := hO.length W
   have hfl := Sh.setFld_fld hp
   obtain ⟨ds', hds', hlen, hget⟩ := put_fields (P := P) hk (.agg ds) j q dv
   have hbt : ∀ k, k ≠ j → bt ∉ (L.kid k).blocks := by
    intro k hkj hb2
    rcases hin with ⟨b, o', e, hbb, _⟩ | hb1
    ·cases lc with
     | none => simp at e
     | some x =>
      simp only [Option.map_some, Option.some.injEq, Prod.mk.injEq] at e
      exact (hr x.1 x.2 rfl).2 (by rw [e.1, ← hbb]; exact blocks_of_kid hb2)
    ·exact hkj (kid_apart hn hb2 hb1)
   obtain ⟨L', hOwn, hkid, hblk, hform'⟩ := own_of_fields (P := P) (A := A) (X := X') (w := w') (s := s') (t := t) (cs := splice cs o csj) (ds := ds') hk
    (fun k => by rw [hfl k]; by_cases e : k = j <;> simp [e]; exact Sh.fld_all hsj k) (by rw [splice_length (by omega)]; exact hc) hlen (fun k => if k = j then Lj else L.kid k) (fun k ft' o' hk' u1 hu => by
     rw [hfl k] at hu
     rw [hget k ft' o' hk']
     by_cases e : k = j
     ·subst e
      rw [hj] at hk'
      injection hk' with hk'
      injection hk' with e1 e2
      subst e1 e2
      simp only [if_true, Option.some.injEq] at hu ⊢
      subst hu
      rw [← hcj, seg_splice_same (by omega)]
      exact hO
     ·simp only [if_neg e] at hu ⊢
      rw [seg_splice_apart (by omega) (by
       rcases Nat.lt_or_gt_of_ne e with e | e
       ·exact .inl (W.order _ _ hk _ _ _ _ _ _ hk' hj e)
       ·have := W.order _ _ hk _ _ _ _ _ _ hj hk' e; omega)]
      exact (hf k ft' o' hk' u1 hu).frame (Nat.le_of_eq hw.size.symm) hX hk0 fun b hb' => hw.other b fun e' => hbt k e (e' ▸ hb'))
   refine ⟨L', splice cs o csj, by rw [hds']; exact hOwn, fun b o0 e => ?_, fun e => ?_, fun b hb' => ?_, ?_, fun q1 hq => ?_, fun q1 hq => ?_⟩
   ·subst e
    refine row_splice hw (hr b o0 rfl).1 hcj (by omega) ?_ (hR b (o0 + o) rfl)
    rcases hin with ⟨b1, o1, e, hbb, h1, h2⟩ | hb1
    ·simp only [Option.map_some, Option.some.injEq, Prod.mk.injEq] at e
     exact .inl ⟨by rw [hbb, e.1], by omega, by omega⟩
    ·exact .inr fun e => (hr b o0 rfl).2 (e ▸ blocks_of_kid hb1)
   ·subst e
    rw [hN rfl]
    exact splice_self (by omega)
   ·obtain ⟨k, hk', hb1⟩ := hblk b hb'
    by_cases e : k = j
    ·rw [if_pos e] at hb1
     exact (hB b hb1).imp blocks_of_kid id
    ·rw [if_neg e] at hb1
     exact .inl (blocks_of_kid hb1)
   ·refine nodup_of_kids hform' (fun i hi => ?_) (fun i k b hi hk' hb1 hb2 => ?_)
    ·rw [hkid i hi]
     by_cases e : i = j
     ·rw [if_pos e]; exact hnd
     ·rw [if_neg e]; exact nodup_kid hn i
    ·rw [hkid i hi] at hb1
     rw [hkid k hk'] at hb2
     by_cases e : i = j
     ·rw [if_pos e] at hb1
      by_cases e' : k = j
      ·rw [e, e']
      ·rw [if_neg e'] at hb2
       rcases hB b hb1 with hb1 | hb1
       ·exact absurd (kid_apart hn hb2 hb1) e'
       ·exact absurd (blocks_of_kid hb2) (hd b hb1)
     ·rw [if_neg e] at hb1
      by_cases e' : k = j
      ·rw [if_pos e'] at hb2
       rcases hB b hb2 with hb2 | hb2
       ·exact absurd (kid_apart hn hb1 hb2) e
       ·exact absurd (blocks_of_kid hb1) (hd b hb2)
      ·rw [if_neg e'] at hb2
       exact kid_apart hn hb1 hb2
   ·cases q1 with
    | nil => rfl
    | cons y r =>
     cases y with
     | fld k =>
      simp only [Lt.loc, hk]
      split
      ·rename_i ft' o' hk'
       have hkl := (List.getElem?_eq_some_iff.1 hk').1
       rw [hkid k hkl]
       by_cases e : k = j
       ·subst e
        rw [if_pos rfl]
        rw [hj] at hk'
        injection hk' with hk'
        injection hk' with e1 e2
        subst e1 e2
        exact hS1 r (by rwa [underIdx_cons_fld] at hq)
       ·rw [if_neg e]
      ·rfl
     | idx i => rw [loc_struct hform', loc_struct hform]
     | arr i => simp only [Lt.loc, hk]
   ·cases q1 with
    | nil => rw [Lt.sub, Lt.sub, hv_struct hform', hv_struct hform]
    | cons y r =>
     cases y with
     | fld k =>
      simp only [Lt.sub]
      by_cases hkl : k < fs.length
      ·rw [hkid k hkl]
       by_cases e : k = j
       ·subst e
        rw [if_pos rfl]
        exact hS2 r (by simpa [under] using hq)
       ·rw [if_neg e]
      ·rw [kid_beyond hform' (by omega), kid_beyond hform (by omega)]
     | idx i => simp only [Lt.sub, el_struct hform', el_struct hform]
     | arr i => rfl
  | idx i =>
   cases h with
   | slc hk hbk h1 h2 h3 h4 =>
    rename_i e s0 ex b off cap E c kids xs
    simp only [tyAt, hk] at ht
    simp only [Lt.loc, hk] at hl
    split at hl <;> try contradiction
    rename_i hi
    have hi' : i < xs.length := by omega
    have hroom : ∀ k, k < xs.length → off + k * P.cellsOf e + P.cellsOf e ≤ c.size := by
     intro k hk'
     have := Nat.mul_le_mul_right (P.cellsOf e) (show k + 1 ≤ cap by omega)
     rw [Nat.add_mul] at this
     omega
    obtain ⟨s1, ex', hp1, ho1, rfl, he1, he2⟩ : ∃ s1 ex', (elS s0 ex i).put q v = some s1 ∧ (elS s0 ex i).owes q ∧ s' = .slc s0 ex' ∧ elS s0 ex' i = s1 ∧ ∀ k, k ≠ i → elS s0 ex' k = elS s0 ex k := by
     cases ex with
     | none =>
      simp only [Sh.put] at hp
      split at hp <;> try contradiction
      rename_i s1 hs1
      rw [cond_eq] at hp
      split at hp <;> try contradiction
      rename_i hbq
      simp only [Option.some.injEq] at hp
      simp only [Sh.owes] at ho
      exact ⟨s1, none, hs1, ho, hp.symm, (Sh.eq_of_beq hbq).symm, fun _ _ => rfl⟩
     | some y =>
      obtain ⟨k, si⟩ := y
      simp only [Sh.put] at hp
      simp only [Sh.owes] at ho
      obtain ⟨hki, ho⟩ := ho
      subst hki
      have he : elS s0 (some (k, si)) k = si := by simp [elS]
      split at hp <;> try contradiction
      rename_i s1 hs1
      rw [cond_eq] at hp
      split at hp
      ·rename_i hbq
       simp only [Option.some.injEq] at hp
       exact ⟨s1, none, by rw [he]; exact hs1, by rw [he]; exact ho, hp.symm, (Sh.eq_of_beq hbq).symm, fun j hj => by simp [elS, hj]⟩
      ·simp only [Option.some.injEq] at hp
       exact ⟨s1, some (k, s1), by rw [he]; exact hs1, by rw [he]; exact ho, hp.symm, by simp [elS], fun j hj => by simp [elS, hj]⟩
    have hnk := nodup_blocksL (ks := kids) (by simp only [Lt.blocks, List.nodup_cons] at hn; exact hn.2)
    have hbn : b ∉ blocksL kids := by simp only [Lt.blocks, List.nodup_cons] at hn; exact hn.1
    have hkb : ∀ k b', b' ∈ (kids.getD k .leaf).blocks → b' ∈ (Lt.slc b off cap kids).blocks := by
     intro k b' hb'
     simp only [Lt.blocks, List.mem_cons]
     by_cases hkl : k < kids.length
     ·exact .inr (mem_blocksL.2 ⟨k, hkl, hb'⟩)
     ·rw [List.getD_eq_getElem?_getD, List.getElem?_eq_none (by omega)] at hb'
      simp [Lt.blocks] at hb'
    have hin := loc_in W q hl ht
    obtain ⟨Lj, csj, hO, hR, hN, hB, hnd, hS1, hS2⟩ := ih (h4 i hi') hp1 ho1 ht hl (fun b1 o1 e1 => by
     simp only [Option.some.injEq, Prod.mk.injEq] at e1
     obtain ⟨rfl, rfl⟩ := e1
     exact ⟨Row.of_block hbk (hroom i hi'), fun hb' => hbn (mem_blocksL.2 ⟨i, hi, hb'⟩)⟩) (hnk.1 i hi) (fun b1 hb1 hb2 => hd b1 hb1 (hkb i b1 hb2)) hdn
    have hcj := hO.length W
    have hR' := hR b _ rfl
    -- the block of the elements, as it is now
    obtain ⟨c2, hc2, hsz, hseg⟩ : ∃ c2 : Array Value, w'.heap[b]? = some (.cells c2 E (0, 0)) ∧ c2.size = c.size ∧ ∀ k, k < xs.length → k ≠ i → seg c2.toList (off + k * P.cellsOf e) (P.cellsOf e) = seg c.toList (off + k * P.cellsOf e) (P.cellsOf e) := by
     by_cases hbb : bt = b
     ·obtain ⟨c1, c2, E1, g1, g2, g3, g4⟩ := hw.here
      rw [hbb] at g1 g2
      rw [hbk] at g1
      injection g1 with g1
      injection g1 with g1 gE
      subst g1 gE
      have hlen : c2.size = c.size := by
       have := congrArg List.length g4
       rw [splice_length (by simpa using g3)] at this
       simpa using this
      refine ⟨c2, g2, hlen, fun k hk' hki => ?_⟩
      rw [g4]
      refine seg_splice_apart (by simpa using g3) ?_
      have hin' : off + i * P.cellsOf e ≤ ot ∧ ot + ncs.length ≤ off + i * P.cellsOf e + P.cellsOf e := by
       rcases hin with ⟨b1, o1, e1, _, h5, h6⟩ | hb1
       ·simp only [Option.some.injEq, Prod.mk.injEq] at e1
        omega
       ·exact absurd (mem_blocksL.2 ⟨i, hi, hbb ▸ hb1⟩) hbn
      rcases Nat.lt_or_gt_of_ne hki with h5 | h5
      ·have := Nat.mul_le_mul_right (P.cellsOf e) (show k + 1 ≤ i from h5)
       rw [Nat.add_mul] at this
       exact .inl (by omega)
      ·have := Nat.mul_le_mul_right (P.cellsOf e) (show i + 1 ≤ k from h5)
       rw [Nat.add_mul] at this
       exact .inr (by omega)
     ·exact ⟨c, (hw.other b (fun e => hbb e.symm)).trans hbk, rfl, fun _ _ _ => rfl⟩
    have hbt : ∀ k, k < kids.length → k ≠ i → bt ∉ (kids.getD k .leaf).blocks := by
     intro k hkl hki hb2
     rcases hin with ⟨b1, o1, e1, hbb, _⟩ | hb1
     ·simp only [Option.some.injEq, Prod.mk.injEq] at e1
      exact hbn (mem_blocksL.2 ⟨k, hkl, by rw [e1.1, ← hbb]; exact hb2⟩)
     ·exact hki (hnk.2 k i bt hkl hi hb2 hb1)
    have hput : D.put P t (.slc xs) (.idx i :: q) dv = .slc (xs.set i (D.put P e (xs.getD i .und) q dv)) := by
     simp only [D.put, hk, D.xs]
    have hOwn : Own P A X' w' (.slc b off cap (kids.set i Lj)) (.slc s0 ex') t [.slice (some ⟨b, off, none⟩) (xs.set i (D.put P e (xs.getD i .und) q dv)).length cap] (.slc (xs.set i (D.put P e (xs.getD i .und) q dv))) := by
     refine .slc hk hc2 (by simpa using h1) (by simpa using h2) (by rw [hsz]; exact h3) fun k hk' => ?_
     rw [List.length_set] at hk'
     rw [getD_set_eq hi, getD_set_eq hi']
     by_cases e1 : k = i
     ·subst e1
      rw [if_pos rfl, if_pos rfl, he1, Row.ext hc2 hR' hcj (by rw [hsz]; exact hroom k hk')]
      exact hO
     ·rw [if_neg e1, if_neg e1, he2 k e1, hseg k hk' e1]
      exact (h4 k hk').frame (Nat.le_of_eq hw.size.symm) hX hk0 fun b' hb' => hw.other b' fun e' => hbt k (by omega) e1 (e' ▸ hb')
    have hbt2 : bt ∈ (Lt.slc b off cap kids).blocks := by
     rcases hin with ⟨b1, o1, e1, hbb, _⟩ | hb1
     ·simp only [Option.some.injEq, Prod.mk.injEq] at e1
      rw [hbb, ← e1.1]
      simp [Lt.blocks]
     ·exact hkb i bt hb1
    have hlset : (kids.set i Lj).length = kids.length := List.length_set
    refine ⟨.slc b off cap (kids.set i Lj), [.slice (some ⟨b, off, none⟩) xs.length cap], by rw [hput]; simpa using hOwn, fun b1 o1 e1 => ?_, fun _ => rfl, fun b' hb' => ?_, ?_, fun q1 hq => ?_, fun q1 hq => ?_⟩
    ·have hr1 := hr b1 o1 e1
     have hne : bt ≠ b1 := fun e2 => hr1.2 (e2 ▸ hbt2)
     intro k hk'
     rw [← hr1.1 k hk']
     exact hw.cell_other (.inl fun e2 => hne e2.symm)
    ·simp only [Lt.blocks, List.mem_cons, mem_blocksL, hlset] at hb'
     rcases hb' with hb' | ⟨k, hkl, hb'⟩
     ·exact .inl (by simp [Lt.blocks, hb'])
     ·rw [getD_set_eq hi] at hb'
      by_cases e1 : k = i
      ·rw [if_pos e1] at hb'
       exact (hB b' hb').imp (fun h => hkb i b' h) id
      ·rw [if_neg e1] at hb'
       exact .inl (hkb k b' hb')
    ·simp only [Lt.blocks, List.nodup_cons]
     refine ⟨fun hb' => ?_, nodup_blocksL_mk (fun k hkl => ?_) fun k m b' hkl hml hb1 hb2 => ?_⟩
     ·obtain ⟨k, hkl, hb'⟩ := mem_blocksL.1 hb'
      rw [hlset] at hkl
      rw [getD_set_eq hi] at hb'
      by_cases e1 : k = i
      ·rw [if_pos e1] at hb'
       rcases hB b hb' with hb' | hb'
       ·exact hbn (mem_blocksL.2 ⟨i, hi, hb'⟩)
       ·exact hd b hb' (by simp [Lt.blocks])
      ·rw [if_neg e1] at hb'
       exact hbn (mem_blocksL.2 ⟨k, hkl, hb'⟩)
     ·rw [hlset] at hkl
      rw [getD_set_eq hi]
      by_cases e1 : k = i
      ·rw [if_pos e1]; exact hnd
      ·rw [if_neg e1]; exact hnk.1 k hkl
     ·rw [hlset] at hkl hml
      rw [getD_set_eq hi] at hb1 hb2
      by_cases e1 : k = i
      ·rw [if_pos e1] at hb1
       by_cases e2 : m = i
       ·rw [e1, e2]
       ·rw [if_neg e2] at hb2
        rcases hB b' hb1 with hb1 | hb1
        ·exact absurd (hnk.2 m i b' hml hi hb2 hb1) e2
        ·exact absurd (hkb m b' hb2) (hd b' hb1)
      ·rw [if_neg e1] at hb1
       by_cases e2 : m = i
       ·rw [if_pos e2] at hb2
        rcases hB b' hb2 with hb2 | hb2
        ·exact absurd (hnk.2 k i b' hkl hi hb1 hb2) e1
        ·exact absurd (hkb k b' hb1) (hd b' hb2)
       ·rw [if_neg e2] at hb2
        exact hnk.2 k m b' hkl hml hb1 hb2
    ·cases q1 with
     | nil => rfl
     | cons y r =>
      cases y with
      | fld k => simp only [Lt.loc, hk]
      | idx k =>
       simp only [Lt.loc, hk, hlset]
       split
       ·rw [getD_set_eq hi]
        by_cases e1 : k = i
        ·subst e1
         rw [if_pos rfl]
         exact hS1 r (by rwa [underIdx_cons_idx] at hq)
        ·rw [if_neg e1]
       ·rfl
      | arr k => simp only [Lt.loc, hk]
    ·cases q1 with
     | nil => simp only [Lt.sub, Lt.hv, hlset]
     | cons y r =>
      cases y with
      | fld k => rfl
      | idx k =>
       simp only [Lt.sub, Lt.el]
       rw [getD_set_eq hi]
       by_cases e1 : k = i
       ·subst e1
        rw [if_pos rfl]
        exact hS2 r (by simpa [under] using hq)
       ·rw [if_neg e1]
      | arr k => rfl
   | imm => simp [Sh.put] at hp
   | nil => simp [Lt.loc] at hl
   | agg => simp [Sh.put] at hp
   | gone => simp [Sh.put] at hp
   | mp => simp [Sh.put] at hp
   | it => simp [Sh.put] at hp
  | arr i =>
   cases s <;> simp only [Sh.put, reduceCtorEq] at hp
   split at hp <;> try contradiction
   rename_i hpi
   simp only [Option.some.injEq] at hp
   subst hp
   obtain ⟨rfl, hRp⟩ := h.leaf_of_imm
   simp only [tyAt] at ht
   split at ht <;> try contradiction
   rename_i n e hk
   split at ht <;> try contradiction
   rename_i hi
   simp only [Lt.loc, hk, if_pos hi] at hl
   cases hRp with
   | arr hk' hc hdl hf =>
    rename_i n1 e1 ds
    rw [hk'] at hk
    injection hk with hn1 he1
    subst hn1 he1
    have hroom : ∀ k, k < n1 → k * P.cellsOf e1 + P.cellsOf e1 ≤ cs.length := by
     intro k hk1
     have := Nat.mul_le_mul_right (P.cellsOf e1) (show k + 1 ≤ n1 from hk1)
     rw [Nat.add_mul, ← (W.arr _ _ _ hk').1, ← hc] at this
     simpa using this
    have hin := loc_in W q hl ht
    have ho' : Sh.imm.owes q := imm_owes q
    obtain ⟨Lj, csj, hO, hR, hN, hB, hnd, hS1, hS2⟩ := ih (Own.imm (hf i hi)) hpi ho' ht hl (fun b1 o1 e2 => by
     cases lc with
     | none => simp at e2
     | some x =>
      simp only [Option.map_some, Option.some.injEq, Prod.mk.injEq] at e2
      obtain ⟨rfl, rfl⟩ := e2
      exact ⟨((hr _ _ rfl).1).sub (hroom i hi), by simp [Lt.blocks]⟩) (by simp [Lt.blocks]) (fun b1 _ hb2 => by simp [Lt.blocks] at hb2) hdn
    obtain ⟨rfl, hRj⟩ := hO.leaf_of_imm
    have hcj := hRj.length W
    have hi' : i < ds.length := by omega
    refine ⟨.leaf, splice cs (i * P.cellsOf e1) csj, ?_, fun b o0 e2 => ?_, fun e2 => ?_, by simp [Lt.blocks], by simp [Lt.blocks], fun q1 hq => ?_, fun q1 hq => ?_⟩
    ·have hput : D.put P t (.agg ds) (.arr i :: q) dv = .agg (ds.set i (D.put P e1 (ds.getD i .und) q dv)) := by
      simp only [D.put, hk', D.fs]
     rw [hput]
     refine .imm (.arr hk' (by rw [splice_length (by rw [hcj]; exact hroom i hi)]; exact hc) (by simpa using hdl) fun k hk1 => ?_)
     rw [getD_set_eq hi']
     by_cases e2 : k = i
     ·subst e2
      rw [if_pos rfl, ← hcj, seg_splice_same (by rw [hcj]; exact hroom k hi)]
      exact hRj
     ·rw [if_neg e2, seg_splice_apart (by rw [hcj]; exact hroom i hi) (by
       rcases Nat.lt_or_gt_of_ne e2 with h5 | h5
       ·have := Nat.mul_le_mul_right (P.cellsOf e1) (show k + 1 ≤ i from h5)
        rw [Nat.add_mul] at this
        exact .inl (by omega)
       ·have := Nat.mul_le_mul_right (P.cellsOf e1) (show i + 1 ≤ k from h5)
        rw [Nat.add_mul] at this
        exact .inr (by omega))]
      exact (hf k hk1).frame (Nat.le_of_eq hw.size.symm) hX hk0
    ·subst e2
     refine row_splice hw (hr b o0 rfl).1 hcj (hroom i hi) ?_ (hR b _ rfl)
     rcases hin with ⟨b1, o1, e2, hbb, h5, h6⟩ | hb1
     ·simp only [Option.map_some, Option.some.injEq, Prod.mk.injEq] at e2
      exact .inl ⟨by rw [hbb, e2.1], by omega, by omega⟩
     ·simp [Lt.blocks] at hb1
    ·subst e2
     rw [hN rfl]
     exact splice_self (hroom i hi)
    ·rfl
    ·rfl
   | _ => simp_all

end Go.Ab

/- An owned tree read as one that owns less. -/
namespace Go.Ab
variable {P : Program} {A : Ann}

theorem list_choice {α : Type} (d : α) {R : Nat → α → Prop} : ∀ n, (∀ i, i < n → ∃ x, R i x) → ∃ l : List α, l.length = n ∧ ∀ i, i < n → R i (l.getD i d)
 | 0, _ => ⟨[], rfl, fun i hi => absurd hi (by omega)⟩
 | n + 1, h => by
  obtain ⟨l, hl, hr⟩ := list_choice d n fun i hi => h i (by omega)
  obtain ⟨x, hx⟩ := h n (by omega)
  refine ⟨l ++ [x], by simp [hl], fun i hi => ?_⟩
  rw [List.getD_eq_getElem?_getD]
  by_cases e : i < n
  ·rw [List.getElem?_append_left (by omega), ← List.getD_eq_getElem?_getD]
   exact hr i e
  ·have : i = n := by omega
   subst this
   rw [List.getElem?_append_right (by omega), hl]
   simpa using hx

theorem fldL_all {l : List (Nat × Sh)} {f : Sh → Bool} (h : (l.all fun x => f x.2) = true) (j : Nat) : fldL l j = .imm ∨ f (fldL l j) = true := by
 induction l with
 | nil => exact .inl rfl
 | cons x l ih =>
  obtain ⟨i, s⟩ := x
  simp only [List.all_cons, Bool.and_eq_true] at h
  rw [fldL_cons]
  by_cases e : i = j
  ·rw [if_pos e]; exact .inr h.1
  ·rw [if_neg e]; exact ih h.2

/-- What is owned as a whole may be given away to be read. -/
theorem Own.plain {X X' : Nat → Prop} {w : World} (hX : ∀ b, b < w.heap.size → X' b → X b) {L : Lt} {s : Sh} {t : Nat} {cs : List Value} {d : D} (h : Own P A X w L s t cs d) :
  ∀ n, s = .imm ∨ s.plain n = true → (∀ b ∈ L.blocks, ¬ X' b) → Rep P A X' w t cs d := by
 induction h with
 | imm h => exact fun _ _ _ => h.anti hX
 | nil h => exact fun _ _ _ => .slcN h
 | slc h hb h1 h2 h3 h4 ih =>
  rename_i t e s ex b off cap E c kids xs
  intro n hp hB
  rcases hp with hp | hp
  ·cases hp
  ·cases n with
   | zero => simp [Sh.plain] at hp
   | succ n =>
    cases ex with
    | some x => simp [Sh.plain] at hp
    | none =>
     simp only [Sh.plain] at hp
     have hroom : ∀ k, k < xs.length → off + k * P.cellsOf e + P.cellsOf e ≤ c.size := by
      intro k hk'
      have := Nat.mul_le_mul_right (P.cellsOf e) (show k + 1 ≤ cap by omega)
      rw [Nat.add_mul] at this
      omega
     refine .slc h (hB _ (by simp [Lt.blocks])) (Array.getElem?_eq_some_iff.1 hb).1 h2 (fun i hi => seg_length (by simpa using hroom i hi)) (fun i hi => Row.of_block hb (hroom i hi)) fun i hi => ?_
     refine ih i hi n (.inr (by simpa [elS] using hp)) fun b' hb' => hB b' ?_
     simp only [Lt.blocks, List.mem_cons, mem_blocksL]
     exact .inr ⟨i, by omega, hb'⟩
 | agg h h1 h2 h3 h4 ih =>
  rename_i t l fs kids cs ds
  intro n hp hB
  have hf : ∀ j, ∃ m, fldL l j = .imm ∨ (fldL l j).plain m = true := by
   intro j
   rcases hp with hp | hp
   ·cases hp
   ·cases n with
    | zero => simp [Sh.plain] at hp
    | succ n => exact ⟨n, fldL_all (by simpa [Sh.plain] using hp) j⟩
  refine .struct h h1 h3 fun j ft o hj => ?_
  obtain ⟨m, hm⟩ := hf j
  refine ih j ft o hj m hm fun b' hb' => hB b' ?_
  simp only [Lt.blocks, mem_blocksL]
  exact ⟨j, by rw [h2]; exact (List.getElem?_eq_some_iff.1 hj).1, hb'⟩
 | gone => intro n hp; rcases hp with hp | hp <;> cases n <;> simp [Sh.plain] at hp
 | mp h hr h1 h2 h3 h4 h5 h6 h7 =>
  intro n _ hB
  exact .map h (hB _ (by simp [Lt.blocks])) hr h1 h2 h3 (fun j hj => (h4 j hj).anti hX) (fun j hj => (h5 j hj).anti hX)
 | it => intro n hp; rcases hp with hp | hp <;> cases n <;> simp [Sh.plain] at hp

/-- What of a tree is left. -/
structure Less (P : Program) (A : Ann) (X : Nat → Prop) (w : World) (L L' : Lt) (u : Sh) (t : Nat) (cs : List Value) (d : D) : Prop where
 sub : ∀ b ∈ L'.blocks, b ∈ L.blocks
 nodup : L'.blocks.Nodup
 hv : L'.hv = L.hv ∨ L' = .leaf
 own : ∀ X' : Nat → Prop, (∀ b, b < w.heap.size → X' b → X b) → (∀ b ∈ L.blocks, b ∉ L'.blocks → ¬ X' b) → Own P A X' w L' u t cs d

theorem Own.weakN {X : Nat → Prop} {w : World} {L : Lt} {s : Sh} {t : Nat} {cs : List Value} {d : D} (h : Own P A X w L s t cs d) :
  ∀ n u, s.weakN n u = true → L.blocks.Nodup → ∃ L', Less P A X w L L' u t cs d := by
 have himm : ∀ n, s.plain n = true → ∃ L', Less P A X w L L' .imm t cs d := fun n hp =>
  ⟨.leaf, by simp [Lt.blocks], by simp [Lt.blocks], .inr rfl, fun X' hX hB => .imm (h.plain hX n (.inr hp) fun b hb => hB b hb (by simp [Lt.blocks]))⟩
 induction h with
 | imm h =>
  intro n u hw _
  cases n with
  | zero => simp [Sh.weakN] at hw
  | succ n => cases u <;> simp [Sh.weakN] at hw; exact himm 1 (by simp [Sh.plain])
 | nil h =>
  intro n u hw _
  cases n with
  | zero => simp [Sh.weakN] at hw
  | succ n =>
   cases u with
   | imm => exact himm (n + 1) (by simpa [Sh.weakN] using hw)
   | slc u ex =>
    cases ex with
    | none => exact ⟨.nil, by simp, by simp [Lt.blocks], .inl rfl, fun _ _ _ => .nil h⟩
    | some => simp [Sh.weakN] at hw
   | _ => simp [Sh.weakN] at hw
 | slc h hb h1 h2 h3 h4 ih =>
  rename_i t e s ex b off cap E c kids xs
  intro n u hw hn
  cases n with
  | zero => simp [Sh.weakN] at hw
  | succ n =>
   cases u with
   | imm => exact himm (n + 1) (by simpa [Sh.weakN] using hw)
   | slc u eu =>
    cases ex with
    | some => cases eu <;> simp [Sh.weakN] at hw
    | none =>
     cases eu with
     | some => simp [Sh.weakN] at hw
     | none =>
      simp only [Sh.weakN] at hw
      simp only [Lt.blocks, List.nodup_cons] at hn
      have hnk := nodup_blocksL hn.2
      obtain ⟨ks, hks, hr⟩ := list_choice Lt.leaf xs.length (R := fun i L' => Less P A X w (kids.getD i .leaf) L' u e (seg c.toList (off + i * P.cellsOf e) (P.cellsOf e)) (xs.getD i .und))
       fun i hi => ih i hi (fun m hm => ⟨.leaf, by simp [Lt.blocks], by simp [Lt.blocks], .inr rfl, fun X' hX hB => .imm ((h4 i hi).plain hX m (.inr hm) fun b hb => hB b hb (by simp [Lt.blocks]))⟩) n u hw (hnk.1 i (by omega))
      refine ⟨.slc b off cap ks, fun b' hb' => ?_, ?_, .inl (by simp [Lt.hv, hks, h1]), fun X' hX hB => ?_⟩
      ·simp only [Lt.blocks, List.mem_cons, mem_blocksL] at hb' ⊢
       rcases hb' with hb' | ⟨i, hi, hb'⟩
       ·exact .inl hb'
       ·exact .inr ⟨i, by omega, (hr i (by omega)).sub b' hb'⟩
      ·simp only [Lt.blocks, List.nodup_cons]
       refine ⟨fun hb' => ?_, nodup_blocksL_mk (fun i hi => (hr i (by omega)).nodup) fun i j b' hi hj hb1 hb2 => hnk.2 i j b' (by omega) (by omega) ((hr i (by omega)).sub b' hb1) ((hr j (by omega)).sub b' hb2)⟩
       obtain ⟨i, hi, hb'⟩ := mem_blocksL.1 hb'
       exact hn.1 (mem_blocksL.2 ⟨i, by omega, (hr i (by omega)).sub b hb'⟩)
      ·refine .slc h hb (by omega) h2 h3 fun i hi => ?_
       refine (hr i hi).own X' hX fun b' hb1 hb2 => hB b' ?_ fun hb3 => ?_
       ·simp only [Lt.blocks, List.mem_cons, mem_blocksL]
        exact .inr ⟨i, by omega, hb1⟩
       ·simp only [Lt.blocks, List.mem_cons, mem_blocksL] at hb3
        rcases hb3 with hb3 | ⟨k, hk, hb3⟩
        ·exact hn.1 (mem_blocksL.2 ⟨i, by omega, hb3 ▸ hb1⟩)
        ·have := hnk.2 k i b' (by omega) (by omega) ((hr k (by omega)).sub b' hb3) hb1
         exact hb2 (this ▸ hb3)
   | _ => simp [Sh.weakN] at hw
 | agg h h1 h2 h3 h4 ih =>
  rename_i t l fs kids cs ds
  intro n u hw hn
  cases n with
  | zero => simp [Sh.weakN] at hw
  | succ n =>
   cases u with
   | imm => exact himm (n + 1) (by simpa [Sh.weakN] using hw)
   | agg m =>
    simp only [Sh.weakN, Bool.and_eq_true, List.all_eq_true] at hw
    have hwj : ∀ j, fldL l j = fldL m j ∨ (fldL l j).weakN n (fldL m j) = true := by
     intro j
     have mem : ∀ (l : List (Nat × Sh)) (j : Nat), fldL l j = .imm ∨ (j, fldL l j) ∈ l := by
      intro l j
      induction l with
      | nil => exact .inl rfl
      | cons x l ih =>
       obtain ⟨i, s⟩ := x
       rw [fldL_cons]
       by_cases e : i = j
       ·rw [if_pos e, e]; exact .inr (by simp)
       ·rw [if_neg e]; exact ih.imp id fun h => List.mem_cons_of_mem _ h
     rcases mem l j with h1 | h1
     ·rcases mem m j with h2 | h2
      ·exact .inl (h1.trans h2.symm)
      ·exact .inr (hw.2 _ h2)
     ·exact .inr (hw.1 _ h1)
    simp only [Lt.blocks] at hn
    have hnk := nodup_blocksL hn
    obtain ⟨ks, hks, hr⟩ := list_choice Lt.leaf fs.length (R := fun j L' => ∀ (ft o : Nat), fs[j]? = some (ft, o) → Less P A X w (kids.getD j .leaf) L' (fldL m j) ft (seg cs o (P.cellsOf ft)) (ds.getD j .und))
     fun j hj => by
      have hj' : fs[j]? = some (fs[j].1, fs[j].2) := by simp [List.getElem?_eq_getElem hj]
      have hnj := hnk.1 j (by omega)
      have := h4 j _ _ hj'
      rcases hwj j with e | e
      ·refine ⟨kids.getD j .leaf, fun ft o hf => ?_⟩
       have hL := h4 j ft o hf
       rw [← e]
       exact ⟨fun _ h => h, hnj, .inl rfl, fun X' hX _ => hL.frame (Nat.le_refl _) hX (fun _ _ _ => rfl) fun _ _ => rfl⟩
      ·obtain ⟨L', hL'⟩ := ih j _ _ hj' (fun m hm => ⟨.leaf, by simp [Lt.blocks], by simp [Lt.blocks], .inr rfl, fun X' hX hB => .imm (this.plain hX m (.inr hm) fun b hb => hB b hb (by simp [Lt.blocks]))⟩) n _ e hnj
       refine ⟨L', fun ft o hf => ?_⟩
       rw [hj'] at hf
       injection hf with hf
       injection hf with e1 e2
       subst e1 e2
       exact hL'
    have hget : ∀ j, j < fs.length → ∃ ft o, fs[j]? = some (ft, o) := fun j hj => ⟨fs[j].1, fs[j].2, by simp [List.getElem?_eq_getElem hj]⟩
    refine ⟨.agg ks, fun b' hb' => ?_, ?_, .inl rfl, fun X' hX hB => ?_⟩
    ·simp only [Lt.blocks, mem_blocksL] at hb' ⊢
     obtain ⟨j, hj, hb'⟩ := hb'
     obtain ⟨ft, o, hf⟩ := hget j (by omega)
     exact ⟨j, by omega, (hr j (by omega) ft o hf).sub b' hb'⟩
    ·simp only [Lt.blocks]
     refine nodup_blocksL_mk (fun j hj => ?_) fun i j b' hi hj hb1 hb2 => ?_
     ·obtain ⟨ft, o, hf⟩ := hget j (by omega)
      exact (hr j (by omega) ft o hf).nodup
     ·obtain ⟨ft, o, hf⟩ := hget j (by omega)
      obtain ⟨ft', o', hf'⟩ := hget i (by omega)
      exact hnk.2 i j b' (by omega) (by omega) ((hr i (by omega) _ _ hf').sub b' hb1) ((hr j (by omega) _ _ hf).sub b' hb2)
    ·refine .agg h h1 hks h3 fun j ft o hf => ?_
     have hj := (List.getElem?_eq_some_iff.1 hf).1
     refine (hr j hj ft o hf).own X' hX fun b' hb1 hb2 => hB b' ?_ fun hb3 => ?_
     ·simp only [Lt.blocks, mem_blocksL]
      exact ⟨j, by omega, hb1⟩
     ·simp only [Lt.blocks, mem_blocksL] at hb3
      obtain ⟨k, hk, hb3⟩ := hb3
      obtain ⟨ft', o', hf'⟩ := hget k (by omega)
      have := hnk.2 k j b' (by omega) (by omega) ((hr k (by omega) _ _ hf').sub b' hb3) hb1
      exact hb2 (this ▸ hb3)
   | _ => simp [Sh.weakN] at hw
 | gone h =>
  intro n u hw _
  cases n with
  | zero => simp [Sh.weakN] at hw
  | succ n =>
   cases u <;> simp [Sh.weakN, Sh.plain] at hw
   exact ⟨.gone, by simp, by simp [Lt.blocks], .inl rfl, fun _ _ _ => .gone h⟩
 | mp h hr h1 h2 h3 h4 h5 h6 h7 =>
  intro n u hw hn
  cases n with
  | zero => simp [Sh.weakN] at hw
  | succ n =>
   cases u <;> simp [Sh.weakN] at hw
   ·exact himm (n + 1) hw
   exact ⟨_, fun _ h => h, hn, .inl rfl, fun X' hX _ => .mp h hr h1 h2 h3 (fun j hj => (h4 j hj).anti hX) (fun j hj => (h5 j hj).anti hX) h6 h7⟩
 | it h hr =>
  intro n u hw _
  cases n with
  | zero => simp [Sh.weakN] at hw
  | succ n => cases u <;> simp [Sh.weakN, Sh.plain] at hw

end Go.Ab

/- How slots and objects stand to the world, and what of it outlasts a change. -/
namespace Go.Ab

/-- Where an object lies: its own cells, their block (a box), its tree, and blocks that it has left behind. -/
structure Ph where
 cs : List Value
 rb : Option Nat
 L : Lt
 G : List Nat
def Ph.S (p : Ph) : List Nat := p.L.blocks ++ p.G
def Ph.F (p : Ph) : List Nat := p.rb.toList ++ p.S
def Ph.root (p : Ph) : Option (Nat × Nat) := p.rb.map fun b => (b, 0)

section
variable (P : Program) (A : Ann)

structure OkObj (X : Nat → Prop) (w : World) (x : Obj) (p : Ph) : Prop where
 own : Own P A X w p.L x.sh x.t p.cs x.d
 box : x.box = true → ∃ b E c, p.rb = some b ∧ w.heap[b]? = some (.cells c E (0, 0)) ∧ c.toList = p.cs
 hdr : x.box = false → p.rb = none
 nodup : p.F.Nodup
 lt : ∀ b ∈ p.F, b < w.heap.size

/-- An iterator over a map, and what is left of it. -/
def Iter (X : Nat → Prop) (w : World) (x y : Obj) (q m : Ph) (v : Value) : Prop :=
 ∃ (r rm since last clock : Nat) (seen : Array Nat) (es : Array MapEntry) (k e : Nat) (ck ce : Nat → List Value),
  q.L = .it r ∧ v = .pointer (some ⟨r, 0, none⟩) ∧ m.L = .mp rm ∧ y.sh = .mp ∧ tk P x.t = .map k e ∧ w.heap[r]? = some (.mapIter (some rm) since seen last) ∧
  w.heap[rm]? = some (.map es clock) ∧ (∀ z ∈ es.toList, z.born < since) ∧ (es.toList.map (·.born)).Nodup ∧
  (es.filter fun z => !seen.contains z.born).size = x.d.es.length ∧
  (∀ j, j < x.d.es.length → ((es.filter fun z => !seen.contains z.born)[j]?).map (·.key) = some (mkV P k (ck j)) ∧ ((es.filter fun z => !seen.contains z.born)[j]?).map (·.val) = some (mkV P e (ce j)) ∧
   Rep P A X w k (ck j) (x.d.es.getD j (.und, .und)).1 ∧ Rep P A X w e (ce j) (x.d.es.getD j (.und, .und)).2) ∧
  since ≤ last ∧ clock = since ∧
  (∀ a k' v', x.d = .agg [a, k', v'] → last = clock ∧ ∃ (st : Nat) (z : MapEntry) (c1 c2 : List Value), seen.back? = some st ∧ es.find? (fun z => z.born == st) = some z ∧ z.key = mkV P k c1 ∧ z.val = mkV P e c2 ∧ Rep P A X w k c1 k' ∧ Rep P A X w e c2 v')

def AVR1v (X : Nat → Prop) (w : World) (ob : Nat → Option Obj) (ph : Nat → Ph) (o : Nat) (p : Pth) (t : Nat) (v : Value) : Prop :=
 ∀ x, ob o = some x → (x.sh = .it → ∃ m, p = [.fld m] ∧ tk P x.t = tk P t ∧ ∀ y, ob m = some y → Iter P A X w x y (ph o) (ph m) v) ∧
   (x.sh ≠ .it → ∃ u, tyAt P x.t p = some u ∧ tk P u = tk P t ∧ (((ph o).L.sub p).hv = some v ∨ (p = [] ∧ (ph o).rb = none ∧ v = mkV P x.t (ph o).cs)))

def AVR1p (ob : Nat → Option Obj) (ph : Nat → Ph) (o : Nat) (p : Pth) (e : Nat) (v : Value) : Prop :=
 ∀ x, ob o = some x → ∃ b off u, v = .pointer (some ⟨b, off, none⟩) ∧ (ph o).L.loc P (ph o).root x.t p = some (b, off) ∧ tyAt P x.t p = some u ∧ tk P u = tk P e

def AVR1 (X : Nat → Prop) (w : World) (ob : Nat → Option Obj) (ph : Nat → Ph) : AV → Value → Prop
 | .dead, _ => True
 | .und, v => v = undef
 | .con c, v => v = c
 | .imm t d, v => RepV P A X w t v d
 | .nils t, v => v = .slice none 0 0 ∧ ∃ e, tk P t = .slc e
 | .iptr e d, v => ∃ b off cs, v = .pointer (some ⟨b, off, none⟩) ∧ ¬ X b ∧ b < w.heap.size ∧ Row w b off cs ∧ Rep P A X w e cs d
 | .ptr o p e, v => ∀ x, ob o = some x → ∃ b off u, v = .pointer (some ⟨b, off, none⟩) ∧ (ph o).L.loc P (ph o).root x.t p = some (b, off) ∧ tyAt P x.t p = some u ∧ tk P u = tk P e
 | .val o p t, v => ∀ x, ob o = some x → (x.sh = .it → ∃ m, p = [.fld m] ∧ tk P x.t = tk P t ∧ ∀ y, ob m = some y → Iter P A X w x y (ph o) (ph m) v) ∧
   (x.sh ≠ .it → ∃ u, tyAt P x.t p = some u ∧ tk P u = tk P t ∧ (((ph o).L.sub p).hv = some v ∨ (p = [] ∧ (ph o).rb = none ∧ v = mkV P x.t (ph o).cs)))
 | .old o t d, v => ∀ x, ob o = some x → RepV P A (fun b => X b ∧ b ∉ (ph o).S) w t v d
 | .fn f, v => v = .func (.func f) #[] #[]
 | .vptr o p t, v => ∃ b off cs, v = .pointer (some ⟨b, off, none⟩) ∧ ¬ X b ∧ b < w.heap.size ∧ Row w b off cs ∧ cs.length = P.cellsOf t ∧ AVR1v P A X w ob ph o p t (mkV P t cs)
 | .celp o e, v => ∃ c off u, v = .pointer (some ⟨c, off, none⟩) ∧ ¬ X c ∧ c < w.heap.size ∧ Row w c off [u] ∧ AVR1p P ob ph o [] e u
 | _, _ => False

def AVR (X : Nat → Prop) (w : World) (ob : Nat → Option Obj) (ph : Nat → Ph) : AV → Value → Prop
 | .tup l, v => ∃ vs : Array Value, v = .tuple vs ∧ vs.size = l.length ∧ ∀ (i : Nat) (a : AV), l[i]? = some a → AVR1 P A X w ob ph a (vs.getD i undef)
 | .clo f l, v => ∃ vs : Array Value, v = .func (.func f) #[] vs ∧ vs.size = l.length ∧ ∀ (i : Nat) (a : AV), l[i]? = some a → AVR1 P A X w ob ph a (vs.getD i undef)
 | a, v => AVR1 P A X w ob ph a v

/-- What is out of reach: what the caller keeps, and what is owned. -/
def Xof (X0 : Nat → Prop) (ob : Nat → Option Obj) (ph : Nat → Ph) : Nat → Prop := fun b => X0 b ∨ ∃ o x, ob o = some x ∧ b ∈ (ph o).F

/-- Objects in a world: apart from each other, from what the caller keeps, and new or lent. -/
structure Objs' (X0 Y0 : Nat → Prop) (n0 : Nat) (ob : Nat → Option Obj) (ph : Nat → Ph) (w : World) : Prop where
 ok : ∀ o x, ob o = some x → OkObj P A (Xof X0 ob ph) w x (ph o)
 apart : ∀ o x o' x', ob o = some x → ob o' = some x' → o ≠ o' → ∀ b ∈ (ph o).F, b ∉ (ph o').F
 free : ∀ o x, ob o = some x → ∀ b ∈ (ph o).F, ¬ X0 b
 ours : ∀ o x, ob o = some x → ∀ b ∈ (ph o).F, Y0 b ∨ n0 ≤ b
 old : ∀ b, X0 b → b < n0

structure Rel (X0 Y0 : Nat → Prop) (w0 : World) (g : Nat → AV) (ob : Nat → Option Obj) (ph : Nat → Ph) (tmps : Array Value) (w : World) : Prop where
 objs : Objs' P A X0 Y0 w0.heap.size ob ph w
 slots : ∀ s, AVR P A (Xof X0 ob ph) w ob ph (g s) (tmps.getD s undef)
 keeps : Keeps Y0 w0 w
end

variable {P : Program} {A : Ann}

def AV.ref : AV → Option Nat
 | .ptr o _ _ => some o
 | .val o _ _ => some o
 | .old o _ _ => some o
 | _ => none

def strike1 : List (Nat × KM) → AV → AV
 | [], a => a
 | k :: ks, a => strike1 ks (fall1 k.1 k.2 a)

theorem strike1_dead (ks : List (Nat × KM)) : strike1 ks .dead = .dead := by
 induction ks with
 | nil => rfl
 | cons k ks ih => obtain ⟨o, m⟩ := k; cases m <;> exact ih

def KM.isApp : KM → Bool
 | .app _ => true
 | _ => false

theorem cond_or {α : Type _} (b : Bool) (x y : α) : cond b x y = y ∨ cond b x y = x := by cases b <;> simp

theorem fall1_or (o : Nat) (m : KM) (a : AV) (h : m.isApp = false ∨ a.ref ≠ some o) : fall1 o m a = a ∨ fall1 o m a = .dead := by
 have hne : ∀ o', a.ref = some o' → m.isApp = true → Nat.beq o o' = false := by
  intro o' e hm
  rcases h with h | h
  ·rw [h] at hm; cases hm
  ·rw [Bool.eq_false_iff, Ne, beq_iff]
   exact fun e' => h (e' ▸ e)
 cases m <;> cases a <;> first
  | exact .inl rfl
  | exact cond_or _ _ _
  | (left; simp only [fall1, hne _ rfl rfl, cond_false])

theorem strike1_or : ∀ (ks : List (Nat × KM)) (a : AV), (∀ k ∈ ks, k.2.isApp = false ∨ a.ref ≠ some k.1) → strike1 ks a = .dead ∨ (strike1 ks a = a ∧ ∀ k ∈ ks, fall1 k.1 k.2 a = a)
 | [], a, _ => .inr ⟨rfl, by simp⟩
 | k :: ks, a, h => by
  simp only [strike1]
  rcases fall1_or k.1 k.2 a (h k (by simp)) with e | e
  ·rw [e]
   rcases strike1_or ks a (fun k hk => h k (List.mem_cons_of_mem _ hk)) with h1 | ⟨h1, h2⟩
   ·exact .inl h1
   ·exact .inr ⟨h1, fun k' hk' => by
     rcases List.mem_cons.1 hk' with rfl | hk'
     ·exact e
     ·exact h2 k' hk'⟩
  ·rw [e, strike1_dead]
   exact .inl rfl

theorem strike_tup (ks : List (Nat × KM)) : ∀ l, strike ks (.tup l) = .tup (l.map (strike1 ks)) := by
 induction ks with
 | nil => intro l; simp [strike, strike1]
 | cons k ks ih => intro l; simp only [strike, fall, ih, List.map_map]; rfl
theorem strike_clo (ks : List (Nat × KM)) (f : Nat) : ∀ l, strike ks (.clo f l) = .clo f (l.map (strike1 ks)) := by
 induction ks with
 | nil => intro l; simp [strike, strike1]
 | cons k ks ih => intro l; simp only [strike, fall, ih, List.map_map]; rfl

theorem fall_flat (k : Nat × KM) {a : AV} (h : a.flatA = true) : fall k a = fall1 k.1 k.2 a ∧ (fall1 k.1 k.2 a).flatA = true := by
 obtain ⟨o, m⟩ := k
 cases a <;> simp only [AV.flatA, Bool.false_eq_true] at h <;> refine ⟨rfl, ?_⟩ <;> cases m <;> simp only [fall1, cond_eq] <;> (repeat' split) <;> rfl
theorem strike_flat : ∀ (ks : List (Nat × KM)) {a : AV}, a.flatA = true → strike ks a = strike1 ks a ∧ (strike1 ks a).flatA = true
 | [], a, h => ⟨rfl, h⟩
 | k :: ks, a, h => by
  obtain ⟨e, h'⟩ := fall_flat k h
  simp only [strike, strike1, e]
  exact strike_flat ks h'

/-- How references to an object outlast a step. -/
inductive Stays (P : Program) (ob ob' : Nat → Option Obj) (ph ph' : Nat → Ph) (w w' : World) (ks : List (Nat × KM)) (o : Nat) : Prop
 | all : (o, KM.all) ∈ ks → Stays P ob ob' ph ph' w w' ks o
 | same : ob' o = ob o → ph' o = ph o → (∀ b ∈ (ph o).F, w'.heap[b]? = w.heap[b]?) → Stays P ob ob' ph ph' w w' ks o
 | pth {x x' : Obj} (p : Pth) : (o, KM.pth p) ∈ ks → ob o = some x → ob' o = some x' → x'.t = x.t → x.sh ≠ .it → x'.sh ≠ .it → (x.sh = .mp → under p [.fld o] = true) → (ph' o).rb = (ph o).rb → ((ph o).rb = none → p ≠ [] ∧ (ph' o).cs = (ph o).cs) →
   (∀ q, underIdx p q = false → (ph' o).L.loc P (ph o).root x.t q = (ph o).L.loc P (ph o).root x.t q) → (∀ q, under p q = false → ((ph' o).L.sub q).hv = ((ph o).L.sub q).hv) →
   ((o, KM.cut) ∉ ks → p.any Stp.isIdx = false → ∀ b ∈ (ph o).S, w'.heap[b]? = w.heap[b]?) → Stays P ob ob' ph ph' w w' ks o
 | wk {x x' : Obj} (bx : Bool) : (o, KM.wk bx) ∈ ks → ob o = some x → ob' o = some x' → x'.t = x.t → x.sh ≠ .it → x'.sh ≠ .it → (ph' o).rb = (ph o).rb → (bx = false → (ph o).rb = none ∧ (ph' o).cs = (ph o).cs ∧ ∀ v, (ph o).L.hv = some v → v = mkV P x.t (ph o).cs) →
   (∀ b ∈ (ph o).S, w'.heap[b]? = w.heap[b]?) → Stays P ob ob' ph ph' w w' ks o
 | ln {x x' : Obj} : (o, KM.ln) ∈ ks → ob o = some x → ob' o = some x' → x'.t = x.t → (ph' o).rb = (ph o).rb → Stays P ob ob' ph ph' w w' ks o
 | lv {x x' : Obj} : (o, KM.lv) ∈ ks → ob o = some x → ob' o = some x' → x'.t = x.t → x.sh ≠ .it → x'.sh ≠ .it → (ph' o).rb = none → (∀ v, ((ph o).L.hv = some v ∨ v = mkV P x.t (ph o).cs) → v = mkV P x.t (ph' o).cs) → Stays P ob ob' ph ph' w w' ks o

theorem cond_dead {b : Bool} {a : AV} (h : cond b .dead a = a) (ha : a ≠ .dead) : b = false := by
 cases b
 ·rfl
 ·exact absurd h.symm ha

section
variable {X0 : Nat → Prop} {ob ob' : Nat → Option Obj} {ph ph' : Nat → Ph} {w w' : World} {ks : List (Nat × KM)}

theorem Iter.frame {X X' : Nat → Prop} (hs : w.heap.size ≤ w'.heap.size) (hX : ∀ b, b < w.heap.size → X' b → X b) (hk : ∀ b, b < w.heap.size → ¬ X b → w'.heap[b]? = w.heap[b]?) {x y : Obj} {q m : Ph} {v : Value}
  (h : Iter P A X w x y q m v) (hq : ∀ b ∈ q.F, w'.heap[b]? = w.heap[b]?) (hm : ∀ b ∈ m.F, w'.heap[b]? = w.heap[b]?) : Iter P A X' w' x y q m v := by
 obtain ⟨r, rm, since, last, clock, seen, es, k, e, ck, ce, h1, h2, h3, h4, h5, h6, h7, h8, h9, h10, h11, h12, h13, h14⟩ := h
 refine ⟨r, rm, since, last, clock, seen, es, k, e, ck, ce, h1, h2, h3, h4, h5, (hq r ?_).trans h6, (hm rm ?_).trans h7, h8, h9, h10, fun j hj => ?_, h12, h13, fun a k' v' hd => ?_⟩
 ·simp [Ph.F, Ph.S, h1, Lt.blocks]
 ·simp [Ph.F, Ph.S, h3, Lt.blocks]
 ·obtain ⟨a, b, c, d⟩ := h11 j hj
  exact ⟨a, b, c.frame hs hX hk, d.frame hs hX hk⟩
 ·obtain ⟨e1, st, z, c1, c2, e2, e3, e4, e5, e6, e7⟩ := h14 a k' v' hd
  exact ⟨e1, st, z, c1, c2, e2, e3, e4, e5, e6.frame hs hX hk, e7.frame hs hX hk⟩

theorem AVR1.stays0 {X X' : Nat → Prop} (hs : w.heap.size ≤ w'.heap.size) (hX : ∀ b, b < w.heap.size → X' b → X b) (hk : ∀ b, b < w.heap.size → ¬ X b → w'.heap[b]? = w.heap[b]?)
  (happ : ∀ k ∈ ks, k.2.isApp = false) (hst : ∀ o x', ob' o = some x' → Stays P ob ob' ph ph' w w' ks o)
  (hS : ∀ o x x', ob o = some x → ob' o = some x' → (o, KM.all) ∉ ks → (o, KM.cut) ∉ ks → ((o, KM.ln) ∉ ks ∧ (o, KM.lv) ∉ ks) → ∀ b, b < w.heap.size → (X' b ∧ b ∉ (ph' o).S) → (X b ∧ b ∉ (ph o).S))
  {a : AV} {v : Value} (hnv : ∀ o p t, a ≠ .vptr o p t) (hnc : ∀ o e, a ≠ .celp o e) (h : AVR1 P A X w ob ph a v) : AVR1 P A X' w' ob' ph' (strike1 ks a) v := by
 rcases strike1_or ks a (fun k hk => .inl (happ k hk)) with e | ⟨e, hf⟩
 ·rw [e]; trivial
 ·rw [e]
  cases a with
  | dead => trivial
  | und => exact h
  | con c => exact h
  | imm t d => exact RepV.frame hs hX hk h
  | nils t => exact h
  | iptr e d =>
   obtain ⟨b, off, cs, h1, h2, h3, h4, h5⟩ := h
   exact ⟨b, off, cs, h1, fun y => h2 (hX b h3 y), Nat.lt_of_lt_of_le h3 hs, fun i hi => by rw [← h4 i hi]; simp only [World.cell?, hk b h3 h2], h5.frame hs hX hk⟩
  | ptr o p e =>
   intro x' hx'
   cases hst o x' hx' with
   | all hm =>
    have := hf _ hm
    simp [fall1] at this
   | same h1 h2 _ =>
    obtain ⟨b, off, u, g1, g2, g3, g4⟩ := h x' (h1 ▸ hx')
    exact ⟨b, off, u, g1, by rw [h2]; exact g2, g3, g4⟩
   | pth p0 hm h1 h2 h3 _ _ _ h5 _ h7 _ _ =>
    have hu := cond_dead (hf _ hm) (by simp)
    simp only [beq_iff.2 rfl, Bool.true_and] at hu
    rw [hx'] at h2
    injection h2 with h2
    subst h2
    obtain ⟨b, off, u, g1, g2, g3, g4⟩ := h _ h1
    refine ⟨b, off, u, g1, ?_, by rw [h3]; exact g3, g4⟩
    have hr : (ph' o).root = (ph o).root := by simp only [Ph.root, h5]
    rw [hr, h3, h7 p hu]
    exact g2
   | wk bx hm h1 h2 h3 _ _ h5 _ _ =>
    have hu := cond_dead (hf _ hm) (by simp)
    simp only [beq_iff.2 rfl, Bool.true_and] at hu
    rw [hx'] at h2
    injection h2 with h2
    subst h2
    obtain ⟨b, off, u, g1, g2, g3, g4⟩ := h _ h1
    refine ⟨b, off, u, g1, ?_, by rw [h3]; exact g3, g4⟩
    have hr : (ph' o).root = (ph o).root := by simp only [Ph.root, h5]
    rw [hr, h3, loc_noIdx p _ _ (ph o).L _ hu]
    exact g2
   | ln hm h1 h2 h3 h5 =>
    have hu := cond_dead (hf _ hm) (by simp)
    simp only [beq_iff.2 rfl, Bool.true_and] at hu
    rw [hx'] at h2
    injection h2 with h2
    subst h2
    obtain ⟨b, off, u, g1, g2, g3, g4⟩ := h _ h1
    refine ⟨b, off, u, g1, ?_, by rw [h3]; exact g3, g4⟩
    have hr : (ph' o).root = (ph o).root := by simp only [Ph.root, h5]
    rw [hr, h3, loc_noIdx p _ _ (ph o).L _ hu]
    exact g2
   | lv hm =>
    have := hf _ hm
    simp [fall1] at this
  | val o p t =>
   intro x' hx'
   cases hst o x' hx' with
   | all hm =>
    have := hf _ hm
    simp [fall1] at this
   | same h1 h2 h3 =>
    obtain ⟨g1, g2⟩ := h x' (h1 ▸ hx')
    refine ⟨fun hit => ?_, fun hn => by rw [h2]; exact g2 hn⟩
    obtain ⟨m, hp, ht, hy⟩ := g1 hit
    subst hp
    refine ⟨m, rfl, ht, fun y' hy' => ?_⟩
    cases hst m y' hy' with
    | all hm =>
     have := hf _ hm
     simp [fall1] at this
    | same k1 k2 k3 =>
     rw [h2, k2]
     exact (hy y' (k1 ▸ hy')).frame hs hX hk h3 k3
    | pth p0 hm k1 k2 k3 _ _ k4 _ _ _ _ _ =>
     exfalso
     have hsh : _ := hy _ k1
     obtain ⟨r, rm, since, last, clock, seen, es, k, e, ck, ce, _, _, _, hmp, _⟩ := hsh
     have := hf _ hm
     simp [fall1, k4 hmp] at this
    | wk bx hm =>
     exfalso
     have := hf _ hm
     simp [fall1] at this
    | ln hm =>
     exfalso
     have := hf _ hm
     simp [fall1] at this
    | lv hm =>
     exfalso
     have := hf _ hm
     simp [fall1] at this
   | pth p0 hm h1 h2 h3 h4 h5 _ h6 h7 _ h8 _ =>
    have hu := cond_dead (hf _ hm) (by simp)
    simp only [beq_iff.2 rfl, Bool.true_and, Bool.or_eq_false_iff] at hu
    rw [hx'] at h2
    injection h2 with h2
    subst h2
    obtain ⟨_, g2⟩ := h _ h1
    refine ⟨fun hit => absurd hit h5, fun _ => ?_⟩
    obtain ⟨u, a1, a2, a3⟩ := g2 h4
    refine ⟨u, by rw [h3]; exact a1, a2, ?_⟩
    rcases a3 with a3 | ⟨b1, b2, b3⟩
    ·exact .inl ((h8 p hu.1).trans a3)
    ·refine .inr ⟨b1, by rw [h6]; exact b2, ?_⟩
     rw [h3, (h7 b2).2]
     exact b3
   | wk bx hm h1 h2 h3 h4 h5 h6 h7 _ =>
    have hu := cond_dead (hf _ hm) (by simp)
    simp only [beq_iff.2 rfl, Bool.true_and, Bool.or_eq_false_iff] at hu
    obtain ⟨⟨hbx, hp⟩, _⟩ := hu
    obtain ⟨c1, c2, c3⟩ := h7 hbx
    have hp' : p = [] := by simpa using hp
    subst hp'
    rw [hx'] at h2
    injection h2 with h2
    subst h2
    obtain ⟨_, g2⟩ := h _ h1
    refine ⟨fun hit => absurd hit h5, fun _ => ?_⟩
    obtain ⟨u, a1, a2, a3⟩ := g2 h4
    refine ⟨u, by rw [h3]; exact a1, a2, .inr ⟨rfl, by rw [h6]; exact c1, ?_⟩⟩
    rw [h3, c2]
    rcases a3 with a3 | ⟨_, _, b3⟩
    ·exact c3 _ a3
    ·exact b3
   | ln hm =>
    exfalso
    have := hf _ hm
    simp [fall1] at this
   | lv hm h1 h2 h3 h4 h5 h6 h7 =>
    have hu := cond_dead (hf _ hm) (by simp)
    simp only [beq_iff.2 rfl, Bool.true_and, Bool.or_eq_false_iff] at hu
    obtain ⟨hp, _⟩ := hu
    have hp' : p = [] := by simpa using hp
    subst hp'
    rw [hx'] at h2
    injection h2 with h2
    subst h2
    obtain ⟨_, g2⟩ := h _ h1
    refine ⟨fun hit => absurd hit h5, fun _ => ?_⟩
    obtain ⟨u, a1, a2, a3⟩ := g2 h4
    refine ⟨u, by rw [h3]; exact a1, a2, .inr ⟨rfl, h6, ?_⟩⟩
    rw [h3]
    refine h7 v ?_
    rcases a3 with a3 | ⟨_, _, b3⟩
    ·exact .inl a3
    ·exact .inr b3
  | old o t d =>
   intro x' hx'
   cases hst o x' hx' with
   | all hm =>
    have := hf _ hm
    simp [fall1] at this
   | same h1 h2 h3 =>
    have hna : (o, KM.all) ∉ ks := fun hm => by have := hf _ hm; simp [fall1] at this
    have hnc : (o, KM.cut) ∉ ks := fun hm => by have := hf _ hm; simp [fall1] at this
    have hnl : (o, KM.ln) ∉ ks ∧ (o, KM.lv) ∉ ks := ⟨fun hm => by have := hf _ hm; simp [fall1] at this, fun hm => by have := hf _ hm; simp [fall1] at this⟩
    refine RepV.frame hs (hS o x' x' (h1 ▸ hx') hx' hna hnc hnl) (fun b hb hn => ?_) (h x' (h1 ▸ hx'))
    by_cases hb' : b ∈ (ph o).S
    ·exact h3 b (by simp [Ph.F, hb'])
    ·by_cases hXb : X b
     ·exact absurd ⟨hXb, hb'⟩ hn
     ·exact hk b hb hXb
   | pth p0 hm h1 h2 h3 _ _ _ _ _ _ _ h9 =>
    have hna : (o, KM.all) ∉ ks := fun hm => by have := hf _ hm; simp [fall1] at this
    have hnc : (o, KM.cut) ∉ ks := fun hm => by have := hf _ hm; simp [fall1] at this
    have hnl : (o, KM.ln) ∉ ks ∧ (o, KM.lv) ∉ ks := ⟨fun hm => by have := hf _ hm; simp [fall1] at this, fun hm => by have := hf _ hm; simp [fall1] at this⟩
    have hu := cond_dead (hf _ hm) (by simp)
    simp only [beq_iff.2 rfl, Bool.true_and] at hu
    refine RepV.frame hs (hS o _ x' h1 hx' hna hnc hnl) (fun b hb hn => ?_) (h _ h1)
    by_cases hb' : b ∈ (ph o).S
    ·exact h9 hnc hu b hb'
    ·by_cases hXb : X b
     ·exact absurd ⟨hXb, hb'⟩ hn
     ·exact hk b hb hXb
   | wk bx hm h1 h2 h3 _ _ _ _ h9 =>
    have hna : (o, KM.all) ∉ ks := fun hm => by have := hf _ hm; simp [fall1] at this
    have hnc : (o, KM.cut) ∉ ks := fun hm => by have := hf _ hm; simp [fall1] at this
    have hnl : (o, KM.ln) ∉ ks ∧ (o, KM.lv) ∉ ks := ⟨fun hm => by have := hf _ hm; simp [fall1] at this, fun hm => by have := hf _ hm; simp [fall1] at this⟩
    refine RepV.frame hs (hS o _ x' h1 hx' hna hnc hnl) (fun b hb hn => ?_) (h _ h1)
    by_cases hb' : b ∈ (ph o).S
    ·exact h9 b hb'
    ·by_cases hXb : X b
     ·exact absurd ⟨hXb, hb'⟩ hn
     ·exact hk b hb hXb
   | ln hm =>
    exfalso
    have := hf _ hm
    simp [fall1] at this
   | lv hm =>
    exfalso
    have := hf _ hm
    simp [fall1] at this
  | vptr o p t => exact absurd rfl (hnv o p t)
  | celp o e1 => exact absurd rfl (hnc o e1)
  | tup l => exact h.elim
  | fn f => exact h
  | clo f l => exact h.elim

theorem AVR1.stays {X X' : Nat → Prop} (hs : w.heap.size ≤ w'.heap.size) (hX : ∀ b, b < w.heap.size → X' b → X b) (hk : ∀ b, b < w.heap.size → ¬ X b → w'.heap[b]? = w.heap[b]?)
  (happ : ∀ k ∈ ks, k.2.isApp = false) (hst : ∀ o x', ob' o = some x' → Stays P ob ob' ph ph' w w' ks o)
  (hS : ∀ o x x', ob o = some x → ob' o = some x' → (o, KM.all) ∉ ks → (o, KM.cut) ∉ ks → ((o, KM.ln) ∉ ks ∧ (o, KM.lv) ∉ ks) → ∀ b, b < w.heap.size → (X' b ∧ b ∉ (ph' o).S) → (X b ∧ b ∉ (ph o).S))
  {a : AV} {v : Value} (h : AVR1 P A X w ob ph a v) : AVR1 P A X' w' ob' ph' (strike1 ks a) v := by
 by_cases hnc : ∀ o e, a ≠ .celp o e
 case neg =>
  obtain ⟨o, e, rfl⟩ : ∃ o e, a = .celp o e := by
   cases a <;> first | (exfalso; apply hnc; intro _ _ h; cases h; done) | exact ⟨_, _, rfl⟩
  rcases strike1_or ks (.celp o e) (fun k hk => .inl (happ k hk)) with e1 | ⟨e1, hf⟩
  ·rw [e1]; trivial
  ·rw [e1]
   obtain ⟨c, off, u, h1, h2, h3, h4, h5⟩ := h
   have hval : strike1 ks (.ptr o [] e) = .ptr o [] e := by
    have : ∀ (l : List (Nat × KM)), (∀ k ∈ l, fall1 k.1 k.2 (.celp o e) = .celp o e) → strike1 l (.ptr o [] e) = .ptr o [] e := by
     intro l
     induction l with
     | nil => intro _; rfl
     | cons k l ih =>
      intro hl
      have hk := hl k (List.mem_cons_self ..)
      have h0 : fall1 k.1 k.2 (.ptr o [] e) = .ptr o [] e := by
       obtain ⟨j, m⟩ := k
       cases m with
       | pth p => cases p <;> simp [fall1, underIdx, under] <;> rfl
       | wk bx => simp [fall1]
       | _ => first | rfl | (simp only [fall1] at hk ⊢; cases hb : Nat.beq j o <;> simp_all)
      show strike1 l (fall1 k.1 k.2 (.ptr o [] e)) = _
      rw [h0]
      exact ih fun k hk => hl k (List.mem_cons_of_mem _ hk)
    exact this ks hf
   have h0 := AVR1.stays0 (P := P) (A := A) (X := X) (w := w) (a := .ptr o [] e) (v := u) hs hX hk happ hst hS (fun _ _ _ h => by cases h) (fun _ _ h => by cases h) h5
   rw [hval] at h0
   refine ⟨c, off, u, h1, fun hx => h2 (hX c h3 hx), by omega, fun i hi => ?_, h0⟩
   rw [← h4 i hi]
   simp only [World.cell?, hk c h3 h2]
 by_cases hnv : ∀ o p t, a ≠ .vptr o p t
 ·exact AVR1.stays0 hs hX hk happ hst hS hnv hnc h
 obtain ⟨o, p, t, rfl⟩ : ∃ o p t, a = .vptr o p t := by
  cases a <;> first | (exfalso; apply hnv; intro _ _ _ h; cases h; done) | exact ⟨_, _, _, rfl⟩
 rcases strike1_or ks (.vptr o p t) (fun k hk => .inl (happ k hk)) with e | ⟨e, hf⟩
 ·rw [e]; trivial
 ·rw [e]
  obtain ⟨b, off, cs, h1, h2, h3, h4, h5, h6⟩ := h
  have hval : strike1 ks (.val o p t) = .val o p t := by
   have : ∀ (l : List (Nat × KM)), (∀ k ∈ l, k.2.isApp = false) → (∀ k ∈ l, fall1 k.1 k.2 (.vptr o p t) = .vptr o p t) → strike1 l (.val o p t) = .val o p t := by
    intro l
    induction l with
    | nil => intro _ _; rfl
    | cons k l ih =>
     intro ha hl
     have h0 := hl k (by simp)
     have h1 := ha k (by simp)
     have e : fall1 k.1 k.2 (.val o p t) = .val o p t := by
      obtain ⟨q, m⟩ := k
      cases m with
      | app d => cases h1
      | cut => rfl
      | it =>
       have := cond_dead h0 (by simp)
       simp only [Bool.or_eq_false_iff] at this
       simp only [fall1, this.2, cond_false]
      | _ =>
       have := cond_dead h0 (by simp)
       simp only [fall1, this, cond_false]
     simp only [strike1, e]
     exact ih (fun k hk => ha k (List.mem_cons_of_mem _ hk)) fun k hk => hl k (List.mem_cons_of_mem _ hk)
   exact this ks happ hf
  have hv : AVR1 P A X' w' ob' ph' (strike1 ks (.val o p t)) (mkV P t cs) := AVR1.stays0 hs hX hk happ hst hS (by intro _ _ _ h; cases h) (by intro _ _ h; cases h) (a := .val o p t) h6
  rw [hval] at hv
  exact ⟨b, off, cs, h1, fun y => h2 (hX b h3 y), Nat.lt_of_lt_of_le h3 hs, fun i hi => by rw [← h4 i hi]; simp only [World.cell?, hk b h3 h2], h5, hv⟩

theorem AVR.stays {X X' : Nat → Prop} (hs : w.heap.size ≤ w'.heap.size) (hX : ∀ b, b < w.heap.size → X' b → X b) (hk : ∀ b, b < w.heap.size → ¬ X b → w'.heap[b]? = w.heap[b]?)
  (happ : ∀ k ∈ ks, k.2.isApp = false) (hst : ∀ o x', ob' o = some x' → Stays P ob ob' ph ph' w w' ks o)
  (hS : ∀ o x x', ob o = some x → ob' o = some x' → (o, KM.all) ∉ ks → (o, KM.cut) ∉ ks → ((o, KM.ln) ∉ ks ∧ (o, KM.lv) ∉ ks) → ∀ b, b < w.heap.size → (X' b ∧ b ∉ (ph' o).S) → (X b ∧ b ∉ (ph o).S))
  {a : AV} {v : Value} (h : AVR P A X w ob ph a v) : AVR P A X' w' ob' ph' (strike ks a) v := by
 by_cases hfl : a.flatA = true
 ·obtain ⟨e, hf'⟩ := strike_flat ks hfl
  rw [e]
  have h1 : AVR1 P A X w ob ph a v := by cases a <;> first | exact h | simp [AV.flatA] at hfl
  have h2 := AVR1.stays (X := X) (X' := X') hs hX hk happ hst hS h1
  generalize strike1 ks a = c at h2 hf'
  cases c <;> first | exact h2 | simp [AV.flatA] at hf'
 ·cases a <;> first | simp [AV.flatA] at hfl; done | skip
  ·rename_i l
   rw [strike_tup]
   obtain ⟨vs, h1, h2, h3⟩ := h
   refine ⟨vs, h1, by simpa using h2, fun i a ha => ?_⟩
   simp only [List.getElem?_map, Option.map_eq_some_iff] at ha
   obtain ⟨a', ha', rfl⟩ := ha
   exact AVR1.stays (X := X) (X' := X') hs hX hk happ hst hS (h3 i a' ha')
  ·rename_i f l
   rw [strike_clo]
   obtain ⟨vs, h1, h2, h3⟩ := h
   refine ⟨vs, h1, by simpa using h2, fun i a ha => ?_⟩
   simp only [List.getElem?_map, Option.map_eq_some_iff] at ha
   obtain ⟨a', ha', rfl⟩ := ha
   exact AVR1.stays (X := X) (X' := X') hs hX hk happ hst hS (h3 i a' ha')
end

end Go.Ab

/- What single operations of the model do, said by kinds of types. -/
namespace Go.Ab
variable {P : Program} {A : Ann}

theorem und_of_tk {t : Nat} (h : tk P t ≠ .other) : ∃ d, P.underlying t = some d ∧ t < P.types.size := by
 unfold tk at h
 rw [cond_eq] at h
 split at h
 ·rename_i hb
  cases hu : P.underlying t with
  | none => rw [hu] at h; exact absurd rfl h
  | some d => exact ⟨d, rfl, by have := hb; simp [Nat.blt] at this; omega⟩
 ·exact absurd rfl h

theorem tk_of_und {t : Nat} {k : TK} (h : tk P t = k) (hk : k ≠ .other) : tk P t = (match P.underlying t with
 | some (.int k) => .int k
 | some .bool => .bool
 | some .string => .str
 | some (.slice e) => .slc e
 | some (.struct fs) => .struct (fs.toList.map fun f => (f.type, f.offset))
 | some (.array n e) => .arr n e
 | some (.pointer e) => .ptr e
 | some (.func ..) => .fn
 | some (.interface _) => .ifc
 | some (.map k e) => .map k e
 | _ => .other) := by
 subst h
 unfold tk at hk ⊢
 rw [cond_eq] at hk ⊢
 split at hk
 ·rename_i hb; rw [if_pos hb] <;> rfl
 ·exact absurd rfl hk

theorem und_int {t : Nat} {k : IntKind} (h : tk P t = .int k) : P.underlying t = some (.int k) := by
 have := (tk_of_und h (by simp)).symm.trans h
 split at this <;> simp_all
theorem und_bool {t : Nat} (h : tk P t = .bool) : P.underlying t = some .bool := by
 have := (tk_of_und h (by simp)).symm.trans h
 split at this <;> simp_all
theorem und_str {t : Nat} (h : tk P t = .str) : P.underlying t = some .string := by
 have := (tk_of_und h (by simp)).symm.trans h
 split at this <;> simp_all
theorem und_slc {t e : Nat} (h : tk P t = .slc e) : P.underlying t = some (.slice e) := by
 have := (tk_of_und h (by simp)).symm.trans h
 split at this <;> simp_all
theorem und_arr {t n e : Nat} (h : tk P t = .arr n e) : P.underlying t = some (.array n e) := by
 have := (tk_of_und h (by simp)).symm.trans h
 split at this <;> simp_all
theorem und_map {t k e : Nat} (h : tk P t = .map k e) : P.underlying t = some (.map k e) := by
 have := (tk_of_und h (by simp)).symm.trans h
 split at this <;> simp_all
theorem und_struct {t : Nat} {fs : List (Nat × Nat)} (h : tk P t = .struct fs) : ∃ f : Array Field, P.underlying t = some (.struct f) ∧ fs = f.toList.map fun f => (f.type, f.offset) := by
 have := (tk_of_und h (by simp)).symm.trans h
 split at this <;> simp_all
theorem info_of_tk {t : Nat} (h : tk P t ≠ .other) : ∃ i, P.info? t = some i ∧ i.size = P.cellsOf t ∧ i.bytes = P.bytesOf t := by
 obtain ⟨d, hd, _⟩ := und_of_tk h
 cases hi : P.info? t with
 | none => simp [Program.underlying, hi] at hd
 | some i => exact ⟨i, rfl, by simp [Program.cellsOf, hi], by simp [Program.bytesOf, hi]⟩

theorem run_sizeOf {t : Nat} (h : tk P t ≠ .other) (w : World) : (sizeOf t).run P w = .ok (P.cellsOf t) w := by
 obtain ⟨i, hi, hs, _⟩ := info_of_tk h
 simp [sizeOf, typeInfo, hi, hs]

theorem run_isAgg {t : Nat} (h : tk P t ≠ .other) (w : World) : (Go.isAgg t).run P w = .ok (isAgg (tk P t)) w := by
 obtain ⟨d, hd, _⟩ := und_of_tk h
 have := tk_of_und (k := tk P t) rfl h
 rw [hd] at this
 rw [this]
 cases d <;> simp [Go.isAgg, run_underlying hd, isAgg]

theorem addr_add (b o n : Nat) : (⟨b, o, none⟩ : Addr).add n = ⟨b, o + n, none⟩ := by
 unfold Addr.add
 by_cases h : n = 0
 ·simp [h]
 ·simp [h]

theorem run_loadVarRow {t b o : Nat} {cs : List Value} {w : World} (W : WF P) (ht : tk P t ≠ .other) (hr : Row w b o cs) (hl : cs.length = P.cellsOf t) :
  (loadVar t ⟨b, o, none⟩).run P w = .ok (mkV P t cs) w := by
 unfold loadVar
 simp only [Sem.run_bind, run_isAgg ht, Result.andThen_ok]
 by_cases ha : isAgg (tk P t) = true
 ·have := run_loadCells_list (P := P) (w := w) ⟨b, o, none⟩ cs fun j v hj => by
   rw [addr_add, hr j (List.getElem?_eq_some_iff.1 hj).1, hj]
  rw [if_pos ha]
  simp only [Sem.run_bind, run_sizeOf ht, Result.andThen_ok, ← hl, this, Sem.run_pure, mkV, if_pos ha]
 ·have h1 := W.one t (by simpa using ha) ht
  rw [if_neg ha]
  match cs, hl.trans h1 with
  | [v], _ =>
   have := hr 0 (by simp)
   simp only [Nat.add_zero, List.getElem?_cons_zero] at this
   simp [this, mkV, ha]

theorem run_storeVarAt {t b o : Nat} {ncs : List Value} {w : World} (W : WF P) (ht : tk P t ≠ .other) (hl : ncs.length = P.cellsOf t) {c : Array Value} {E : TypeId}
  (hb : w.heap[b]? = some (.cells c E (0, 0))) (hf : o + ncs.length ≤ c.size) (h1 : ∀ v ∈ ncs, v.oneCell' = true) :
  ∃ w', (storeVar t ⟨b, o, none⟩ (mkV P t ncs)).run P w = .ok () w' ∧ Wr w w' b o ncs := by
 have hcells : (mkV P t ncs).cells.toList = ncs := by
  unfold mkV
  by_cases ha : isAgg (tk P t) = true
  ·rw [if_pos ha]; rfl
  ·have h2 := W.one t (by simpa using ha) ht
   rw [if_neg ha]
   match ncs, hl.trans h2, h1 with
   | [v], _, h1 =>
    have := h1 v (by simp)
    cases v <;> first | rfl | simp [Value.oneCell'] at this
 have hsz : (mkV P t ncs).cells.size = P.cellsOf t := by rw [← Array.length_toList, hcells, hl]
 have hst := run_storeCells_at (P := P) b o E ncs 0 c w hb (by simpa using hf) h1
 refine ⟨w.setRow b (c.toList.take (o + 0) ++ ncs ++ c.toList.drop (o + 0 + ncs.length)).toArray, ?_, ?_⟩
 ·unfold storeVar
  simp only [Sem.run_bind, run_sizeOf ht, Result.andThen_ok, hsz, ne_eq, not_true, if_false, hcells, hst]
 ·have hbl := (Array.getElem?_eq_some_iff.1 hb).1
  refine ⟨rfl, rfl, rfl, by simp [World.setRow], fun b' hb' => ?_, c, _, E, hb, ?_, hf, rfl⟩
  ·simp only [World.setRow]
   rw [Array.getElem?_modify]
   rw [if_neg (fun e => hb' e.symm)]
  ·rw [setRow_heap w b c _ E _ hb]
   simp

end Go.Ab

/- Operations that only compute or read. -/
namespace Go.Ab
variable {P : Program} {A : Ann}

def findO : Objs → Nat → Option (Option Obj)
 | [], _ => none
 | (i, v) :: r, k => if i = k then some v else findO r k
/-- Objects behind a change. -/
def upO (os : Objs) (ob : Nat → Option Obj) (k : Nat) : Option Obj := (findO os k).getD (ob k)

theorem lookO_append (os l : Objs) (k : Nat) : lookO (os ++ l) k = upO os (lookO l) k := by
 induction os with
 | nil => rfl
 | cons x os ih =>
  obtain ⟨i, v⟩ := x
  simp only [List.cons_append, lookO, cond_eq, beq_iff, upO, findO]
  by_cases h : i = k
  ·simp [h]
  ·simp only [if_neg h, ih]; rfl

theorem strike_dead (ks : List (Nat × KM)) : strike ks .dead = .dead := by
 rw [(strike_flat ks rfl).1, strike1_dead]

theorem look_strikes (ks : List (Nat × KM)) (sl : Env) (k : Nat) : look (strikes ks sl) k = strike ks (look sl k) := by
 cases ks with
 | nil => rfl
 | cons x ks =>
  simp only [strikes]
  induction sl with
  | nil => exact (strike_dead (x :: ks)).symm
  | cons y sl ih =>
   obtain ⟨i, v⟩ := y
   simp only [List.map_cons, look, cond_eq]
   split <;> simp_all

section
variable (P : Program) (A : Ann) (X0 Y0 : Nat → Prop) (w0 : World) (g : Nat → AV) (ob : Nat → Option Obj) (tmps : Array Value)
/-- What stands behind an operation, before its slot is written. -/
def RelD (δ : Dl) (v : Value) (w' : World) : Prop :=
 ∃ ph', Objs' P A X0 Y0 w0.heap.size (upO δ.os ob) ph' w' ∧
  (∀ s, AVR P A (Xof X0 (upO δ.os ob) ph') w' (upO δ.os ob) ph' (strike δ.ks (g s)) (tmps.getD s undef)) ∧
  AVR P A (Xof X0 (upO δ.os ob) ph') w' (upO δ.os ob) ph' δ.v v ∧ Keeps Y0 w0 w'
end

/-- An operation comes to a value, whatever stands behind it. -/
def Does (P : Program) (o : Oper) (a : Act) (w : World) (R : Value → World → Prop) : Prop :=
 ∀ (next : Act → World → Prop) (Q : Exit → Act → World → Prop), (∀ v w', R v w' → next (a.put o.dst v) w') → o.wp P a w next Q

theorem Does.value {o : Oper} {a : Act} {w w' : World} {R : Value → World → Prop} {v : Value} (h : (execOp a.eval o).run P w = .ok (.value v) w') (hr : R v w') : Does P o a w R :=
 fun next Q hn => by unfold Oper.wp; rw [h]; exact hn v w' hr
theorem Does.skip {o : Oper} {a : Act} {w w' : World} {R : Value → World → Prop} (h : (execOp a.eval o).run P w = .ok .skip w') (hr : R undef w') : Does P o a w R :=
 fun next Q hn => by unfold Oper.wp; rw [h]; exact hn undef w' hr
theorem Does.mono {o : Oper} {a : Act} {w : World} {R R' : Value → World → Prop} (h : Does P o a w R) (hr : ∀ v w', R v w' → R' v w') : Does P o a w R' :=
 fun next Q hn => h next Q fun v w' h' => hn v w' (hr v w' h')

section
variable {X0 Y0 : Nat → Prop} {w0 : World} {g : St} {ph : Nat → Ph} {a : Act} {w : World}

/-- Slots, objects and the world. -/
abbrev RelA (P : Program) (A : Ann) (X0 Y0 : Nat → Prop) (w0 : World) (g : St) (ph : Nat → Ph) (a : Act) (w : World) : Prop :=
 Rel P A X0 Y0 w0 (look g.sl) (lookO g.ob) ph a.tmps w

theorem RelD.pure (R : RelA P A X0 Y0 w0 g ph a w) {av : AV} {v : Value} (h : AVR P A (Xof X0 (lookO g.ob) ph) w (lookO g.ob) ph av v) :
  RelD P A X0 Y0 w0 (look g.sl) (lookO g.ob) a.tmps { v := av } v w :=
 ⟨ph, R.objs, fun s => R.slots s, h, R.keeps⟩

/-- A draw changes nothing that is told. -/
theorem AVR.eval (R : RelA P A X0 Y0 w0 g ph a w) (x : Operand) : AVR P A (Xof X0 (lookO g.ob) ph) w (lookO g.ob) ph (g.av x) (a.eval x) := by
 cases x with
 | tmp t => exact R.slots t
 | const v => exact rfl
 | global g => trivial
 | func f => exact rfl

theorem sameK_eq {t u : Nat} (h : sameK P t u = true) : tk P t = tk P u := by
 unfold sameK at h
 rw [cond_eq] at h
 split at h
 ·rename_i hb; rw [beq_iff.1 hb]
 ·simpa using h

theorem RepV.kind (W : WF P) {X : Nat → Prop} {w : World} {t u : Nat} {v : Value} {d : D} (h : RepV P A X w t v d) (e : tk P t = tk P u) : RepV P A X w u v d := by
 obtain ⟨cs, r, hv⟩ := h
 exact ⟨cs, r.kind W.kind e, by rw [hv, mkV_kind e]⟩

theorem mkV_one {t : Nat} {v : Value} (h : isAgg (tk P t) = false) : mkV P t [v] = v := by simp [mkV, h]

theorem conD_rep {X : Nat → Prop} {w : World} {t : Nat} {c : Value} {d : D} (h : conD P t c = some d) : RepV P A X w t c d := by
 unfold conD at h
 split at h <;> try contradiction
 ·rename_i k k' n hk
  rw [cond_eq] at h
  split at h <;> try contradiction
  rename_i hkk
  simp only [Option.some.injEq] at h
  subst h
  have : k = k' := by simpa using hkk
  subst this
  exact ⟨_, .int hk, (mkV_one (by rw [hk]; rfl)).symm⟩
 ·rename_i hk; simp only [Option.some.injEq] at h; subst h; exact ⟨_, .bool hk, (mkV_one (by rw [hk]; rfl)).symm⟩
 ·rename_i hk; simp only [Option.some.injEq] at h; subst h; exact ⟨_, .str hk, (mkV_one (by rw [hk]; rfl)).symm⟩
 ·rename_i hk; simp only [Option.some.injEq] at h; subst h; exact ⟨_, .slcN hk, (mkV_one (by rw [hk]; rfl)).symm⟩
 ·rename_i hk; simp only [Option.some.injEq] at h; subst h; exact ⟨_, .ptrN hk, (mkV_one (by rw [hk]; rfl)).symm⟩
 ·rename_i hk; simp only [Option.some.injEq] at h; subst h; exact ⟨_, .fnN hk, (mkV_one (by rw [hk]; rfl)).symm⟩
 ·rename_i hk; simp only [Option.some.injEq] at h; subst h; exact ⟨_, .ifcN hk, (mkV_one (by rw [hk]; rfl)).symm⟩
 ·rename_i hk; simp only [Option.some.injEq] at h; subst h; exact ⟨_, .mapN hk, (mkV_one (by rw [hk]; rfl)).symm⟩

theorem leaf_sub : ∀ p : Pth, Lt.leaf.sub p = .leaf
 | [] => rfl
 | .fld _ :: p => leaf_sub p
 | .idx _ :: p => leaf_sub p
 | .arr _ :: p => leaf_sub p

/-- What lies at a place that has a header. -/
theorem Own.sub (W : WF P) {X : Nat → Prop} {w : World} : ∀ (p : Pth) {L : Lt} {s : Sh} {t : Nat} {cs : List Value} {d : D} {u : Nat} {v : Sh} {hv : Value},
  Own P A X w L s t cs d → s.get p = some v → tyAt P t p = some u → (L.sub p).hv = some hv → ∃ cs', Own P A X w (L.sub p) v u cs' (d.get p)
 | [], L, s, t, cs, d, u, v, hv, h, hs, ht, _ => by
  simp only [Sh.get, tyAt, Option.some.injEq] at hs ht
  subst hs ht
  exact ⟨cs, h⟩
 | .fld j :: p, L, s, t, cs, d, u, v, hv, h, hs, ht, hh => by
  simp only [Sh.get] at hs
  split at hs <;> try contradiction
  rename_i sj hsj
  simp only [tyAt] at ht
  split at ht <;> try contradiction
  rename_i fs hk
  split at ht <;> try contradiction
  rename_i ft o hj
  obtain ⟨ds, rfl, hd, hc, hf⟩ := h.fields hk (Sh.fld_all hsj)
  exact Own.sub W p (hf j ft o hj sj hsj) hs ht hh
 | .idx i :: p, L, s, t, cs, d, u, v, hv, h, hs, ht, hh => by
  cases h with
  | slc hk hb h1 h2 h3 h4 =>
   rename_i e s' ex b off cap E c kids xs
   cases ex with
   | some x => simp [Sh.get] at hs
   | none =>
    simp only [Sh.get] at hs
    simp only [tyAt, hk] at ht
    simp only [Lt.sub, Lt.el] at hh
    by_cases hi : i < xs.length
    ·exact Own.sub W p (h4 i hi : Own P A X w _ s' e _ _) hs ht hh
    ·rw [List.getD_eq_getElem?_getD, List.getElem?_eq_none (by omega)] at hh
     simp [leaf_sub, Lt.hv] at hh
  | imm => simp [Sh.get] at hs
  | nil => simp [Lt.sub, Lt.el, leaf_sub, Lt.hv] at hh
  | agg => simp [Sh.get] at hs
  | gone => simp [Sh.get] at hs
  | mp => simp [Sh.get] at hs
  | it => simp [Sh.get] at hs
 | .arr i :: p, L, s, t, cs, d, u, v, hv, h, hs, ht, hh => by simp [Lt.sub, leaf_sub, Lt.hv] at hh

theorem Own.header {X : Nat → Prop} {w : World} {L : Lt} {s : Sh} {t : Nat} {cs : List Value} {d : D} (h : Own P A X w L s t cs d) {hv : Value} (hh : L.hv = some hv) :
  cs = [hv] ∧ isAgg (tk P t) = false := by
 cases h with
 | nil h => simp only [Lt.hv, Option.some.injEq] at hh; subst hh; rw [h]; exact ⟨rfl, rfl⟩
 | slc h _ h2 => simp only [Lt.hv, Option.some.injEq] at hh; subst hh; rw [h]; exact ⟨by rw [h2], rfl⟩
 | mp h => simp only [Lt.hv, Option.some.injEq] at hh; subst hh; rw [h]; exact ⟨rfl, rfl⟩
 | it h => simp only [Lt.hv, Option.some.injEq] at hh; subst hh; rw [h]; exact ⟨rfl, rfl⟩
 | imm => simp [Lt.hv] at hh
 | agg => simp [Lt.hv] at hh
 | gone => simp [Lt.hv] at hh

/-- DATA OF A SLOT stands for its value, where what is owned may be read. -/
theorem data_rep (W : WF P) {ob : Nat → Option Obj} {t : Nat} {av : AV} {d : D} {v : Value} {w : World} {ph : Nat → Ph} (hob : Objs' P A X0 Y0 w0.heap.size ob ph w)
  (h : AVR1 P A (Xof X0 ob ph) w ob ph av v) (hd : St.data P ob t av = some d) : ∃ X1 : Nat → Prop, (∀ b, X1 b → Xof X0 ob ph b) ∧ RepV P A X1 w t v d := by
 unfold St.data at hd
 split at hd <;> try contradiction
 ·rename_i u d'
  rw [cond_eq] at hd
  split at hd <;> try contradiction
  rename_i hk
  simp only [Option.some.injEq] at hd
  subst hd
  exact ⟨_, fun _ h => h, RepV.kind W h (sameK_eq hk).symm⟩
 ·rename_i c
  have : v = c := h
  subst this
  exact ⟨_, fun _ h => h, conD_rep hd⟩
 ·rename_i u
  rw [cond_eq] at hd
  split at hd <;> try contradiction
  rename_i hk
  simp only [Option.some.injEq] at hd
  subst hd
  obtain ⟨rfl, e, he⟩ := h
  have := (sameK_eq hk).trans he
  exact ⟨_, fun _ h => h, _, .slcN this, (mkV_one (by rw [this]; rfl)).symm⟩
 ·rename_i o u d'
  rw [cond_eq] at hd
  split at hd <;> try contradiction
  rename_i hk
  split at hd <;> try contradiction
  rename_i x hx
  simp only [Option.some.injEq] at hd
  subst hd
  exact ⟨_, fun _ h => h.1, RepV.kind W (h x hx) (sameK_eq hk).symm⟩
 ·rename_i o p u
  rw [cond_eq] at hd
  split at hd <;> try contradiction
  rename_i hk
  split at hd <;> try contradiction
  rename_i x hx
  split at hd <;> try contradiction
  rename_i s hs
  rw [cond_eq] at hd
  split at hd <;> try contradiction
  rename_i hp
  simp only [Option.some.injEq] at hd
  subst hd
  obtain ⟨h1, h2⟩ := h x hx
  have ho := hob.ok o x hx
  have hit : x.sh ≠ .it := by
   intro e
   obtain ⟨m, rfl, _⟩ := h1 e
   rw [e] at hs
   simp [Sh.get, Sh.fld] at hs
  obtain ⟨u', hu, hk', h3⟩ := h2 hit
  have hsub : ∀ L : Lt, ∀ p, (∀ b ∈ (L.sub p).blocks, b ∈ L.blocks) := by
   intro L p
   induction p generalizing L with
   | nil => exact fun _ h => h
   | cons y p ih =>
    cases y with
    | fld j => exact fun b hb => blocks_of_kid (ih _ b hb)
    | idx i =>
     intro b hb
     have := ih _ b hb
     cases L <;> simp only [Lt.el, Lt.blocks, List.not_mem_nil] at this ⊢
     rename_i ks
     by_cases hi : i < ks.length
     ·exact List.mem_cons_of_mem _ (mem_blocksL.2 ⟨i, hi, this⟩)
     ·rw [List.getD_eq_getElem?_getD, List.getElem?_eq_none (by omega)] at this
      simp [Lt.blocks] at this
    | arr i => intro b hb; simp [Lt.sub, leaf_sub, Lt.blocks] at hb
  refine ⟨fun b => Xof X0 ob ph b ∧ b ∉ (ph o).F, fun _ h => h.1, ?_⟩
  refine RepV.kind W (t := u') ?_ (hk'.trans (sameK_eq hk).symm)
  rcases h3 with h3 | ⟨rfl, hrb, hv⟩
  ·obtain ⟨cs', hO⟩ := ho.own.sub W p hs hu h3
   obtain ⟨rfl, hag⟩ := hO.header h3
   refine ⟨_, hO.plain (fun _ _ h => h.1) 8 (.inr hp) fun b hb hX => hX.2 ?_, (mkV_one hag).symm⟩
   simp only [Ph.F, Ph.S, List.mem_append]
   exact .inr (.inl (hsub _ _ b hb))
  ·simp only [tyAt, Option.some.injEq, Sh.get] at hu hs
   subst hu hs
   exact ⟨_, ho.own.plain (fun _ _ h => h.1) 8 (.inr hp) fun b hb hX => hX.2 (by simp [Ph.F, Ph.S, hb]), hv⟩

end
end Go.Ab

/- Each operation that only computes or reads, by the rules. -/
namespace Go.Ab
variable {P : Program} {A : Ann}
section
variable {X0 Y0 : Nat → Prop} {w0 : World} {g : St} {ph : Nat → Ph} {a : Act} {w : World} {o : Oper} {K : Dl → Prop}

/-- What an operation's rule promises. -/
def Out (P : Program) (A : Ann) (X0 Y0 : Nat → Prop) (w0 : World) (g : St) (a : Act) (K : Dl → Prop) (v : Value) (w' : World) : Prop :=
 ∃ δ, K δ ∧ RelD P A X0 Y0 w0 (look g.sl) (lookO g.ob) a.tmps δ v w'

theorem Out.pure (R : RelA P A X0 Y0 w0 g ph a w) {av : AV} {v : Value} (hK : K { v := av }) (h : AVR P A (Xof X0 (lookO g.ob) ph) w (lookO g.ob) ph av v) : Out P A X0 Y0 w0 g a K v w :=
 ⟨_, hK, RelD.pure R h⟩

theorem AVR.one {X : Nat → Prop} {ob : Nat → Option Obj} {av : AV} {v : Value} (h : AVR P A X w ob ph av v) (hf : av.flatA = true) : AVR1 P A X w ob ph av v := by
 cases av <;> first | exact h | simp [AV.flatA] at hf
theorem AVR1.all {X : Nat → Prop} {ob : Nat → Option Obj} {av : AV} {v : Value} (h : AVR1 P A X w ob ph av v) : AVR P A X w ob ph av v := by
 cases av <;> first | exact h | exact h.elim

theorem norm_rel {X : Nat → Prop} {ob : Nat → Option Obj} {t : Nat} {av : AV} {v : Value} (h : AVR P A X w ob ph av v) : AVR P A X w ob ph (norm P t av) v := by
 unfold norm
 split
 ·rename_i c
  have : v = c := h
  subst this
  split
  ·rename_i hk; exact ⟨rfl, _, hk⟩
  ·split
   ·rename_i d hd; exact conD_rep hd
   ·trivial
 ·exact h

theorem step_move {x : Operand} (ho : o.op = .move x ∨ o.op = .assign x) (R : RelA P A X0 Y0 w0 g ph a w) (h : K { v := norm P o.type (g.av x) }) : Does P o a w (Out P A X0 Y0 w0 g a K) :=
 Does.value (v := a.eval x) (w' := w) (by rcases ho with ho | ho <;> simp [execOp, ho]) (Out.pure R h (norm_rel (AVR.eval R x)))

theorem ob_ok (R : RelA P A X0 Y0 w0 g ph a w) {k : Nat} {x : Obj} (h : lookO g.ob k = some x) : OkObj P A (Xof X0 (lookO g.ob) ph) w x (ph k) := R.objs.ok k x h

theorem OkObj.rows {X : Nat → Prop} {x : Obj} {p : Ph} (h : OkObj P A X w x p) : ∀ b o, p.root = some (b, o) → Row w b o p.cs ∧ b ∉ p.L.blocks := by
 intro b o e
 unfold Ph.root at e
 cases hr : p.rb with
 | none => rw [hr] at e; cases e
 | some b' =>
  rw [hr] at e
  simp only [Option.map_some, Option.some.injEq, Prod.mk.injEq] at e
  obtain ⟨rfl, rfl⟩ := e
  have hb : x.box = true := by
   cases hx : x.box
   ·rw [h.hdr hx] at hr; cases hr
   ·rfl
  obtain ⟨b1, E, c, e1, e2, e3⟩ := h.box hb
  rw [hr] at e1
  injection e1 with e1
  subst e1
  refine ⟨fun i hi => ?_, fun hm => ?_⟩
  ·rw [Nat.zero_add, cell_of_block e2, ← e3, Array.getElem?_toList]
  ·have := h.nodup
   simp only [Ph.F, Ph.S, hr, Option.toList, List.singleton_append, List.nodup_cons, List.mem_append, not_or] at this
   exact this.1.1 hm

theorem sub_blocks : ∀ (p : Pth) (L : Lt), ∀ b ∈ (L.sub p).blocks, b ∈ L.blocks
 | [], _, _, h => h
 | .fld _ :: p, _, b, hb => blocks_of_kid (sub_blocks p _ b hb)
 | .idx i :: p, L, b, hb => by
  have := sub_blocks p _ b hb
  cases L <;> simp only [Lt.el, Lt.blocks, List.not_mem_nil] at this ⊢
  rename_i ks
  by_cases hi : i < ks.length
  ·exact List.mem_cons_of_mem _ (mem_blocksL.2 ⟨i, hi, this⟩)
  ·rw [List.getD_eq_getElem?_getD, List.getElem?_eq_none (by omega)] at this
   simp [Lt.blocks] at this
 | .arr _ :: p, _, b, hb => by simp [Lt.sub, leaf_sub, Lt.blocks] at hb

theorem not_it_of_get {x : Obj} {p : Pth} {s : Sh} (h : x.sh.get p = some s) (hs : s ≠ .it) : x.sh ≠ .it := by
 intro e
 rw [e] at h
 cases p with
 | nil => simp only [Sh.get, Option.some.injEq] at h; exact hs h.symm
 | cons y p => cases y <;> simp [Sh.get, Sh.fld] at h

theorem Rep.tk_ne {X : Nat → Prop} {t : Nat} {cs : List Value} {d : D} (h : Rep P A X w t cs d) : tk P t ≠ .other := by
 cases h <;> (rename_i h; first | (rw [h]; simp) | skip)
 all_goals first | (rename_i h _ _ _ _ _ _; rw [h]; simp) | skip
 all_goals simp_all

theorem Own.tk_ne {X : Nat → Prop} {L : Lt} {s : Sh} {t : Nat} {cs : List Value} {d : D} (h : Own P A X w L s t cs d) (hg : s ≠ .gone) : tk P t ≠ .other := by
 cases h with
 | imm h => exact h.tk_ne
 | nil h => rw [h]; simp
 | slc h => rw [h]; simp
 | agg h => rw [h]; simp
 | gone => exact absurd rfl hg
 | mp h => rw [h]; simp
 | it h => rw [h]; simp

theorem Own.slc_hv {X : Nat → Prop} {L : Lt} {s : Sh} {ex : Option (Nat × Sh)} {t : Nat} {cs : List Value} {d : D} (h : Own P A X w L (.slc s ex) t cs d) : L.hv = some (mkV P t cs) := by
 cases h with
 | nil h => rw [Lt.hv, mkV_one (by rw [h]; rfl)]
 | slc h _ h2 => rw [Lt.hv, mkV_one (by rw [h]; rfl), h2]
theorem Own.mp_hv {X : Nat → Prop} {L : Lt} {t : Nat} {cs : List Value} {d : D} (h : Own P A X w L .mp t cs d) : L.hv = some (mkV P t cs) := by
 cases h with
 | mp h => rw [Lt.hv, mkV_one (by rw [h]; rfl)]

theorem step_load {t : Nat} {x : Operand} (W : WF P) (ho : o.op = .load t x) (R : RelA P A X0 Y0 w0 g ph a w) (h : loadD P (lookO g.ob) t (g.av x) (onV K)) : Does P o a w (Out P A X0 Y0 w0 g a K) := by
 have hx := AVR.eval R x
 unfold loadD at h
 split at h <;> try contradiction
 ·rename_i u d hav
  rw [cond_eq] at h
  split at h <;> try contradiction
  rename_i hk
  rw [hav] at hx
  obtain ⟨b, off, cs, e1, e2, e3, e4, e5⟩ := hx
  have hR := e5.kind W.kind (sameK_eq hk).symm
  refine Does.value (v := mkV P t cs) (w' := w) ?_ (Out.pure R h ⟨cs, hR, rfl⟩)
  simp only [execOp, ho, Instr.loadAt, Instr.sureAddr, e1, Sem.run_bind, Sem.run_pure, Result.andThen_ok, run_loadVarRow W hR.tk_ne e4 (hR.length W)]
 ·rename_i k p u hav
  rw [cond_eq] at h
  split at h <;> try contradiction
  rename_i hk
  split at h <;> try contradiction
  rename_i x' hx'
  rw [hav] at hx
  obtain ⟨b, off, u', e1, e2, e3, e4⟩ := hx x' hx'
  have ho' := ob_ok R hx'
  have hkk : tk P u' = tk P t := e4.trans (sameK_eq hk).symm
  have main : ∀ s, x'.sh.get p = some s → s ≠ .gone → (∀ s' y, s ≠ .slc s' (some y)) → s ≠ .it → tk P u' ≠ .other ∧ ∃ cs', Own P A (Xof X0 (lookO g.ob) ph) w ((ph k).L.sub p) s u' cs' (x'.d.get p) ∧ (execOp a.eval o).run P w = .ok (.value (mkV P t cs')) w := by
   intro s hs hg hhole hit
   obtain ⟨cs', hO, hr⟩ := Own.get W p ho'.own hs e3 e2 (fun b o e => (ho'.rows b o e).1)
   have hne : tk P u' ≠ .other := hO.tk_ne hg
   refine ⟨hne, cs', hO, ?_⟩
   have hl := hO.length W
   rw [W.kind _ _ hkk hne] at hl
   simp only [execOp, ho, Instr.loadAt, Instr.sureAddr, e1, Sem.run_bind, Sem.run_pure, Result.andThen_ok, run_loadVarRow W (hkk ▸ hne) hr hl]
  split at h <;> try contradiction
  ·rename_i hs
   obtain ⟨hne, cs', hO, hrun⟩ := main _ hs (by simp) (by simp) (by simp)
   exact Does.value hrun (Out.pure R h ⟨cs', (hO.leaf_of_imm.2).kind W.kind hkk, rfl⟩)
  ·rename_i s' hs
   obtain ⟨hne, cs', hO, hrun⟩ := main _ hs (by simp) (by simp) (by simp)
   refine Does.value hrun (Out.pure R h ?_)
   intro x2 hx2
   rw [hx'] at hx2
   injection hx2 with hx2
   subst hx2
   refine ⟨fun e => absurd e (not_it_of_get hs (by simp)), fun _ => ⟨u', e3, hkk, .inl ?_⟩⟩
   rw [hO.slc_hv, mkV_kind hkk]
  ·rename_i hs
   obtain ⟨hne, cs', hO, hrun⟩ := main _ hs (by simp) (by simp) (by simp)
   refine Does.value hrun (Out.pure R h ?_)
   intro x2 hx2
   rw [hx'] at hx2
   injection hx2 with hx2
   subst hx2
   refine ⟨fun e => absurd e (not_it_of_get hs (by simp)), fun _ => ⟨u', e3, hkk, .inl ?_⟩⟩
   rw [hO.mp_hv, mkV_kind hkk]
  ·rename_i l hs
   rw [cond_eq] at h
   split at h <;> try contradiction
   rename_i hw
   obtain ⟨hne, cs', hO, hrun⟩ := main _ hs (by simp) (by simp) (by simp)
   refine Does.value hrun (Out.pure R h ?_)
   intro x2 hx2
   refine ⟨cs', ?_, rfl⟩
   refine (hO.plain (fun _ _ h => h.1) 8 (.inr hw) fun b' hb hX => hX.2 ?_).kind W.kind hkk
   simp only [Ph.S, List.mem_append]
   exact .inl (sub_blocks p _ b' hb)
 ·rename_i k p u hav
  rw [cond_eq] at h
  split at h <;> try contradiction
  rename_i hk
  have hne : tk P t ≠ .other := by
   split at h <;> first | contradiction | (rename_i e hte; rw [hte]; simp)
  have h : onV K (.val k p t) := by
   split at h <;> first | contradiction | exact h
  rw [hav] at hx
  obtain ⟨b, off, cs, e1, e2, e3, e4, e5, e6⟩ := hx
  have hkk := sameK_eq hk
  have hl : cs.length = P.cellsOf t := by rw [e5]; exact W.kind _ _ hkk.symm (hkk ▸ hne)
  refine Does.value (v := mkV P t cs) (w' := w) ?_ (Out.pure R h ?_)
  ·simp only [execOp, ho, Instr.loadAt, Instr.sureAddr, e1, Sem.run_bind, Sem.run_pure, Result.andThen_ok, run_loadVarRow W hne e4 hl]
  ·intro x2 hx2
   obtain ⟨g1, g2⟩ := e6 x2 hx2
   rw [mkV_kind hkk]
   refine ⟨fun hit => ?_, fun hni => ?_⟩
   ·obtain ⟨m, m1, m2, m3⟩ := g1 hit
    exact ⟨m, m1, m2.trans hkk.symm, m3⟩
   ·obtain ⟨u', m1, m2, m3⟩ := g2 hni
    exact ⟨u', m1, m2.trans hkk.symm, m3⟩
 ·rename_i k u hav
  split at h <;> try contradiction
  rename_i e hte
  rw [cond_eq] at h
  split at h <;> try contradiction
  rw [hav] at hx
  obtain ⟨c, off, u', e1, e2, e3, e4, e5⟩ := hx
  have hne : tk P t ≠ .other := by rw [hte]; simp
  have hl : [u'].length = P.cellsOf t := (W.one' hte rfl (by simp)).symm
  refine Does.value (v := mkV P t [u']) (w' := w) ?_ (Out.pure R h ?_)
  ·simp only [execOp, ho, Instr.loadAt, Instr.sureAddr, e1, Sem.run_bind, Sem.run_pure, Result.andThen_ok, run_loadVarRow W hne e4 hl]
  ·rw [mkV_one (by rw [hte]; rfl)]
   exact e5

end
end Go.Ab

/- Arithmetic, addresses, lengths. -/
namespace Go.Ab
variable {P : Program} {A : Ann}
section
variable {X0 Y0 : Nat → Prop} {w0 : World} {g : St} {ph : Nat → Ph} {a : Act} {w : World} {o : Oper} {K : Dl → Prop}

theorem isB_eq {t : Nat} (h : isB P t = true) : tk P t = .bool := by
 unfold isB at h
 split at h
 ·assumption
 ·cases h
theorem isI_eq {t : Nat} (h : isI P t = true) : tk P t = .int .i64 := by
 unfold isI at h
 split at h
 ·assumption
 ·cases h

theorem data_flat {ob : Nat → Option Obj} {t : Nat} {av : AV} {d : D} (h : St.data P ob t av = some d) : av.flatA = true := by
 cases av <;> first | rfl | (simp [St.data] at h)

theorem slot_rep (W : WF P) (R : RelA P A X0 Y0 w0 g ph a w) {t : Nat} {x : Operand} {d : D} (h : St.data P (lookO g.ob) t (g.av x) = some d) :
  ∃ X1 : Nat → Prop, (∀ b, X1 b → Xof X0 (lookO g.ob) ph b) ∧ RepV P A X1 w t (a.eval x) d :=
 data_rep W R.objs ((AVR.eval R x).one (data_flat h)) h

theorem slot_int (W : WF P) (R : RelA P A X0 Y0 w0 g ph a w) {t : Nat} {x : Operand} {d : D} {k : IntKind} (hk : tk P t = .int k) (h : St.data P (lookO g.ob) t (g.av x) = some d) :
  ∃ n, a.eval x = .int k n ∧ d = .int n := by
 obtain ⟨X1, _, cs, hr, hv⟩ := slot_rep W R h
 cases hr <;> first
  | (rename_i h'; rw [hk] at h'; injection h' with h'; subst h'; exact ⟨_, hv.trans (mkV_one (by rw [hk]; rfl)), rfl⟩)
  | (exfalso; simp_all; done)

theorem slot_bool (W : WF P) (R : RelA P A X0 Y0 w0 g ph a w) {t : Nat} {x : Operand} {d : D} (hk : tk P t = .bool) (h : St.data P (lookO g.ob) t (g.av x) = some d) :
  ∃ b, a.eval x = .bool b ∧ d = .bool b := by
 obtain ⟨X1, _, cs, hr, hv⟩ := slot_rep W R h
 cases hr <;> first
  | exact ⟨_, hv.trans (mkV_one (by rw [hk]; rfl)), rfl⟩
  | (exfalso; simp_all; done)

theorem rep_int {X : Nat → Prop} {t : Nat} {k : IntKind} {n : Int} (hk : tk P t = .int k) : RepV P A X w t (.int k n) (.int n) := ⟨_, .int hk, (mkV_one (by rw [hk]; rfl)).symm⟩
theorem rep_bool {X : Nat → Prop} {t : Nat} {b : Bool} (hk : tk P t = .bool) : RepV P A X w t (.bool b) (.bool b) := ⟨_, .bool hk, (mkV_one (by rw [hk]; rfl)).symm⟩

theorem step_nilCheck {x : Operand} (ho : o.op = .nilCheck x) (R : RelA P A X0 Y0 w0 g ph a w) (h : match g.av x with
  | .ptr o p e => match lookO g.ob o with
   | some _ => K { v := .ptr o p e }
   | none => False
  | .iptr e d => K { v := .iptr e d }
  | .clo f l => K { v := .clo f l }
  | _ => False) : Does P o a w (Out P A X0 Y0 w0 g a K) := by
 have hx := AVR.eval R x
 split at h <;> try contradiction
 ·rename_i k p e hav
  split at h <;> try contradiction
  rename_i y hy
  rw [hav] at hx
  obtain ⟨b, off, u, e1, _⟩ := hx y hy
  refine Does.value (v := a.eval x) (w' := w) ?_ (Out.pure R h hx)
  simp only [execOp, ho, e1, Sem.run_pure]
 ·rename_i e d hav
  rw [hav] at hx
  have hx' := hx
  obtain ⟨b, off, cs, e1, _⟩ := hx
  refine Does.value (v := a.eval x) (w' := w) ?_ (Out.pure R h hx')
  simp only [execOp, ho, e1, Sem.run_pure]
 ·rename_i f l hav
  rw [hav] at hx
  have hx' := hx
  obtain ⟨vs, e1, _⟩ := hx
  refine Does.value (v := a.eval x) (w' := w) ?_ (Out.pure R h hx')
  simp only [execOp, ho, e1, Sem.run_pure]

theorem step_pick {c x y : Operand} (W : WF P) (ho : o.op = .pick c x y) (R : RelA P A X0 Y0 w0 g ph a w)
  (h : match g.av c with
  | .imm t d => cond (isB P t) (cond d.b (onV K (norm P o.type (g.av x))) (onV K (norm P o.type (g.av y)))) False
  | .con (.bool v) => cond v (onV K (norm P o.type (g.av x))) (onV K (norm P o.type (g.av y)))
  | _ => False) : Does P o a w (Out P A X0 Y0 w0 g a K) := by
 have key : ∀ b, a.eval c = .bool b → cond b (onV K (norm P o.type (g.av x))) (onV K (norm P o.type (g.av y))) → Does P o a w (Out P A X0 Y0 w0 g a K) := by
  intro b hb hK
  refine Does.value (v := if b then a.eval x else a.eval y) (w' := w) (by simp [execOp, ho, hb, asBool]) ?_
  cases b
  ·exact Out.pure R hK (norm_rel (AVR.eval R y))
  ·exact Out.pure R hK (norm_rel (AVR.eval R x))
 have hx := AVR.eval R c
 split at h <;> try contradiction
 ·rename_i t d hav
  have : St.data P (lookO g.ob) t (g.av c) = some d := by rw [hav]; simp [St.data, sameK, cond_eq]
  rw [cond_eq] at h
  split at h <;> try contradiction
  rename_i hb
  obtain ⟨b, e1, rfl⟩ := slot_bool W R (isB_eq hb) this
  exact key b e1 h
 ·rename_i v hav
  rw [hav] at hx
  exact key v hx h

theorem int_beq (m n : Int) : (m == n) = decide (m = n) := by rw [Bool.eq_iff_iff]; simp

theorem intOp_run {op : BinOp} {k : IntKind} {m n : Int} {K : D → Prop} {x y : Operand} {tx ty : Nat} (ho : o.op = .binOp op tx x y ty) (hx : a.eval x = .int k m) (hy : a.eval y = .int k n) (hs : op ≠ .shl ∧ op ≠ .shr) (h : intOp op k m n K) :
  ∃ v d, (execOp a.eval o).run P w = .ok (.value v) w ∧ K d ∧ ((∃ r, v = .int k r ∧ d = .int r) ∨ ∃ b, v = .bool b ∧ d = .bool b) := by
 have hg : ∀ w, (eqGuard op tx x y (.int k m) (.int k n)).run P w = .ok () w := by
  intro w
  unfold eqGuard
  cases op <;> simp
 unfold intOp at h
 split at h <;> try contradiction
 all_goals try (exact absurd rfl hs.1)
 all_goals try (exact absurd rfl hs.2)
 ·exact ⟨_, _, by simp only [execOp, ho, hx, hy, Sem.run_bind, hg, Result.andThen_ok]; simp [binOp, Op.intArith], h, .inl ⟨_, rfl, rfl⟩⟩
 ·exact ⟨_, _, by simp only [execOp, ho, hx, hy, Sem.run_bind, hg, Result.andThen_ok]; simp [binOp, Op.intArith], h, .inl ⟨_, rfl, rfl⟩⟩
 ·exact ⟨_, _, by simp only [execOp, ho, hx, hy, Sem.run_bind, hg, Result.andThen_ok]; simp [binOp, Op.intArith], h, .inl ⟨_, rfl, rfl⟩⟩
 ·exact ⟨_, _, by simp only [execOp, ho, hx, hy, Sem.run_bind, hg, Result.andThen_ok]; simp [binOp, Op.intDiv, h.1], h.2, .inl ⟨_, rfl, rfl⟩⟩
 ·exact ⟨_, _, by simp only [execOp, ho, hx, hy, Sem.run_bind, hg, Result.andThen_ok]; simp [binOp, Op.intDiv, h.1], h.2, .inl ⟨_, rfl, rfl⟩⟩
 ·exact ⟨_, _, by simp only [execOp, ho, hx, hy, Sem.run_bind, hg, Result.andThen_ok]; simp [binOp, Op.intBits], h, .inl ⟨_, rfl, rfl⟩⟩
 ·exact ⟨_, _, by simp only [execOp, ho, hx, hy, Sem.run_bind, hg, Result.andThen_ok]; simp [binOp, Op.intBits], h, .inl ⟨_, rfl, rfl⟩⟩
 ·exact ⟨_, _, by simp only [execOp, ho, hx, hy, Sem.run_bind, hg, Result.andThen_ok]; simp [binOp, Op.intBits], h, .inl ⟨_, rfl, rfl⟩⟩
 ·exact ⟨.bool (decide (m = n)), _, by simp only [execOp, ho, hx, hy, Sem.run_bind, hg, Result.andThen_ok]; simp [binOp, Op.intCmp, int_beq], h, .inr ⟨_, rfl, rfl⟩⟩
 ·exact ⟨.bool (!decide (m = n)), _, by simp only [execOp, ho, hx, hy, Sem.run_bind, hg, Result.andThen_ok]; simp [binOp, Op.intCmp, bne, int_beq], h, .inr ⟨_, rfl, rfl⟩⟩
 ·exact ⟨_, _, by simp only [execOp, ho, hx, hy, Sem.run_bind, hg, Result.andThen_ok]; simp [binOp, Op.intCmp], h, .inr ⟨_, rfl, rfl⟩⟩
 ·exact ⟨_, _, by simp only [execOp, ho, hx, hy, Sem.run_bind, hg, Result.andThen_ok]; simp [binOp, Op.intCmp], h, .inr ⟨_, rfl, rfl⟩⟩
 ·exact ⟨_, _, by simp only [execOp, ho, hx, hy, Sem.run_bind, hg, Result.andThen_ok]; simp [binOp, Op.intCmp], h, .inr ⟨_, rfl, rfl⟩⟩
 ·exact ⟨_, _, by simp only [execOp, ho, hx, hy, Sem.run_bind, hg, Result.andThen_ok]; simp [binOp, Op.intCmp], h, .inr ⟨_, rfl, rfl⟩⟩

end
end Go.Ab

/- The remaining operations that only compute or read. -/
namespace Go.Ab
variable {P : Program} {A : Ann}
section
variable {X0 Y0 : Nat → Prop} {w0 : World} {g : St} {ph : Nat → Ph} {a : Act} {w : World} {o : Oper} {K : Dl → Prop}

theorem res_kind {op : BinOp} {k : IntKind} {tr : Nat} (h : okRes P op k tr = true) :
  (resT P op tr = tr ∧ tk P tr = .int k ∧ op ≠ .eql ∧ op ≠ .neq ∧ op ≠ .lss ∧ op ≠ .leq ∧ op ≠ .gtr ∧ op ≠ .geq) ∨ (resT P op tr = P.rt.bool ∧ tk P P.rt.bool = .bool ∧ (op = .eql ∨ op = .neq ∨ op = .lss ∨ op = .leq ∨ op = .gtr ∨ op = .geq)) := by
 unfold okRes at h
 cases op <;> first
  | exact .inr ⟨rfl, isB_eq h, by simp⟩
  | exact .inl ⟨rfl, by simpa using h, by simp, by simp, by simp, by simp, by simp, by simp⟩

theorem step_int {op : BinOp} {tx ty : Nat} {x y : Operand} {k : IntKind} (W : WF P) (ho : o.op = .binOp op tx x y ty) (R : RelA P A X0 Y0 w0 g ph a w) (hk : tk P tx = .int k)
  (hs : op ≠ .shl ∧ op ≠ .shr) (hr : okRes P op k o.type = true) {dx dy : D} (hx : St.data P (lookO g.ob) tx (g.av x) = some dx) (hy : St.data P (lookO g.ob) tx (g.av y) = some dy)
  (h : intOp op k dx.i dy.i fun d => onV K (.imm (resT P op o.type) d)) : Does P o a w (Out P A X0 Y0 w0 g a K) := by
 obtain ⟨m, e1, rfl⟩ := slot_int W R hk hx
 obtain ⟨n, e2, rfl⟩ := slot_int W R hk hy
 obtain ⟨v, d, hrun, hK, hv⟩ := intOp_run (w := w) ho e1 e2 hs h
 refine Does.value hrun (Out.pure R hK ?_)
 rcases res_kind hr with ⟨h1, h2, n1, n2, n3, n4, n5, n6⟩ | ⟨h1, h2, hc⟩
 ·rcases hv with ⟨r, rfl, rfl⟩ | ⟨b, rfl, rfl⟩
  ·show RepV P A _ w _ _ _
   rw [h1]; exact rep_int h2
  ·exfalso
   simp only [execOp, ho, e1, e2, Sem.run_bind] at hrun
   cases op <;> simp_all [eqGuard, binOp, Op.intArith, Op.intDiv, Op.intBits, intOp, D.i]
 ·rcases hv with ⟨r, rfl, rfl⟩ | ⟨b, rfl, rfl⟩
  ·exfalso
   simp only [execOp, ho, e1, e2, Sem.run_bind] at hrun
   rcases hc with rfl | rfl | rfl | rfl | rfl | rfl <;> simp [eqGuard, binOp, Op.intCmp] at hrun
  ·show RepV P A _ w _ _ _
   rw [h1]; exact rep_bool h2

theorem step_shift {op : BinOp} {tx ty : Nat} {x y : Operand} {k k' : IntKind} (W : WF P) (ho : o.op = .binOp op tx x y ty) (R : RelA P A X0 Y0 w0 g ph a w) (hk : tk P tx = .int k) (hk' : tk P ty = .int k')
  (hs : op = .shl ∨ op = .shr) (hr : okRes P op k o.type = true) {dx dy : D} (hx : St.data P (lookO g.ob) tx (g.av x) = some dx) (hy : St.data P (lookO g.ob) ty (g.av y) = some dy)
  (h : shOp op k dx.i dy.i fun d => onV K (.imm (resT P op o.type) d)) : Does P o a w (Out P A X0 Y0 w0 g a K) := by
 obtain ⟨m, e1, rfl⟩ := slot_int W R hk hx
 obtain ⟨n, e2, rfl⟩ := slot_int W R hk' hy
 rcases res_kind hr with ⟨h1, h2, _⟩ | ⟨_, _, hc⟩
 ·rcases hs with rfl | rfl
  ·obtain ⟨hn, hK⟩ := h
   have hn' : ¬ n < 0 := by simpa [D.i] using hn
   refine Does.value (v := .int k (k.wrap (m * 2 ^ min n.toNat k.bits))) (w' := w) ?_ (Out.pure R hK (by show RepV P A _ w _ _ _; rw [h1]; exact rep_int h2))
   simp [execOp, ho, e1, e2, eqGuard, binOp, Op.shift, hn']
  ·obtain ⟨hn, hK⟩ := h
   have hn' : ¬ n < 0 := by simpa [D.i] using hn
   refine Does.value (v := .int k (m.fdiv (2 ^ min n.toNat k.bits))) (w' := w) ?_ (Out.pure R hK (by show RepV P A _ w _ _ _; rw [h1]; exact rep_int h2))
   simp [execOp, ho, e1, e2, eqGuard, binOp, Op.shift, hn']
 ·rcases hs with rfl | rfl <;> simp at hc

theorem step_unOp {op : UnOp} {t : Nat} {x : Operand} (W : WF P) (ho : o.op = .unOp op t x) (R : RelA P A X0 Y0 w0 g ph a w) (h : unD P (lookO g.ob) op t (g.av x) (onV K)) : Does P o a w (Out P A X0 Y0 w0 g a K) := by
 unfold unD at h
 split at h <;> try contradiction
 ·rename_i k d hk hd
  obtain ⟨n, e, rfl⟩ := slot_int W R hk hd
  exact Does.value (v := .int k (k.wrap (0 - n))) (w' := w) (by simp [execOp, ho, e, Op.unary, Op.intArith]) (Out.pure R h (rep_int hk))
 ·rename_i d hk hd
  obtain ⟨b, e, rfl⟩ := slot_bool W R hk hd
  exact Does.value (v := .bool (!b)) (w' := w) (by simp [execOp, ho, e, Op.unary]) (Out.pure R h (rep_bool hk))

theorem step_convert {s d : Nat} {x : Operand} (W : WF P) (ho : o.op = .convert s d x) (R : RelA P A X0 Y0 w0 g ph a w) (h : match tk P s, tk P d, St.data P (lookO g.ob) s (g.av x) with
  | .int _, .int k, some a => K { v := .imm d (.int (k.wrap a.i)) }
  | _, _, _ => False) : Does P o a w (Out P A X0 Y0 w0 g a K) := by
 split at h <;> try contradiction
 rename_i k k' dx hs hd hx
 obtain ⟨n, e, rfl⟩ := slot_int W R hs hx
 refine Does.value (v := .int k' (k'.wrap n)) (w' := w) ?_ (Out.pure R h (rep_int hd))
 simp [execOp, ho, e, convert, run_underlying (und_int hs), run_underlying (und_int hd), Conv.intToInt]

theorem intOf_eval (W : WF P) (R : RelA P A X0 Y0 w0 g ph a w) {x : Operand} {n : Int} (h : intOf P (g.av x) = some n) : ∃ k, a.eval x = .int k n := by
 have hx := AVR.eval R x
 unfold intOf at h
 split at h <;> try contradiction
 ·rename_i t d hav
  split at h <;> try contradiction
  rename_i k hk
  simp only [Option.some.injEq] at h
  have : St.data P (lookO g.ob) t (g.av x) = some d := by rw [hav]; simp [St.data, sameK, cond_eq]
  obtain ⟨m, e, rfl⟩ := slot_int W R hk this
  exact ⟨k, by rw [e]; simpa [D.i] using h⟩
 ·rename_i k m hav
  rw [hav] at hx
  simp only [Option.some.injEq] at h
  exact ⟨k, by rw [← h]; exact hx⟩

theorem step_index {t : Nat} {x i : Operand} (W : WF P) (ho : o.op = .index t x i) (R : RelA P A X0 Y0 w0 g ph a w) (h : indexSD P (lookO g.ob) t o.type (g.av x) (g.av i) (onV K)) : Does P o a w (Out P A X0 Y0 w0 g a K) := by
 unfold indexSD at h
 split at h <;> try contradiction
 rename_i d n hk hd hn
 rw [cond_eq] at h
 split at h <;> try contradiction
 rename_i ht
 have ht' : tk P o.type = .int .u8 := by simpa using ht
 obtain ⟨⟨h0, h1⟩, h⟩ := h
 obtain ⟨k, hi⟩ := intOf_eval W R hn
 obtain ⟨X1, _, cs, hr, hv⟩ := slot_rep W R hd
 obtain ⟨s, hs, rfl⟩ : ∃ s, a.eval x = .string s ∧ d = .str s := by
  cases hr <;> first
   | exact ⟨_, hv.trans (mkV_one (by rw [hk]; rfl)), rfl⟩
   | (exfalso; simp_all; done)
 simp only [D.s] at h1 h
 have hlt : n.toNat < s.size := by omega
 have hg : s[n.toNat]? = some (s.data.getD n.toNat 0) := by
  rw [getElem?_pos s n.toNat hlt]
  simp [Array.getD, ByteArray.getElem_eq_getElem_data]
  intro e
  omega
 refine Does.value (v := .int .u8 ((s.data.getD n.toNat 0).toNat : Int)) (w' := w) ?_ (Out.pure R h (rep_int ht'))
 have ha : (asIntOf (.int k n)).run P w = .ok (k, n) w := rfl
 simp only [execOp, ho, hs, hi, Instr.index, Sem.run_bind, ha, Result.andThen_ok, run_underlying (und_str hk), if_pos h0, hg, Sem.run_pure]

theorem step_fieldAddr {s : Nat} {x : Operand} {j : Nat} (W : WF P) (ho : o.op = .fieldAddr s x j) (R : RelA P A X0 Y0 w0 g ph a w)
  (h : fieldD P (lookO g.ob) s (g.av x) j (onV K)) : Does P o a w (Out P A X0 Y0 w0 g a K) := by
 have hx := AVR.eval R x
 unfold fieldD at h
 split at h <;> try contradiction
 rename_i fs hs
 split at h <;> try contradiction
 rename_i ft off hj
 rw [cond_eq] at h
 split at h <;> try contradiction
 rename_i hz
 have hz' : P.cellsOf ft ≠ 0 := fun e => hz (beq_iff.2 e)
 obtain ⟨f, hf, hfs⟩ := und_struct hs
 have hne := (W.struct _ _ hs _ _ _ hj).2
 obtain ⟨fd, hfd, hft, hfo⟩ : ∃ fd : Field, f[j]? = some fd ∧ fd.type = ft ∧ fd.offset = off := by
  rw [hfs] at hj
  simp only [List.getElem?_map, Option.map_eq_some_iff, Array.getElem?_toList] at hj
  obtain ⟨fd, h1, h2⟩ := hj
  simp only [Prod.mk.injEq] at h2
  exact ⟨fd, h1, h2.1, h2.2⟩
 have hrun : ∀ b o1, a.eval x = .pointer (some ⟨b, o1, none⟩) → (execOp a.eval o).run P w = .ok (.value (.pointer (some ⟨b, o1 + off, none⟩))) w := by
  intro b o1 e
  simp [execOp, ho, e, Instr.fieldAt, run_underlying hf, hfd, Instr.sureAddr, fieldPlace, hft, run_sizeOf hne, hz', addr_add, hfo]
 split at h <;> try contradiction
 ·rename_i u d hav
  rw [cond_eq] at h
  split at h <;> try contradiction
  rename_i hk
  rw [hav] at hx
  obtain ⟨b, o1, cs, e1, e2, e3, e4, e5⟩ := hx
  refine Does.value (hrun b o1 e1) (Out.pure R h ?_)
  have hR := e5.kind W.kind (sameK_eq hk).symm
  cases hR with
  | struct h' hc hd hf' =>
   rw [hs] at h'
   injection h' with h'
   subst h'
   exact ⟨b, o1 + off, _, rfl, e2, e3, e4.sub (by rw [hc]; exact (W.struct _ _ hs _ _ _ hj).1), hf' j ft off hj⟩
  | _ => simp_all
 ·rename_i k p u hav
  rw [cond_eq] at h
  split at h <;> try contradiction
  rename_i hk
  split at h <;> try contradiction
  rename_i y hy
  rw [hav] at hx
  obtain ⟨b, o1, u', e1, e2, e3, e4⟩ := hx y hy
  refine Does.value (hrun b o1 e1) (Out.pure R h ?_)
  intro x2 hx2
  rw [hy] at hx2
  injection hx2 with hx2
  subst hx2
  have htk : tk P u' = .struct fs := (e4.trans (sameK_eq hk).symm).trans hs
  have hloc : ∀ (p : Pth) (lc : Option (Nat × Nat)) (t : Nat) (L : Lt), Lt.loc P lc t L p = some (b, o1) → tyAt P t p = some u' → Lt.loc P lc t L (p ++ [.fld j]) = some (b, o1 + off) ∧ tyAt P t (p ++ [.fld j]) = some ft := by
   intro p
   induction p with
   | nil =>
    intro lc t L h1 h2
    simp only [Lt.loc, tyAt, Option.some.injEq] at h1 h2
    subst h1 h2
    simp only [List.nil_append, Lt.loc, tyAt, htk, hj, Option.map_some, and_self]
   | cons z p ih =>
    intro lc t L h1 h2
    cases z with
    | fld i =>
     simp only [List.cons_append, Lt.loc, tyAt] at h1 h2 ⊢
     split at h2 <;> try contradiction
     rename_i hk'
     rw [hk'] at h1
     simp only at h1
     split at h2 <;> try contradiction
     rename_i hj'
     rw [hj'] at h1
     exact ih _ _ _ h1 h2
    | idx i =>
     cases L <;> simp only [List.cons_append, Lt.loc, tyAt, reduceCtorEq] at h1 h2 ⊢
     split at h2 <;> try contradiction
     rename_i hk'
     rw [hk'] at h1
     simp only at h1
     split at h1 <;> try contradiction
     rename_i hi
     simp only [if_pos hi]
     exact ih _ _ _ h1 h2
    | arr i =>
     simp only [List.cons_append, Lt.loc, tyAt] at h1 h2 ⊢
     split at h2 <;> try contradiction
     rename_i hk'
     rw [hk'] at h1
     simp only at h1
     split at h2 <;> try contradiction
     rename_i hi
     simp only [if_pos hi] at h1 ⊢
     exact ih _ _ _ h1 h2
  obtain ⟨g1, g2⟩ := hloc p _ _ _ e2 e3
  exact ⟨b, o1 + off, ft, rfl, g1, g2, rfl⟩
 ·rename_i k u hav
  rw [cond_eq] at h
  split at h <;> try contradiction
  rename_i hk
  split at h <;> try contradiction
  rename_i y hy
  split at h <;> try contradiction
  rename_i s0 hs0
  rw [hav] at hx
  obtain ⟨b, o1, cs, e1, e2, e3, e4, e5, e6⟩ := hx
  have hO := R.objs.ok k y hy
  have hni : y.sh ≠ .it := not_it_of_get hs0 (by simp)
  obtain ⟨l, hsh⟩ : ∃ l, y.sh = .agg l := by
   cases hsh : y.sh with
   | agg l => exact ⟨l, rfl⟩
   | imm => rw [hsh] at hs0; simp [Sh.get, Sh.fld] at hs0
   | _ => rw [hsh] at hs0; simp [Sh.get, Sh.fld] at hs0
  obtain ⟨u', g1, g2, g3⟩ := (e6 y hy).2 hni
  simp only [tyAt, Option.some.injEq] at g1
  subst g1
  have hus : tk P u = .struct fs := (sameK_eq hk).symm.trans hs
  have hyt : tk P y.t = .struct fs := g2.trans hus
  have hown := hO.own
  have hcs : cs = (ph k).cs := by
   rcases g3 with g3 | ⟨_, _, g3⟩
   ·exfalso
    rw [hsh] at hown
    simp only [Lt.sub] at g3
    generalize (ph k).L = L at hown g3
    generalize y.d = dd at hown
    generalize (ph k).cs = cc at hown
    cases hown with
    | agg => simp [Lt.hv] at g3
   ·simp only [mkV, hus, hyt, isAgg, if_true, Value.agg.injEq] at g3
    have := congrArg Array.toList g3
    simpa using this
  subst hcs
  obtain ⟨ds, hd, hdl, hcl, hf'⟩ := hown.fields hyt (fun j => by rw [hsh]; exact ⟨_, rfl⟩)
  have hsj : y.sh.fld j = some (.slc s0 none) := by
   simp only [Sh.get] at hs0
   split at hs0
   ·rename_i u2 hu2
    rw [hu2]
    simpa [Sh.get] using hs0
   ·cases hs0
  have hF := hf' j ft off hj _ hsj
  have hle := (W.struct _ _ hyt _ _ _ hj).1
  refine Does.value (hrun b o1 e1) (Out.pure R h ?_)
  refine ⟨b, o1 + off, _, rfl, e2, e3, e4.sub (o := off) (n := P.cellsOf ft) (by rw [hcl]; exact hle), seg_length (by rw [hcl]; exact hle), fun x2 hx2 => ?_⟩
  rw [hy] at hx2
  injection hx2 with hx2
  subst hx2
  refine ⟨fun e => absurd e hni, fun _ => ⟨ft, ?_, rfl, .inl ?_⟩⟩
  ·simp only [tyAt, hyt, hj]
  ·exact hF.slc_hv

end
end Go.Ab
