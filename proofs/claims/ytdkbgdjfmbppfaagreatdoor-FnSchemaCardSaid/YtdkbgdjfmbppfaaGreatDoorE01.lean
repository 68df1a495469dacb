/- Part 01 of the proof of a law: the interpreter, its soundness, and what functions of the program compute over it. Conditions: none but those that each theorem names. -/
import GoSem.Dispatch
import Derived.Orders
import Derived.LoopN
import Derived.Laws.Sem
import Derived.Laws.World
import Derived.Below
import Derived.Laws.Cells
import Derived.Laws.Entries
import Derived.Laws.StructEq
import Derived.Laws.Strings
import Derived.Lib.ConvBytes

set_option linter.all false
set_option maxRecDepth 20000
set_option maxHeartbeats 40000000
section
namespace Go.Lite
open Go
inductive V where
 | int (k : IntKind) (n : Int)
 | bool (b : Bool)
 | str (s : List UInt8)
 | ptr (p : Option (Nat × Nat))
 | slc (p : Option (Nat × Nat)) (n : Nat)
 | agg (cs : List V)
 | tup (vs : List V)
 | fn (f : Nat) (first cap : List V)
 | nilfn
 | niface
 | someif
 | undef
inductive R where
 | val (v : V)
 | box (c : Nat) (cells : List V)
 | ref (t : Nat) (c : Nat) (off : Nat)
inductive Ob where
 | dead
 | mk (own : Bool) (es : Nat) (cells : List V)
structure St where
 regs : Nat → R
 cnt : Nat
 heap : List Ob
inductive LD where
 | int (k : IntKind) | bool | str | ptr | func | iface
 | slice (e : Nat)
 | array (n : Nat) (e : Nat)
 | struct (fs : List (Nat × Nat))
 | other
structure LT where
 desc : LD
 size : Nat
 bytes : Nat
 zero : List V
def LT.isAgg (T : LT) : Bool := match T.desc with | .struct _ | .array _ _ => true | _ => false
def LT.num (T : LT) : Nat := if T.isAgg then T.size else 1
def LT.none : LT := { desc := .other, size := 0, bytes := 0, zero := [] }
abbrev bU := Nat → List V → List Ob → Option (V × List Ob)
structure Hint where
 ord : List Nat
 calm : List Nat
 old : List Nat
 locs : List (Nat × Nat)
 res : List (Nat × Nat)
 hid : List (Nat × List Nat)
 exc : List Nat := []
structure Ctx where
 ty : Nat → LT
 locs : Nat → List Nat
 ord : Nat → Nat → Option Hint
 prim : Nat → Option (List V → List Ob → Option (V × List Ob))
 fids : Nat → Bool
 funcs : Nat → Option Func
def upd (r : Nat → R) (d : Nat) (x : R) : Nat → R := fun i => if i = d then x else r i
def St.put (σ : St) (d : Option Nat) (x : R) : St :=
 match d with
 | some d => { σ with regs := upd σ.regs d x }
 | none => σ
def toV1 : Value → V
 | .int k n => .int k n
 | .bool b => .bool b
 | .string s => .str s.data.toList
 | .slice none 0 0 => .slc none 0
 | .pointer none => .ptr none
 | .nilFunc => .nilfn
 | .nilIface => .niface
 | _ => .undef
def toV : Value → V
 | .agg cs => .agg (cs.toList.map toV1)
 | v => toV1 v
def cellsOf : V → Option (List V)
 | .undef => none
 | .tup _ => none
 | .agg cs => some cs
 | v => some [v]
def aJ : V → Bool
 | .undef => false
 | .tup _ => false
 | .agg _ => false
 | _ => true
def iU (σ : St) : Operand → Option R
 | .tmp t => match σ.regs t with
  | .val v => some (.val v)
  | .box c _ => some (.ref t c 0)
  | .ref t c off => some (.ref t c off)
 | .const v => some (.val (toV v))
 | .func f => some (.val (.fn f [] []))
 | .global _ => none
def ev (σ : St) : Operand → Option V
 | .tmp t => match σ.regs t with
  | .val v => some v
  | _ => none
 | .const v => some (toV v)
 | .func f => some (.fn f [] [])
 | .global _ => none
def FD (c : Bool) (x y : V) : V :=
 match x, y with
 | .bool a, .bool b => .bool (if c then a else b)
 | x, y => if c then x else y
inductive Pl where
 | loc (t c off : Nat)
 | hp (id off : Nat)
def Pl.off : Pl → Nat
 | .loc _ _ o => o
 | .hp _ o => o
def lG : R → Option Pl
 | .ref t c off => some (.loc t c off)
 | .val (.ptr (some (id, off))) => some (.hp id off)
 | _ => none
def cellsAt (σ : St) : Pl → Option (List V)
 | .loc t c _ => match σ.regs t with
  | .box c' cells => if c' = c then some cells else none
  | _ => none
 | .hp id _ => match σ.heap[id]? with
  | some (.mk _ _ cells) => some cells
  | _ => none
def dO (cells : List V) (off n : Nat) : Option (List V) :=
 if off + n ≤ cells.length then some ((cells.drop off).take n) else none
def JW (agg : Bool) (cs : List V) : V := if agg then .agg cs else cs.headD .undef
def setRange (cells : List V) (off : Nat) (xs : List V) : List V := cells.take off ++ xs ++ cells.drop (off + xs.length)
def loadAt (T : LT) (σ : St) (p : Pl) : Option V :=
 if T.size = 0 then none else
 match cellsAt σ p with
 | some cells => match dO cells p.off T.num with
  | some cs => some (JW T.isAgg cs)
  | none => none
 | none => none
def dB (σ : St) (p : Pl) (xs : List V) : Option St :=
 match p with
 | .loc t c off => match σ.regs t with
  | .box c' cells => if c' = c ∧ off + xs.length ≤ cells.length then some { σ with regs := upd σ.regs t (.box c (setRange cells off xs)) } else none
  | _ => none
 | .hp id off => match σ.heap[id]? with
  | some (.mk true es cells) => if off + xs.length ≤ cells.length then some { σ with heap := σ.heap.set id (.mk true es (setRange cells off xs)) } else none
  | _ => none
def storeAt (T : LT) (σ : St) (p : Pl) (v : V) : Option St :=
 match cellsOf v with
 | some xs => if 0 < T.size ∧ xs.length = T.size ∧ xs.all aJ = true then dB σ p xs else none
 | none => none
def maxStr : Nat := 4611686018427387904   -- 2 ^ 62
def aB : Nat := 1099511627776   -- 2 ^ 40
def iO (op : BinOp) (k : IntKind) (a b : Int) : Option V :=
 match op with
 | .add => some (.int k (k.wrap (a + b)))
 | .sub => some (.int k (k.wrap (a - b)))
 | .mul => some (.int k (k.wrap (a * b)))
 | .quo => if b = 0 then none else some (.int k (k.wrap (a.tdiv b)))
 | .rem => if b = 0 then none else some (.int k (a.tmod b))
 | .and => some (.int k (k.wrap (BitVec.ofInt k.bits a &&& BitVec.ofInt k.bits b).toNat))
 | .or => some (.int k (k.wrap (BitVec.ofInt k.bits a ||| BitVec.ofInt k.bits b).toNat))
 | .xor => some (.int k (k.wrap (BitVec.ofInt k.bits a ^^^ BitVec.ofInt k.bits b).toNat))
 | .andNot => some (.int k (k.wrap (BitVec.ofInt k.bits a &&& ~~~ BitVec.ofInt k.bits b).toNat))
 | .eql => some (.bool (a == b))
 | .neq => some (.bool (a != b))
 | .lss => some (.bool (decide (a < b)))
 | .leq => some (.bool (decide (a ≤ b)))
 | .gtr => some (.bool (decide (a > b)))
 | .geq => some (.bool (decide (a ≥ b)))
 | .shl | .shr => none
def jG (op : BinOp) (k : IntKind) (a b : Int) : Option V :=
 if b < 0 then none else
 match op with
 | .shl => some (.int k (k.wrap (a * 2 ^ (min b.toNat k.bits))))
 | .shr => some (.int k (a.fdiv (2 ^ (min b.toNat k.bits))))
 | _ => none
def yS (op : BinOp) (a b : List UInt8) : Option V :=
 match op with
 | .add => if a.length + b.length ≤ maxStr then some (.str (a ++ b)) else none
 | .eql => some (.bool (a == b))
 | .neq => some (.bool (!(a == b)))
 | .lss => some (.bool (Op.bytesLess a b))
 | .leq => some (.bool (Op.bytesLess a b || a == b))
 | .gtr => some (.bool (!(Op.bytesLess a b || a == b)))
 | .geq => some (.bool (!(Op.bytesLess a b)))
 | _ => none
def uC : BinOp → Bool
 | .shl | .shr => true
 | _ => false
def CU (T : LT) (k : Bool) (op : BinOp) (x y : V) : Option V :=
 match x, y with
 | .int k a, .int k' b => if uC op then jG op k a b else if k = k' then iO op k a b else none
 | .str a, .str b => yS op a b
 | .bool a, .bool b => match T.desc, op with
  | .bool, .eql => some (.bool (a == b))
  | .bool, .neq => some (.bool (!(a == b)))
  | _, _ => none
 | .slc a _, .slc none 0 => match T.desc, op with
  | .slice _, .eql => some (.bool a.isNone)
  | .slice _, .neq => some (.bool (!a.isNone))
  | _, _ => none
 | .ptr a, .ptr none => match T.desc, op with
  | .ptr, .eql => some (.bool a.isNone)
  | .ptr, .neq => some (.bool (!a.isNone))
  | _, _ => none
 | .niface, .niface => match T.desc, op with
  | .iface, .eql => if k then some (.bool true) else none
  | .iface, .neq => if k then some (.bool false) else none
  | _, _ => none
 | .someif, .niface => match T.desc, op with
  | .iface, .eql => some (.bool false)
  | .iface, .neq => some (.bool true)
  | _, _ => none
 | _, _ => none
def P9 (op : UnOp) (x : V) : Option V :=
 match op, x with
 | .not, .bool b => some (.bool (!b))
 | .neg, .int k n => some (.int k (k.wrap (0 - n)))
 | .xor, .int k n => iO .xor k (if k.signed then -1 else k.max) n
 | _, _ => none
def Gz (b : Bool) : Option Bool → Option Bool
 | some r => some (b && r)
 | none => none
def eqF (ty : Nat → LT) : List (Nat × Nat) → Nat → List V → List V → Option Bool
 | [], _, [], [] => some true
 | (o, t) :: fs, i, x :: xs, y :: ys => if o = i then match (ty t).desc, x, y with
   | .str, .str a, .str b => Gz (a == b) (eqF ty fs (i + 1) xs ys)
   | .int _, .int k a, .int k' b => if k = k' then Gz (a == b) (eqF ty fs (i + 1) xs ys) else none
   | .bool, .bool a, .bool b => Gz (a == b) (eqF ty fs (i + 1) xs ys)
   | _, _, _ => none
  else none
 | _, _, _, _ => none
def Mc (ty : Nat → LT) (t : Nat) (op : BinOp) (x y : V) : Option V :=
 match (ty t).desc, x, y with
 | .struct fs, .agg xs, .agg ys => match eqF ty fs 0 xs ys, op with
  | some r, .eql => some (.bool r)
  | some r, .neq => some (.bool (!r))
  | _, _ => none
 | _, _, _ => none
def gy : V → Option UInt8
 | .int .u8 n => some (UInt8.ofNat n.toNat)
 | _ => none
def aQ (H : List Ob) (p : Option (Nat × Nat)) (k : Nat) : Option (List V) :=
 match p with
 | none => if k = 0 then some [] else none
 | some (id, off) => if k = 0 then some [] else match H[id]? with
  | some (.mk _ _ cells) => dO cells off k
  | _ => none
def isByte (T : LT) : Bool := match T.desc with | .int .u8 => true | _ => false
def tX (ty : Nat → LT) (S D : LT) (H : List Ob) (x : V) : Option V :=
 match S.desc, D.desc, x with
 | .int _, .int k, .int _ n => some (.int k (k.wrap n))
 | .str, .str, .str s => some (.str s)
 | .slice e, .str, .slc p n => if isByte (ty e) then match aQ H p n with
   | some cs => match cs.mapM gy with
    | some bs => some (.str bs)
    | none => none
   | none => none
  else none
 | _, _, _ => none
def rJ (T : LT) (ty : Nat → LT) (x : R) (f : Nat) : Option R :=
 match T.desc with
 | .struct fs => match fs[f]? with
  | some (off, t) => if (ty t).size = 0 then none else match x with
   | .ref b c o => some (.ref b c (o + off))
   | .val (.ptr (some (id, o))) => some (.val (.ptr (some (id, o + off))))
   | _ => none
  | none => none
 | _ => none
def mP (T : LT) (cs : List V) (off : Nat) : Option V :=
 match dO cs off T.num with
 | some xs => some (JW T.isAgg xs)
 | none => none
def jO (T : LT) (ty : Nat → LT) (x : V) (f : Nat) : Option V :=
 match T.desc, x with
 | .struct fs, .agg cs => match fs[f]? with
  | some (off, t) => if (ty t).size = 0 then none else mP (ty t) cs off
  | none => none
 | _, _ => none
def dE (T : LT) (ty : Nat → LT) (x : R) (i : V) : Option R :=
 match T.desc, x, i with
 | .slice e, .val (.slc (some (id, off)) n), .int _ i => if 0 ≤ i ∧ i < n then (if (ty e).size = 0 then none else some (.val (.ptr (some (id, off + i.toNat * (ty e).size))))) else none
 | .array n e, .ref b c off, .int _ i => if 0 ≤ i ∧ i < n then (if (ty e).size = 0 then none else some (.ref b c (off + i.toNat * (ty e).size))) else none
 | .array n e, .val (.ptr (some (id, off))), .int _ i => if 0 ≤ i ∧ i < n then (if (ty e).size = 0 then none else some (.val (.ptr (some (id, off + i.toNat * (ty e).size))))) else none
 | _, _, _ => none
def zQ (T : LT) (ty : Nat → LT) (x i : V) : Option V :=
 match T.desc, x, i with
 | .str, .str s, .int _ i => if 0 ≤ i then match s[i.toNat]? with
   | some b => some (.int .u8 b.toNat)
   | none => none
  else none
 | .array n e, .agg cs, .int _ i => if 0 ≤ i ∧ i < n ∧ (ty e).size ≠ 0 then mP (ty e) cs (i.toNat * (ty e).size) else none
 | _, _, _ => none
def eX (σ : St) (d : Nat) : Option Operand → Option Nat
 | none => some d
 | some x => match ev σ x with
  | some (.int _ i) => if 0 ≤ i then some i.toNat else none
  | _ => none
def reaches (H : List Ob) (id off es h : Nat) : Bool :=
 match H[id]? with
 | some (.mk _ es' cells) => es' == es && decide (0 < es) && decide (off + h * es ≤ cells.length)
 | _ => false
def aY (H : List Ob) (id es : Nat) : Bool :=
 match H[id]? with
 | some (.mk _ es' _) => es' == es
 | _ => false
def pY (T : LT) (ty : Nat → LT) (σ : St) (x : V) (lo hi mx : Option Operand) : Option V :=
 match T.desc, x with
 | .str, .str s => match mx, eX σ 0 lo, eX σ s.length hi with
  | none, some l, some h => if l ≤ h ∧ h ≤ s.length then some (.str ((s.take h).drop l)) else none
  | _, _, _ => none
 | .slice e, .slc none 0 => match mx, eX σ 0 lo, eX σ 0 hi with
  | none, some 0, some 0 => if (ty e).size = 0 then none else some (.slc none 0)
  | _, _, _ => none
 | .slice e, .slc (some (id, off)) n => if (ty e).size = 0 then none else match eX σ 0 lo, eX σ n hi with
  | some l, some h => match mx with
   | none => if l ≤ h ∧ (h ≤ n ∨ reaches σ.heap id off (ty e).size h = true) then (if aY σ.heap id (ty e).size then some (.slc (some (id, off + l * (ty e).size)) (h - l)) else none) else none
   | some m => match hi, eX σ 0 (some m) with
    | some _, some m => if l ≤ h ∧ h ≤ m ∧ (m ≤ n ∨ reaches σ.heap id off (ty e).size m = true) then some .undef else none
    | _, _ => none
  | _, _ => none
 | _, _ => none
def ax (place : Nat → Option (Nat × Nat)) (cells : List V) : List (Nat × V) → Option (List V)
 | [] => some cells
 | (i, v) :: rest => match place i, cellsOf v with
  | some (off, size), some xs => if xs.length = size ∧ off + size ≤ cells.length then ax place (setRange cells off xs) rest else none
  | _, _ => none
def ik (σ : St) : List (Nat × Operand) → Option (List (Nat × V))
 | [] => some []
 | (i, x) :: rest => match ev σ x, ik σ rest with
  | some v, some vs => some ((i, v) :: vs)
  | _, _ => none
def ak (ty : Nat → LT) (fs : List (Nat × Nat)) (i : Nat) : Option (Nat × Nat) :=
 match fs[i]? with
 | some (off, t) => if (ty t).size = 0 then none else some (off, (ty t).size)
 | none => none
def aH (T : LT) (ty : Nat → LT) (parts : List (Nat × V)) : Option V :=
 match T.desc with
 | .struct fs => match ax (ak ty fs) T.zero parts with
  | some cs => some (.agg cs)
  | none => none
 | .array _ e => if (ty e).size = 0 then none else match ax (fun i => some (i * (ty e).size, (ty e).size)) T.zero parts with
  | some cs => some (.agg cs)
  | none => none
 | _ => none
def evs (σ : St) : List Operand → Option (List V)
 | [] => some []
 | x :: rest => match ev σ x, evs σ rest with
  | some v, some vs => some (v :: vs)
  | _, _ => none
def lenV (T : LT) (x : V) : Option V :=
 match T.desc, x with
 | .str, .str s => some (.int .i64 s.length)
 | .slice _, .slc _ n => some (.int .i64 n)
 | _, _ => none
def L6 : List V → Option V
 | [.int k a, .int k' b] => if k = k' then some (.int k (if b < a then b else a)) else none
 | _ => none
def LW : List V → Option V
 | [.int k a, .int k' b] => if k = k' then some (.int k (if b > a then b else a)) else none
 | _ => none
def isK : Operand → Bool
 | .const _ => true
 | _ => false
def KI (T : LT) (x : V) : Option V :=
 match T.desc, x with
 | .slice _, .slc none 0 => some (.int .i64 0)
 | _, _ => none
def sG (C : Ctx) (σ : St) : Op → Option R
 | .move x => iU σ x
 | .assign x => iU σ x
 | .pick c a b => match ev σ c, ev σ a, ev σ b with
  | some (.bool c), some x, some y => some (.val (FD c x y))
  | _, _, _ => none
 | .load t x => match iU σ x with
  | some r => match lG r with
   | some p => match loadAt (C.ty t) σ p with
    | some v => some (.val v)
    | none => none
   | none => none
  | none => none
 | .nilCheck x => match iU σ x with
  | some (.ref a b c) => some (.ref a b c)
  | some (.val (.ptr (some p))) => some (.val (.ptr (some p)))
  | some (.val (.fn f a b)) => some (.val (.fn f a b))
  | _ => none
 | .binOp op t x y _ => match ev σ x, ev σ y with
  | some a, some b => match CU (C.ty t) (isK x || isK y) op a b with
   | some v => some (.val v)
   | none => match Mc C.ty t op a b with
    | some v => some (.val v)
    | none => none
  | _, _ => none
 | .unOp op _ x => match ev σ x with
  | some a => match P9 op a with
   | some v => some (.val v)
   | none => none
  | none => none
 | .convert s d x => match ev σ x with
  | some a => match tX C.ty (C.ty s) (C.ty d) σ.heap a with
   | some v => some (.val v)
   | none => none
  | none => none
 | .fieldAddr t x f => match iU σ x with
  | some r => rJ (C.ty t) C.ty r f
  | none => none
 | .field t x f => match ev σ x with
  | some a => match jO (C.ty t) C.ty a f with
   | some v => some (.val v)
   | none => none
  | none => none
 | .indexAddr t x i => match iU σ x, ev σ i with
  | some r, some i => dE (C.ty t) C.ty r i
  | _, _ => none
 | .index t x i => match ev σ x, ev σ i with
  | some a, some i => match zQ (C.ty t) C.ty a i with
   | some v => some (.val v)
   | none => none
  | _, _ => none
 | .extract x i => match ev σ x with
  | some (.tup vs) => match vs[i]? with
   | some v => some (.val v)
   | none => none
  | _ => none
 | .slice t x lo hi mx => match ev σ x with
  | some a => match pY (C.ty t) C.ty σ a lo hi mx with
   | some v => some (.val v)
   | none => none
  | none => none
 | .makeFunc (.func f) first cap => match evs σ first.toList, evs σ cap.toList with
  | some a, some b => some (.val (.fn f a b))
  | _, _ => none
 | .build t parts => match ik σ parts.toList with
  | some ps => match aH (C.ty t) C.ty ps with
   | some v => some (.val v)
   | none => none
  | none => none
 | .call { callee := .builtin .len, args := args, argTypes := ts } => match args.toList, ts.toList with
  | [x], [t] => match ev σ x with
   | some a => match lenV (C.ty t) a with
    | some v => some (.val v)
    | none => none
   | none => none
  | _, _ => none
 | .call { callee := .builtin .min, args := args, argTypes := _ } => match evs σ args.toList with
  | some a => match L6 a with
   | some v => some (.val v)
   | none => none
  | none => none
 | .call { callee := .builtin .max, args := args, argTypes := _ } => match evs σ args.toList with
  | some a => match LW a with
   | some v => some (.val v)
   | none => none
  | none => none
 | .call { callee := .builtin .cap, args := args, argTypes := ts } => match args.toList, ts.toList with
  | [x], [t] => match ev σ x with
   | some a => match KI (C.ty t) a with
    | some v => some (.val v)
    | none => none
   | none => none
  | _, _ => none
 | _ => none
def St.new (σ : St) (o : Ob) : St := { σ with heap := σ.heap ++ [o] }
def aV (T : LT) (ty : Nat → LT) : Nat := match T.desc with | .array _ e => (ty e).size | _ => T.size
def newVar (C : Ctx) (f : Nat) (σ : St) (d : Option Nat) (t : Nat) (cells : List V) : Option St :=
 match d with
 | some d =>
  if (C.locs f).contains d then some ({ σ with cnt := σ.cnt + 1, regs := upd σ.regs d (.box σ.cnt cells) })
  else some { σ with heap := σ.heap ++ [.mk true (aV (C.ty t) C.ty) cells], regs := upd σ.regs d (.val (.ptr (some (σ.heap.length, 0)))) }
 | none => none
def fU (E : LT) : Bool := decide (0 < E.size ∧ 0 < E.bytes ∧ E.bytes ≤ 1000000 ∧ E.zero.length = E.size)
def aI (E : LT) (H : List Ob) : V → Option (List V × Nat)
 | .slc q m => match aQ H q (m * E.size) with
  | some xs => some (xs, m)
  | none => none
 | .str b => if E.size = 1 then some (b.map (fun c => .int .u8 c.toNat), b.length) else none
 | _ => none
def aT (E : LT) (H : List Ob) (s x : V) : Option (V × List Ob) :=
 if fU E = true then match aI E H x with
  | none => none
  | some (xs, m) => if m = 0 then (match s with | .slc none 0 => some (s, H) | .slc (some _) _ => some (s, H) | _ => none) else
   if xs.all aJ = true then match s with
   | .slc none 0 => if m * E.bytes ≤ aB then some (.slc (some (H.length, 0)) m, H ++ [.mk true E.size xs]) else none
   | .slc (some (id, off)) n => match H[id]? with
    | some (.mk true es cells) =>
     if es = E.size then
      if off + (n + m) * es ≤ cells.length then some (.slc (some (id, off)) (n + m), H.set id (.mk true es (setRange cells (off + n * es) xs)))
      else if (off + n * es = cells.length ∨ n = 0 ∧ cells.length ≤ off) ∧ (n + m) * E.bytes ≤ aB then
       some (.slc (some (H.length, 0)) (n + m), H.set id .dead ++ [.mk true es (cells.drop off ++ xs)])
      else none
     else none
    | _ => none
   | _ => none
   else none
 else none
def wI (x : V) (n : Nat) : Option Nat :=
 match x with
 | .slc _ m => some (min m n)
 | .str b => some (min b.length n)
 | _ => none
def oH (E : LT) (H : List Ob) (x : V) (k : Nat) : Option (List V) :=
 match x with
 | .slc q _ => aQ H q (k * E.size)
 | .str b => if E.size = 1 then some ((b.take k).map (fun c => .int .u8 c.toNat)) else none
 | _ => none
def copyV (E : LT) (σ : St) (d x : V) : Option (V × St) :=
 if E.size = 0 then none else
 match d with
 | .slc p n => match wI x n with
  | none => none
  | some k => match oH E σ.heap x k with
   | none => none
   | some xs => if k = 0 then some (.int .i64 0, σ) else match p with
    | none => none
    | some (id, off) => if xs.all aJ = true then match dB σ (.hp id off) xs with
     | some σ' => some (.int .i64 k, σ')
     | none => none
     else none
 | _ => none
def ah (E : LT) (n : Nat) : List V := (List.replicate n E.zero).flatten
def jk (T : LT) : Bool := match T.desc with | .int _ => true | .other => true | _ => false
def qo (E : LT) (H : List Ob) (s x : V) : Option (V × List Ob) :=
 match s, x with
 | .slc none 0, .int .i64 n => if fU E = true ∧ 0 < n ∧ n * E.bytes ≤ aB then some (.slc (some (H.length, 0)) n.toNat, H ++ [.mk true E.size (ah E n.toNat)]) else none
 | _, _ => none
def yV (T : LT) : Bool := match T.desc with | .int _ => true | _ => false
def LX (U E : LT) (H : List Ob) (s x : V) : Option (V × List Ob) :=
 if jk U = true then (if yV U = true then qo E H s x else none) else aT E H s x
def ay (C : Ctx) (t : Nat) : Option LT := match (C.ty t).desc with | .slice e => some (C.ty e) | _ => none
def lw (C : Ctx) (callf : bU) (f : Nat) (σ : St) (d : Option Nat) : Op → Option St
 | .alloc t => if 0 < (C.ty t).size then newVar C f σ d t (C.ty t).zero else none
 | .box t x => match ev σ x with
  | some v => match cellsOf v with
   | some cs => newVar C f σ d t cs
   | none => none
  | none => none
 | .store t x y => match iU σ x, ev σ y with
  | some r, some v => match lG r with
   | some p => match storeAt (C.ty t) σ p v with
    | some σ' => some (σ'.put d (.val .undef))
    | none => none
   | none => none
  | _, _ => none
 | .buildSlice t n parts => match ay C t, ik σ parts.toList with
  | some E, some ps => if 0 < E.size ∧ E.zero.length = E.size ∧ n * E.size ≤ 16777216 then match ax (fun i => some (i * E.size, E.size)) (ah E n) ps with
   | some cs => some ((σ.new (.mk true E.size cs)).put d (.val (.slc (some (σ.heap.length, 0)) n)))
   | none => none
   else none
  | _, _ => none
 | .makeSlice t l c => match ay C t, ev σ l, ev σ c with
  | some E, some (.int .i64 l), some (.int .i64 c) => if 0 < E.size ∧ E.zero.length = E.size ∧ 0 ≤ l ∧ l ≤ c ∧ c * E.bytes ≤ aB ∧ c ≤ aB then
    some ((σ.new (.mk true E.size (ah E c.toNat))).put d (.val (.slc (some (σ.heap.length, 0)) l.toNat)))
   else none
  | _, _, _ => none
 | .convert s t x => match (C.ty s).desc, (C.ty t).desc, ev σ x with
  | .str, .slice e, some (.str b) => match (C.ty e).desc with
   | .int .u8 => if (C.ty e).size = 1 then some ((σ.new (.mk true 1 (b.map (fun c => .int .u8 c.toNat)))).put d (.val (.slc (some (σ.heap.length, 0)) b.length))) else none
   | _ => none
  | _, _, _ => none
 | .call { callee := .builtin .append, args := args, argTypes := ts } => match args.toList, ts.toList with
  | [s, x], [t, u] => match ay C t, ev σ s, ev σ x with
   | some E, some s, some x => match LX (C.ty u) E σ.heap s x with
    | some (v, h) => some ({ σ with heap := h }.put d (.val v))
    | none => none
   | _, _, _ => none
  | _, _ => none
 | .call { callee := .builtin .copy, args := args, argTypes := ts } => match args.toList, ts.toList with
  | [s, x], t :: _ => match ay C t, ev σ s, ev σ x with
   | some E, some s, some x => match copyV E σ s x with
    | some (v, σ') => some (σ'.put d (.val v))
    | none => none
   | _, _, _ => none
  | _, _ => none
 | .call { callee := .builtin .clear, args := args, argTypes := ts } => match args.toList, ts.toList with
  | [s], [t] => match ay C t, ev σ s with
   | some _, some (.slc none 0) => some (σ.put d (.val (.tup [])))
   | some E, some (.slc (some (id, off)) n) => if n = 0 then some (σ.put d (.val (.tup []))) else if E.zero.all aJ = true ∧ E.zero.length = E.size ∧ 0 < E.size then match dB σ (.hp id off) (ah E n) with
     | some σ' => some (σ'.put d (.val (.tup [])))
     | none => none
    else none
   | _, _ => none
  | _, _ => none
 | .call { callee := .value g, args := args, argTypes := _ } => match ev σ g, evs σ args.toList with
  | some (.fn g a b), some xs => match callf g (a ++ xs ++ b) σ.heap with
   | some (r, h) => some ({ σ with heap := h }.put d (.val r))
   | none => none
  | _, _ => none
 | _ => none
def kZ (C : Ctx) : Op → Bool
 | .alloc _ | .box _ _ | .store _ _ _ | .buildSlice _ _ _ | .makeSlice _ _ _ => true
 | .convert _ t _ => match (C.ty t).desc with | .slice _ => true | _ => false
 | .call { callee := .builtin .append, .. } | .call { callee := .builtin .copy, .. } | .call { callee := .builtin .clear, .. } | .call { callee := .value _, .. } => true
 | _ => false
def yl (C : Ctx) (callf : bU) (f : Nat) (o : Oper) (σ : St) : Option St :=
 if kZ C o.op then lw C callf f σ o.dst o.op
 else match sG C σ o.op with
  | some r => some (σ.put o.dst r)
  | none => none
def lq (ops : Array Oper) (σ : St) : Option (Nat × Bool) → Option Bool
 | none => some true
 | some (j, want) => match (ops[j]?).bind (·.dst) with
  | some t => match σ.regs t with
   | .val (.bool b) => some (b == want)
   | .val (.tup _) => some false
   | _ => none
  | none => none
def gQ (C : Ctx) (callf : bU) (f : Nat) (ops : Array Oper) (o : Oper) (σ : St) : Option St :=
 match lq ops σ o.guard with
 | some true => yl C callf f o σ
 | some false => some (σ.put o.dst (.val (.tup [])))
 | none => none
def oO (C : Ctx) (callf : bU) (f : Nat) (ops : Array Oper) : List Oper → St → Option St
 | [], σ => some σ
 | o :: os, σ => match gQ C callf f ops o σ with
  | some σ => oO C callf f ops os σ
  | none => none
def Ext (H H' : List Ob) : Prop := ∃ T, H' = H ++ T
def Keep (base : Nat) (H H' : List Ob) : Prop := ∀ id, id < base → H'[id]? = H[id]?
def iT (h : Hint) (base : Nat) (H H' : List Ob) : Prop := ∀ id, (id < base ∧ h.exc.contains id = false) → H'[id]? = H[id]?
def lookOf : Op → Option Operand
 | .load _ x => some x
 | .store _ x _ => some x
 | .slice _ x _ _ _ => some x
 | .convert _ _ x => some x
 | _ => none
def oq : Op → Bool
 | .store _ _ _ => true
 | _ => false
def fitsAt (h : Hint) (base i : Nat) (o : Oper) (σ : St) : Bool :=
 (match h.locs.lookup i with
  | some t => match (lookOf o.op).bind (iU σ) with
   | some (.ref t' _ _) => t' == t
   | some (.val (.ptr _)) => false
   | some (.val (.slc _ _)) => false
   | _ => true
  | none => true) &&
 (if h.old.contains i then match (lookOf o.op).bind (iU σ) with
  | some (.ref _ _ _) => false
  | some (.val (.ptr (some (id, _)))) => oq o.op || (decide (id < base) && !h.exc.contains id)
  | some (.val (.slc (some (id, _)) _)) => decide (id < base) && !h.exc.contains id
  | _ => true
 else true)
open Classical in
noncomputable def iJ (C : Ctx) (callf : bU) (f : Nat) (ops : Array Oper) (h : Hint) (base i : Nat) (σ : St) : Option St :=
 match ops[i]? with
 | some o => if fitsAt h base i o σ then match gQ C callf f ops o σ with
   | some σ' => if h.calm.contains i = true → iT h base σ.heap σ'.heap then some σ' else none
   | none => none
  else none
 | none => none
noncomputable def kz (C : Ctx) (callf : bU) (f : Nat) (ops : Array Oper) (h : Hint) (base : Nat) : List Nat → St → Option St
 | [], σ => some σ
 | i :: is, σ => match iJ C callf f ops h base i σ with
  | some σ' => kz C callf f ops h base is σ'
  | none => none
inductive Ex where
 | norm | ret | exit (id : Nat)
def o9 (C : Ctx) (σ : St) : Op → Option (Ob × (Nat → V))
 | .alloc t => if 0 < (C.ty t).size then some (.mk true (aV (C.ty t) C.ty) (C.ty t).zero, fun id => .ptr (some (id, 0))) else none
 | .box t x => match ev σ x with
  | some v => match cellsOf v with
   | some cs => some (.mk true (aV (C.ty t) C.ty) cs, fun id => .ptr (some (id, 0)))
   | none => none
  | none => none
 | .buildSlice t n parts => match ay C t, ik σ parts.toList with
  | some E, some ps => if 0 < E.size ∧ E.zero.length = E.size ∧ n * E.size ≤ 16777216 then match ax (fun i => some (i * E.size, E.size)) (ah E n) ps with
   | some cs => some (.mk true E.size cs, fun id => .slc (some (id, 0)) n)
   | none => none
   else none
  | _, _ => none
 | .makeSlice t l c => match ay C t, ev σ l, ev σ c with
  | some E, some (.int .i64 l), some (.int .i64 c) => if 0 < E.size ∧ E.zero.length = E.size ∧ 0 ≤ l ∧ l ≤ c ∧ c * E.bytes ≤ aB ∧ c ≤ aB then
    some (.mk true E.size (ah E c.toNat), fun id => .slc (some (id, 0)) l.toNat)
   else none
  | _, _, _ => none
 | _ => none
def dP (l : List Nat) (base : Nat) (H : List Ob) : List Ob := H.mapIdx fun i o => if base ≤ i ∧ l.contains (i - base) = true then .dead else o
def fK (l : List Nat) (base : Nat) (H X : List Ob) : List Ob := X.mapIdx fun i o => if base ≤ i ∧ l.contains (i - base) = true then H.getD i .dead else o
def jc (h : Hint) (i : Nat) : List Nat := (h.hid.lookup i).getD []
def Jb (C : Ctx) (f : Nat) : Option Nat → Bool
 | some d => (C.locs f).contains d
 | none => true
noncomputable def fD (C : Ctx) (callf : bU) (f : Nat) (ops : Array Oper) (h : Hint) (base i : Nat) (σ : St) : Option St :=
 match h.res.lookup i with
 | some k => match ops[i]? with
  | some o => match lq ops σ o.guard with
   | some true => if Jb C f o.dst = true then none else match o9 C σ o.op with
    | some (ob, mk) => some ({ σ with heap := σ.heap.set (base + k) ob }.put o.dst (.val (mk (base + k))))
    | none => none
   | some false => some (σ.put o.dst (.val (.tup [])))
   | none => none
  | none => none
 | none => match iJ C callf f ops h (base + h.res.length) i { σ with heap := dP (jc h i) base σ.heap } with
  | some σ' => if σ.heap.length ≤ σ'.heap.length then some { σ' with heap := fK (jc h i) base σ.heap σ'.heap } else none
  | none => none
noncomputable def lF (C : Ctx) (callf : bU) (f : Nat) (ops : Array Oper) (h : Hint) (base : Nat) : List Nat → St → Option St
 | [], σ => some σ
 | i :: is, σ => match fD C callf f ops h base i σ with
  | some σ' => lF C callf f ops h base is σ'
  | none => none
noncomputable def eQ (C : Ctx) (callf : bU) (f : Nat) (ops : Array Oper) (h : Hint) (σ : St) : Option St :=
 match h.res with
 | [] => kz C callf f ops h σ.heap.length h.ord σ
 | _ :: _ => lF C callf f ops h σ.heap.length h.ord { σ with heap := σ.heap ++ List.replicate h.res.length .dead }
open Classical in
noncomputable def Kz (C : Ctx) (callf : bU) (f : Nat) (ops : Array Oper) (h : Hint) (σ : St) : Option St :=
 if e : ∃ X σ', eQ C callf f ops { h with exc := X } σ = some σ' then some e.choose_spec.choose else none
def NT (a b : Option St) : Option St := match a with
 | some x => some x
 | none => b
noncomputable def bQ (C : Ctx) (callf : bU) (f id : Nat) (ops : Array Oper) (draw : Bool) (σ : St) : Option St :=
 match draw, C.ord f id with
 | true, some h => NT (eQ C callf f ops h σ) (Kz C callf f ops h σ)
 | _, _ => oO C callf f ops ops.toList σ
def oW (g : St → Option (Ex × St)) : Nat → St → Option (Ex × St)
 | 0, _ => none
 | n + 1, σ => match g σ with
  | some (.norm, σ) => oW g n σ
  | r => r
def pq (r : Option (Ex × St)) (g : St → Option (Ex × St)) : Option (Ex × St) :=
 match r with
 | some (.norm, σ) => g σ
 | r => r
def tq (σ : St) (c : Operand) (x y : Option (Ex × St)) : Option (Ex × St) :=
 match ev σ c with
 | some (.bool b) => if b then x else y
 | _ => none
def jm (id : Nat) (r : Option (Ex × St)) : Option (Ex × St) :=
 match r with
 | some (.exit i, σ) => if i = id then some (.norm, σ) else some (.exit i, σ)
 | r => r
noncomputable def dh (C : Ctx) (callf : bU) (f n : Nat) : Code → St → Option (Ex × St)
 | .skip, σ => some (.norm, σ)
 | .region id ops draw, σ => match bQ C callf f id ops draw σ with
  | some σ => some (.norm, σ)
  | none => none
 | .seq a b, σ => pq (dh C callf f n a σ) (dh C callf f n b)
 | .cond c a b, σ => tq σ c (dh C callf f n a σ) (dh C callf f n b σ)
 | .block id b, σ => jm id (dh C callf f n b σ)
 | .loop b, σ => oW (dh C callf f n b) n σ
 | .exit id, σ => some (.exit id, σ)
 | .ret, σ => some (.ret, σ)
 | _, _ => none
def ag (args : List V) : Nat → R := fun i => .val (args.getD i .undef)
def yZ (C : Ctx) (σ : St) : ResultVar → Option V
 | .tmp t => ev σ (.tmp t)
 | .cell a t => match iU σ (.tmp a) with
  | some r => match lG r with
   | some p => loadAt (C.ty t) σ p
   | none => none
  | none => none
def iw (C : Ctx) (σ : St) : List ResultVar → Option (List V)
 | [] => some []
 | x :: rest => match yZ C σ x, iw C σ rest with
  | some v, some vs => some (v :: vs)
  | _, _ => none
def fG : List V → V
 | [v] => v
 | vs => .tup vs
def kV (H : List Ob) (id : Nat) : Prop := ∃ own es cells, H[id]? = some (.mk own es cells)
mutual
def dZ (H : List Ob) : V → Prop
 | .ptr (some (id, _)) => kV H id
 | .slc (some (id, _)) _ => kV H id
 | .agg cs => gK H cs
 | .tup vs => gK H vs
 | .fn _ a b => gK H a ∧ gK H b
 | _ => True
def gK (H : List Ob) : List V → Prop
 | [] => True
 | v :: vs => dZ H v ∧ gK H vs
end
open Classical in
noncomputable def eU (H H' : List Ob) (r : V) : List Ob := if Ext H H' ∧ dZ H r then H else H'
noncomputable def qP (C : Ctx) (F : Func) (H : List Ob) : Option (Ex × St) → Option (V × List Ob)
 | some (.norm, σ) | some (.ret, σ) => match iw C σ F.results.toList with
  | some vs => some (fG vs, eU H σ.heap (fG vs))
  | none => none
 | _ => none
noncomputable def fA (C : Ctx) : Nat → bU
 | 0 => fun _ _ _ => none
 | n + 1 => fun f args H => match C.prim f with
  | some g => g args H
  | none => if C.fids f then match C.funcs f with
    | some F => match F.body with
     | some c => qP C F H (dh C (fA C n) f n c ⟨ag args, 0, H⟩)
     | none => none
    | none => none
   else none
end Go.Lite
end
section
namespace Go.Lite
open Go
structure Mp where
 blk : Nat
 base : Nat
 len : Nat
 es : Nat
 size : Nat
 own : Bool
abbrev Mu := Nat → Option Mp
def Mu.le (μ μ' : Mu) : Prop := ∀ (id : Nat) (m : Mp), μ id = some m → μ' id = some m
theorem Mu.le_refl (μ : Mu) : μ.le μ := fun _ _ h => h
theorem Mu.le_trans {μ μ' μ'' : Mu} (h : μ.le μ') (k : μ'.le μ'') : μ.le μ'' := fun id m e => k id m (h id m e)
def Mu.add (μ : Mu) (id : Nat) (m : Mp) : Mu := fun i => if i = id then some m else μ i
theorem Mu.add_self (μ : Mu) (id : Nat) (m : Mp) : μ.add id m id = some m := by simp [Mu.add]
theorem Mu.add_ne (μ : Mu) {id i : Nat} (m : Mp) (h : i ≠ id) : μ.add id m i = μ i := by simp [Mu.add, h]
theorem Mu.le_add {μ : Mu} {id : Nat} (m : Mp) (h : μ id = none) : μ.le (μ.add id m) := fun i m' e => by
 by_cases hi : i = id
 ·subst hi; rw [h] at e; cases e
 ·rw [Mu.add_ne _ _ hi]; exact e
inductive VR (μ : Mu) : V → Value → Prop where
 | undef (u : Value) : VR μ .undef u
 | int (k : IntKind) (n : Int) : VR μ (.int k n) (.int k n)
 | bool (b : Bool) : VR μ (.bool b) (.bool b)
 | str (b : ByteArray) : VR μ (.str b.data.toList) (.string b)
 | ptrN : VR μ (.ptr none) (.pointer none)
 | ptr (id off : Nat) (m : Mp) (h : μ id = some m) : VR μ (.ptr (some (id, off))) (.pointer (some ⟨m.blk, m.base + off, none⟩))
 | slcN : VR μ (.slc none 0) (.slice none 0 0)
 | slc (id off n c : Nat) (m : Mp) (h : μ id = some m) (hn : n ≤ c) (hroom : m.own = true → m.base + off + c * m.es ≤ m.size) (hreach : m.len ≤ off + c * m.es) :
   VR μ (.slc (some (id, off)) n) (.slice (some ⟨m.blk, m.base + off, none⟩) n c)
 | slcZ (id off : Nat) (m : Mp) (a : Addr) (h : μ id = some m) (hreach : m.len ≤ off) : VR μ (.slc (some (id, off)) 0) (.slice (some a) 0 0)
 | agg (cs : List V) (us : Array Value) (hl : cs.length = us.size) (h : ∀ (i : Nat) (v : V) (u : Value), cs[i]? = some v → us[i]? = some u → VR μ v u) : VR μ (.agg cs) (.agg us)
 | tup (cs : List V) (us : Array Value) (hl : cs.length = us.size) (h : ∀ (i : Nat) (v : V) (u : Value), cs[i]? = some v → us[i]? = some u → VR μ v u) : VR μ (.tup cs) (.tuple us)
 | fn (f : Nat) (az bs : List V) (us vs : Array Value) (hl : az.length = us.size) (h : ∀ (i : Nat) (v : V) (u : Value), az[i]? = some v → us[i]? = some u → VR μ v u)
   (hl' : bs.length = vs.size) (h' : ∀ (i : Nat) (v : V) (u : Value), bs[i]? = some v → vs[i]? = some u → VR μ v u) : VR μ (.fn f az bs) (.func (.func f) us vs)
 | nilfn : VR μ .nilfn .nilFunc
 | niface : VR μ .niface .nilIface
 | someif (t : TypeId) (u : Value) : VR μ .someif (.iface t u)
theorem VR.le {μ μ' : Mu} (key : μ.le μ') {v : V} {u : Value} (h : VR μ v u) : VR μ' v u := by
 induction h with
 | undef u => exact .undef u
 | int k n => exact .int k n
 | bool b => exact .bool b
 | str b => exact .str b
 | ptrN => exact .ptrN
 | ptr id off m h => exact .ptr id off m (key _ _ h)
 | slcN => exact .slcN
 | slc id off n c m h hn hr hre => exact .slc id off n c m (key _ _ h) hn hr hre
 | slcZ id off m a h hr => exact .slcZ id off m a (key _ _ h) hr
 | agg cs us hl h ih => exact .agg cs us hl ih
 | tup cs us hl h ih => exact .tup cs us hl ih
 | fn f az bs us vs hl h hl' h' ih ih' => exact .fn f az bs us vs hl ih hl' ih'
 | nilfn => exact .nilfn
 | niface => exact .niface
 | someif t u => exact .someif t u
theorem VR.toV1 (μ : Mu) (u : Value) : VR μ (toV1 u) u := by
 unfold Lite.toV1
 split <;> first | exact .int _ _ | exact .bool _ | exact .str _ | exact .slcN | exact .ptrN | exact .nilfn | exact .niface | exact .undef _
theorem VR.toV (μ : Mu) (u : Value) : VR μ (toV u) u := by
 unfold Lite.toV
 split
 ·refine .agg _ _ (by simp) fun i v u hv hu => ?_
  rw [List.getElem?_map, Array.getElem?_toList, hu] at hv
  simp only [Option.map_some, Option.some.injEq] at hv
  subst hv
  exact .toV1 _ _
 ·exact .toV1 _ _
def RR (L : List Nat) (n : Nat) (μ : Mu) (β : List Nat) : R → Value → Prop
 | .val v, u => VR μ v u
 | .box c _, u => ∃ b, β[c]? = some b ∧ u = .pointer (some ⟨b, 0, none⟩)
 | .ref t c off, u => t < n ∧ t ∈ L ∧ ∃ b, β[c]? = some b ∧ u = .pointer (some ⟨b, off, none⟩)
theorem RR.le {L : List Nat} {n : Nat} {μ μ' : Mu} {β β' : List Nat} {r : R} {u : Value} (hp : μ.le μ') (hq : β <+: β') (h : RR L n μ β r u) : RR L n μ' β' r u := by
 have key : ∀ (id b : Nat), β[id]? = some b → β'[id]? = some b := by
  obtain ⟨ν, rfl⟩ := hq
  intro id b h
  rw [List.getElem?_append_left (List.getElem?_eq_some_iff.1 h).1]; exact h
 cases r with
 | val v => exact VR.le hp h
 | box c cells => obtain ⟨b, hb, hu⟩ := h; exact ⟨b, key _ _ hb, hu⟩
 | ref t c off => obtain ⟨h1, h2, b, hb, hu⟩ := h; exact ⟨h1, h2, b, key _ _ hb, hu⟩
def CellsAt (μ : Mu) (w : World) (b o : Nat) (cells : List V) : Prop :=
 ∀ (j : Nat) (v : V), cells[j]? = some v → ∃ u, w.cell? ⟨b, o + j, none⟩ = some u ∧ VR μ v u
def FreeAt (w : World) (b lo hi : Nat) : Prop := ∀ o, lo ≤ o → o < hi → (∃ u, w.cell? ⟨b, o, none⟩ = some u) ∧ w.frozen? ⟨b, o, none⟩ = false
def ObjOk (μ : Mu) (w : World) (m : Mp) : Ob → Prop
 | .dead => True
 | .mk own es cells => own = m.own ∧ es = m.es ∧ cells.length = m.len ∧ CellsAt μ w m.blk m.base cells ∧ m.blk < w.heap.size ∧
   (own = true → m.base + m.len ≤ m.size ∧ FreeAt w m.blk m.base m.size)
def live : Ob → Bool
 | .dead => false
 | .mk _ _ _ => true
def owned : Ob → Bool
 | .mk true _ _ => true
 | _ => false
def OwnB (H : List Ob) (μ : Mu) (β : List Nat) (b : Nat) : Prop := (∃ (id : Nat) (o : Ob) (m : Mp), H[id]? = some o ∧ owned o = true ∧ μ id = some m ∧ m.blk = b) ∨ b ∈ β
def EndB (w : World) (b : Nat) : Prop := ∀ k, w.cell? ⟨b, k, none⟩ = none → w.frozen? ⟨b, k, none⟩ = false
structure HSim (H : List Ob) (μ : Mu) (w : World) : Prop where
 dom : ∀ (id : Nat) (m : Mp), μ id = some m → id < H.length
 map : ∀ (id : Nat) (o : Ob), H[id]? = some o → live o = true → ∃ m, μ id = some m
 obj : ∀ (id : Nat) (o : Ob) (m : Mp), H[id]? = some o → μ id = some m → ObjOk μ w m o
 sep : ∀ (id id' : Nat) (o o' : Ob) (m m' : Mp), id ≠ id' → H[id]? = some o → H[id']? = some o' → μ id = some m → μ id' = some m' → owned o = true → live o' = true → m.blk ≠ m'.blk
 plain : ∀ (id es : Nat) (cells : List V) (m : Mp), H[id]? = some (.mk true es cells) → μ id = some m → es ≠ 1 → EndB w m.blk
structure Sim (L : List Nat) (σ : St) (μ : Mu) (β : List Nat) (a : Act) (w : World) : Prop where
 heap : HSim σ.heap μ w
 lenβ : β.length = σ.cnt
 reg : ∀ t, t < a.tmps.size → RR L a.tmps.size μ β (σ.regs t) (a.tmps.getD t undef)
 box : ∀ (t c : Nat) (cells : List V) (b : Nat), t < a.tmps.size → σ.regs t = .box c cells → β[c]? = some b → CellsAt μ w b 0 cells ∧ FreeAt w b 0 cells.length
 sepβ : ∀ (id : Nat) (o : Ob) (m : Mp) (b : Nat), σ.heap[id]? = some o → μ id = some m → live o = true → b ∈ β → m.blk ≠ b
 injβ : ∀ (c c' b : Nat), β[c]? = some b → β[c']? = some b → c = c'
 ltβ : ∀ b, b ∈ β → b < w.heap.size
 uniq : ∀ t t' c cells cells', t < a.tmps.size → t' < a.tmps.size → σ.regs t = .box c cells → σ.regs t' = .box c cells' → t = t'
 loc : ∀ t c cells, t < a.tmps.size → σ.regs t = .box c cells → t ∈ L
 defs : a.defers = []
class Draws where
 up : Prop
instance (priority := low) drawsNone : Draws := ⟨False⟩
def KY [D : Draws] : Prop := D.up
variable [Draws]
structure Grow (O : Nat → Prop) (w : World) (O' : Nat → Prop) (w' : World) : Prop where
 size : w.heap.size ≤ w'.heap.size
 same : ∀ b, b < w.heap.size → ¬ O b → w'.heap[b]? = w.heap[b]?
 own : ∀ b, O' b → O b ∨ w.heap.size ≤ b
 os : w'.os = w.os
 tape : w'.tape = w.tape
 output : w'.output = w.output
 drawn : KY → w.drawn ≤ w'.drawn
theorem Grow.refl (O : Nat → Prop) (w : World) : Grow O w O w := ⟨Nat.le_refl _, fun _ _ _ => rfl, fun _ h => .inl h, rfl, rfl, rfl, fun _ => Nat.le_refl _⟩
theorem Grow.trans {O O' O'' : Nat → Prop} {w w' w'' : World} (h : Grow O w O' w') (k : Grow O' w' O'' w'') : Grow O w O'' w'' := by
 refine ⟨Nat.le_trans h.size k.size, fun b hb hn => ?_, fun b hb => ?_, k.os.trans h.os, k.tape.trans h.tape, k.output.trans h.output, fun c => Nat.le_trans (h.drawn c) (k.drawn c)⟩
 ·rw [k.same b (Nat.lt_of_lt_of_le hb h.size) (fun ho => ?_), h.same b hb hn]
  rcases h.own b ho with h1 | h1
  ·exact hn h1
  ·exact absurd hb (by omega)
 ·rcases k.own b hb with h1 | h1
  ·exact h.own b h1
  ·exact .inr (Nat.le_trans h.size h1)
def LG (H : List Ob) (μ : Mu) (b : Nat) : Prop := ∃ (id : Nat) (o : Ob) (m : Mp), H[id]? = some o ∧ live o = true ∧ μ id = some m ∧ m.blk = b
def LivesB (N : Nat → Prop) (H : List Ob) (μ : Mu) (w : World) (H' : List Ob) (μ' : Mu) : Prop :=
 (∀ b, LG H' μ' b → LG H μ b ∨ w.heap.size ≤ b) ∧ H.length ≤ H'.length ∧ ∀ (id : Nat) (m : Mp), μ' id = some m → μ id = some m ∨ N id
abbrev Lives (H : List Ob) (μ : Mu) (w : World) (H' : List Ob) (μ' : Mu) : Prop := LivesB (fun id => H.length ≤ id) H μ w H' μ'
theorem LivesB.refl {N : Nat → Prop} (H : List Ob) (μ : Mu) (w : World) : LivesB N H μ w H μ := ⟨fun _ h => .inl h, Nat.le_refl _, fun _ _ h => .inl h⟩
theorem Lives.refl (H : List Ob) (μ : Mu) (w : World) : Lives H μ w H μ := LivesB.refl H μ w
theorem LivesB.trans {N N' : Nat → Prop} {H H' H'' : List Ob} {μ μ' μ'' : Mu} {w w' : World} (h : LivesB N H μ w H' μ') (k : LivesB N' H' μ' w' H'' μ'') (hn : ∀ id, N' id → N id) (hz : w.heap.size ≤ w'.heap.size) : LivesB N H μ w H'' μ'' := by
 refine ⟨fun b hb => ?_, Nat.le_trans h.2.1 k.2.1, fun id m hm => ?_⟩
 ·rcases k.1 b hb with h1 | h1
  ·exact h.1 b h1
  ·exact .inr (Nat.le_trans hz h1)
 ·rcases k.2.2 id m hm with h1 | h1
  ·exact h.2.2 id m h1
  ·exact .inr (hn id h1)
theorem Lives.trans {H H' H'' : List Ob} {μ μ' μ'' : Mu} {w w' : World} (h : Lives H μ w H' μ') (k : Lives H' μ' w' H'' μ'') (hz : w.heap.size ≤ w'.heap.size) : Lives H μ w H'' μ'' :=
 LivesB.trans h k (fun _ hid => Nat.le_trans h.2.1 hid) hz
def LeadsB (N : Nat → Prop) (L : List Nat) (σ : St) (μ : Mu) (β : List Nat) (a : Act) (w : World) (σ' : St) (a' : Act) (w' : World) : Prop :=
 ∃ μ' β', Sim L σ' μ' β' a' w' ∧ μ.le μ' ∧ β <+: β' ∧ a'.tmps.size = a.tmps.size ∧ Grow (OwnB σ.heap μ β) w (OwnB σ'.heap μ' β') w' ∧ LivesB N σ.heap μ w σ'.heap μ'
abbrev Leads (L : List Nat) (σ : St) (μ : Mu) (β : List Nat) (a : Act) (w : World) (σ' : St) (a' : Act) (w' : World) : Prop := LeadsB (fun id => σ.heap.length ≤ id) L σ μ β a w σ' a' w'
theorem LeadsB.refl {N : Nat → Prop} {L : List Nat} {σ : St} {μ : Mu} {β : List Nat} {a : Act} {w : World} (h : Sim L σ μ β a w) : LeadsB N L σ μ β a w σ a w :=
 ⟨μ, β, h, μ.le_refl, List.prefix_refl _, rfl, Grow.refl _ _, LivesB.refl _ _ _⟩
theorem Leads.refl {L : List Nat} {σ : St} {μ : Mu} {β : List Nat} {a : Act} {w : World} (h : Sim L σ μ β a w) : Leads L σ μ β a w σ a w := LeadsB.refl h
end Go.Lite
end
section
namespace Go.Lite
open Go
def yT (P : Program) (t : Nat) : LD → Prop
 | .int k => P.underlying t = some (.int k)
 | .bool => P.underlying t = some .bool
 | .str => P.underlying t = some .string
 | .ptr => ∃ e, P.underlying t = some (.pointer e)
 | .func => ∃ a b c, P.underlying t = some (.func a b c)
 | .iface => ∃ ms, P.underlying t = some (.interface ms)
 | .slice e => P.underlying t = some (.slice e)
 | .array n e => P.underlying t = some (.array n e)
 | .struct fs => ∃ Fs, P.underlying t = some (.struct Fs) ∧ (fs = Fs.toList.map fun f => (f.offset, f.type)) ∧ ∀ F ∈ Fs.toList, (P.info? F.type).isSome = true
 | .other => ∃ d, P.underlying t = some d ∧ (match d with | .struct _ | .array _ _ => False | _ => True)
structure TyOk (P : Program) (t : Nat) (T : LT) : Prop where
 info : ∃ i z, P.info? t = some i ∧ i.size = T.size ∧ i.bytes = T.bytes ∧ i.zero = some z ∧ T.zero = z.cells.toList.map toV1
 desc : yT P t T.desc
 eq : ∀ fs, T.desc = .struct fs → P.stoodInHeld t = false ∧ P.eqGuardType P.depth t = false ∧ ∃ Fs, P.underlying t = some (.struct Fs) ∧ (fs = Fs.toList.map fun f => (f.offset, f.type)) ∧ ∀ F ∈ Fs.toList, F.name ≠ "_"
def TysOk (P : Program) (ty : Nat → LT) : Prop := ∀ t, ty t = LT.none ∨ TyOk P t (ty t)
theorem TysOk.of_desc {P : Program} {ty : Nat → LT} (h : TysOk P ty) {t : Nat} (hd : (ty t).desc ≠ .other) : TyOk P t (ty t) := by
 rcases h t with h | h
 ·exact absurd (by rw [h]; rfl) hd
 ·exact h
theorem TysOk.of_size {P : Program} {ty : Nat → LT} (h : TysOk P ty) {t : Nat} (hd : (ty t).size ≠ 0) : TyOk P t (ty t) := by
 rcases h t with h | h
 ·exact absurd (by rw [h]; rfl) hd
 ·exact h
section
variable {P : Program}
theorem aS {t : Nat} {T : LT} (h : TyOk P t T) (w : World) : (sizeOf t).run P w = .ok T.size w := by
 obtain ⟨i, z, hi, hs, _⟩ := h.info
 simp [sizeOf, typeInfo, hi, hs]
theorem jY {t : Nat} {T : LT} (h : TyOk P t T) (w : World) : (isAgg t).run P w = .ok T.isAgg w := by
 have hd := h.desc
 unfold LT.isAgg
 cases hT : T.desc <;> rw [hT] at hd <;> simp only [yT] at hd
 case ptr => obtain ⟨e, hd⟩ := hd; simp [isAgg, run_underlying hd]
 case func => obtain ⟨a, b, c, hd⟩ := hd; simp [isAgg, run_underlying hd]
 case iface => obtain ⟨ms, hd⟩ := hd; simp [isAgg, run_underlying hd]
 case struct => obtain ⟨Fs, hd, _⟩ := hd; simp [isAgg, run_underlying hd]
 case other =>
  obtain ⟨d, hd, hn⟩ := hd
  simp only [isAgg, Sem.run_bind, run_underlying hd, Result.andThen_ok]
  cases d <;> first | exact hn.elim | rfl
 all_goals simp [isAgg, run_underlying hd]
def OpdOk (n : Nat) : Operand → Prop
 | .tmp t => t < n
 | _ => True
section
variable {L : List Nat} {σ : St} {μ : Mu} {β : List Nat} {a : Act} {w : World}
theorem fE (hs : Sim L σ μ β a w) {x : Operand} (hx : OpdOk a.tmps.size x) {r : R} (h : iU σ x = some r) : RR L a.tmps.size μ β r (a.eval x) := by
 cases x with
 | tmp t =>
  have hr := hs.reg t hx
  simp only [iU] at h
  cases hq : σ.regs t with
  | val v => rw [hq] at h hr; cases h; exact hr
  | box c cells =>
   rw [hq] at h hr; cases h
   obtain ⟨b, hb, hu⟩ := hr
   exact ⟨hx, hs.loc t c cells hx hq, b, hb, hu⟩
  | ref t' c off => rw [hq] at h hr; cases h; exact hr
 | const v => simp only [iU, Option.some.injEq] at h; subst h; exact VR.toV μ v
 | global g => simp [iU] at h
 | func f =>
  simp only [iU, Option.some.injEq] at h; subst h
  exact VR.fn f [] [] #[] #[] rfl (by simp) rfl (by simp)
theorem aN (hs : Sim L σ μ β a w) {x : Operand} (hx : OpdOk a.tmps.size x) {v : V} (h : ev σ x = some v) : VR μ v (a.eval x) := by
 have : iU σ x = some (.val v) := by
  cases x with
  | tmp t =>
   simp only [ev, iU] at h ⊢
   cases hq : σ.regs t with
   | val v' => rw [hq] at h; cases h; rfl
   | box c cells => rw [hq] at h; cases h
   | ref t' c off => rw [hq] at h; cases h
  | const v => simp only [ev, iU] at h ⊢; cases h; rfl
  | global g => simp [ev] at h
  | func f => simp only [ev, iU] at h ⊢; cases h; rfl
 exact fE hs hx this
theorem vk {r : R} {p : Pl} (h : lG r = some p) : (∃ t c off, r = .ref t c off ∧ p = .loc t c off) ∨ (∃ id off, r = .val (.ptr (some (id, off))) ∧ p = .hp id off) := by
 cases r with
 | box c cs => simp [lG] at h
 | ref t c off => simp only [lG, Option.some.injEq] at h; exact .inl ⟨t, c, off, rfl, h.symm⟩
 | val v =>
  cases v with
  | ptr q =>
   cases q with
   | none => simp [lG] at h
   | some q => obtain ⟨id, off⟩ := q; simp only [lG, Option.some.injEq] at h; exact .inr ⟨id, off, rfl, h.symm⟩
  | _ => simp [lG] at h
theorem VR.ptr_inv {μ : Mu} {id off : Nat} {u : Value} (h : VR μ (.ptr (some (id, off))) u) : ∃ m, μ id = some m ∧ u = .pointer (some ⟨m.blk, m.base + off, none⟩) := by
 cases h with
 | ptr _ _ m hm => exact ⟨m, hm, rfl⟩
theorem pg (hs : Sim L σ μ β a w) {r : R} {u : Value} (hr : RR L a.tmps.size μ β r u) {p : Pl} (hp : lG r = some p) {cells : List V}
  (hc : cellsAt σ p = some cells) : ∃ b base, u = .pointer (some ⟨b, base + p.off, none⟩) ∧ CellsAt μ w b base cells := by
 rcases vk hp with ⟨t, c, off, rfl, rfl⟩ | ⟨id, off, rfl, rfl⟩
 ·obtain ⟨ht, _, b, hb, rfl⟩ := hr
  simp only [cellsAt] at hc
  split at hc
  ·rename_i c' cs' hq
   split at hc
   ·rename_i hcc
    subst hcc; cases hc
    exact ⟨b, 0, by simp [Pl.off], (hs.box t c' _ b ht hq hb).1⟩
   ·cases hc
  ·cases hc
 ·obtain ⟨m, hm, rfl⟩ := VR.ptr_inv hr
  simp only [cellsAt] at hc
  split at hc
  ·rename_i own es cs' hq
   cases hc
   exact ⟨m.blk, m.base, by simp [Pl.off], (hs.heap.obj _ _ m hq hm).2.2.2.1⟩
  ·cases hc
theorem CellsAt.take {μ : Mu} {w : World} {b o : Nat} {cells cs : List V} {off n : Nat} (h : CellsAt μ w b o cells) (hr : dO cells off n = some cs) :
  cs.length = n ∧ CellsAt μ w b (o + off) cs := by
 unfold dO at hr
 split at hr
 ·rename_i hle
  cases hr
  refine ⟨by simp; omega, fun j v hv => ?_⟩
  have hj : j < n := by
   rcases Nat.lt_or_ge j n with hj | hj
   ·exact hj
   ·rw [List.getElem?_eq_none (by simp; omega)] at hv; cases hv
  rw [List.getElem?_take_of_lt hj, List.getElem?_drop] at hv
  obtain ⟨u, h1, h2⟩ := h _ _ hv
  exact ⟨u, by rw [← h1, Nat.add_assoc], h2⟩
 ·cases hr
theorem gB {μ : Mu} {w : World} {b o : Nat} {cs : List V} (h : CellsAt μ w b o cs) :
  ∃ us : Array Value, (loadCells ⟨b, o, none⟩ cs.length).run P w = .ok us w ∧ us.size = cs.length ∧
   ∀ (i : Nat) (v : V) (u : Value), cs[i]? = some v → us[i]? = some u → VR μ v u := by
 refine ⟨_, run_loadCells w _ cs.length (fun j => (w.cell? ⟨b, o + j, none⟩).getD undef) (fun j hj => ?_), by simp, ?_⟩
 ·obtain ⟨u, h1, h2⟩ := h j cs[j] (by simp [hj])
  simp [Addr.add_lit, h1]
 ·intro i v u hv hu
  have hi : i < cs.length := (List.getElem?_eq_some_iff.1 hv).1
  obtain ⟨u', h1, h2⟩ := h i v hv
  simp [hi, h1] at hu
  subst hu
  exact h2
theorem CellsAt.first {μ : Mu} {w : World} {b o : Nat} {cs : List V} (h : CellsAt μ w b o cs) (hl : cs.length = 1) :
  ∃ u, w.cell? ⟨b, o, none⟩ = some u ∧ VR μ (cs.headD .undef) u := by
 match cs, hl with
 | [v], _ => obtain ⟨u, h1, h2⟩ := h 0 v rfl; exact ⟨u, by simpa using h1, h2⟩
theorem oZ {t : Nat} {T : LT} (hty : TyOk P t T) {μ : Mu} {w : World} {b o : Nat} {cells : List V} {off : Nat} {cs : List V} (hc : CellsAt μ w b o cells)
  (hr : dO cells off T.num = some cs) : ∃ u, (loadVar t ⟨b, o + off, none⟩).run P w = .ok u w ∧ VR μ (JW T.isAgg cs) u := by
 obtain ⟨hl, hcs⟩ := hc.take hr
 cases ha : T.isAgg with
 | false =>
  simp only [LT.num, ha] at hl
  obtain ⟨u, h1, h2⟩ := hcs.first hl
  exact ⟨u, by simp [loadVar, jY hty, ha, h1], by simpa [JW] using h2⟩
 | true =>
  obtain ⟨us, h1, h2, h3⟩ := gB (P := P) hcs
  simp only [LT.num, ha, if_true] at hl
  rw [hl] at h1
  exact ⟨.agg us, by simp [loadVar, jY hty, ha, aS hty, h1], by simpa [JW] using VR.agg cs us h2.symm h3⟩
end
end
theorem VR.int_inv {μ : Mu} {k : IntKind} {n : Int} {u : Value} (h : VR μ (.int k n) u) : u = .int k n := by cases h; rfl
theorem VR.bool_inv {μ : Mu} {b : Bool} {u : Value} (h : VR μ (.bool b) u) : u = .bool b := by cases h; rfl
theorem VR.str_inv {μ : Mu} {s : List UInt8} {u : Value} (h : VR μ (.str s) u) : ∃ b : ByteArray, u = .string b ∧ s = b.data.toList := by cases h; exact ⟨_, rfl, rfl⟩
theorem VR.slcN_inv {μ : Mu} {n : Nat} {u : Value} (h : VR μ (.slc none n) u) : u = .slice none 0 0 ∧ n = 0 := by cases h; exact ⟨rfl, rfl⟩
theorem VR.slc_inv {μ : Mu} {id off n : Nat} {u : Value} (h : VR μ (.slc (some (id, off)) n) u) : ∃ m, μ id = some m ∧
  ((∃ c, n ≤ c ∧ (m.own = true → m.base + off + c * m.es ≤ m.size) ∧ m.len ≤ off + c * m.es ∧ u = .slice (some ⟨m.blk, m.base + off, none⟩) n c) ∨
   (n = 0 ∧ m.len ≤ off ∧ ∃ a, u = .slice (some a) 0 0)) := by
 cases h with
 | slc _ _ _ c m h hn hr hre => exact ⟨m, h, .inl ⟨c, hn, hr, hre, rfl⟩⟩
 | slcZ _ _ m a h hre => exact ⟨m, h, .inr ⟨rfl, hre, a, rfl⟩⟩
theorem VR.agg_inv {μ : Mu} {cs : List V} {u : Value} (h : VR μ (.agg cs) u) : ∃ us : Array Value, u = .agg us ∧ cs.length = us.size ∧ ∀ (i : Nat) (v : V) (u : Value), cs[i]? = some v → us[i]? = some u → VR μ v u := by
 cases h; exact ⟨_, rfl, ‹_›, ‹_›⟩
theorem VR.tup_inv {μ : Mu} {cs : List V} {u : Value} (h : VR μ (.tup cs) u) : ∃ us : Array Value, u = .tuple us ∧ cs.length = us.size ∧ ∀ (i : Nat) (v : V) (u : Value), cs[i]? = some v → us[i]? = some u → VR μ v u := by
 cases h; exact ⟨_, rfl, ‹_›, ‹_›⟩
theorem VR.fn_inv {μ : Mu} {f : Nat} {az bs : List V} {u : Value} (h : VR μ (.fn f az bs) u) : ∃ us vs : Array Value, u = .func (.func f) us vs ∧
  az.length = us.size ∧ (∀ (i : Nat) (v : V) (u : Value), az[i]? = some v → us[i]? = some u → VR μ v u) ∧
  bs.length = vs.size ∧ (∀ (i : Nat) (v : V) (u : Value), bs[i]? = some v → vs[i]? = some u → VR μ v u) := by
 cases h; exact ⟨_, _, rfl, ‹_›, ‹_›, ‹_›, ‹_›⟩
section
variable {P : Program} {μ : Mu} {w : World}
theorem AV (c : Bool) {x y : V} {u v : Value} (hx : VR μ x u) (hy : VR μ y v) : VR μ (FD c x y) (if c then u else v) := by
 unfold FD
 split
 ·have := hx.bool_inv; have := hy.bool_inv; subst_vars
  cases c <;> exact .bool _
 ·cases c <;> assumption
theorem jU (b : ByteArray) : b.toList = b.data.toList := ByteArray.toList_eq b
theorem zt {T : TypeId} {op : BinOp} {k : IntKind} {a b : Int} {v : V} (h : iO op k a b = some v) :
  ∃ u, (binOp op T (.int k a) (.int k b)).run P w = .ok u w ∧ VR μ v u := by
 cases op <;> simp only [iO] at h
 case quo =>
  split at h
  ·cases h
  ·rename_i hb; cases h; exact ⟨_, by simp [binOp, Op.intDiv, hb], .int _ _⟩
 case rem =>
  split at h
  ·cases h
  ·rename_i hb; cases h; exact ⟨_, by simp [binOp, Op.intDiv, hb], .int _ _⟩
 case shl => cases h
 case shr => cases h
 all_goals
  cases h
  refine ⟨_, ?_, by constructor⟩
  simp [binOp, Op.intArith, Op.intBits, Op.intCmp]
theorem wu {T : TypeId} {op : BinOp} {k k' : IntKind} {a b : Int} {v : V} (h : jG op k a b = some v) :
  ∃ u, (binOp op T (.int k a) (.int k' b)).run P w = .ok u w ∧ VR μ v u := by
 unfold jG at h
 split at h
 ·cases h
 ·rename_i hb
  split at h <;> cases h <;> (refine ⟨_, ?_, by constructor⟩; simp [binOp, Op.shift, hb])
theorem zf {T : TypeId} {op : BinOp} {a b : ByteArray} {v : V} (h : yS op a.data.toList b.data.toList = some v) :
  ∃ u, (binOp op T (.string a) (.string b)).run P w = .ok u w ∧ VR μ v u := by
 have ea := jU a
 have eb := jU b
 cases op <;> simp only [yS] at h
 case add =>
  split at h
  ·rename_i hl
   cases h
   simp only [maxStr] at hl
   have hn : ¬ (((a.size + b.size : Nat) : Int) > 9223372036854775807) := by
    have : a.size = a.data.toList.length := by simp
    have : b.size = b.data.toList.length := by simp
    omega
   refine ⟨.string (a ++ b), ?_, ?_⟩
   ·simp only [binOp, Op.stringOp, IntKind.max_i64, Sem.run_ite, hn, if_false, Sem.run_pure]
   ·have : a.data.toList ++ b.data.toList = (a ++ b).data.toList := by simp
    rw [this]; exact .str _
  ·cases h
 all_goals first
  | (cases h; done)
  | (cases h; refine ⟨_, ?_, by constructor⟩; simp [binOp, Op.stringOp, ea, eb])
theorem AP {op : BinOp} {t : TypeId} {x y : Operand} {u v : Value} (hu : ∀ cs, u ≠ .agg cs) (hk : u = .nilIface → v = .nilIface → (isK x || isK y) = true) :
  (eqGuard op t x y u v).run P w = .ok () w := by
 have key : ∀ op, (eqGuard op t x y u v).run P w = .ok () w := by
  intro op
  cases u with
  | nilIface =>
   cases v with
   | nilIface =>
    have := hk rfl rfl
    cases x with
    | const c => rw [eqGuard_nil_constL]; rfl
    | _ => cases y with
     | const c => rw [eqGuard_nil_constR]; rfl
     | _ => simp [isK] at this
   | _ => cases op <;> rfl
  | agg cs => exact absurd rfl (hu cs)
  | _ => cases op <;> rfl
 exact key op
theorem yu {t : TypeId} {x y : Value} {r : Bool} (h : ∀ d, (Op.equalIn (d + 1) t x y).run P w = .ok r w) : (Op.equal t x y).run P w = .ok r w := h 9999
theorem rq {t : TypeId} {x y : Value} {r : Bool} (h : ∀ d, (Op.equalIn (d + 1) t x y).run P w = .ok r w) (hb : binOp .eql t x y = (do pure (.bool (← Op.equal t x y)))) :
  (binOp .eql t x y).run P w = .ok (.bool r) w := by rw [hb]; simp [yu h]
theorem rC {t : TypeId} {x y : Value} {r : Bool} (h : ∀ d, (Op.equalIn (d + 1) t x y).run P w = .ok r w) (hb : binOp .neq t x y = (do pure (.bool (!(← Op.equal t x y))))) :
  (binOp .neq t x y).run P w = .ok (.bool (!r)) w := by rw [hb]; simp [yu h]
theorem rU {t : TypeId} (hd : P.underlying t = some .bool) (a b : Bool) (d : Nat) : (Op.equalIn (d + 1) t (.bool a) (.bool b)).run P w = .ok (a == b) w := by
 simp [Op.equalIn, run_underlying hd]
theorem xe {t e : TypeId} (hd : P.underlying t = some (.slice e)) (q : Option Addr) (n c : Nat) (d : Nat) :
  (Op.equalIn (d + 1) t (.slice q n c) (.slice none 0 0)).run P w = .ok q.isNone w := by
 cases q <;> simp [Op.equalIn, run_underlying hd]
theorem BH {t e : TypeId} (hd : P.underlying t = some (.pointer e)) (q : Option Addr) (d : Nat) :
  (Op.equalIn (d + 1) t (.pointer q) (.pointer none)).run P w = .ok q.isNone w := by
 cases q <;> simp [Op.equalIn, run_underlying hd]
theorem Bd {t : TypeId} {ms : Array (String × TypeId)} (hd : P.underlying t = some (.interface ms)) (d : Nat) :
  (Op.equalIn (d + 1) t .nilIface .nilIface).run P w = .ok true w := by
 simp [Op.equalIn, run_underlying hd]
theorem yI {t : TypeId} {ms : Array (String × TypeId)} (hd : P.underlying t = some (.interface ms)) (x : TypeId) (u : Value) (d : Nat) :
  (Op.equalIn (d + 1) t (.iface x u) .nilIface).run P w = .ok false w := by
 simp [Op.equalIn, run_underlying hd]
theorem D5 {ty : Nat → LT} (hty : TysOk P ty) {t : TypeId} {op : BinOp} {k : Bool} {x y : V} {u u' : Value} {v : V} (h : CU (ty t) k op x y = some v)
  (hx : VR μ x u) (hy : VR μ y u') :
  (∃ r, (binOp op t u u').run P w = .ok r w ∧ VR μ v r) ∧ (∀ cs, u ≠ .agg cs) ∧ (u = .nilIface → u' = .nilIface → k = true) := by
 unfold CU at h
 split at h
 ·obtain rfl := hx.int_inv
  obtain rfl := hy.int_inv
  refine ⟨?_, by simp, by simp⟩
  split at h
  ·exact wu h
  ·split at h
   ·rename_i hk; subst hk; exact zt h
   ·cases h
 ·obtain ⟨b, rfl, rfl⟩ := hx.str_inv
  obtain ⟨b', rfl, rfl⟩ := hy.str_inv
  exact ⟨zf h, by simp, by simp⟩
 ·obtain rfl := hx.bool_inv
  obtain rfl := hy.bool_inv
  refine ⟨?_, by simp, by simp⟩
  split at h
  ·rename_i hd
   have hd' := (hty.of_desc (t := t) (by rw [hd]; simp)).desc
   rw [hd] at hd'
   cases h
   exact ⟨_, rq (rU hd' _ _) rfl, .bool _⟩
  ·rename_i hd
   have hd' := (hty.of_desc (t := t) (by rw [hd]; simp)).desc
   rw [hd] at hd'
   cases h
   exact ⟨_, rC (rU hd' _ _) rfl, .bool _⟩
  ·cases h
 ·rename_i p n
  obtain ⟨rfl, -⟩ := hy.slcN_inv
  have key : ∃ (q : Option Addr) (n c : Nat), u = .slice q n c ∧ q.isNone = p.isNone := by
   cases p with
   | none => obtain ⟨rfl, _⟩ := hx.slcN_inv; exact ⟨_, _, _, rfl, rfl⟩
   | some p =>
    obtain ⟨id, off⟩ := p
    obtain ⟨m, _, ⟨c, _, _, _, rfl⟩ | ⟨_, _, a, rfl⟩⟩ := hx.slc_inv <;> exact ⟨_, _, _, rfl, rfl⟩
  obtain ⟨q, n', c', rfl, hq⟩ := key
  refine ⟨?_, by simp, by simp⟩
  split at h
  ·rename_i hd
   have hd' := (hty.of_desc (t := t) (by rw [hd]; simp)).desc
   rw [hd] at hd'
   cases h
   exact ⟨_, rq (xe hd' _ _ _) rfl, by rw [← hq]; exact .bool _⟩
  ·rename_i hd
   have hd' := (hty.of_desc (t := t) (by rw [hd]; simp)).desc
   rw [hd] at hd'
   cases h
   exact ⟨_, rC (xe hd' _ _ _) rfl, by rw [← hq]; exact .bool _⟩
  ·cases h
 ·rename_i p
  cases hy
  have key : ∃ (q : Option Addr), u = .pointer q ∧ q.isNone = p.isNone := by
   cases hx with
   | ptrN => exact ⟨_, rfl, rfl⟩
   | ptr _ _ m hm => exact ⟨_, rfl, rfl⟩
  obtain ⟨q, rfl, hq⟩ := key
  refine ⟨?_, by simp, by simp⟩
  split at h
  ·rename_i hd
   have hd' := (hty.of_desc (t := t) (by rw [hd]; simp)).desc
   rw [hd] at hd'
   obtain ⟨e, hd'⟩ := hd'
   cases h
   exact ⟨_, rq (BH hd' _) rfl, by rw [← hq]; exact .bool _⟩
  ·rename_i hd
   have hd' := (hty.of_desc (t := t) (by rw [hd]; simp)).desc
   rw [hd] at hd'
   obtain ⟨e, hd'⟩ := hd'
   cases h
   exact ⟨_, rC (BH hd' _) rfl, by rw [← hq]; exact .bool _⟩
  ·cases h
 ·cases hx; cases hy
  split at h
  ·rename_i hd
   have hd' := (hty.of_desc (t := t) (by rw [hd]; simp)).desc
   rw [hd] at hd'
   obtain ⟨ms, hd'⟩ := hd'
   split at h
   ·rename_i hk
    cases h
    exact ⟨⟨_, rq (Bd hd') rfl, .bool _⟩, by simp, fun _ _ => hk⟩
   ·cases h
  ·rename_i hd
   have hd' := (hty.of_desc (t := t) (by rw [hd]; simp)).desc
   rw [hd] at hd'
   obtain ⟨ms, hd'⟩ := hd'
   split at h
   ·rename_i hk
    cases h
    exact ⟨⟨_, rC (Bd hd') rfl, .bool _⟩, by simp, fun _ _ => hk⟩
   ·cases h
  ·cases h
 ·cases hx; cases hy
  refine ⟨?_, by simp, by simp⟩
  split at h
  ·rename_i hd
   have hd' := (hty.of_desc (t := t) (by rw [hd]; simp)).desc
   rw [hd] at hd'
   obtain ⟨ms, hd'⟩ := hd'
   cases h
   exact ⟨_, rq (yI hd' _ _) rfl, .bool _⟩
  ·rename_i hd
   have hd' := (hty.of_desc (t := t) (by rw [hd]; simp)).desc
   rw [hd] at hd'
   obtain ⟨ms, hd'⟩ := hd'
   cases h
   exact ⟨_, rC (yI hd' _ _) rfl, .bool _⟩
  ·cases h
 ·cases h
theorem Hy {op : UnOp} {x v : V} {u : Value} (h : P9 op x = some v) (hx : VR μ x u) : ∃ r, (Op.unary op u).run P w = .ok r w ∧ VR μ v r := by
 unfold P9 at h
 split at h
 ·obtain rfl := hx.bool_inv; cases h; exact ⟨_, rfl, .bool _⟩
 ·obtain rfl := hx.int_inv; cases h; exact ⟨_, rfl, .int _ _⟩
 ·obtain rfl := hx.int_inv
  simp only [iO, Option.some.injEq] at h; cases h
  exact ⟨_, rfl, .int _ _⟩
 ·cases h
theorem Bc {t : TypeId} {us : Array Value} {o : Nat} {u : Value} (ht : P.underlying t = some .string ∨ (∃ k, P.underlying t = some (.int k)) ∨ P.underlying t = some .bool) (h : us[o]? = some u) : (part t us o).run P w = .ok u w := by
 rcases ht with ht | ⟨k, ht⟩ | ht <;> simp [part, isAgg, run_underlying ht, h]
theorem Es {ty : Nat → LT} (hty : TysOk P ty) (d : Nat) {us us' : Array Value} : ∀ (fs : List Field) (i : Nat) (xs ys : List V) (r : Bool), (∀ F ∈ fs, F.name ≠ "_") → eqF ty (fs.map fun f => (f.offset, f.type)) i xs ys = some r →
  (∀ (j : Nat) v, xs[j]? = some v → ∃ u, us[i + j]? = some u ∧ VR μ v u) → (∀ (j : Nat) v, ys[j]? = some v → ∃ u, us'[i + j]? = some u ∧ VR μ v u) → (Op.eqFields (d + 1) us us' fs).run P w = .ok r w
 | [], i, xs, ys, r, _, h, _, _ => by
  simp only [List.map_nil] at h
  cases xs <;> cases ys <;> simp [eqF] at h
  subst h
  simp [Op.eqFields]
 | f :: fs, i, xs, ys, r, hn, h, hx, hy => by
  simp only [List.map_cons] at h
  cases xs with
  | nil => simp [eqF] at h
  | cons x xs =>
  cases ys with
  | nil => simp [eqF] at h
  | cons y ys =>
  simp only [eqF] at h
  split at h
  rotate_left
  ·cases h
  rename_i ho
  obtain ⟨u, hu, hvu⟩ := hx 0 x rfl
  obtain ⟨u', hu', hvu'⟩ := hy 0 y rfl
  rw [Nat.add_zero, ← ho] at hu hu'
  have hx' : ∀ (j : Nat) v, xs[j]? = some v → ∃ u, us[i + 1 + j]? = some u ∧ VR μ v u := fun j v hj => by
   have := hx (j + 1) v (by simpa using hj)
   rwa [show i + 1 + j = i + (j + 1) by omega]
  have hy' : ∀ (j : Nat) v, ys[j]? = some v → ∃ u, us'[i + 1 + j]? = some u ∧ VR μ v u := fun j v hj => by
   have := hy (j + 1) v (by simpa using hj)
   rwa [show i + 1 + j = i + (j + 1) by omega]
  have hn1 : f.name ≠ "_" := hn f List.mem_cons_self
  have ih := fun r' h' => Es hty d fs (i + 1) xs ys r' (fun F hF => hn F (List.mem_cons_of_mem _ hF)) h' hx' hy'
  have step : ∀ b : Bool, (Op.equalIn (d + 1) f.type u u').run P w = .ok b w → (P.underlying f.type = some .string ∨ (∃ k, P.underlying f.type = some (.int k)) ∨ P.underlying f.type = some .bool) → Gz b (eqF ty (fs.map fun f => (f.offset, f.type)) (i + 1) xs ys) = some r → (Op.eqFields (d + 1) us us' (f :: fs)).run P w = .ok r w := by
   intro b hb hp hr
   cases he : eqF ty (fs.map fun f => (f.offset, f.type)) (i + 1) xs ys with
   | none => rw [he] at hr; simp [Gz] at hr
   | some r' =>
    rw [he] at hr
    simp only [Gz, Option.some.injEq] at hr
    subst hr
    have h1 := ih r' he
    simp only [Op.eqFields, hn1, if_true, ne_eq, not_false_eq_true, Sem.run_bind, Bc hp hu, Bc hp hu', Result.andThen_ok, hb]
    cases b
    ·simp
    ·simpa using h1
  split at h
  ·rename_i hd
   have hd' := (hty.of_desc (t := f.type) (by rw [hd]; simp)).desc
   rw [hd] at hd'
   obtain ⟨b, rfl, rfl⟩ := hvu.str_inv
   obtain ⟨b', rfl, rfl⟩ := hvu'.str_inv
   refine step _ ?_ (.inl hd') h
   rw [run_equalIn_string w d _ _ _ hd', jU, jU]
  ·rename_i hd
   have hd' := (hty.of_desc (t := f.type) (by rw [hd]; simp)).desc
   rw [hd] at hd'
   obtain rfl := hvu.int_inv
   obtain rfl := hvu'.int_inv
   split at h
   ·rename_i hk
    subst hk
    exact step _ (run_equalIn_int w d _ _ _ _ _ hd') (.inr (.inl ⟨_, hd'⟩)) h
   ·cases h
  ·rename_i hd
   have hd' := (hty.of_desc (t := f.type) (by rw [hd]; simp)).desc
   rw [hd] at hd'
   obtain rfl := hvu.bool_inv
   obtain rfl := hvu'.bool_inv
   exact step _ (rU hd' _ _ d) (.inr (.inr hd')) h
  ·cases h
theorem DV {ty : Nat → LT} (hty : TysOk P ty) {t : TypeId} {op : BinOp} {x y : V} {u u' : Value} {v : V} (h : Mc ty t op x y = some v) (hx : VR μ x u) (hy : VR μ y u') :
  (∃ r, (binOp op t u u').run P w = .ok r w ∧ VR μ v r) ∧ ∀ a b, (eqGuard op t a b u u').run P w = .ok () w := by
 unfold Mc at h
 split at h
 rotate_left
 ·cases h
 rename_i fs xs ys hd
 obtain ⟨h1, h2, Fs, h3, h4, h5⟩ := (hty.of_desc (t := t) (by rw [hd]; simp)).eq fs hd
 cases hx with
 | agg _ us hl hv =>
 cases hy with
 | agg _ us' hl' hv' =>
 have hF : P.fieldsOf t = Fs := by unfold Program.fieldsOf; rw [h3]
 have ht : P.underlying t = some (.struct (P.fieldsOf t)) := by rw [hF]; exact h3
 have key : ∀ r, eqF ty fs 0 xs ys = some r → (Op.equalIn 10000 t (.agg us) (.agg us')).run P w = .ok r w := fun r hr => by
  rw [run_equalIn_struct w 9999 t us us' ht h1, hF]
  rw [h4] at hr
  refine Es (μ := μ) hty 9998 Fs.toList 0 xs ys r h5 hr (fun j v hj => ?_) (fun j v hj => ?_)
  ·have hjl : j < us.size := by rw [← hl]; exact (List.getElem?_eq_some_iff.1 hj).1
   exact ⟨us[j], by rw [Nat.zero_add]; exact Array.getElem?_eq_getElem hjl, hv j v _ hj (Array.getElem?_eq_getElem hjl)⟩
  ·have hjl : j < us'.size := by rw [← hl']; exact (List.getElem?_eq_some_iff.1 hj).1
   exact ⟨us'[j], by rw [Nat.zero_add]; exact Array.getElem?_eq_getElem hjl, hv' j v _ hj (Array.getElem?_eq_getElem hjl)⟩
 refine ⟨?_, fun a b => run_eqGuard_agg w op t a b us us' h2⟩
 split at h
 ·rename_i r hr
  cases h
  exact ⟨.bool r, by rw [run_eql_struct, key r hr]; rfl, .bool _⟩
 ·rename_i r hr
  cases h
  exact ⟨.bool (!r), by rw [run_neq_struct, key r hr]; rfl, .bool _⟩
 ·cases h
end
section
variable {P : Program} {μ : Mu} {w : World}
theorem gp {H : List Ob} (hs : HSim H μ w) {p : Option (Nat × Nat)} {n k : Nat} {cs : List V} {u : Value} (h : aQ H p k = some cs) (hu : VR μ (.slc p n) u) :
  cs.length = k ∧ ∃ (q : Option Addr) (c : Nat), u = .slice q n c ∧ n ≤ c ∧ ((q = none ∧ k = 0) ∨ (∃ a, q = some a ∧ (k = 0 ∨ ∃ b o, a = ⟨b, o, none⟩ ∧ CellsAt μ w b o cs))) := by
 cases p with
 | none =>
  obtain ⟨rfl, rfl⟩ := hu.slcN_inv
  simp only [aQ] at h
  split at h
  ·rename_i hk; cases h; exact ⟨by simp [hk], none, 0, rfl, Nat.le_refl _, .inl ⟨rfl, hk⟩⟩
  ·cases h
 | some p =>
  obtain ⟨id, off⟩ := p
  simp only [aQ] at h
  by_cases hk : k = 0
  ·rw [if_pos hk] at h; cases h
   obtain ⟨m, _, ⟨c, hc, _, _, rfl⟩ | ⟨rfl, _, a, rfl⟩⟩ := hu.slc_inv
   ·exact ⟨by simp [hk], _, _, rfl, hc, .inr ⟨_, rfl, .inl hk⟩⟩
   ·exact ⟨by simp [hk], _, _, rfl, Nat.le_refl _, .inr ⟨_, rfl, .inl hk⟩⟩
  ·rw [if_neg hk] at h
   split at h
   ·rename_i own es cells hq
    obtain ⟨m, hm, hh⟩ := hu.slc_inv
    have ho := hs.obj _ _ m hq hm
    obtain ⟨hl, hcs⟩ := ho.2.2.2.1.take h
    rcases hh with ⟨c, hc, _, _, rfl⟩ | ⟨rfl, hre, a, rfl⟩
    ·exact ⟨hl, _, _, rfl, hc, .inr ⟨_, rfl, .inr ⟨_, _, rfl, hcs⟩⟩⟩
    ·have := ho.2.2.1
     unfold dO at h
     split at h
     ·omega
     ·cases h
   ·cases h
theorem AL {v : V} {b : UInt8} (h : gy v = some b) : ∃ n, v = .int .u8 n ∧ b = UInt8.ofNat n.toNat := by
 unfold gy at h
 split at h
 ·cases h; exact ⟨_, rfl, rfl⟩
 ·cases h
theorem AU (cs : List V) : ∀ (us : List Value) (bs : List UInt8) (acc : ByteArray), cs.length = us.length → (∀ (i : Nat) (v : V) (u : Value), cs[i]? = some v → us[i]? = some u → VR μ v u) →
  cs.mapM gy = some bs →
  ((forIn us acc fun c s => (match c with
   | .int .u8 n => pure (ForInStep.yield (s.push (UInt8.ofNat n.toNat)))
   | _ => stuck "bytesToString: byte expected" : Sem (ForInStep ByteArray))) : Sem ByteArray).run P w = .ok ⟨(acc.data.toList ++ bs).toArray⟩ w := by
 induction cs with
 | nil =>
  intro us bs acc hl h hm
  cases us with
  | nil => simp at hm; subst hm; simp
  | cons => simp at hl
 | cons v cs ih =>
  intro us bs acc hl h hm
  cases us with
  | nil => simp at hl
  | cons u us =>
   rw [List.mapM_cons] at hm
   cases hb : gy v with
   | none => rw [hb] at hm; simp at hm
   | some b =>
    cases hr : cs.mapM gy with
    | none => rw [hb, hr] at hm; simp at hm
    | some rs =>
     rw [hb, hr] at hm
     simp at hm
     subst hm
     obtain ⟨n, rfl, rfl⟩ := AL hb
     have hu := (h 0 _ u rfl rfl).int_inv
     subst hu
     have := ih us rs (acc.push (UInt8.ofNat n.toNat)) (by simpa using hl) (fun i v u h1 h2 => h (i + 1) v u h1 h2) hr
     simp only [List.forIn_cons, pure_bind]
     rw [this]
     simp
theorem oQ {H : List Ob} (hs : HSim H μ w) {p : Option (Nat × Nat)} {n : Nat} {cs : List V} {u : Value} {bs : List UInt8} (h : aQ H p n = some cs) (hu : VR μ (.slc p n) u)
  (hb : cs.mapM gy = some bs) : (Conv.bytesToString u).run P w = .ok (.string ⟨bs.toArray⟩) w := by
 obtain ⟨hl, q, c, rfl, hn, hq⟩ := gp hs h hu
 rcases hq with ⟨rfl, hk⟩ | ⟨a, rfl, hq⟩
 ·have : cs = [] := List.length_eq_zero_iff.1 (by omega)
  subst this
  simp at hb; subst hb
  simp [Conv.bytesToString]; rfl
 ·have key : ∃ us : Array Value, (loadCells a n).run P w = .ok us w ∧ us.size = cs.length ∧ ∀ (i : Nat) (v : V) (u : Value), cs[i]? = some v → us[i]? = some u → VR μ v u := by
   rcases hq with hk | ⟨b, o, rfl, hcs⟩
   ·have : cs = [] := List.length_eq_zero_iff.1 (by omega)
    subst this; subst hk
    exact ⟨#[], by simp [loadCells, loadCellsFrom], rfl, by simp⟩
   ·have := gB (P := P) hcs
    rw [hl] at this
    obtain ⟨us, h1, h2, h3⟩ := this
    exact ⟨us, h1, by rw [hl]; exact h2, h3⟩
  obtain ⟨us, h1, h2, h3⟩ := key
  have := AU (P := P) (w := w) (μ := μ) cs us.toList bs ByteArray.empty (by simpa using h2.symm) (fun i v u hv hu => h3 i v u hv (by simpa using hu)) hb
  simp only [Conv.bytesToString, Sem.run_bind, h1, Result.andThen_ok]
  rw [← Array.forIn_toList]
  have e : ∀ (f g : Value → ByteArray → Sem (ForInStep ByteArray)), (∀ x s, f x s = g x s) → (forIn us.toList ByteArray.empty f : Sem ByteArray) = forIn us.toList ByteArray.empty g := by
   intro f g hfg; congr 1; funext x s; exact hfg x s
  rw [e _ _ (fun x s => ?_), this]
  ·simp
  ·cases x with
   | int k n => cases k <;> rfl
   | _ => rfl
theorem BZ {ty : Nat → LT} (hty : TysOk P ty) {s t : TypeId} {H : List Ob} (hs : HSim H μ w) {x v : V} {u : Value} (h : tX ty (ty s) (ty t) H x = some v) (hx : VR μ x u) :
  ∃ r, (convert s t u).run P w = .ok r w ∧ VR μ v r := by
 unfold tX at h
 split at h
 ·rename_i k k' k'' n hs' ht'
  have h1 := (hty.of_desc (t := s) (by rw [hs']; simp)).desc
  have h2 := (hty.of_desc (t := t) (by rw [ht']; simp)).desc
  rw [hs'] at h1; rw [ht'] at h2
  obtain rfl := hx.int_inv
  cases h
  exact ⟨_, by simp [convert, run_underlying h1, run_underlying h2, Conv.intToInt], .int _ _⟩
 ·rename_i s' hs' ht'
  have h1 := (hty.of_desc (t := s) (by rw [hs']; simp)).desc
  have h2 := (hty.of_desc (t := t) (by rw [ht']; simp)).desc
  rw [hs'] at h1; rw [ht'] at h2
  obtain ⟨b, rfl, rfl⟩ := hx.str_inv
  cases h
  exact ⟨_, by simp [convert, run_underlying h1, run_underlying h2], .str _⟩
 ·rename_i e p n hs' ht'
  have h1 := (hty.of_desc (t := s) (by rw [hs']; simp)).desc
  have h2 := (hty.of_desc (t := t) (by rw [ht']; simp)).desc
  rw [hs'] at h1; rw [ht'] at h2
  split at h
  ·rename_i he
   have h3 : P.underlying e = some (.int .u8) := by
    unfold isByte at he
    split at he
    ·rename_i hd
     have h3 := (hty.of_desc (t := e) (by rw [hd]; simp)).desc
     rw [hd] at h3; exact h3
    ·cases he
   split at h
   ·rename_i cs hc
    split at h
    ·rename_i bs hb
     cases h
     have := oQ (P := P) hs hc hx hb
     obtain ⟨hl, q, c, rfl, _⟩ := gp hs hc hx
     exact ⟨_, by simp [convert, run_underlying h1, run_underlying h2, run_underlying h3, this], .str ⟨bs.toArray⟩⟩
    ·cases h
   ·cases h
  ·cases h
 ·cases h
theorem qH {ty : Nat → LT} (hty : TysOk P ty) {t : TypeId} {fs : List (Nat × Nat)} (hd : (ty t).desc = .struct fs) {f off ft : Nat} (hf : fs[f]? = some (off, ft)) :
  ∃ (Fs : Array Field) (F : Field), P.underlying t = some (.struct Fs) ∧ Fs[f]? = some F ∧ F.offset = off ∧ F.type = ft := by
 have h1 := (hty.of_desc (t := t) (by rw [hd]; simp)).desc
 rw [hd] at h1
 obtain ⟨Fs, h1, rfl, _⟩ := h1
 rw [List.getElem?_map, Array.getElem?_toList] at hf
 cases hF : Fs[f]? with
 | none => rw [hF] at hf; cases hf
 | some F =>
  rw [hF] at hf
  simp only [Option.map_some, Option.some.injEq, Prod.mk.injEq] at hf
  exact ⟨Fs, F, h1, hF, hf.1, hf.2⟩
theorem zl {L : List Nat} {N : Nat} {β : List Nat} {ty : Nat → LT} (hty : TysOk P ty) {t : TypeId} {f : Nat} {x r : R} {u : Value} (h : rJ (ty t) ty x f = some r) (hx : RR L N μ β x u) :
  ∃ r', (Instr.fieldAt t u f).run P w = .ok r' w ∧ RR L N μ β r r' := by
 unfold rJ at h
 split at h
 ·rename_i fs hd
  split at h
  ·rename_i off ft hf
   obtain ⟨Fs, F, h1, h2, rfl, rfl⟩ := qH hty hd hf
   split at h
   ·cases h
   ·rename_i hz
    have hsz := aS (hty.of_size hz) w
    split at h
    ·cases h
     obtain ⟨h3, h4, b, hb, rfl⟩ := hx
     exact ⟨_, by simp [Instr.fieldAt, run_underlying h1, h2, Instr.sureAddr, fieldPlace, hsz, hz, Addr.add_lit], h3, h4, b, hb, rfl⟩
    ·cases h
     obtain ⟨m, hm, rfl⟩ := VR.ptr_inv hx
     refine ⟨_, by simp [Instr.fieldAt, run_underlying h1, h2, Instr.sureAddr, fieldPlace, hsz, hz, Addr.add_lit]; rfl, ?_⟩
     rw [Nat.add_assoc]
     exact VR.ptr _ _ m hm
    ·cases h
  ·cases h
 ·cases h
theorem EG {T : LT} {t : TypeId} (hty : TyOk P t T) {cs : List V} {us : Array Value} (hl : cs.length = us.size) (hc : ∀ (i : Nat) (v : V) (u : Value), cs[i]? = some v → us[i]? = some u → VR μ v u)
  {off : Nat} {v : V} (h : mP T cs off = some v) : ∃ r, (part t us off).run P w = .ok r w ∧ VR μ v r := by
 unfold mP at h
 split at h
 ·rename_i xs hr
  cases h
  unfold dO at hr
  split at hr
  ·rename_i hle
   cases hr
   cases ha : T.isAgg with
   | true =>
    simp only [LT.num, ha, if_true] at hle ⊢
    refine ⟨.agg (us.extract off (off + T.size)), by simp [part, jY hty, ha, aS hty], ?_⟩
    simp only [JW, if_true]
    refine .agg _ _ (by simp; omega) fun i v u hv hu => ?_
    have hi : i < T.size := by
     rcases Nat.lt_or_ge i T.size with hj | hj
     ·exact hj
     ·rw [List.getElem?_eq_none (by simp; omega)] at hv; cases hv
    rw [List.getElem?_take_of_lt hi, List.getElem?_drop] at hv
    rw [Array.getElem?_extract] at hu
    split at hu
    ·exact hc _ _ _ hv (by simpa using hu)
    ·cases hu
   | false =>
    simp only [LT.num, ha] at hle ⊢
    obtain ⟨u, hu⟩ : ∃ u, us[off]? = some u := ⟨us[off]'(by simp at hle; omega), by simp⟩
    obtain ⟨v, hv⟩ : ∃ v, cs[off]? = some v := ⟨cs[off]'(by simp at hle; omega), by simp⟩
    refine ⟨u, by simp [part, jY hty, ha, hu], ?_⟩
    have e : JW false ((cs.drop off).take (if false = true then T.size else 1)) = v := by
     simp only [JW, Bool.false_eq_true, if_false]
     rw [List.headD_eq_head?_getD, List.head?_take, List.head?_drop, hv]
     simp
    rw [e]
    exact hc _ _ _ hv hu
  ·cases hr
 ·cases h
theorem zI {ty : Nat → LT} (hty : TysOk P ty) {t : TypeId} {f : Nat} {x v : V} {u : Value} (h : jO (ty t) ty x f = some v) (hx : VR μ x u) :
  ∃ r, (Instr.field t u f).run P w = .ok r w ∧ VR μ v r := by
 unfold jO at h
 split at h
 ·rename_i fs cs hd
  split at h
  ·rename_i off ft hf
   split at h
   ·cases h
   ·rename_i hz
    obtain ⟨Fs, F, h1, h2, rfl, rfl⟩ := qH hty hd hf
    obtain ⟨us, rfl, hl, hc⟩ := hx.agg_inv
    obtain ⟨r, h3, h4⟩ := EG (w := w) (hty.of_size hz) hl hc h
    exact ⟨r, by simp [Instr.field, run_underlying h1, h2, asAgg, h3], h4⟩
  ·cases h
 ·cases h
theorem zM {L : List Nat} {N : Nat} {β : List Nat} {ty : Nat → LT} (hty : TysOk P ty) {t : TypeId} {x r : R} {i : V} {u u' : Value} (h : dE (ty t) ty x i = some r)
  (hx : RR L N μ β x u) (hi : VR μ i u') : ∃ r', (Instr.indexAt t u u').run P w = .ok r' w ∧ RR L N μ β r r' := by
 unfold dE at h
 split at h
 ·rename_i e id off n k i hd
  have h1 := (hty.of_desc (t := t) (by rw [hd]; simp)).desc
  rw [hd] at h1
  obtain rfl := hi.int_inv
  split at h
  ·rename_i hb
   split at h
   ·cases h
   ·rename_i hz
    cases h
    have hsz := aS (hty.of_size hz) w
    obtain ⟨m, hm, ⟨c, hc, _, _, rfl⟩ | ⟨rfl, _, a, rfl⟩⟩ := VR.slc_inv hx
    ·refine ⟨_, by simp [Instr.indexAt, asIntOf, run_underlying h1, hb, hsz, Addr.add_lit]; rfl, ?_⟩
     rw [Nat.add_assoc]
     exact VR.ptr _ _ m hm
    ·exact absurd hb.2 (by have := hb.1; omega)
  ·cases h
 ·rename_i n e b c off k i hd
  have h1 := (hty.of_desc (t := t) (by rw [hd]; simp)).desc
  rw [hd] at h1
  obtain rfl := hi.int_inv
  split at h
  ·rename_i hb
   split at h
   ·cases h
   ·rename_i hz
    cases h
    have hsz := aS (hty.of_size hz) w
    obtain ⟨h3, h4, b, hb', rfl⟩ := hx
    exact ⟨_, by simp [Instr.indexAt, asIntOf, run_underlying h1, hb, hsz, Addr.add_lit, Instr.sureAddr], h3, h4, b, hb', rfl⟩
  ·cases h
 ·rename_i n e id off k i hd
  have h1 := (hty.of_desc (t := t) (by rw [hd]; simp)).desc
  rw [hd] at h1
  obtain rfl := hi.int_inv
  split at h
  ·rename_i hb
   split at h
   ·cases h
   ·rename_i hz
    cases h
    have hsz := aS (hty.of_size hz) w
    obtain ⟨m, hm, rfl⟩ := VR.ptr_inv hx
    refine ⟨_, by simp [Instr.indexAt, asIntOf, run_underlying h1, hb, hsz, Addr.add_lit, Instr.sureAddr]; rfl, ?_⟩
    rw [Nat.add_assoc]
    exact VR.ptr _ _ m hm
  ·cases h
 ·cases h
theorem GX (b : ByteArray) (i : Nat) : b[i]? = b.data.toList[i]? := by
 by_cases h : i < b.size
 ·rw [getElem?_pos b i h]
  have h' : i < b.data.toList.length := by simpa using h
  rw [List.getElem?_eq_getElem h']
  rfl
 ·rw [getElem?_neg b i h, List.getElem?_eq_none (by simpa using h)]
theorem Ak {ty : Nat → LT} (hty : TysOk P ty) {t : TypeId} {x i v : V} {u u' : Value} (h : zQ (ty t) ty x i = some v) (hx : VR μ x u) (hi : VR μ i u') :
  ∃ r, (Instr.index t u u').run P w = .ok r w ∧ VR μ v r := by
 unfold zQ at h
 split at h
 ·rename_i s k i hd
  have h1 := (hty.of_desc (t := t) (by rw [hd]; simp)).desc
  rw [hd] at h1
  obtain rfl := hi.int_inv
  obtain ⟨b, rfl, rfl⟩ := hx.str_inv
  split at h
  ·rename_i h0
   split at h
   ·rename_i c hc
    cases h
    rw [← GX] at hc
    exact ⟨_, by simp [Instr.index, asIntOf, run_underlying h1, h0, hc], .int _ _⟩
   ·cases h
  ·cases h
 ·rename_i n e cs k i hd
  have h1 := (hty.of_desc (t := t) (by rw [hd]; simp)).desc
  rw [hd] at h1
  obtain rfl := hi.int_inv
  split at h
  ·rename_i hb
   obtain ⟨us, rfl, hl, hc⟩ := hx.agg_inv
   have hsz := aS (hty.of_size hb.2.2) w
   obtain ⟨r, h3, h4⟩ := EG (w := w) (hty.of_size hb.2.2) hl hc h
   exact ⟨r, by simp [Instr.index, asIntOf, run_underlying h1, hb.1, hb.2.1, hsz, h3], h4⟩
  ·cases h
 ·cases h
end
end Go.Lite
end
