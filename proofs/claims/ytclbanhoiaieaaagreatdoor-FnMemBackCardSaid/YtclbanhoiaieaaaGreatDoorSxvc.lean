/-
  A verification-condition generator for the model's code, and its soundness: symbolic slots and symbolic memory; what each operation gives and owes; regions that draw their order; loops; calls by contract.
  Conditions: none. The text is the same for every seat; nothing of a program stands in it.
-/
import Derived.WalkKit
import Derived.Orders
import Derived.Laws.BytesString
import Derived.Stop.IfaceNil
import Derived.Lib.LazyBuf
import Derived.Test.YtclbanhoiaieaaaGreatDoorApvc
set_option linter.unusedVariables false
set_option linter.unusedSimpArgs false
set_option linter.unnecessarySimpa false
namespace Go.Sx
open Go

inductive C where
  | v (x : Value)
  | p (k b off : Nat)
  | s (k b off len cap : Nat)

structure Blk where
  id : Nat
  cells : List C
  ty : TypeId

def den : C → Value
  | .v x => x
  | .p _ b off => .pointer (some ⟨b, off, none⟩)
  | .s _ b off len cap => .slice (some ⟨b, off, none⟩) len cap

structure Cx where
  w0 : World
  g0 : List Nat
  w1 : World
  gs : List Nat

structure MemRel (cx : Cx) (mem : List Blk) (w : World) : Prop where
  os : w.os = cx.w0.os
  tape : w.tape = cx.w0.tape
  output : w.output = cx.w0.output
  frame : ∀ i, i < cx.w0.heap.size → i ∉ cx.g0 → w.heap[i]? = cx.w0.heap[i]?
  facts : ∀ i, i < cx.w1.heap.size → i ∉ cx.gs → w.heap[i]? = cx.w1.heap[i]?
  le01 : cx.w0.heap.size ≤ cx.w1.heap.size
  le1 : cx.w1.heap.size ≤ w.heap.size
  blk : ∀ (k : Nat) b, mem[k]? = some b → w.heap[b.id]? = some (.cells (b.cells.map den).toArray b.ty (0, 0))
  fresh : ∀ b ∈ mem, b.id ∈ cx.gs ∨ cx.w1.heap.size ≤ b.id
  low : ∀ b ∈ mem, b.id < cx.w0.heap.size → b.id ∈ cx.g0
  inj : ∀ (i j : Nat) b c, mem[i]? = some b → mem[j]? = some c → b.id = c.id → i = j

def factF (cx : Cx) (a : Addr) : Option Value := if a.block ∈ cx.gs then none else cx.w1.cell? a
def memF : List Blk → Addr → Option Value
  | [], _ => none
  | b :: r, a => if a.block = b.id ∧ a.spot = none then (b.cells[a.off]?).map den else memF r a
def nowF (cx : Cx) (mem : List Blk) (a : Addr) : Option Value := (factF cx a).or (memF mem a)

abbrev Facts := Addr → Option Value
def Sub (F G : Facts) : Prop := ∀ a v, F a = some v → G a = some v
def newF (cx : Cx) : Facts := fun a => if cx.w0.heap.size ≤ a.block then factF cx a else none
structure Le (cx cx' : Cx) : Prop where
  w0 : cx'.w0 = cx.w0
  g0 : cx'.g0 = cx.g0
  fact : Sub (factF cx) (factF cx')
def RdL (F : Facts) (o : Option Addr) (vs : List Value) : Prop := ∀ (j : Nat) v, vs[j]? = some v → ∃ a, o = some a ∧ F (a.add j) = some v

def padd (o : Option Addr) (n : Nat) : Option Addr := o.map (·.add n)
theorem addr_add_add (a : Addr) (m n : Nat) : (a.add m).add n = a.add (m + n) := by
  unfold Addr.add
  by_cases h : m = 0 <;> by_cases h' : n = 0 <;> simp [h, h', Nat.add_assoc]
@[simp] theorem padd_padd (o : Option Addr) (m n : Nat) : padd (padd o m) n = padd o (m + n) := by
  cases o <;> simp [padd, addr_add_add]
@[simp] theorem padd_zero (o : Option Addr) : padd o 0 = o := by
  cases o <;> simp [padd, Addr.add]
@[simp] theorem padd_some (b off n : Nat) : padd (some ⟨b, off, none⟩) n = some ⟨b, off + n, none⟩ := by
  unfold padd Addr.add
  by_cases h : n = 0 <;> simp [h]
@[simp] theorem padd_isSome (o : Option Addr) (n : Nat) : (padd o n).isSome = o.isSome := by cases o <;> rfl

abbrev Tm := List (Nat × C)

def look : Tm → Nat → C
  | [], _ => .v undef
  | (i, c) :: r, s => if s = i then c else look r s

def put (tm : Tm) (d : Option Nat) (c : C) : Tm :=
  match d with
  | some d => (d, c) :: tm
  | none => tm

def get (tm : Tm) : Operand → C
  | .tmp t => look tm t
  | .const x => .v x
  | .global g => .v (.pointer (some ⟨g, 0, none⟩))
  | .func f => .v (.func (.func f) #[] #[])

structure TmRel (N : Nat) (tm : Tm) (a : Act) : Prop where
  size : a.tmps.size = N
  defers : a.defers = []
  slot : ∀ s, a.tmps.getD s undef = den (look tm s)

def aggT (P : Program) (t : TypeId) : Option Bool :=
  match P.underlying t with
  | some (.struct _) => some true
  | some (.array _ _) => some true
  | some _ => some false
  | none => none

def cellsC : C → List C
  | .v x => x.cells.toList.map .v
  | c => [c]

def allV : List C → Option (List Value)
  | [] => some []
  | .v x :: r => match allV r with
    | some l => some (x :: l)
    | none => none
  | .p _ b off :: r => match allV r with
    | some l => some (.pointer (some ⟨b, off, none⟩) :: l)
    | none => none
  | .s _ b off len cap :: r => match allV r with
    | some l => some (.slice (some ⟨b, off, none⟩) len cap :: l)
    | none => none

def C.one : C → Bool
  | .v x => x.oneCell'
  | _ => true

def zeroL (P : Program) (t : TypeId) : Option (List Value) := ((P.info? t).bind (·.zero)).map (·.cells.toList)

def splice (l : List C) (off : Nat) (cs : List C) : List C :=
  match cs with
  | [c] => l.set off c
  | cs => l.take off ++ cs ++ l.drop (off + cs.length)

@[simp] theorem splice_one (l : List C) (off : Nat) (c : C) : splice l off [c] = l.set off c := rfl
@[simp] theorem splice_two (l : List C) (off : Nat) (c d : C) (r : List C) : splice l off (c :: d :: r) = l.take off ++ (c :: d :: r) ++ l.drop (off + (c :: d :: r).length) := rfl
@[simp] theorem splice_nil (l : List C) (off : Nat) : splice l off [] = l.take off ++ [] ++ l.drop (off + 0) := rfl
theorem splice_eq {l : List C} {off : Nat} {cs : List C} (h : off + cs.length ≤ l.length) : splice l off cs = l.take off ++ cs ++ l.drop (off + cs.length) := by
  unfold splice
  split
  · rename_i c
    have h' : off < l.length := by simp at h; omega
    rw [List.set_eq_take_append_cons_drop, if_pos h']
    simp
  · rfl

def binF : BinOp → Value → Value → Option (Value × Prop)
  | op, .int k a, .int k' b =>
    match op with
    | .shl => some (.int k (k.wrap (a * 2 ^ min b.toNat k.bits)), 0 ≤ b)
    | .shr => some (.int k (a.fdiv (2 ^ min b.toNat k.bits)), 0 ≤ b)
    | .add => some (.int k (k.wrap (a + b)), k = k')
    | .sub => some (.int k (k.wrap (a - b)), k = k')
    | .mul => some (.int k (k.wrap (a * b)), k = k')
    | .quo => some (.int k (k.wrap (a.tdiv b)), k = k' ∧ b ≠ 0)
    | .rem => some (.int k (a.tmod b), k = k' ∧ b ≠ 0)
    | .and => some (.int k (k.wrap (BitVec.ofInt k.bits a &&& BitVec.ofInt k.bits b).toNat), k = k')
    | .or => some (.int k (k.wrap (BitVec.ofInt k.bits a ||| BitVec.ofInt k.bits b).toNat), k = k')
    | .xor => some (.int k (k.wrap (BitVec.ofInt k.bits a ^^^ BitVec.ofInt k.bits b).toNat), k = k')
    | .andNot => some (.int k (k.wrap (BitVec.ofInt k.bits a &&& ~~~ BitVec.ofInt k.bits b).toNat), k = k')
    | .eql => some (.bool (a == b), k = k')
    | .neq => some (.bool (a != b), k = k')
    | .lss => some (.bool (decide (a < b)), k = k')
    | .leq => some (.bool (decide (a ≤ b)), k = k')
    | .gtr => some (.bool (decide (b < a)), k = k')
    | .geq => some (.bool (decide (b ≤ a)), k = k')
  | op, .float k a, .float k' b =>
    match op with
    | .eql => some (.bool (k.format.order a b == some .eq), k = k')
    | .neq => some (.bool (k.format.order a b != some .eq), k = k')
    | .lss => some (.bool (k.format.order a b == some .lt), k = k')
    | .leq => some (.bool (k.format.order a b == some .lt || k.format.order a b == some .eq), k = k')
    | .gtr => some (.bool (k.format.order a b == some .gt), k = k')
    | .geq => some (.bool (k.format.order a b == some .gt || k.format.order a b == some .eq), k = k')
    | _ => none
  | op, .string a, .string b =>
    match op with
    | .add => some (.string (a ++ b), a.size + b.size ≤ 9223372036854775807)
    | .eql => some (.bool (a.toList == b.toList), True)
    | .neq => some (.bool (!(a.toList == b.toList)), True)
    | _ => none
  | _, _, _ => none

def unF : UnOp → Value → Option Value
  | .not, .bool b => some (.bool (!b))
  | .neg, .int k n => some (.int k (k.wrap (0 - n)))
  | .neg, .float k b => some (.float k (Op.negFloat k b))
  | _, _ => none

def partFn (P : Program) (t : TypeId) (cs : Array Value) (off : Nat) : Option Value :=
  match aggT P t with
  | some true => some (.agg (cs.extract off (off + P.cellsOf t)))
  | some false => cs[off]?
  | none => none

def eqFieldsFn (P : Program) (rec : TypeId → Value → Value → Option Bool) (xs ys : Array Value) : List Field → Option Bool
  | [] => some true
  | f :: r => if f.name ≠ "_" then
      match partFn P f.type xs f.offset with
      | some a => match partFn P f.type ys f.offset with
        | some b => match rec f.type a b with
          | some p => match eqFieldsFn P rec xs ys r with
            | some q => some (p && q)
            | none => none
          | none => none
        | none => none
      | none => none
    else eqFieldsFn P rec xs ys r

def eqElemsFn (P : Program) (rec : TypeId → Value → Value → Option Bool) (xs ys : Array Value) (e : TypeId) : List Nat → Option Bool
  | [] => some true
  | i :: r =>
      match partFn P e xs (i * P.cellsOf e) with
      | some a => match partFn P e ys (i * P.cellsOf e) with
        | some b => match rec e a b with
          | some p => match eqElemsFn P rec xs ys e r with
            | some q => some (p && q)
            | none => none
          | none => none
        | none => none
      | none => none

def eqFn (P : Program) : Nat → TypeId → Value → Value → Option Bool
  | 0, _, _, _ => none
  | d + 1, t, x, y =>
    match P.underlying t with
    | some .bool => match x, y with
      | .bool a, .bool b => some (a == b)
      | _, _ => none
    | some (.int _) => match x, y with
      | .int k a, .int k' b => if k = k' then some (a == b) else none
      | _, _ => none
    | some (.float _) => match x, y with
      | .float k a, .float k' b => if k = k' then some (Op.floatEq k a b) else none
      | _, _ => none
    | some .string => match x, y with
      | .string a, .string b => some (a.toList == b.toList)
      | _, _ => none
    | some (.struct fs) => match x, y with
      | .agg xs, .agg ys => if P.stoodInHeld t = true then none else eqFieldsFn P (eqFn P d) xs ys fs.toList
      | _, _ => none
    | some (.array n e) => match x, y with
      | .agg xs, .agg ys => if n = 0 then none else eqElemsFn P (eqFn P d) xs ys e (List.range n)
      | _, _ => none
    | _ => none

def aggEqFn (P : Program) (op : BinOp) (t : TypeId) (x y : Value) : Option (Value × Prop) :=
  match x, y with
  | .agg xs, .agg ys => match op with
    | .eql => match eqFn P 12 t (.agg xs) (.agg ys) with
      | some b => some (.bool b, P.eqGuardType P.depth t = false)
      | none => none
    | .neq => match eqFn P 12 t (.agg xs) (.agg ys) with
      | some b => some (.bool (!b), P.eqGuardType P.depth t = false)
      | none => none
    | _ => none
  | .bool a, .bool b => match op with
    | .eql => some (.bool (a == b), P.underlying t = some .bool)
    | .neq => some (.bool (a != b), P.underlying t = some .bool)
    | _ => none
  | _, _ => none

def isSl (P : Program) (t : TypeId) : Bool := match P.underlying t with
  | some (.slice _) => true
  | _ => false
theorem isSl_under {P : Program} {t : TypeId} (h : isSl P t = true) : ∃ e, P.underlying t = some (.slice e) := by
  unfold isSl at h
  split at h
  · rename_i e he; exact ⟨e, he⟩
  · cases h
def nilEqFn (P : Program) (op : BinOp) (t : TypeId) (y : Operand) (a b : Value) : Option (Value × Prop) :=
  match y with
  | .const _ => match a, b with
    | .iface _ _, .nilIface => match op with
      | .eql => some (.bool false, P.isIface t = true)
      | .neq => some (.bool true, P.isIface t = true)
      | _ => none
    | .nilIface, .nilIface => match op with
      | .eql => some (.bool true, P.isIface t = true)
      | .neq => some (.bool false, P.isIface t = true)
      | _ => none
    | .slice o _ _, .slice none 0 0 => match op with
      | .eql => some (.bool o.isNone, isSl P t = true)
      | .neq => some (.bool (!o.isNone), isSl P t = true)
      | _ => none
    | _, _ => none
  | _ => none

def boundFn (tm : Tm) (d : Nat) : Option Operand → Option Int
  | none => some d
  | some x => match get tm x with
    | .v (.int _ n) => some n
    | _ => none

def sliceFn (P : Program) (tm : Tm) (t : TypeId) (x : Operand) (lo hi mx : Option Operand) : Option (C × Prop) :=
  match P.underlying t with
  | some .string => match get tm x with
    | .v (.string s) => match mx with
      | none => match boundFn tm 0 lo with
        | some l => match boundFn tm s.size hi with
          | some h => some (.v (.string (s.extract l.toNat h.toNat)), 0 ≤ l ∧ l ≤ h ∧ h ≤ s.size)
          | none => none
        | none => none
      | some _ => none
    | _ => none
  | some (.slice e) => match get tm x with
    | .s k b off len cap => match boundFn tm 0 lo with
      | some l => match boundFn tm len hi with
        | some h => match boundFn tm cap mx with
          | some m => some (.s k b (if m = l then off else off + l.toNat * P.cellsOf e) (h.toNat - l.toNat) (m.toNat - l.toNat), (0 ≤ l ∧ l ≤ h ∧ h ≤ m ∧ m ≤ cap) ∧ P.cellsOf e ≠ 0 ∧ (mx = none ∨ hi.isSome = true))
          | none => none
        | none => none
      | none => none
    | .v (.slice o len cap) => match boundFn tm 0 lo with
      | some l => match boundFn tm len hi with
        | some h => match boundFn tm cap mx with
          | some m => some (.v (.slice (if m = l then o else padd o (l.toNat * P.cellsOf e)) (h.toNat - l.toNat) (m.toNat - l.toNat)), (0 ≤ l ∧ l ≤ h ∧ h ≤ m ∧ m ≤ cap) ∧ P.cellsOf e ≠ 0 ∧ (mx = none ∨ hi.isSome = true))
          | none => none
        | none => none
      | none => none
    | _ => none
  | some (.array n e) => match mx with
    | none => match boundFn tm 0 lo with
      | some l => match boundFn tm n hi with
        | some h => match get tm x with
          | .p k b off => some (.s k b (if (n : Int) = l then off else off + l.toNat * P.cellsOf e) (h.toNat - l.toNat) (n - l.toNat), (0 ≤ l ∧ l ≤ h ∧ h ≤ n) ∧ P.cellsOf e ≠ 0)
          | .v (.pointer o) => some (.v (.slice (if (n : Int) = l then o else padd o (l.toNat * P.cellsOf e)) (h.toNat - l.toNat) (n - l.toNat)), ((0 ≤ l ∧ l ≤ h ∧ h ≤ n) ∧ P.cellsOf e ≠ 0) ∧ o.isSome = true)
          | _ => none
        | none => none
      | none => none
    | some _ => none
  | _ => none

def pureFn (P : Program) (tm : Tm) (mem : List Blk) : Op → Option (C × Prop)
  | .move x => some (get tm x, True)
  | .assign x => some (get tm x, True)
  | .pick c a b => match get tm c with
    | .v (.bool t) => some (if t then get tm a else get tm b, True)
    | _ => none
  | .load t x => match get tm x with
    | .p k b off => match mem[k]? with
      | some bl =>
        match aggT P t with
        | some true => match allV ((bl.cells.drop off).take (P.cellsOf t)) with
          | some vs => some (.v (.agg vs.toArray), bl.id = b ∧ off + P.cellsOf t ≤ bl.cells.length)
          | none => none
        | some false => match bl.cells[off]? with
          | some c => some (c, bl.id = b)
          | none => none
        | none => none
      | none => none
    | _ => none
  | .nilCheck x => match get tm x with
    | .p k b off => some (.p k b off, True)
    | .v (.pointer o) => some (.v (.pointer o), o.isSome = true)
    | _ => none
  | .fieldAddr t x f => match P.underlying t with
    | some (.struct fs) => match fs[f]? with
      | some fd => match get tm x with
        | .p k b off => some (.p k b (off + fd.offset), P.cellsOf fd.type ≠ 0)
        | .v (.pointer o) => some (.v (.pointer (padd o fd.offset)), P.cellsOf fd.type ≠ 0 ∧ o.isSome = true)
        | _ => none
      | none => none
    | _ => none
  | .field t x f => match P.underlying t with
    | some (.struct fs) => match fs[f]? with
      | some fd => match get tm x with
        | .v (.agg cs) =>
          match aggT P fd.type with
          | some true => some (.v (.agg (cs.extract fd.offset (fd.offset + P.cellsOf fd.type))), True)
          | some false => match cs[fd.offset]? with
            | some y => some (.v y, True)
            | none => none
          | none => none
        | _ => none
      | none => none
    | _ => none
  | .indexAddr t x i => match P.underlying t with
    | some (.array n e) => match get tm i with
      | .v (.int _ j) => match get tm x with
        | .p k b off => some (.p k b (off + j.toNat * P.cellsOf e), P.cellsOf e ≠ 0 ∧ 0 ≤ j ∧ j < n)
        | .v (.pointer o) => some (.v (.pointer (padd o (j.toNat * P.cellsOf e))), P.cellsOf e ≠ 0 ∧ (0 ≤ j ∧ j < n) ∧ o.isSome = true)
        | _ => none
      | _ => none
    | some (.slice e) => match get tm i with
      | .v (.int _ j) => match get tm x with
        | .s k b off len _ => some (.p k b (off + j.toNat * P.cellsOf e), P.cellsOf e ≠ 0 ∧ 0 ≤ j ∧ j < len)
        | .v (.slice o len _) => some (.v (.pointer (padd o (j.toNat * P.cellsOf e))), P.cellsOf e ≠ 0 ∧ (0 ≤ j ∧ j < len) ∧ o.isSome = true)
        | _ => none
      | _ => none
    | _ => none
  | .index t x i => match P.underlying t with
    | some (.array n e) => match get tm i with
      | .v (.int _ j) => match get tm x with
        | .v (.agg cs) =>
          match aggT P e with
          | some true => some (.v (.agg (cs.extract (j.toNat * P.cellsOf e) (j.toNat * P.cellsOf e + P.cellsOf e))), 0 ≤ j ∧ j < n)
          | some false => match cs[j.toNat * P.cellsOf e]? with
            | some y => some (.v y, 0 ≤ j ∧ j < n)
            | none => none
          | none => none
        | _ => none
      | _ => none
    | some .string => match get tm i with
      | .v (.int _ j) => match get tm x with
        | .v (.string s) => match s[j.toNat]? with
          | some y => some (.v (.int .u8 y.toNat), 0 ≤ j)
          | none => none
        | _ => none
      | _ => none
    | _ => none
  | .binOp op t x y _ => match get tm x with
    | .v a => match get tm y with
      | .v b => match binF op a b with
        | some (r, ob) => some (.v r, ob)
        | none => match aggEqFn P op t a b with
          | some (r, ob) => some (.v r, ob)
          | none => match nilEqFn P op t y a b with
            | some (r, ob) => some (.v r, ob)
            | none => none
      | _ => none
    | _ => none
  | .unOp op _ x => match get tm x with
    | .v a => match unF op a with
      | some r => some (.v r, True)
      | none => none
    | _ => none
  | .convert src dst x => match get tm x with
    | .v (.int _ n) => match P.underlying dst with
      | some (.int k) => some (.v (.int k (k.wrap n)), (P.underlying src).isSome = true)
      | some (.float k) => some (.v (.float k (k.nearest n)), (P.underlying src).isSome = true)
      | _ => none
    | _ => none
  | .slice t x lo hi mx => sliceFn P tm t x lo hi mx
  | .extract x i => match get tm x with
    | .v (.tuple vs) => match vs[i]? with
      | some y => some (.v y, True)
      | none => none
    | _ => none
  | .call c => match c.callee with
    | .builtin .len => match c.argTypes[0]? with
      | some t => match c.args[0]? with
        | some x => match P.underlying t with
          | some .string => match get tm x with
            | .v (.string s) => some (.v (.int .i64 s.size), True)
            | _ => none
          | some (.slice _) => match get tm x with
            | .v (.slice _ n _) => some (.v (.int .i64 n), True)
            | .s _ _ _ n _ => some (.v (.int .i64 n), True)
            | _ => none
          | some (.array n _) => some (.v (.int .i64 n), True)
          | _ => none
        | none => none
      | none => none
    | .builtin .min => match c.args.toList with
      | [x, y] => match get tm x with
        | .v (.int k a) => match get tm y with
          | .v (.int _ b) => some (.v (.int k (if b < a then b else a)), True)
          | _ => none
        | _ => none
      | _ => none
    | .builtin .max => match c.args.toList with
      | [x, y] => match get tm x with
        | .v (.int k a) => match get tm y with
          | .v (.int _ b) => some (.v (.int k (if b > a then b else a)), True)
          | _ => none
        | _ => none
      | _ => none
    | _ => none
  | _ => none

def fillL (place : Nat → Option (Nat × Nat)) : List Value → List (Nat × Value) → Option (List Value)
  | cells, [] => some cells
  | cells, (i, v) :: rest => match place i with
    | none => none
    | some (off, size) =>
      if v.cells.size = size ∧ off + size ≤ cells.length then fillL place (cells.take off ++ v.cells.toList ++ cells.drop (off + size)) rest else none

def partsV (tm : Tm) : List (Nat × Operand) → Option (List (Nat × Value))
  | [] => some []
  | (i, x) :: r => match partsV tm r with
    | some l => some ((i, den (get tm x)) :: l)
    | none => none

def buildFn (P : Program) (tm : Tm) (t : TypeId) (parts : List (Nat × Operand)) : Option (C × Prop) :=
  match zeroL P t with
  | some z => match partsV tm parts with
    | some ps => match P.underlying t with
      | some (.struct fs) => match fillL (fun i => (fs[i]?).map fun f => (f.offset, P.cellsOf f.type)) z ps with
        | some cells => some (.v (.agg cells.toArray), ∀ f ∈ fs.toList, P.cellsOf f.type ≠ 0)
        | none => none
      | some (.array _ e) => match fillL (fun i => some (i * P.cellsOf e, P.cellsOf e)) z ps with
        | some cells => some (.v (.agg cells.toArray), P.cellsOf e ≠ 0)
        | none => none
      | _ => none
    | none => none
  | none => none

def partsC (tm : Tm) (size : Nat) : Nat → List (Nat × Operand) → Option (List C × Prop)
  | _, [] => some ([], True)
  | n, (i, x) :: r => match partsC tm size (n + 1) r with
    | some (l, ob) => some (cellsC (get tm x) ++ l, i = n ∧ (cellsC (get tm x)).length = size ∧ ob)
    | none => none

def newFn (P : Program) (tm : Tm) (mem : List Blk) : Op → Option (List C × TypeId × (Nat → C) × Prop)
  | .alloc t => match zeroL P t with
    | some z => some (z.map .v, t, fun b => .p mem.length b 0, True)
    | none => none
  | .box t x => some (cellsC (get tm x), t, fun b => .p mem.length b 0, True)
  | .buildSlice t len parts => match P.underlying t with
    | some (.slice e) => match partsC tm (P.cellsOf e) 0 parts.toList with
      | some (cs, ob) => some (cs, e, fun b => .s mem.length b 0 len len, ob ∧ P.cellsOf e ≠ 0 ∧ parts.size = len ∧ len * P.cellsOf e ≤ 16777216 ∧ (zeroL P e).isSome = true)
      | none => none
    | _ => none
  | _ => none

structure Tag {α : Type} (x : α) : Type where
def LoadV (d : Nat) (P : Program) (cx : Cx) (mem : List Blk) (t : TypeId) (o : Option Addr) (K : Value → Prop) (_u : Tag K := ⟨⟩) : Prop :=
  ∃ a, o = some a ∧ match aggT P t with
    | some true => ∃ vs : List Value, vs.length = P.cellsOf t ∧ (∀ (j : Nat) v, vs[j]? = some v → nowF cx mem (a.add j) = some v) ∧ K (.agg vs.toArray)
    | some false => ∃ v, nowF cx mem a = some v ∧ K v
    | none => False
/- The number d is there alone so that simp finds something to turn, and leaves what stands behind the load. -/
@[congr] theorem LoadV_congr {d d' : Nat} {P : Program} {cx : Cx} {mem : List Blk} {t : TypeId} {o o' : Option Addr} {K : Value → Prop} (h' : d = d') (h : o = o') : LoadV d P cx mem t o K = LoadV d' P cx mem t o' K := by rw [h]; rfl

def SliceV (d : Nat) (cx : Cx) (mem : List Blk) (o : Option Addr) (n : Nat) (K : List Value → Prop) (_u : Tag K := ⟨⟩) : Prop :=
  ∃ vs : List Value, vs.length = n ∧ (∀ (j : Nat) v, vs[j]? = some v → ∃ a, o = some a ∧ nowF cx mem (a.add j) = some v) ∧ K vs
@[congr] theorem SliceV_congr {d d' : Nat} {cx : Cx} {mem : List Blk} {o o' : Option Addr} {n n' : Nat} {K : List Value → Prop} (h'' : d = d') (h : o = o') (h' : n = n') : SliceV d cx mem o n K = SliceV d' cx mem o' n' K := by rw [h, h']; rfl

def NewsV (cx : Cx) (mem : List Blk) (size : Nat) (x : C) (K : Nat → List C → Prop) : Prop :=
  match x with
  | .s k b off len _ => match mem[k]? with
    | some bl => bl.id = b ∧ off + len * size ≤ bl.cells.length ∧ K len ((bl.cells.drop off).take (len * size))
    | none => False
  | .v (.slice o len _) => SliceV (1 + 1) cx mem o (len * size) fun vs => K len (vs.map .v)
  | .v (.string s) => size = 1 ∧ K s.size ((strL s).map .v)
  | _ => False

def GrowV (mem : List Blk) (e : TypeId) (size bytes : Nat) (s : C) (m : Nat) (news : List C) (K : C → List Blk → Prop) : Prop :=
  match s with
  | .v (.slice none n c) => n = 0 ∧ c = 0 ∧ (m = 0 → K (.v (.slice none 0 0)) mem) ∧
      (m ≠ 0 → m ≤ maxLen ∧ m * bytes ≤ 140737488355328 ∧ ∀ (b cap : Nat) (pad : List C), m ≤ cap → cap ≤ maxLen → pad.length = (cap - m) * size → K (.s mem.length b 0 m cap) (mem ++ [⟨b, news ++ pad, e⟩]))
  | .s k b off n cap => match mem[k]? with
    | some bl => bl.id = b ∧ bl.ty = e ∧ off = 0 ∧ bl.cells.length = cap * size ∧ n ≤ cap ∧ cap ≤ maxLen ∧ n + m ≤ maxLen ∧ (n + m) * bytes ≤ 140737488355328 ∧
        ∀ (b' cap' : Nat) (pad : List C), n + m ≤ cap' → cap' ≤ maxLen → pad.length = (cap' - (n + m)) * size → K (.s k b' 0 (n + m) cap') (mem.set k ⟨b', bl.cells.take (n * size) ++ (news ++ pad), e⟩)
    | none => False
  | _ => False

def bytesOf (P : Program) (t : TypeId) : Nat := ((P.info? t).map (·.bytes)).getD 0
def typeAt (c : Call) (i : Nat) : TypeId := c.argTypes.getD i 0
def argAt (c : Call) (i : Nat) : Operand := c.args.getD i (.const undef)

def AppV (P : Program) (cx : Cx) (tm : Tm) (mem : List Blk) (c : Call) (K : C → List Blk → Prop) : Prop :=
  c.args.size = 2 ∧ c.argTypes.size = 2 ∧ match P.underlying (typeAt c 0) with
  | some (.slice e) => P.cellsOf e ≠ 0 ∧ notInt P (typeAt c 1) = true ∧ (zeroL P e).map (·.length) = some (P.cellsOf e) ∧
      NewsV cx mem (P.cellsOf e) (get tm (argAt c 1)) fun m news => news.all C.one = true ∧ GrowV mem e (P.cellsOf e) (bytesOf P e) (get tm (argAt c 0)) m news K
  | _ => False

def CopyV (P : Program) (cx : Cx) (tm : Tm) (mem : List Blk) (c : Call) (K : C → List Blk → Prop) : Prop :=
  c.args.size = 2 ∧ c.argTypes.size = 2 ∧ match P.underlying (typeAt c 0) with
  | some (.slice e) => P.cellsOf e ≠ 0 ∧
      NewsV cx mem (P.cellsOf e) (get tm (argAt c 1)) fun m news => news.all C.one = true ∧ match get tm (argAt c 0) with
        | .s k b off len _ => match mem[k]? with
          | some bl => bl.id = b ∧ off + min m len * P.cellsOf e ≤ bl.cells.length ∧
              K (.v (.int .i64 (min m len : Nat))) (mem.set k ⟨b, splice bl.cells off (news.take (min m len * P.cellsOf e)), bl.ty⟩)
          | none => False
        | _ => False
  | _ => False

def MakeSliceV (P : Program) (tm : Tm) (mem : List Blk) (t : TypeId) (l c : Operand) (K : C → List Blk → Prop) : Prop :=
  match P.underlying t with
  | some (.slice e) => match get tm l with
    | .v (.int _ l') => match get tm c with
      | .v (.int _ c') => match zeroL P e with
        | some z => z.length = P.cellsOf e ∧ P.cellsOf e ≠ 0 ∧ 0 ≤ l' ∧ l' ≤ c' ∧ (bytesOf P e : Int) * c' ≤ 281474976710656 ∧ c' ≤ 9223372036854775807 ∧
            ∀ b, K (.s mem.length b 0 l'.toNat c'.toNat) (mem ++ [⟨b, ((List.replicate c'.toNat z).flatten).map .v, e⟩])
        | none => False
      | _ => False
    | _ => False
  | _ => False

def bytesL : List C → Option (List UInt8)
  | [] => some []
  | .v (.int .u8 n) :: r => (bytesL r).map (UInt8.ofNat n.toNat :: ·)
  | _ => none
def TextV (mem : List Blk) (k b off len : Nat) (K : C → Prop) : Prop :=
  match mem[k]? with
  | some bl => match bytesL ((bl.cells.drop off).take len) with
    | some l => bl.id = b ∧ off + len ≤ bl.cells.length ∧ K (.v (.string ⟨l.toArray⟩))
    | none => False
  | none => False

def storeFn (P : Program) (tm : Tm) (mem : List Blk) : Op → Option (List Blk × Prop)
  | .store t x y => match get tm x with
    | .p k b off => match mem[k]? with
      | some bl => some (mem.set k ⟨bl.id, splice bl.cells off (cellsC (get tm y)), bl.ty⟩,
          bl.id = b ∧ P.cellsOf t ≠ 0 ∧ (cellsC (get tm y)).length = P.cellsOf t ∧ off + P.cellsOf t ≤ bl.cells.length ∧ (cellsC (get tm y)).all C.one = true)
      | none => none
    | _ => none
  | _ => none


theorem eval_get {N : Nat} {tm : Tm} {a : Act} (h : TmRel N tm a) (x : Operand) : a.eval x = den (get tm x) := by
  cases x with
  | tmp t => exact h.slot t
  | const v => rfl
  | global g => rfl
  | func f => rfl

theorem allV_den : ∀ (l : List C) (vs : List Value), allV l = some vs → l.map den = vs
  | [], vs, h => by simp [allV] at h; subst h; rfl
  | .v x :: r, vs, h => by
    simp only [allV] at h
    cases hr : allV r with
    | none => simp [hr] at h
    | some l =>
      simp [hr] at h; subst h
      simp [den, allV_den r l hr]
  | .p k b off :: r, vs, h => by
    simp only [allV] at h
    cases hr : allV r with
    | none => rw [hr] at h; simp at h
    | some l =>
      rw [hr] at h; simp at h; subst h
      simp [den, allV_den r l hr]
  | .s k b off len cap :: r, vs, h => by
    simp only [allV] at h
    cases hr : allV r with
    | none => rw [hr] at h; simp at h
    | some l =>
      rw [hr] at h; simp at h; subst h
      simp [den, allV_den r l hr]

theorem addr_add (b off j : Nat) : (⟨b, off, none⟩ : Addr).add j = ⟨b, off + j, none⟩ := by
  unfold Addr.add; split
  · subst_vars; rfl
  · rfl

theorem map_den_v (l : List Value) : (l.map C.v).map den = l := by
  rw [List.map_map]
  have : (den ∘ C.v) = id := by funext x; rfl
  rw [this, List.map_id]

theorem cellsC_den (c : C) : (cellsC c).map den = (den c).cells.toList := by
  cases c with
  | v x => exact map_den_v _
  | p => rfl
  | s => rfl

section
variable {P : Program} {cx : Cx} {mem : List Blk} {w : World}

theorem aggT_info {t : TypeId} {b : Bool} (h : aggT P t = some b) : ∃ i, P.info? t = some i := by
  unfold aggT Program.underlying at h
  cases hi : P.info? t with
  | none => simp [hi] at h
  | some i => exact ⟨i, rfl⟩

theorem cells_info {t : TypeId} (h : P.cellsOf t ≠ 0) : ∃ i, P.info? t = some i := by
  unfold Program.cellsOf at h
  cases hi : P.info? t with
  | none => simp [hi] at h
  | some i => exact ⟨i, rfl⟩

theorem run_size {t : TypeId} {i : TypeInfo} (h : P.info? t = some i) (w : World) : (sizeOf t).run P w = .ok (P.cellsOf t) w := by
  simp [sizeOf, typeInfo, h, Program.cellsOf]

theorem isAgg_run {t : TypeId} {b : Bool} (h : aggT P t = some b) (w : World) : (isAgg t).run P w = .ok b w := by
  unfold aggT at h
  unfold isAgg
  cases hu : P.underlying t with
  | none => simp [hu] at h
  | some d =>
    rw [Sem.run_bind, run_underlying hu w]
    cases d <;> simp_all

theorem load_agg {t : TypeId} {b off : Nat} {arr : Array Value} {ty : TypeId} {fz : Nat × Nat} {vs : List Value} (hw : w.heap[b]? = some (.cells arr ty fz))
    (ha : aggT P t = some true) (hv : (arr.toList.drop off).take (P.cellsOf t) = vs) (hl : off + P.cellsOf t ≤ arr.size) :
    (loadVar t ⟨b, off, none⟩).run P w = .ok (.agg vs.toArray) w := by
  obtain ⟨i, hi⟩ := aggT_info ha
  have hlen : vs.length = P.cellsOf t := by rw [← hv]; simp; omega
  have hc := run_loadCells_list (P := P) w ⟨b, off, none⟩ vs (fun j v hj => by
    rw [addr_add]
    simp only [World.cell?, hw]
    rw [← hv] at hj
    simp only [List.getElem?_take, List.getElem?_drop] at hj
    split at hj
    · simpa using hj
    · simp at hj)
  rw [hlen] at hc
  simp [loadVar, isAgg_run ha, run_size hi, hc]

theorem load_one {t : TypeId} {b off : Nat} {arr : Array Value} {ty : TypeId} {fz : Nat × Nat} {v : Value} (hw : w.heap[b]? = some (.cells arr ty fz))
    (ha : aggT P t = some false) (hv : arr.toList[off]? = some v) :
    (loadVar t ⟨b, off, none⟩).run P w = .ok v w := by
  have hc : w.cell? ⟨b, off, none⟩ = some v := by simp [World.cell?, hw]; simpa using hv
  simp [loadVar, isAgg_run ha, hc]

theorem run_part {t : TypeId} {cs : Array Value} {off : Nat} (ha : aggT P t = some true) (w : World) :
    (part t cs off).run P w = .ok (.agg (cs.extract off (off + P.cellsOf t))) w := by
  obtain ⟨i, hi⟩ := aggT_info ha
  simp [part, isAgg_run ha, run_size hi]

theorem run_part_one {t : TypeId} {cs : Array Value} {off : Nat} {y : Value} (ha : aggT P t = some false) (hy : cs[off]? = some y) (w : World) :
    (part t cs off).run P w = .ok y w := by
  simp [part, isAgg_run ha, hy]

theorem binF_run {op : BinOp} {t : TypeId} {a b r : Value} {ob : Prop} (h : binF op a b = some (r, ob)) (ho : ob) (x y : Operand) (w : World) :
    (do eqGuard op t x y a b; binOp op t a b : Sem Value).run P w = .ok r w := by
  unfold binF at h
  split at h
  · rename_i k a k' b
    cases op <;> simp only [Option.some.injEq, Prod.mk.injEq] at h <;> obtain ⟨rfl, rfl⟩ := h <;>
      (try obtain ⟨rfl, ho⟩ := ho) <;> (try subst ho) <;>
      simp [eqGuard, binOp, Op.intArith, Op.intDiv, Op.intBits, Op.intCmp, Op.shift, *] <;> omega
  · rename_i k a k' b
    cases op <;> simp only [Option.some.injEq, Prod.mk.injEq, reduceCtorEq] at h <;> (try contradiction) <;> obtain ⟨rfl, rfl⟩ := h <;> subst ho <;>
      simp [eqGuard, binOp, Op.floatCmp]
  · rename_i a b
    cases op <;> simp only [Option.some.injEq, Prod.mk.injEq, reduceCtorEq] at h <;> (try contradiction) <;> obtain ⟨rfl, rfl⟩ := h <;>
      simp [eqGuard, binOp, Op.stringOp]
    all_goals omega
  · simp at h

theorem unF_run {op : UnOp} {a r : Value} (h : unF op a = some r) (w : World) : (Op.unary op a).run P w = .ok r w := by
  unfold unF at h
  split at h <;> simp only [Option.some.injEq, reduceCtorEq] at h <;> subst h <;> simp [Op.unary, Op.intArith]

theorem partFn_run {t : TypeId} {cs : Array Value} {off : Nat} {v : Value} (h : partFn P t cs off = some v) (w : World) : (part t cs off).run P w = .ok v w := by
  unfold partFn at h
  split at h
  · rename_i ha; simp only [Option.some.injEq] at h; subst h; exact run_part ha w
  · rename_i ha; exact run_part_one ha h w
  · simp at h

theorem eqFn_run : ∀ (d : Nat) (t : TypeId) (x y : Value) (b : Bool) (D : Nat), eqFn P d t x y = some b → d ≤ D → ∀ w, (Op.equalIn D t x y).run P w = .ok b w
  | 0, _, _, _, _, _, h, _, _ => by simp [eqFn] at h
  | d + 1, t, x, y, b, 0, _, hD, _ => by omega
  | d + 1, t, x, y, b, D + 1, h, hD, w => by
    simp only [eqFn] at h
    split at h <;> (try simp only [reduceCtorEq] at h)
    · rename_i hu
      split at h <;> (try simp only [Option.some.injEq, reduceCtorEq] at h)
      subst h; simp [Op.equalIn, run_underlying hu]
    · rename_i hu
      split at h <;> (try simp only [reduceCtorEq] at h)
      split at h <;> (try simp only [Option.some.injEq, reduceCtorEq] at h)
      subst h; subst_vars; simp [Op.equalIn, run_underlying hu]
    · rename_i hu
      split at h <;> (try simp only [reduceCtorEq] at h)
      split at h <;> (try simp only [Option.some.injEq, reduceCtorEq] at h)
      subst h; subst_vars; simp [Op.equalIn, run_underlying hu]
    · rename_i hu
      split at h <;> (try simp only [Option.some.injEq, reduceCtorEq] at h)
      subst h; simp [Op.equalIn, run_underlying hu, beq_toListBytes]
    · rename_i fs hu
      split at h <;> (try simp only [reduceCtorEq] at h)
      rename_i xs ys
      split at h <;> (try simp only [reduceCtorEq] at h)
      rename_i hst
      simp only [Bool.not_eq_true] at hst
      have hf : P.fieldsOf t = fs := by unfold Program.fieldsOf; rw [hu]
      rw [run_equalIn_struct w D t xs ys (by rw [hf]; exact hu) hst, hf]
      have ih := fun t x y b h => eqFn_run d t x y b D h (by omega)
      clear hf hu
      generalize fs.toList = l at h
      induction l generalizing b w with
      | nil => simp [eqFieldsFn] at h; subst h; simp [Op.eqFields]
      | cons f r ihr =>
        simp only [eqFieldsFn] at h
        simp only [Op.eqFields]
        split at h
        · rename_i hn
          rw [if_pos hn]
          split at h <;> (try simp only [reduceCtorEq] at h)
          rename_i va ha
          split at h <;> (try simp only [reduceCtorEq] at h)
          rename_i vb hb
          split at h <;> (try simp only [reduceCtorEq] at h)
          rename_i p hp
          split at h <;> (try simp only [Option.some.injEq, reduceCtorEq] at h)
          rename_i q hq
          subst h
          have hr := ihr q w hq
          simp only [Sem.run_bind, partFn_run ha, partFn_run hb, Result.andThen_ok, ih _ _ _ _ hp w]
          cases p
          · simp
          · simpa using hr
        · rename_i hn
          rw [if_neg hn]
          exact ihr b w h
    · rename_i n e hu
      split at h <;> (try simp only [reduceCtorEq] at h)
      rename_i xs ys
      have ih := fun t x y b h => eqFn_run d t x y b D h (by omega)
      split at h <;> (try simp only [reduceCtorEq] at h)
      rename_i hn0
      have hsz : ∃ i, P.info? e = some i := by
        cases n with
        | zero => exact (hn0 rfl).elim
        | succ n =>
          rw [List.range_succ_eq_map] at h
          simp only [eqElemsFn] at h
          split at h <;> (try simp only [reduceCtorEq] at h)
          rename_i v hv
          unfold partFn at hv
          split at hv <;> rename_i ha
          · exact aggT_info ha
          · exact aggT_info ha
          · simp at hv
      obtain ⟨i, hi⟩ := hsz
      simp only [Op.equalIn, Sem.run_bind, run_underlying hu, Result.andThen_ok, run_size hi]
      simp only [Std.Legacy.Range.forIn_eq_forIn_range', Std.Legacy.Range.size]
      have hr : List.range' 0 ((n - 0 + 1 - 1) / 1) 1 = List.range n := by simp [List.range_eq_range']
      rw [hr]
      clear hr hn0 hu
      generalize List.range n = l at h
      induction l generalizing b w with
      | nil => simp [eqElemsFn] at h; subst h; simp
      | cons j r ihr =>
        simp only [eqElemsFn] at h
        split at h <;> (try simp only [reduceCtorEq] at h)
        rename_i va ha
        split at h <;> (try simp only [reduceCtorEq] at h)
        rename_i vb hb
        split at h <;> (try simp only [reduceCtorEq] at h)
        rename_i p hp
        split at h <;> (try simp only [Option.some.injEq, reduceCtorEq] at h)
        rename_i q hq
        subst h
        have hr := ihr q w hq
        simp only [List.forIn_cons, Sem.run_bind, partFn_run ha, partFn_run hb, Result.andThen_ok, ih _ _ _ _ hp w]
        cases p
        · simp
        · simpa using hr

theorem aggEq_run {op : BinOp} {t : TypeId} {a b r : Value} {ob : Prop} (h : aggEqFn P op t a b = some (r, ob)) (ho : ob) (x y : Operand) (w : World) :
    (do eqGuard op t x y a b; binOp op t a b : Sem Value).run P w = .ok r w := by
  unfold aggEqFn at h
  split at h <;> (try simp only [reduceCtorEq] at h)
  · split at h <;> (try simp only [reduceCtorEq] at h)
    all_goals
      split at h <;> (try simp only [Option.some.injEq, Prod.mk.injEq, reduceCtorEq] at h)
      rename_i r hb
      obtain ⟨rfl, rfl⟩ := h
      rw [Sem.run_bind, run_eqGuard_agg w _ t x y _ _ ho]
      simp only [Result.andThen_ok, run_eql_struct, run_neq_struct, eqFn_run 12 _ _ _ _ 10000 hb (by omega) w]
  · rename_i u v
    have hq : (Op.equal t (.bool u) (.bool v)).run P w = .ok (u == v) w :=
      eqFn_run (P := P) 1 t (.bool u) (.bool v) (u == v) 10000 (by
        split at h <;> simp only [Option.some.injEq, Prod.mk.injEq, reduceCtorEq] at h <;> obtain ⟨rfl, rfl⟩ := h <;> simp [eqFn, ho]) (by omega) w
    split at h <;> simp only [Option.some.injEq, Prod.mk.injEq, reduceCtorEq] at h <;> obtain ⟨rfl, rfl⟩ := h <;>
      simp [eqGuard, binOp, hq]
    all_goals cases u <;> cases v <;> rfl

theorem nilEq_run {op : BinOp} {t : TypeId} {y : Operand} {a b r : Value} {ob : Prop} (h : nilEqFn P op t y a b = some (r, ob)) (ho : ob) (x : Operand) (w : World) :
    (do eqGuard op t x y a b; binOp op t a b : Sem Value).run P w = .ok r w := by
  unfold nilEqFn at h
  split at h <;> (try simp only [reduceCtorEq] at h)
  split at h <;> (try simp only [reduceCtorEq] at h)
  all_goals
    split at h <;> simp only [Option.some.injEq, Prod.mk.injEq, reduceCtorEq] at h <;> obtain ⟨rfl, rfl⟩ := h
  · rw [Sem.run_bind]; simp [eqGuard, run_eql_iface_nil w t ho]
  · rw [Sem.run_bind]; simp [eqGuard, run_neq_iface_nil w t ho]
  · rw [Sem.run_bind]; simp [eqGuard, run_eql_nil_nil_at w t ho]
  · rw [Sem.run_bind]; simp [eqGuard, run_neq_nil_nil_at w t ho]
  · obtain ⟨e, he⟩ := isSl_under ho
    rw [Sem.run_bind]; simp [eqGuard, run_eql_slice_nil w t e _ _ _ he]
  · obtain ⟨e, he⟩ := isSl_under ho
    rw [Sem.run_bind]; simp [eqGuard, run_neq_slice_nil w t e _ _ _ he]

theorem bound_run {N : Nat} {tm : Tm} {a : Act} (ht : TmRel N tm a) {d : Nat} {x : Operand} {n : Int} (h : boundFn tm d (some x) = some n) {y : Nat} {code : BoundsCode} (h0 : 0 ≤ n) (h1 : n ≤ y) (w : World) :
    (Instr.sliceBound (a.eval x) y code).run P w = .ok n.toNat w := by
  simp only [boundFn] at h
  split at h <;> (try simp only [Option.some.injEq, reduceCtorEq] at h)
  rename_i k n' hx
  subst h
  simp only [eval_get ht x, hx, den]
  exact run_sliceBound w k n' y code h0 h1

theorem bounds_run {N : Nat} {tm : Tm} {a : Act} (ht : TmRel N tm a) {isS : Bool} {len cap : Nat} {lo hi mx : Option Operand} {l h m : Int} (hl : boundFn tm 0 lo = some l) (hh : boundFn tm len hi = some h) (hmx : boundFn tm cap mx = some m)
    (h0 : 0 ≤ l ∧ l ≤ h ∧ h ≤ m ∧ m ≤ cap) (hc : mx = none ∨ hi.isSome = true) (w : World) :
    (Instr.sliceBounds isS len cap (lo.map a.eval) (hi.map a.eval) (mx.map a.eval)).run P w = .ok (l.toNat, h.toNat, m.toNat) w := by
  obtain ⟨a1, a2, a3, a4⟩ := h0
  unfold Instr.sliceBounds
  cases mx with
  | none =>
    simp only [boundFn, Option.some.injEq] at hmx
    subst hmx
    cases hi with
    | none =>
      simp only [boundFn, Option.some.injEq] at hh
      subst hh
      cases lo with
      | none => simp only [boundFn, Option.some.injEq] at hl; subst hl; simp
      | some lo =>
        have e := bound_run (P := P) ht hl (y := len) (code := .sliceB) a1 a2 w
        simp [e]
    | some hi =>
      have e1 := bound_run (P := P) ht hh (y := cap) (code := if isS then .sliceAcap else .sliceAlen) (by omega) (by omega) w
      cases lo with
      | none => simp only [boundFn, Option.some.injEq] at hl; subst hl; simp [e1]
      | some lo =>
        have e2 := bound_run (P := P) ht hl (y := h.toNat) (code := .sliceB) a1 (by omega) w
        simp [e1, e2]
  | some mx =>
    cases hi with
    | none => simp at hc
    | some hi =>
      have e0 := bound_run (P := P) ht hmx (y := cap) (code := if isS then .slice3Acap else .slice3Alen) (by omega) (by omega) w
      have e1 := bound_run (P := P) ht hh (y := m.toNat) (code := .slice3B) (by omega) (by omega) w
      cases lo with
      | none => simp only [boundFn, Option.some.injEq] at hl; subst hl; simp [e0, e1]
      | some lo =>
        have e2 := bound_run (P := P) ht hl (y := h.toNat) (code := .slice3C) a1 (by omega) w
        simp [e0, e1, e2]

theorem sliceFn_run {N : Nat} {tm : Tm} {a : Act} (ht : TmRel N tm a) {t : TypeId} {x : Operand} {lo hi mx : Option Operand} {c : C} {ob : Prop} (hs : sliceFn P tm t x lo hi mx = some (c, ob)) (ho : ob) (w : World) :
    (Instr.sliceAt t (a.eval x) (lo.map a.eval) (hi.map a.eval) (mx.map a.eval)).run P w = .ok (den c) w := by
  have hev := eval_get ht x
  unfold sliceFn at hs
  split at hs <;> (try simp only [reduceCtorEq] at hs)
  · rename_i hu
    split at hs <;> (try simp only [reduceCtorEq] at hs)
    rename_i s hx
    split at hs <;> (try simp only [reduceCtorEq] at hs)
    split at hs <;> (try simp only [reduceCtorEq] at hs)
    rename_i l hl
    split at hs <;> (try simp only [Option.some.injEq, Prod.mk.injEq, reduceCtorEq] at hs)
    rename_i h hh
    obtain ⟨rfl, rfl⟩ := hs
    have e := bounds_run (P := P) ht (isS := false) (len := s.size) (cap := s.size) (mx := none) (m := s.size) hl hh rfl ⟨ho.1, ho.2.1, ho.2.2, by omega⟩ (Or.inl rfl) w
    simp at e
    simp [Instr.sliceAt, Instr.slice, run_underlying hu, hev, hx, den, e]
  · rename_i e hu
    split at hs <;> (try simp only [reduceCtorEq] at hs)
    · rename_i k b off len cap hx
      split at hs <;> (try simp only [reduceCtorEq] at hs)
      rename_i l hl
      split at hs <;> (try simp only [reduceCtorEq] at hs)
      rename_i h hh
      split at hs <;> (try simp only [Option.some.injEq, Prod.mk.injEq, reduceCtorEq] at hs)
      rename_i m hm
      obtain ⟨rfl, rfl⟩ := hs
      obtain ⟨h1, h2, h3⟩ := ho
      obtain ⟨inf, hinf⟩ := cells_info h2
      have e := bounds_run (P := P) ht (isS := true) hl hh hm h1 h3 w
      have ec : (m.toNat = l.toNat) ↔ (m = l) := by omega
      simp only [Instr.sliceAt, Instr.slice, run_underlying hu, Sem.run_bind, Result.andThen_ok, hev, hx, den, e, run_size hinf, Sem.run_pure, ec]
      split <;> simp [addr_add]
    · rename_i o len cap hx
      split at hs <;> (try simp only [reduceCtorEq] at hs)
      rename_i l hl
      split at hs <;> (try simp only [reduceCtorEq] at hs)
      rename_i h hh
      split at hs <;> (try simp only [Option.some.injEq, Prod.mk.injEq, reduceCtorEq] at hs)
      rename_i m hm
      obtain ⟨rfl, rfl⟩ := hs
      obtain ⟨h1, h2, h3⟩ := ho
      obtain ⟨inf, hinf⟩ := cells_info h2
      have e := bounds_run (P := P) ht (isS := true) hl hh hm h1 h3 w
      have ec : (m.toNat = l.toNat) ↔ (m = l) := by omega
      simp only [Instr.sliceAt, Instr.slice, run_underlying hu, Sem.run_bind, Result.andThen_ok, hev, hx, den, e, run_size hinf, Sem.run_pure, ec]
      split <;> simp [padd]
  · rename_i n e hu
    split at hs <;> (try simp only [reduceCtorEq] at hs)
    split at hs <;> (try simp only [reduceCtorEq] at hs)
    rename_i l hl
    split at hs <;> (try simp only [reduceCtorEq] at hs)
    rename_i h hh
    split at hs <;> (try simp only [Option.some.injEq, Prod.mk.injEq, reduceCtorEq] at hs)
    · rename_i k b off hx
      obtain ⟨rfl, rfl⟩ := hs
      obtain ⟨h1, h2⟩ := ho
      obtain ⟨inf, hinf⟩ := cells_info h2
      have e := bounds_run (P := P) ht (isS := false) (len := n) (cap := n) (mx := none) (m := n) hl hh rfl ⟨h1.1, h1.2.1, h1.2.2, by omega⟩ (Or.inl rfl) w
      simp at e
      have ec : (n = l.toNat) ↔ ((n : Int) = l) := by omega
      simp only [Instr.sliceAt, Instr.sureAddr, run_underlying hu, Sem.run_bind, Result.andThen_ok, hev, hx, den, Sem.run_pure, e, run_size hinf, Option.map_none, ec]
      split <;> simp [addr_add]
    · rename_i o hx
      obtain ⟨rfl, rfl⟩ := hs
      obtain ⟨⟨h1, h2⟩, h3⟩ := ho
      obtain ⟨ad, rfl⟩ := Option.isSome_iff_exists.1 h3
      obtain ⟨inf, hinf⟩ := cells_info h2
      have e := bounds_run (P := P) ht (isS := false) (len := n) (cap := n) (mx := none) (m := n) hl hh rfl ⟨h1.1, h1.2.1, h1.2.2, by omega⟩ (Or.inl rfl) w
      simp at e
      have ec : (n = l.toNat) ↔ ((n : Int) = l) := by omega
      simp only [Instr.sliceAt, Instr.sureAddr, run_underlying hu, Sem.run_bind, Result.andThen_ok, hev, hx, den, Sem.run_pure, e, run_size hinf, Option.map_none, ec]
      split <;> simp [padd]

theorem pureFn_sound {N : Nat} {tm : Tm} {a : Act} {o : Oper} {c : C} {ob : Prop} (ht : TmRel N tm a) (hm : MemRel cx mem w)
    (h : pureFn P tm mem o.op = some (c, ob)) (ho : ob) : (execOp a.eval o).run P w = .ok (.value (den c)) w := by
  obtain ⟨dst, op, ty, pos, aft, gd⟩ := o
  have hev := eval_get ht
  cases op <;> simp only [pureFn, reduceCtorEq] at h
  case move x => simp only [Option.some.injEq, Prod.mk.injEq] at h; obtain ⟨rfl, rfl⟩ := h; simp [execOp, hev]
  case assign x => simp only [Option.some.injEq, Prod.mk.injEq] at h; obtain ⟨rfl, rfl⟩ := h; simp [execOp, hev]
  case pick x y z =>
    split at h <;> (try simp only [Option.some.injEq, Prod.mk.injEq, reduceCtorEq] at h)
    rename_i t hx
    obtain ⟨rfl, rfl⟩ := h
    cases t <;> simp [execOp, hev, hx, den, asBool]
  case load t x =>
    split at h <;> (try simp only [reduceCtorEq] at h)
    rename_i k b off hx
    split at h <;> (try simp only [reduceCtorEq] at h)
    rename_i bl hb
    have hw := hm.blk k bl hb
    split at h
    · rename_i ha
      split at h <;> (try simp only [Option.some.injEq, Prod.mk.injEq, reduceCtorEq] at h)
      rename_i vs hvs
      obtain ⟨rfl, rfl⟩ := h
      obtain ⟨rfl, hl⟩ := ho
      have e := allV_den _ _ hvs
      rw [List.map_take, List.map_drop] at e
      have := load_agg (P := P) (t := t) (off := off) hw ha (vs := vs) (by simpa using e) (by simpa using hl)
      simp [execOp, hev, hx, den, Instr.loadAt, Instr.sureAddr, this]
    · rename_i ha
      split at h <;> (try simp only [Option.some.injEq, Prod.mk.injEq, reduceCtorEq] at h)
      rename_i c' hc
      obtain ⟨rfl, rfl⟩ := h
      subst ho
      have := load_one (P := P) (t := t) (off := off) hw ha (v := den c') (by simp [hc])
      simp [execOp, hev, hx, den, Instr.loadAt, Instr.sureAddr, this]
    · simp at h
  case nilCheck x =>
    split at h <;> (try simp only [Option.some.injEq, Prod.mk.injEq, reduceCtorEq] at h) <;> obtain ⟨rfl, rfl⟩ := h <;> rename_i hx
    · simp [execOp, hev, hx, den]
    · obtain ⟨ad, rfl⟩ := Option.isSome_iff_exists.1 ho
      simp [execOp, hev, hx, den]
  case fieldAddr t x f =>
    split at h <;> (try simp only [reduceCtorEq] at h)
    rename_i fs hu
    split at h <;> (try simp only [reduceCtorEq] at h)
    rename_i fd hf
    split at h <;> (try simp only [Option.some.injEq, Prod.mk.injEq, reduceCtorEq] at h) <;> obtain ⟨rfl, rfl⟩ := h <;> rename_i hx
    · obtain ⟨i, hi⟩ := cells_info ho
      simp [execOp, hev, hx, den, Instr.fieldAt, run_underlying hu, hf, Instr.sureAddr, fieldPlace, run_size hi, ho, addr_add]
    · obtain ⟨hz, hso⟩ := ho
      obtain ⟨ad, rfl⟩ := Option.isSome_iff_exists.1 hso
      obtain ⟨i, hi⟩ := cells_info hz
      simp [execOp, hev, hx, den, Instr.fieldAt, run_underlying hu, hf, Instr.sureAddr, fieldPlace, run_size hi, hz, addr_add, padd]
  case field t x f =>
    split at h <;> (try simp only [reduceCtorEq] at h)
    rename_i fs hu
    split at h <;> (try simp only [reduceCtorEq] at h)
    rename_i fd hf
    split at h <;> (try simp only [reduceCtorEq] at h)
    rename_i cs hx
    split at h
    · rename_i ha
      simp only [Option.some.injEq, Prod.mk.injEq] at h; obtain ⟨rfl, rfl⟩ := h
      simp [execOp, hev, hx, den, Instr.field, run_underlying hu, hf, asAgg, run_part ha]
    · rename_i ha
      split at h <;> (try simp only [Option.some.injEq, Prod.mk.injEq, reduceCtorEq] at h); obtain ⟨rfl, rfl⟩ := h
      rename_i y hy
      simp [execOp, hev, hx, den, Instr.field, run_underlying hu, hf, asAgg, run_part_one ha hy]
    · simp at h
  case indexAddr t x i =>
    split at h <;> (try simp only [reduceCtorEq] at h)
    · rename_i n e hu
      split at h <;> (try simp only [reduceCtorEq] at h)
      rename_i kk j hi
      split at h <;> (try simp only [Option.some.injEq, Prod.mk.injEq, reduceCtorEq] at h) <;> rename_i hx <;> obtain ⟨rfl, rfl⟩ := h
      · obtain ⟨h0, h1, h2⟩ := ho
        obtain ⟨inf, hinf⟩ := cells_info h0
        simp [execOp, hev, hx, hi, den, Instr.indexAt, asIntOf, run_underlying hu, Instr.sureAddr, h1, h2, run_size hinf, addr_add]
      · obtain ⟨h0, ⟨h1, h2⟩, hso⟩ := ho
        obtain ⟨ad, rfl⟩ := Option.isSome_iff_exists.1 hso
        obtain ⟨inf, hinf⟩ := cells_info h0
        simp [execOp, hev, hx, hi, den, Instr.indexAt, asIntOf, run_underlying hu, Instr.sureAddr, h1, h2, run_size hinf, addr_add, padd]
    · rename_i e hu
      split at h <;> (try simp only [reduceCtorEq] at h)
      rename_i kk j hi
      split at h <;> (try simp only [Option.some.injEq, Prod.mk.injEq, reduceCtorEq] at h) <;> rename_i hx <;> obtain ⟨rfl, rfl⟩ := h
      · obtain ⟨h0, h1, h2⟩ := ho
        obtain ⟨inf, hinf⟩ := cells_info h0
        simp [execOp, hev, hx, hi, den, Instr.indexAt, asIntOf, run_underlying hu, Instr.sureAddr, h1, h2, run_size hinf, addr_add]
      · obtain ⟨h0, ⟨h1, h2⟩, hso⟩ := ho
        obtain ⟨ad, rfl⟩ := Option.isSome_iff_exists.1 hso
        obtain ⟨inf, hinf⟩ := cells_info h0
        simp [execOp, hev, hx, hi, den, Instr.indexAt, asIntOf, run_underlying hu, Instr.sureAddr, h1, h2, run_size hinf, addr_add, padd]
  case index t x i =>
    split at h <;> (try simp only [reduceCtorEq] at h)
    · rename_i n e hu
      split at h <;> (try simp only [reduceCtorEq] at h)
      rename_i kk j hi
      split at h <;> (try simp only [reduceCtorEq] at h)
      rename_i cs hx
      split at h
      · rename_i ha
        simp only [Option.some.injEq, Prod.mk.injEq] at h; obtain ⟨rfl, rfl⟩ := h
        obtain ⟨inf, hinf⟩ := aggT_info ha
        simp [execOp, hev, hx, hi, den, Instr.index, asIntOf, run_underlying hu, ho.1, ho.2, run_size hinf, run_part ha]
      · rename_i ha
        split at h <;> (try simp only [Option.some.injEq, Prod.mk.injEq, reduceCtorEq] at h); obtain ⟨rfl, rfl⟩ := h
        rename_i y hy
        obtain ⟨inf, hinf⟩ := aggT_info ha
        simp [execOp, hev, hx, hi, den, Instr.index, asIntOf, run_underlying hu, ho.1, ho.2, run_size hinf, run_part_one ha hy]
      · simp at h
    · rename_i hu
      split at h <;> (try simp only [reduceCtorEq] at h)
      rename_i kk j hi
      split at h <;> (try simp only [reduceCtorEq] at h)
      rename_i cs hx
      split at h <;> (try simp only [Option.some.injEq, Prod.mk.injEq, reduceCtorEq] at h); obtain ⟨rfl, rfl⟩ := h
      rename_i y hy
      simp [execOp, hev, hx, hi, den, Instr.index, asIntOf, run_underlying hu, ho, hy]
  case binOp op t x y yt =>
    split at h <;> (try simp only [reduceCtorEq] at h)
    rename_i va hx
    split at h <;> (try simp only [reduceCtorEq] at h)
    rename_i vb hy
    split at h
    · simp only [Option.some.injEq, Prod.mk.injEq] at h; obtain ⟨rfl, rfl⟩ := h
      rename_i r hb
      have := binF_run (P := P) (t := t) hb ho x y w
      simp only [execOp, hev, hx, hy, den]
      rw [Sem.run_bind, this]; rfl
    · split at h
      · simp only [Option.some.injEq, Prod.mk.injEq] at h; obtain ⟨rfl, rfl⟩ := h
        rename_i r hb
        have := aggEq_run (P := P) (t := t) hb ho x y w
        simp only [execOp, hev, hx, hy, den]
        rw [Sem.run_bind, this]; rfl
      · split at h <;> (try simp only [Option.some.injEq, Prod.mk.injEq, reduceCtorEq] at h); obtain ⟨rfl, rfl⟩ := h
        rename_i r hb
        have := nilEq_run (P := P) (t := t) hb ho x w
        simp only [execOp, hev, hx, hy, den]
        rw [Sem.run_bind, this]; rfl
  case unOp op t x =>
    split at h <;> (try simp only [reduceCtorEq] at h)
    rename_i va hx
    split at h <;> (try simp only [Option.some.injEq, Prod.mk.injEq, reduceCtorEq] at h); obtain ⟨rfl, rfl⟩ := h
    rename_i hb
    simp [execOp, hev, hx, den, unF_run hb]
  case convert src dst x =>
    split at h <;> (try simp only [reduceCtorEq] at h)
    rename_i kk n hx
    split at h <;> (try simp only [Option.some.injEq, Prod.mk.injEq, reduceCtorEq] at h) <;> obtain ⟨rfl, rfl⟩ := h <;> rename_i hu <;>
      obtain ⟨d, hd⟩ := Option.isSome_iff_exists.1 ho <;>
      simp [execOp, hev, hx, den, convert, run_underlying hd, run_underlying hu, Conv.intToInt, Conv.intToFloat]
  case slice t x lo hi mx =>
    have := sliceFn_run (P := P) ht h ho w
    simp only [execOp, Sem.run_bind, this, Result.andThen_ok]
    rfl
  case extract x i =>
    split at h <;> (try simp only [reduceCtorEq] at h)
    rename_i vs hx
    split at h <;> (try simp only [Option.some.injEq, Prod.mk.injEq, reduceCtorEq] at h); obtain ⟨rfl, rfl⟩ := h
    rename_i y hy
    simp [execOp, hev, hx, den, Instr.extract, hy]
  case call c =>
    obtain ⟨callee, args, argTypes⟩ := c
    split at h
    · rename_i hc
      simp only at hc; subst hc
      split at h <;> (try simp only [reduceCtorEq] at h)
      rename_i t hat
      split at h <;> (try simp only [reduceCtorEq] at h)
      rename_i x hax
      simp only at hat hax
      split at h <;> (try simp only [reduceCtorEq] at h)
      · rename_i hu
        split at h <;> (try simp only [Option.some.injEq, Prod.mk.injEq, reduceCtorEq] at h)
        rename_i hx
        obtain ⟨rfl, rfl⟩ := h
        simp [execOp, resolve, invoke, builtin, Builtin.len_, hat, hax, hev, hx, den, run_underlying hu, goInt]
      · rename_i hu
        split at h <;> (try simp only [Option.some.injEq, Prod.mk.injEq, reduceCtorEq] at h) <;> rename_i hx <;> obtain ⟨rfl, rfl⟩ := h <;>
          simp [execOp, resolve, invoke, builtin, Builtin.len_, hat, hax, hev, hx, den, run_underlying hu, goInt]
      · rename_i hu
        simp only [Option.some.injEq, Prod.mk.injEq] at h
        obtain ⟨rfl, rfl⟩ := h
        simp [execOp, resolve, invoke, builtin, Builtin.len_, hat, hax, hev, den, run_underlying hu, goInt]
    · rename_i hc
      simp only at hc; subst hc
      split at h <;> (try simp only [reduceCtorEq] at h)
      rename_i x y hl
      simp only at hl
      split at h <;> (try simp only [reduceCtorEq] at h)
      rename_i hx
      split at h <;> (try simp only [Option.some.injEq, Prod.mk.injEq, reduceCtorEq] at h)
      rename_i hy
      obtain ⟨rfl, rfl⟩ := h
      simp [execOp, resolve, invoke, builtin, Builtin.min_, hl, hev, hx, hy, den, Builtin.min2]
    · rename_i hc
      simp only at hc; subst hc
      split at h <;> (try simp only [reduceCtorEq] at h)
      rename_i x y hl
      simp only at hl
      split at h <;> (try simp only [reduceCtorEq] at h)
      rename_i hx
      split at h <;> (try simp only [Option.some.injEq, Prod.mk.injEq, reduceCtorEq] at h)
      rename_i hy
      obtain ⟨rfl, rfl⟩ := h
      simp [execOp, resolve, invoke, builtin, Builtin.max_, hl, hev, hx, hy, den, Builtin.max2]
    · simp at h
end
section
variable {P : Program} {cx : Cx} {mem : List Blk} {w : World}

theorem zeroL_run {t : TypeId} {z : List Value} (h : zeroL P t = some z) (w : World) : ∃ v, v.cells.toList = z ∧ (zeroValue t).run P w = .ok v w := by
  unfold zeroL at h
  cases hi : P.info? t with
  | none => simp [hi] at h
  | some i =>
    cases hz : i.zero with
    | none => simp [hi, hz] at h
    | some v =>
      simp [hi, hz] at h
      exact ⟨v, h, by simp [zeroValue, typeInfo, hi, hz]⟩

theorem memRel_alloc (hm : MemRel cx mem w) (cells : List C) (ty : TypeId) :
    MemRel cx (mem ++ [⟨w.heap.size, cells, ty⟩]) (w.alloc (.cells (cells.map den).toArray ty)) := by
  show MemRel cx (mem ++ [⟨w.heap.size, cells, ty⟩]) { w with heap := w.heap.push (.cells (cells.map den).toArray ty) }
  have h1 := hm.le1
  have h01 := hm.le01
  have hid : ∀ b ∈ mem, b.id < w.heap.size := fun b hb => by
    obtain ⟨k, hk⟩ := List.getElem?_of_mem hb
    exact (Array.getElem?_eq_some_iff.1 (hm.blk k b hk)).1
  refine ⟨hm.os, hm.tape, hm.output, fun i hi hg => ?_, fun i hi hg => ?_, h01, by simp; omega, fun k b hb => ?_, fun b hb => ?_, fun b hb hl => ?_, fun i j b c hi hj he => ?_⟩
  · rw [← hm.frame i hi hg]; simp only [Array.getElem?_push]; rw [if_neg (by omega)]
  · rw [← hm.facts i hi hg]; simp only [Array.getElem?_push]; rw [if_neg (by omega)]
  · rw [List.getElem?_append] at hb
    split at hb
    · have hm' := hm.blk k b hb
      have := hid b (List.mem_of_getElem? hb)
      simp only [Array.getElem?_push]; rw [if_neg (by omega)]; exact hm'
    · rename_i hk
      have : k - mem.length = 0 := by
        rcases Nat.eq_zero_or_pos (k - mem.length) with h | h
        · exact h
        · rw [List.getElem?_eq_none (by simp; omega)] at hb; simp at hb
      rw [this] at hb
      simp at hb; subst hb
      simp
  · simp only [List.mem_append, List.mem_singleton] at hb
    rcases hb with hb | rfl
    · exact hm.fresh b hb
    · exact Or.inr h1
  · simp only [List.mem_append, List.mem_singleton] at hb
    rcases hb with hb | rfl
    · exact hm.low b hb hl
    · simp at hl; omega
  · have key : ∀ (i : Nat) (b : Blk), (mem ++ [⟨w.heap.size, cells, ty⟩])[i]? = some b → (mem[i]? = some b ∧ b.id < w.heap.size) ∨ (i = mem.length ∧ b.id = w.heap.size) := by
      intro i b hb
      rw [List.getElem?_append] at hb
      split at hb
      · exact Or.inl ⟨hb, hid b (List.mem_of_getElem? hb)⟩
      · have : i - mem.length = 0 := by
          rcases Nat.eq_zero_or_pos (i - mem.length) with h | h
          · exact h
          · rw [List.getElem?_eq_none (by simp; omega)] at hb; simp at hb
        rw [this] at hb
        simp at hb; subst hb
        exact Or.inr ⟨by omega, rfl⟩
    rcases key i b hi with ⟨a1, a2⟩ | ⟨a1, a2⟩ <;> rcases key j c hj with ⟨b1, b2⟩ | ⟨b1, b2⟩
    · exact hm.inj i j b c a1 b1 he
    · omega
    · omega
    · omega

theorem memRel_set (hm : MemRel cx mem w) {k : Nat} {bl : Blk} (hk : mem[k]? = some bl) (cells : List C) :
    MemRel cx (mem.set k ⟨bl.id, cells, bl.ty⟩) (w.setRow bl.id (cells.map den).toArray) := by
  have hlt : bl.id < w.heap.size := (Array.getElem?_eq_some_iff.1 (hm.blk k bl hk)).1
  have hkl : k < mem.length := (List.getElem?_eq_some_iff.1 hk).1
  have hmem : bl ∈ mem := List.mem_of_getElem? hk
  have key : ∀ (i : Nat) (b : Blk), (mem.set k ⟨bl.id, cells, bl.ty⟩)[i]? = some b → (i = k ∧ b = ⟨bl.id, cells, bl.ty⟩) ∨ (i ≠ k ∧ mem[i]? = some b) := by
    intro i b hb
    rw [List.getElem?_set] at hb
    split at hb
    · simp at hb; rename_i h; exact Or.inl ⟨h.symm, by obtain ⟨_, rfl⟩ := hb; rfl⟩
    · rename_i h; exact Or.inr ⟨fun e => h e.symm, hb⟩
  have idmem : ∀ b ∈ mem.set k ⟨bl.id, cells, bl.ty⟩, ∃ c ∈ mem, c.id = b.id := by
    intro b hb
    obtain ⟨i, hi⟩ := List.getElem?_of_mem hb
    rcases key i b hi with ⟨_, rfl⟩ | ⟨_, h⟩
    · exact ⟨bl, hmem, rfl⟩
    · exact ⟨b, List.mem_of_getElem? h, rfl⟩
  refine ⟨hm.os, hm.tape, hm.output, fun i hi hg => ?_, fun i hi hg => ?_, hm.le01, by simpa using hm.le1, fun i b hb => ?_, fun b hb => ?_, fun b hb hl => ?_, fun i j b c hi hj he => ?_⟩
  · rw [setRow_other w bl.id i _ (fun e => hg (e ▸ hm.low bl hmem (e ▸ hi)))]; exact hm.frame i hi hg
  · rw [setRow_other w bl.id i _ (fun e => by
      rcases hm.fresh bl hmem with h | h
      · exact hg (e ▸ h)
      · omega)]; exact hm.facts i hi hg
  · rcases key i b hb with ⟨rfl, rfl⟩ | ⟨hne, h⟩
    · exact setRow_heap w bl.id _ _ _ _ (hm.blk i bl hk)
    · have : b.id ≠ bl.id := fun e => hne (hm.inj i k b bl h hk e)
      rw [setRow_other w bl.id b.id _ this]; exact hm.blk i b h
  · obtain ⟨c, hc, e⟩ := idmem b hb; rw [← e]; exact hm.fresh c hc
  · obtain ⟨c, hc, e⟩ := idmem b hb; rw [← e] at hl ⊢; exact hm.low c hc hl
  · rcases key i b hi with ⟨rfl, rfl⟩ | ⟨hne, h⟩ <;> rcases key j c hj with ⟨rfl, rfl⟩ | ⟨hne', h'⟩
    · rfl
    · exact hm.inj i j bl c hk h' he
    · exact hm.inj i j b bl h hk he
    · exact hm.inj i j b c h h' he

theorem den_one {c : C} (h : c.one = true) : (den c).oneCell' = true := by
  cases c with
  | v x => exact h
  | p => rfl
  | s => rfl

theorem storeFn_sound {N : Nat} {tm : Tm} {a : Act} {o : Oper} {mem' : List Blk} {ob : Prop} (ht : TmRel N tm a) (hm : MemRel cx mem w)
    (h : storeFn P tm mem o.op = some (mem', ob)) (ho : ob) : ∃ w', (execOp a.eval o).run P w = .ok .skip w' ∧ MemRel cx mem' w' := by
  obtain ⟨dst, op, ty, pos, aft, gd⟩ := o
  have hev := eval_get ht
  cases op <;> simp only [storeFn, reduceCtorEq] at h
  case store t x y =>
    split at h <;> (try simp only [reduceCtorEq] at h)
    rename_i k b off hx
    split at h <;> (try simp only [Option.some.injEq, Prod.mk.injEq, reduceCtorEq] at h)
    rename_i bl hb
    obtain ⟨rfl, rfl⟩ := h
    obtain ⟨rfl, hz, hl, hle, hone⟩ := ho
    obtain ⟨i, hi⟩ := cells_info hz
    have hw := hm.blk k bl hb
    have hden := cellsC_den (get tm y)
    have hlen : (den (get tm y)).cells.size = P.cellsOf t := by
      have := congrArg List.length hden; simp at this; omega
    have hst := run_storeCells_at (P := P) bl.id off bl.ty (den (get tm y)).cells.toList 0 _ w hw (by simp [hlen]; omega) (fun v hv => by
      rw [← hden] at hv
      obtain ⟨c, hc, rfl⟩ := List.mem_map.1 hv
      exact den_one (by simpa using (List.all_eq_true.1 hone) c hc))
    refine ⟨_, ?_, memRel_set hm hb (splice bl.cells off (cellsC (get tm y)))⟩
    simp only [Nat.add_zero] at hst
    have hxe : a.eval x = .pointer (some ⟨bl.id, off, none⟩) := by rw [hev, hx]; rfl
    have hye := hev y
    have hsp : ((splice bl.cells off (cellsC (get tm y))).map den) = (bl.cells.map den).take off ++ (den (get tm y)).cells.toList ++ (bl.cells.map den).drop (off + (den (get tm y)).cells.toList.length) := by
      rw [splice_eq (by omega)]
      simp only [List.map_append, List.map_take, List.map_drop, hden]
      rw [← hden, List.length_map]
    rw [hsp]
    generalize den (get tm y) = vy at *
    simp only [Array.length_toList, hlen] at hst ⊢
    simp [execOp, hxe, hye, Instr.storeAt, Instr.sureAddr, storeVar, run_size hi, hlen, hst]

theorem fillStep (cells vs : List Value) (off : Nat) : ∀ (l : List Value) (n : Nat) (cs : Array Value), off + n + l.length ≤ cs.size →
    (((l.zipIdx n).foldl (fun cs (c, j) => cs.setIfInBounds (off + j) c) cs).toList = cs.toList.take (off + n) ++ l ++ cs.toList.drop (off + n + l.length))
  | [], n, cs, _ => by simp
  | c :: l, n, cs, h => by
    simp only [List.zipIdx_cons, List.foldl_cons]
    have hl : off + n < cs.size := by simp at h; omega
    rw [fillStep cells vs off l (n + 1) (cs.setIfInBounds (off + n) c) (by simp at h ⊢; omega)]
    have e := list_seg_step cs.toList (off + n) c l (by simp at h ⊢; omega)
    simpa [Array.toList_setIfInBounds, Nat.add_assoc] using e

theorem fillL_fill (place : Nat → Option (Nat × Nat)) : ∀ (parts : List (Nat × Value)) (cells : List Value) (out : List Value), fillL place cells parts = some out →
    Instr.fill place cells.toArray parts = some out.toArray
  | [], cells, out, h => by simp [fillL] at h; subst h; rfl
  | (i, v) :: rest, cells, out, h => by
    simp only [fillL] at h
    cases hp : place i with
    | none => simp [hp] at h
    | some x =>
      obtain ⟨off, size⟩ := x
      simp only [hp] at h
      split at h <;> (try simp only [reduceCtorEq] at h)
      rename_i hc
      obtain ⟨hsz, hle⟩ := hc
      have ih := fillL_fill place rest _ out h
      simp only [Instr.fill, hp]
      have hn : ¬ ((v.cells.size ≠ size || off + v.cells.size > cells.toArray.size) = true) := by simp; omega
      rw [if_neg hn]
      have e : (v.cells.zipIdx.foldl (fun cs (x : Value × Nat) => cs.setIfInBounds (off + x.2) x.1) cells.toArray) = (cells.take off ++ v.cells.toList ++ cells.drop (off + size)).toArray := by
        rw [← Array.foldl_toList, Array.toList_zipIdx]
        apply Array.ext'
        have := fillStep [] [] off v.cells.toList 0 cells.toArray (by simp; omega)
        simpa [hsz] using this
      rw [← ih]
      congr 1

theorem partsV_eval {N : Nat} {tm : Tm} {a : Act} (ht : TmRel N tm a) : ∀ (l : List (Nat × Operand)) (ps : List (Nat × Value)), partsV tm l = some ps → l.map (fun x => (x.1, a.eval x.2)) = ps
  | [], ps, h => by simp [partsV] at h; subst h; rfl
  | (i, x) :: r, ps, h => by
    simp only [partsV] at h
    split at h <;> (try simp only [Option.some.injEq, reduceCtorEq] at h)
    rename_i l hl
    subst h
    simp [partsV_eval ht r l hl, eval_get ht x]

theorem buildFn_sound {N : Nat} {tm : Tm} {a : Act} {t : TypeId} {parts : Array (Nat × Operand)} {c : C} {ob : Prop} (ht : TmRel N tm a)
    (h : buildFn P tm t parts.toList = some (c, ob)) (ho : ob) (w : World) : (Instr.build t (parts.map fun (i, x) => (i, a.eval x))).run P w = .ok (den c) w := by
  unfold buildFn at h
  split at h <;> (try simp only [reduceCtorEq] at h)
  rename_i z hz
  obtain ⟨zv, hzv, hzr⟩ := zeroL_run hz w
  split at h <;> (try simp only [reduceCtorEq] at h)
  rename_i ps hps
  have hpe : (parts.map fun (i, x) => (i, a.eval x)).toList = ps := by
    have := partsV_eval ht _ _ hps
    simpa using this
  have hzz : zv.cells = z.toArray := by rw [← hzv]
  split at h <;> (try simp only [reduceCtorEq] at h)
  · rename_i fs hu
    split at h <;> (try simp only [Option.some.injEq, Prod.mk.injEq, reduceCtorEq] at h)
    rename_i cells hf
    obtain ⟨rfl, rfl⟩ := h
    have hf' := fillL_fill _ _ _ _ hf
    have hpl : ∀ (l : List Field), (∀ f ∈ l, P.cellsOf f.type ≠ 0) → l.mapM (fun f => (P.info? f.type).map fun i => (f.offset, i.size)) = some (l.map fun f => (f.offset, P.cellsOf f.type)) := by
      intro l
      induction l with
      | nil => intro _; rfl
      | cons f l ih =>
        intro hl
        obtain ⟨i, hi⟩ := cells_info (hl f (by simp))
        have ih' := ih (fun g hg => hl g (by simp [hg]))
        have hs : i.size = P.cellsOf f.type := by simp [Program.cellsOf, hi]
        simp [List.mapM_cons, hi, ih', hs]
    have hplaces := run_places (P := P) w fs.toList _ (hpl fs.toList ho)
    have hf2 : Instr.fill (fun (x : Nat) => Option.map (fun (f : Field) => (f.offset, P.cellsOf f.type)) fs[x]?) z.toArray (parts.toList.map fun x => (x.1, a.eval x.2)) = some cells.toArray := by
      rw [partsV_eval ht _ _ hps]; exact hf'
    simp only [Instr.build, Sem.run_bind, hzr, Result.andThen_ok, run_underlying hu w, hzz, Array.mapM_eq_mapM_toList]
    simp only [bind_pure_comp] 
    simp [hplaces, hf2, den]
  · rename_i n e hu
    split at h <;> (try simp only [Option.some.injEq, Prod.mk.injEq, reduceCtorEq] at h)
    rename_i cells hf
    obtain ⟨rfl, rfl⟩ := h
    obtain ⟨i, hi⟩ := cells_info ho
    have hf' := fillL_fill _ _ _ _ hf
    simp only [Instr.build, Sem.run_bind, hzr, Result.andThen_ok, run_underlying hu w, run_size hi, hzz, hpe, hf']
    rfl

theorem partsC_fill {N : Nat} {tm : Tm} {a : Act} (ht : TmRel N tm a) (size : Nat) : ∀ (parts : List (Nat × Operand)) (n : Nat) (cs : List C) (ob : Prop) (base : List Value),
    partsC tm size n parts = some (cs, ob) → ob → base.length = (n + parts.length) * size →
    fillL (fun i => some (i * size, size)) base (parts.map fun x => (x.1, a.eval x.2)) = some (base.take (n * size) ++ cs.map den)
  | [], n, cs, ob, base, h, _, hb => by
    simp only [partsC, Option.some.injEq, Prod.mk.injEq] at h
    obtain ⟨rfl, rfl⟩ := h
    simp at hb
    simp [fillL, ← hb]
  | (i, x) :: r, n, cs, ob, base, h, ho, hb => by
    simp only [partsC] at h
    split at h <;> (try simp only [Option.some.injEq, Prod.mk.injEq, reduceCtorEq] at h)
    rename_i l ob' hr
    obtain ⟨rfl, rfl⟩ := h
    obtain ⟨rfl, hl, ho'⟩ := ho
    have hden := cellsC_den (get tm x)
    have hsz : (den (get tm x)).cells.size = size := by
      have := congrArg List.length hden; simp at this; omega
    have hb' : base.length = i * size + size + r.length * size := by
      rw [hb, List.length_cons]; rw [show i + (r.length + 1) = i + 1 + r.length by omega, Nat.add_mul, Nat.add_mul]; omega
    have h1 : (i + 1) * size = i * size + size := by rw [Nat.add_mul]; omega
    have hmin : min (i * size) base.length = i * size := by omega
    have ih := partsC_fill ht size r (i + 1) l ob' (base.take (i * size) ++ (den (get tm x)).cells.toList ++ base.drop (i * size + size)) hr ho' (by
      simp only [List.length_append, List.length_take, List.length_drop, Array.length_toList, hsz, hb', Nat.add_mul]; omega)
    simp only [List.map_cons, fillL, eval_get ht x]
    rw [if_pos ⟨hsz, by omega⟩, ih, h1]
    have e : List.take (i * size + size) (List.take (i * size) base ++ (den (get tm x)).cells.toList ++ List.drop (i * size + size) base) = List.take (i * size) base ++ (den (get tm x)).cells.toList := by
      rw [List.take_left' (by simp [hmin, hsz])]
    rw [e, List.map_append, hden, List.append_assoc]

theorem newFn_sound {N : Nat} {tm : Tm} {a : Act} {o : Oper} {cells : List C} {ty : TypeId} {mk : Nat → C} {ob : Prop} (ht : TmRel N tm a) (hm : MemRel cx mem w)
    (h : newFn P tm mem o.op = some (cells, ty, mk, ob)) (ho : ob) :
    ∃ b w', (execOp a.eval o).run P w = .ok (.value (den (mk b))) w' ∧ MemRel cx (mem ++ [⟨b, cells, ty⟩]) w' ∧ w.heap.size ≤ b := by
  obtain ⟨dst, op, oty, pos, aft, gd⟩ := o
  have hev := eval_get ht
  refine ⟨w.heap.size, _, ?_, memRel_alloc hm cells ty, Nat.le_refl _⟩
  cases op <;> simp only [newFn, reduceCtorEq] at h
  case alloc t =>
    split at h <;> (try simp only [Option.some.injEq, Prod.mk.injEq, reduceCtorEq] at h)
    rename_i z hz
    obtain ⟨rfl, rfl, rfl, rfl⟩ := h
    obtain ⟨zv, hzv, hzr⟩ := zeroL_run hz w
    have e : zv.cells = z.toArray := by rw [← hzv]
    have e2 : (List.map den (List.map C.v z)) = z := map_den_v z
    rw [e2]
    simp [execOp, Instr.alloc, hzr, newVar, newRow, den, e]
  case box t x =>
    simp only [Option.some.injEq, Prod.mk.injEq] at h
    obtain ⟨rfl, rfl, rfl, rfl⟩ := h
    rw [cellsC_den]
    simp [execOp, Instr.box, newVar, newRow, hev, den]
  case buildSlice t len parts =>
    split at h <;> (try simp only [reduceCtorEq] at h)
    rename_i e hu
    split at h <;> (try simp only [Option.some.injEq, Prod.mk.injEq, reduceCtorEq] at h)
    rename_i cs ob' hp
    obtain ⟨rfl, rfl, rfl, rfl⟩ := h
    obtain ⟨ho', hz0, hpl, hlim, hzs⟩ := ho
    obtain ⟨i, hi⟩ := cells_info hz0
    obtain ⟨z, hz⟩ := Option.isSome_iff_exists.1 hzs
    obtain ⟨zv, hzv, hzr⟩ := zeroL_run hz w
    have hf := fun base hb => fillL_fill _ _ _ _ (partsC_fill ht (P.cellsOf e) parts.toList 0 cs ob' base hp ho' hb)
    simp only [Nat.zero_mul, List.take_zero, List.nil_append] at hf
    have hnl : ¬ 16777216 < len * P.cellsOf e := by omega
    have hpe : (parts.map fun (i, x) => (i, a.eval x)).toList = parts.toList.map fun x => (x.1, a.eval x.2) := by simp
    have hf2 := fun (f : Nat → Value) => hf ((List.range (len * P.cellsOf e)).map f) (by simp [hpl])
    have hra : ∀ (f : Nat → Value), (Array.range (len * P.cellsOf e)).map f = ((List.range (len * P.cellsOf e)).map f).toArray := by
      intro f; apply Array.ext'; simp
    have hnl2 : ¬ (len * P.cellsOf e > 2 ^ 24) := by simpa using hnl
    have hrun : (Instr.buildSlice t len (parts.map fun (i, x) => (i, a.eval x))).run P w = .ok (.slice (some ⟨w.heap.size, 0, none⟩) len len) (w.alloc (.cells (cs.map den).toArray e)) := by
      simp only [Instr.buildSlice, Sem.run_bind, run_underlying hu, Result.andThen_ok, run_size hi]
      rw [if_neg hnl2]
      simp only [hra, hpe, hf2]
      split <;> simp [newRow, hzr]
    simp only [execOp, Sem.run_bind, hrun, Result.andThen_ok]
    rfl

theorem put_rel {N : Nat} {tm : Tm} {a : Act} (ht : TmRel N tm a) (d : Option Nat) (c : C) (hd : ∀ x, d = some x → x < N) : TmRel N (put tm d c) (a.put d (den c)) := by
  cases d with
  | none => exact ht
  | some d =>
    have hlt := hd d rfl
    refine ⟨by simp [Act.put, ht.size], ht.defers, fun s => ?_⟩
    simp only [Act.put, put, look]
    have hs := ht.size
    by_cases e : s = d
    · subst e
      simp [Array.getD, hs, hlt]
    · rw [if_neg e, ← ht.slot s]
      simp only [Array.getD_eq_getD_getElem?, Array.getElem?_setIfInBounds]
      rw [if_neg (fun h => e h.symm)]

end

def Called (P : Program) (f : FuncId) (args : Array Value) (w : World) (R : Ending → World → Prop) : Prop :=
  ((callFunc f args).run P w = .ok (.enter f args) w ∧ Calls P f args w R) ∨ (∃ v, (callFunc f args).run P w = .ok (.value v) w ∧ R (.returned v) w)
theorem Called.mono {P : Program} {f : FuncId} {args : Array Value} {w : World} {R R' : Ending → World → Prop} (h : Called P f args w R) (hr : ∀ e w', R e w' → R' e w') : Called P f args w R' := by
  rcases h with ⟨h1, h2⟩ | ⟨v, h1, h2⟩
  · exact Or.inl ⟨h1, h2.mono hr⟩
  · exact Or.inr ⟨v, h1, hr _ _ h2⟩

def CalledD (P : Program) (f : FuncId) (args : Array Value) (w : World) (R : Ending → World → Prop) : Prop :=
  ((callFunc f args).run P w = .ok (.enter f args) w ∧ Calls P f args w R) ∨ (∃ v w', (callFunc f args).run P w = .ok (.value v) w' ∧ R (.returned v) w')
structure Con (P : Program) where
  f : FuncId
  tr : Cx → List C → List Blk → (Cx → C → List Blk → Prop) → Prop
  sound : ∀ cx args mem K w, MemRel cx mem w → tr cx args mem K →
    CalledD P f (args.map den).toArray w (fun e w' => ∃ cx' c mem', e = .returned (den c) ∧ MemRel cx' mem' w' ∧ K cx' c mem')
  pu : Option (List Value → Value → Prop)
  puTr : ∀ rel, pu = some rel → ∀ cx args mem K, tr cx args mem K → ∃ vs v, args = vs.map .v ∧ rel vs v ∧ K cx (.v v) mem
  puSound : ∀ rel, pu = some rel → ∀ vs v w, rel vs v → Called P f vs.toArray w (fun e w' => e = .returned v ∧ RowKit.Below w.heap.size w w')
  rd : Bool
  rdSound : rd = true → ∀ cx args mem K, tr cx args mem K → ∃ v, K cx (.v v) mem ∧ ∀ w, MemRel cx mem w → Called P f (args.map den).toArray w (fun e w' => e = .returned v ∧ RowKit.Below w.heap.size w w')
  fr : Bool
  frSound : fr = true → ∀ cx args mem ex K, tr cx args mem K → tr cx args (mem ++ ex) (fun cx' c mem' => ∃ mem2, mem' = mem2 ++ ex ∧ cx'.w0 = cx.w0 ∧ K cx' c mem2)

def findCon {P : Program} : List (Con P) → FuncId → Option (Con P)
  | [], _ => none
  | c :: r, f => if f = c.f then some c else findCon r f

structure Env (P : Program) where
  cons : List (Con P)
  ord : List (Nat × List (Nat × Bool))

def findOrd : List (Nat × List (Nat × Bool)) → Nat → Option (List (Nat × Bool))
  | [], _ => none
  | (i, es) :: r, j => if j = i then some es else findOrd r j

inductive It where
  | code (c : Code)
  | ops (all rest : List Oper)
  | opsC (all : List Oper) (es : List (Nat × Bool))
  | op (o : Oper)
  | blk (id : Nat)
  | lp (N : Nat) (I : Cx → Tm → List Blk → Prop)

def exitTo : Nat → List It → Option (List It)
  | _, [] => none
  | id, .blk i :: k => if id = i then some k else exitTo id k
  | id, _ :: k => exitTo id k

def dstOk (N : Nat) : Option Nat → Prop
  | some d => d < N
  | none => True

def fAr (k : FloatKind) (op : BinOp) (a b : Nat) : Option (Option Nat) :=
  match op with
  | .add => some (k.format.add a b)
  | .sub => some (k.format.sub a b)
  | .mul => some (k.format.mul a b)
  | .quo => some (k.format.div a b)
  | _ => none

def fRes (k : FloatKind) (x : Option Nat) (r : Nat) : Prop :=
  match x with
  | some y => r = y
  | none => ∃ t, r = (Question.nanBits k 0 0).cut t

def f2i (s : FloatKind) (b : Nat) (k : IntKind) (r : Int) : Prop :=
  match (s.decode b).toInt .zero with
  | some n => if k.min ≤ n ∧ n ≤ k.max then r = n else ∃ t : Nat, r = k.wrap t
  | none => ∃ t : Nat, r = k.wrap t

def isFloatT (P : Program) (t : TypeId) : Bool :=
  match P.underlying t with
  | some (.float _) => true
  | some (.slice _) => true
  | none => true
  | _ => false

def kont (P : Program) (Q : Exit → Act → World → Prop) : List It → Exit → Act → World → Prop
  | [], e, a, w => Q e a w
  | .code c :: k, .normal, a, w => c.wp P (kont P Q k) a w
  | .ops all l :: k, .normal, a, w => wpList P all.toArray (kont P Q k) l a w
  | .opsC _ _ :: _, .normal, _, _ => True
  | .op o :: k, .normal, a, w => o.wp P a w (kont P Q k .normal) (kont P Q k)
  | .blk _ :: k, .normal, a, w => kont P Q k .normal a w
  | .lp M I :: _, .normal, a, w => ∃ cx tm mem, I cx tm mem ∧ TmRel M tm a ∧ MemRel cx mem w
  | .blk id :: k, .exit j, a, w => if j = id then kont P Q k .normal a w else kont P Q k (.exit j) a w
  | _ :: k, e, a, w => kont P Q k e a w

section
variable (P : Program) (σ : Env P) (N : Nat) (QS : Exit → Cx → Tm → List Blk → Prop)

def NoJump (Q : Exit → Act → World → Prop) : Prop := ∀ a w, ¬ Q .outgrown a w ∧ ∀ l, ¬ Q (.goto l) a w

def known (tm : Tm) (c : Operand) (b : Bool) : Tm :=
  match c with
  | .tmp t => (t, .v (.bool b)) :: tm
  | _ => tm

def Guard (b want : Bool) (X Y : Prop) : Prop := (b = want → X) ∧ ((!b) = want → Y)
@[congr] theorem Guard_congr {b b' want : Bool} {X Y : Prop} (h : b = b') : Guard b want X Y = Guard b' want X Y := by rw [h]
@[simp] theorem Guard_tt (X Y : Prop) : Guard true true X Y = X := by simp [Guard]
@[simp] theorem Guard_tf (X Y : Prop) : Guard true false X Y = Y := by simp [Guard]
@[simp] theorem Guard_ft (X Y : Prop) : Guard false true X Y = Y := by simp [Guard]
@[simp] theorem Guard_ff (X Y : Prop) : Guard false false X Y = X := by simp [Guard]
@[simp ↓] theorem Guard_tt' (X Y : Prop) : Guard true true X Y = X := by simp [Guard]
@[simp ↓] theorem Guard_tf' (X Y : Prop) : Guard true false X Y = Y := by simp [Guard]
@[simp ↓] theorem Guard_ft' (X Y : Prop) : Guard false true X Y = Y := by simp [Guard]
@[simp ↓] theorem Guard_ff' (X Y : Prop) : Guard false false X Y = X := by simp [Guard]
@[simp low] theorem Guard_t (b : Bool) (X Y : Prop) : Guard b true X Y = ((b = true → X) ∧ (b = false → Y)) := by cases b <;> simp [Guard]
@[simp low] theorem Guard_f (b : Bool) (X Y : Prop) : Guard b false X Y = ((b = false → X) ∧ (b = true → Y)) := by cases b <;> simp [Guard]

def LoopSem (b : Code) (k : List It) (cx : Cx) (tm : Tm) (mem : List Blk) : Prop :=
  ∀ Q : Exit → Act → World → Prop, NoJump Q → (∀ e cx tm mem a w, QS e cx tm mem → TmRel N tm a → MemRel cx mem w → Q e a w) →
    ∀ a w, TmRel N tm a → MemRel cx mem w → (Code.loop b).wp P (kont P Q k) a w

def vcs : Nat → List It → Cx → Tm → List Blk → Prop
  | 0, _, _, _, _ => False
  | _ + 1, [], cx, tm, mem => QS .normal cx tm mem
  | n + 1, .blk _ :: k, cx, tm, mem => vcs n k cx tm mem
  | _ + 1, .lp M I :: _, cx, tm, mem => M = N ∧ ∃ j, I cx tm (mem.take j)
  | n + 1, .ops _ [] :: k, cx, tm, mem => vcs n k cx tm mem
  | n + 1, .ops all (o :: r) :: k, cx, tm, mem =>
    match o.guard with
    | none => vcs n (.op o :: .ops all r :: k) cx tm mem
    | some (j, want) => match (all[j]?).bind (·.dst) with
      | some d => match look tm d with
        | .v (.bool b) => Guard b want (vcs n (.op o :: .ops all r :: k) cx ((d, .v (.bool want)) :: tm) mem)
            (dstOk N o.dst ∧ vcs n (.ops all r :: k) cx (put ((d, .v (.bool (!want))) :: tm) o.dst (.v undef)) mem)
        | .v (.tuple _) => dstOk N o.dst ∧ vcs n (.ops all r :: k) cx (put tm o.dst (.v undef)) mem
        | _ => False
      | none => False
  | n + 1, .opsC _ [] :: k, cx, tm, mem => vcs n k cx tm mem
  | n + 1, .opsC all ((i, true) :: es) :: k, cx, tm, mem =>
    match all[i]? with
    | some o => (match o.guard with
        | none => True
        | some (j, want) => match (all[j]?).bind (·.dst) with
          | some d => look tm d = .v (.bool want)
          | none => False) ∧
      match o.op with
        | .buildSlice t l ps => match newFn P tm mem (.buildSlice t l ps) with
          | some (_, _, _, ob) => ob ∧ vcs n (.opsC all es :: k) cx tm mem
          | none => False
        | .load t x => match get tm x with
          | .v (.pointer p) => LoadV (1 + 1) P cx mem t p fun v => (∀ d, o.dst = some d → look tm d = .v v) ∧ vcs n (.opsC all es :: k) cx tm mem
          | _ => match pureFn P tm mem (.load t x) with
            | some (c, ob) => ob ∧ (∀ d, o.dst = some d → look tm d = c) ∧ vcs n (.opsC all es :: k) cx tm mem
            | none => False
        | op => match pureFn P tm mem op with
          | some (c, ob) => ob ∧ (∀ d, o.dst = some d → look tm d = c) ∧ vcs n (.opsC all es :: k) cx tm mem
          | none => False
    | none => False
  | n + 1, .opsC all ((i, false) :: es) :: k, cx, tm, mem =>
    match all[i]? with
    | some o => match o.guard with
      | none => vcs n (.op o :: .opsC all es :: k) cx tm mem
      | some (j, want) => match (all[j]?).bind (·.dst) with
        | some d => match look tm d with
          | .v (.bool b) => Guard b want (vcs n (.op o :: .opsC all es :: k) cx ((d, .v (.bool want)) :: tm) mem)
              (dstOk N o.dst ∧ vcs n (.opsC all es :: k) cx (put ((d, .v (.bool (!want))) :: tm) o.dst (.v undef)) mem)
          | .v (.tuple _) => dstOk N o.dst ∧ vcs n (.opsC all es :: k) cx (put tm o.dst (.v undef)) mem
          | _ => False
        | none => False
    | none => False
  | n + 1, .op o :: k, cx, tm, mem =>
    dstOk N o.dst ∧
    match o.op with
    | .call c => match c.callee with
      | .value fo => match get tm fo with
        | .v (.func (.func f) first cap) => first = #[] ∧ cap = #[] ∧ match findCon σ.cons f with
          | some con => con.tr cx (c.args.toList.map (get tm)) mem fun cx' x m => vcs n k cx' (put tm o.dst x) m
          | none => False
        | _ => False
      | .builtin .append => AppV P cx tm mem c fun x m => vcs n k cx (put tm o.dst x) m
      | .builtin .copy => CopyV P cx tm mem c fun x m => vcs n k cx (put tm o.dst x) m
      | _ => match pureFn P tm mem o.op with
        | some (c, ob) => ob ∧ vcs n k cx (put tm o.dst c) mem
        | none => False
    | .makeSlice t l c => MakeSliceV P tm mem t l c fun x m => vcs n k cx (put tm o.dst x) m
    | .store _ _ _ => match storeFn P tm mem o.op with
      | some (m, ob) => ob ∧ vcs n k cx (put tm o.dst (.v undef)) m
      | none => False
    | .alloc _ | .box _ _ => match newFn P tm mem o.op with
      | some (cells, ty, mk, ob) => ob ∧ ∀ b, vcs n k cx (put tm o.dst (mk b)) (mem ++ [⟨b, cells, ty⟩])
      | none => False
    | .buildSlice t len parts => match newFn P tm mem (.buildSlice t len parts) with
      | some (cells, ty, mk, ob) => ob ∧ if len = 0 then ∀ b, vcs n k cx (put tm o.dst (mk b)) (mem ++ [⟨b, cells, ty⟩])
          else ∀ cx' p, Le cx cx' → RdL (newF cx') p (cells.map den) → vcs n k cx' (put tm o.dst (.v (.slice p len len))) mem
      | none => False
    | .build t parts => match buildFn P tm t parts.toList with
      | some (c, ob) => ob ∧ vcs n k cx (put tm o.dst c) mem
      | none => False
    | .load t x => match get tm x with
      | .v (.pointer p) => LoadV (1 + 1) P cx mem t p fun v => vcs n k cx (put tm o.dst (.v v)) mem
      | _ => match pureFn P tm mem o.op with
        | some (c, ob) => ob ∧ vcs n k cx (put tm o.dst c) mem
        | none => False
    | .binOp op t x y yt => match get tm x with
      | .v (.float fk a) => match get tm y with
        | .v (.float fk' b) => match fAr fk op a b with
          | some res => fk = fk' ∧ isFloatT P t = true ∧ ∀ r, fRes fk res r → vcs n k cx (put tm o.dst (.v (.float fk r))) mem
          | none => match pureFn P tm mem (.binOp op t x y yt) with
            | some (c, ob) => ob ∧ vcs n k cx (put tm o.dst c) mem
            | none => False
        | _ => False
      | _ => match pureFn P tm mem (.binOp op t x y yt) with
        | some (c, ob) => ob ∧ vcs n k cx (put tm o.dst c) mem
        | none => False
    | .convert src dst x => match get tm x with
      | .v (.float s b) => match P.underlying src with
        | some (.float _) => match P.underlying dst with
          | some (.int ik) => ∀ r, f2i s b ik r → vcs n k cx (put tm o.dst (.v (.int ik r))) mem
          | _ => False
        | _ => False
      | .s k' b off len _ => match P.underlying src with
        | some (.slice e) => match P.underlying e with
          | some (.int .u8) => match P.underlying dst with
            | some .string => TextV mem k' b off len fun x => vcs n k cx (put tm o.dst x) mem
            | _ => False
          | _ => False
        | _ => False
      | .v (.slice o' len _) => match P.underlying src with
        | some (.slice e) => match P.underlying e with
          | some (.int .u8) => match P.underlying dst with
            | some .string => SliceV (1 + 1) cx mem o' len fun vs => match bytesL (vs.map .v) with
              | some l => vcs n k cx (put tm o.dst (.v (.string ⟨l.toArray⟩))) mem
              | none => False
            | _ => False
          | _ => False
        | _ => False
      | _ => match pureFn P tm mem (.convert src dst x) with
        | some (c, ob) => ob ∧ vcs n k cx (put tm o.dst c) mem
        | none => False
    | op => match pureFn P tm mem op with
      | some (c, ob) => ob ∧ vcs n k cx (put tm o.dst c) mem
      | none => False
  | n + 1, .code c :: k, cx, tm, mem =>
    match c with
    | .skip => vcs n k cx tm mem
    | .seq a b => vcs n (.code a :: .code b :: k) cx tm mem
    | .region id ops d => match d with
      | false => vcs n (.ops ops.toList ops.toList :: k) cx tm mem
      | true => match findOrd σ.ord id with
        | none => vcs n (.ops ops.toList ops.toList :: k) cx tm mem
        | some es => vcs n (.opsC ops.toList es :: k) cx tm mem
    | .cond c a b => match get tm c with
      | .v (.bool b') => Guard b' true (vcs n (.code a :: k) cx (known tm c true) mem) (vcs n (.code b :: k) cx (known tm c false) mem)
      | _ => False
    | .block id b => vcs n (.code b :: .blk id :: k) cx tm mem
    | .exit id => match exitTo id k with
      | some k' => vcs n k' cx tm mem
      | none => False
    | .ret => QS .ret cx tm mem
    | .loop b => LoopSem P N QS b k cx tm mem
    | _ => False
end
section
variable {P : Program} {σ : Env P} {N : Nat} {QS : Exit → Cx → Tm → List Blk → Prop} {Q : Exit → Act → World → Prop}

theorem kont_code (c : Code) (k : List It) : kont P Q (.code c :: k) = Exit.then (c.wp P (kont P Q k)) (kont P Q k) := by
  funext e a w; cases e <;> simp [kont, Exit.then]

theorem kont_blk (id : Nat) (k : List It) : kont P Q (.blk id :: k) = Exit.inBlock id (kont P Q k) := by
  funext e a w; cases e <;> simp [kont, Exit.inBlock]

theorem kont_ret : ∀ (k : List It) (a : Act) (w : World), kont P Q k .ret a w = Q .ret a w
  | [], a, w => rfl
  | .code _ :: k, a, w => by simp [kont, kont_ret k]
  | .ops _ _ :: k, a, w => by simp [kont, kont_ret k]
  | .opsC _ _ :: k, a, w => by simp [kont, kont_ret k]
  | .op _ :: k, a, w => by simp [kont, kont_ret k]
  | .blk _ :: k, a, w => by simp [kont, kont_ret k]
  | .lp _ _ :: k, a, w => by simp [kont, kont_ret k]

theorem kont_exit (id : Nat) : ∀ (k k' : List It) (a : Act) (w : World), exitTo id k = some k' → kont P Q k' .normal a w → kont P Q k (.exit id) a w
  | [], _, _, _, h, _ => by simp [exitTo] at h
  | .code _ :: k, k', a, w, h, hk => by simp only [exitTo] at h; simpa [kont] using kont_exit id k k' a w h hk
  | .ops _ _ :: k, k', a, w, h, hk => by simp only [exitTo] at h; simpa [kont] using kont_exit id k k' a w h hk
  | .opsC _ _ :: k, k', a, w, h, hk => by simp only [exitTo] at h; simpa [kont] using kont_exit id k k' a w h hk
  | .op _ :: k, k', a, w, h, hk => by simp only [exitTo] at h; simpa [kont] using kont_exit id k k' a w h hk
  | .lp _ _ :: k, k', a, w, h, hk => by simp only [exitTo] at h; simpa [kont] using kont_exit id k k' a w h hk
  | .blk i :: k, k', a, w, h, hk => by
    simp only [exitTo] at h
    simp only [kont]
    split
    · subst_vars; simp at h; subst h; exact hk
    · rename_i hne
      rw [if_neg hne] at h
      exact kont_exit id k k' a w h hk

theorem memRel_below {cx : Cx} {mem : List Blk} {w w' : World} (hm : MemRel cx mem w) (hb : RowKit.Below w.heap.size w w') : MemRel cx mem w' := by
  have h1 := hm.le1
  have h01 := hm.le01
  refine ⟨hb.os.trans hm.os, hb.tape.trans hm.tape, hb.output.trans hm.output, fun i hi hg => ?_, fun i hi hg => ?_, h01, Nat.le_trans h1 hb.size, fun k b hk => ?_, hm.fresh, hm.low, hm.inj⟩
  · rw [hb.block i (by omega)]; exact hm.frame i hi hg
  · rw [hb.block i (by omega)]; exact hm.facts i hi hg
  · have := hm.blk k b hk
    rw [hb.block b.id (Array.getElem?_eq_some_iff.1 this).1]; exact this

theorem memRel_drew {cx : Cx} {mem : List Blk} {w : World} (hm : MemRel cx mem w) (n : Nat) : MemRel cx mem { w with drawn := n } :=
  ⟨hm.os, hm.tape, hm.output, hm.frame, hm.facts, hm.le01, hm.le1, hm.blk, hm.fresh, hm.low, hm.inj⟩

theorem ext_cell {cx : Cx} {mem : List Blk} {w : World} (hm : MemRel cx mem w) {a : Addr} {v : Value} (hg : a.block ∉ cx.gs) (h : cx.w1.cell? a = some v) : w.cell? a = some v := by
  have hlt : a.block < cx.w1.heap.size := block_lt_of_cell h
  rw [← h]
  exact World.cell?_of_block (w := cx.w1) (hm.facts a.block hlt hg)

theorem memRel_take {cx : Cx} {mem : List Blk} {w : World} (hm : MemRel cx mem w) (j : Nat) : MemRel cx (mem.take j) w := by
  have key : ∀ (i : Nat) b, (mem.take j)[i]? = some b → mem[i]? = some b := fun i b h => by
    rw [List.getElem?_take] at h
    split at h
    · exact h
    · simp at h
  exact ⟨hm.os, hm.tape, hm.output, hm.frame, hm.facts, hm.le01, hm.le1, fun k b h => hm.blk k b (key k b h), fun b hb => hm.fresh b (List.mem_of_mem_take hb), fun b hb => hm.low b (List.mem_of_mem_take hb),
    fun i k b c h1 h2 => hm.inj i k b c (key i b h1) (key k c h2)⟩

theorem memF_cell {cx : Cx} {mem : List Blk} {w : World} (hm : MemRel cx mem w) {a : Addr} {v : Value} (h : memF mem a = some v) : w.cell? a = some v := by
  have key : ∀ l : List Blk, (∀ b ∈ l, b ∈ mem) → memF l a = some v → w.cell? a = some v := by
    intro l
    induction l with
    | nil => intro _ h; simp [memF] at h
    | cons b r ih =>
      intro hl h
      simp only [memF] at h
      split at h
      · rename_i hb
        obtain ⟨k, hk⟩ := List.getElem?_of_mem (hl b (by simp))
        have := hm.blk k b hk
        unfold World.cell?
        rw [hb.1, this]
        simpa [hb.2] using h
      · exact ih (fun b hb => hl b (by simp [hb])) h
  exact key mem (fun _ h => h) h

theorem nowF_cell {cx : Cx} {mem : List Blk} {w : World} (hm : MemRel cx mem w) {a : Addr} {v : Value} (h : nowF cx mem a = some v) : w.cell? a = some v := by
  unfold nowF at h
  cases hf : factF cx a with
  | none => rw [hf] at h; exact memF_cell hm (by simpa using h)
  | some v' =>
    rw [hf] at h
    simp at h; subst h
    unfold factF at hf
    split at hf
    · simp at hf
    · exact ext_cell hm (by assumption) hf

theorem den_map_v (l : List Value) : l.map (den ∘ C.v) = l := by
  induction l with
  | nil => rfl
  | cons x l ih => simp [den, ih]

theorem newsV_src {cx : Cx} {mem : List Blk} {w : World} (hm : MemRel cx mem w) {size : Nat} {x : C} {K : Nat → List C → Prop} (h : NewsV cx mem size x K) :
    ∃ m news, Src P w size (den x) m (news.map den) ∧ K m news ∧ (∀ n, n ≤ m → (Builtin.firstCells size n (den x)).run P w = .ok ((news.take (n * size)).map den).toArray w) := by
  unfold NewsV at h
  split at h
  · rename_i k b off len cap
    split at h
    · rename_i bl hb
      obtain ⟨rfl, hl, hk⟩ := h
      have hw := hm.blk k bl hb
      have hc : ∀ (j : Nat) u, (((bl.cells.drop off).take (len * size)).map den)[j]? = some u → w.cell? ((⟨bl.id, off, none⟩ : Addr).add j) = some u := by
        intro j u hj
        rw [addr_add]
        unfold World.cell?
        simp only [hw]
        rw [List.map_take, List.map_drop, List.getElem?_take] at hj
        split at hj
        · rw [List.getElem?_drop] at hj
          simpa using hj
        · simp at hj
      refine ⟨len, _, Src.some (by simp; omega) hc, hk, fun n hn => ?_⟩
      have hn' : n * size ≤ len * size := Nat.mul_le_mul_right _ hn
      refine run_firstCells_some w _ _ _ _ _ _ (by simp; omega) fun j u hj => hc j u ?_
      rw [List.take_take, List.map_take] at hj
      rw [List.map_take]
      rw [List.getElem?_take] at hj ⊢
      split at hj
      · rw [if_pos (by omega)]; exact hj
      · simp at hj
    · exact h.elim
  · rename_i o len cap
    obtain ⟨vs, hl, hv, hk⟩ := h
    cases o with
    | none =>
      have : vs = [] := by
        cases vs with
        | nil => rfl
        | cons x r => obtain ⟨a, ha, _⟩ := hv 0 x rfl; simp at ha
      subst this
      simp at hl
      refine ⟨len, [], ⟨fun w' => by simp [den, Builtin.lenOf], fun w' _ => by simp [den, Builtin.firstCells], by simp; omega⟩, hk, fun n hn => by simp [den, Builtin.firstCells]⟩
    | some a =>
      have hv' : ∀ (j : Nat) u, vs[j]? = some u → w.cell? (a.add j) = some u := fun j u hj => by
        obtain ⟨a', ha, h⟩ := hv j u hj
        simp at ha; subst ha
        exact nowF_cell hm h
      refine ⟨len, _, ?_, hk, fun n hn => ?_⟩
      · have : (vs.map C.v).map den = vs := by rw [List.map_map]; exact den_map_v vs
        rw [this]
        exact Src.some hl hv'
      · have hn' : n * size ≤ len * size := Nat.mul_le_mul_right _ hn
        have : ((vs.map C.v).take (n * size)).map den = vs.take (n * size) := by rw [List.map_take, List.map_map, den_map_v]
        rw [this]
        refine run_firstCells_some w _ _ _ _ _ _ (by simp; omega) fun j u hj => hv' j u ?_
        rw [List.getElem?_take] at hj
        split at hj
        · exact hj
        · simp at hj
  · rename_i s
    obtain ⟨rfl, hk⟩ := h
    have : ((strL s).map C.v).map den = strL s := by rw [List.map_map]; exact den_map_v _
    refine ⟨s.size, _, by rw [this]; exact Src.str s, hk, fun n hn => ?_⟩
    have e : ((s.extract 0 n).data.map fun b => Value.int .u8 b.toNat) = ((((strL s).map C.v).take (n * 1)).map den).toArray := by
      apply Array.ext'
      rw [List.map_take, this, Nat.mul_one]
      simp [strL, ByteArray.data_extract, List.map_take]
    simp only [den, Builtin.firstCells, Sem.run_pure, e]
  · exact h.elim

theorem memRel_swap {cx : Cx} {mem : List Blk} {w w' : World} (hm : MemRel cx mem w) {k : Nat} {bl : Blk} (hk : mem[k]? = some bl) (b' : Nat) (cells : List C) (ty : TypeId)
    (hos : w'.os = w.os) (htp : w'.tape = w.tape) (hout : w'.output = w.output) (hsz : w.heap.size ≤ w'.heap.size) (hold : ∀ i, i < w.heap.size → i ≠ bl.id → w'.heap[i]? = w.heap[i]?)
    (hnew : w'.heap[b']? = some (.cells (cells.map den).toArray ty (0, 0))) (hb : w.heap.size ≤ b' ∨ b' = bl.id) : MemRel cx (mem.set k ⟨b', cells, ty⟩) w' := by
  have hlt : bl.id < w.heap.size := (Array.getElem?_eq_some_iff.1 (hm.blk k bl hk)).1
  have hkl : k < mem.length := (List.getElem?_eq_some_iff.1 hk).1
  have hmem : bl ∈ mem := List.mem_of_getElem? hk
  have h1 := hm.le1
  have h01 := hm.le01
  have idlt : ∀ b ∈ mem, b.id < w.heap.size := fun b hb => by
    obtain ⟨i, hi⟩ := List.getElem?_of_mem hb
    exact (Array.getElem?_eq_some_iff.1 (hm.blk i b hi)).1
  have key : ∀ (i : Nat) (b : Blk), (mem.set k ⟨b', cells, ty⟩)[i]? = some b → (i = k ∧ b = ⟨b', cells, ty⟩) ∨ (i ≠ k ∧ mem[i]? = some b) := by
    intro i b hb
    rw [List.getElem?_set] at hb
    split at hb
    · simp at hb; rename_i h; exact Or.inl ⟨h.symm, by obtain ⟨_, rfl⟩ := hb; rfl⟩
    · rename_i h; exact Or.inr ⟨fun e => h e.symm, hb⟩
  have keym : ∀ b ∈ mem.set k ⟨b', cells, ty⟩, b = ⟨b', cells, ty⟩ ∨ b ∈ mem := by
    intro b hb
    obtain ⟨i, hi⟩ := List.getElem?_of_mem hb
    rcases key i b hi with ⟨_, h⟩ | ⟨_, h⟩
    · exact Or.inl h
    · exact Or.inr (List.mem_of_getElem? h)
  refine ⟨hos.trans hm.os, htp.trans hm.tape, hout.trans hm.output, fun i hi hg => ?_, fun i hi hg => ?_, hm.le01, by omega, fun i b hi => ?_, fun b hb' => ?_, fun b hb' hl => ?_, fun i j b c hi hj he => ?_⟩
  · rw [hold i (by omega) (fun e => hg (e ▸ hm.low bl hmem (e ▸ hi)))]; exact hm.frame i hi hg
  · rw [hold i (by omega) (fun e => by
      rcases hm.fresh bl hmem with h | h
      · exact hg (e ▸ h)
      · omega)]; exact hm.facts i hi hg
  · rcases key i b hi with ⟨rfl, rfl⟩ | ⟨hne, h⟩
    · exact hnew
    · have : b.id ≠ bl.id := fun e => hne (hm.inj i k b bl h hk e)
      rw [hold b.id (idlt b (List.mem_of_getElem? h)) this]; exact hm.blk i b h
  · rcases keym b hb' with rfl | h
    · rcases hb with h | h
      · exact Or.inr (by simp only; omega)
      · subst h; exact hm.fresh bl hmem
    · exact hm.fresh b h
  · rcases keym b hb' with rfl | h
    · rcases hb with h | h
      · simp only at hl; omega
      · subst h; exact hm.low bl hmem hl
    · exact hm.low b h hl
  · rcases key i b hi with ⟨rfl, rfl⟩ | ⟨hne, h⟩ <;> rcases key j c hj with ⟨rfl, rfl⟩ | ⟨hne', h'⟩
    · rfl
    · have := idlt c (List.mem_of_getElem? h')
      rcases hb with hb | hb
      · simp only at he; omega
      · subst hb; exact (hne' (hm.inj j i c bl h' hk he.symm)).elim
    · have := idlt b (List.mem_of_getElem? h)
      rcases hb with hb | hb
      · simp only at he; omega
      · subst hb; exact (hne (hm.inj i j b bl h hk he)).elim
    · exact hm.inj i j b c h h' he

theorem memRel_grown {cx : Cx} {mem : List Blk} {w w' : World} (hm : MemRel cx mem w) (b : Nat) (cells : List C) (ty : TypeId) (hb : b = w.heap.size)
    (hos : w'.os = w.os) (htp : w'.tape = w.tape) (hout : w'.output = w.output) (hh : w'.heap = w.heap.push (.cells (cells.map den).toArray ty (0, 0))) : MemRel cx (mem ++ [⟨b, cells, ty⟩]) w' := by
  subst hb
  have h := memRel_alloc hm cells ty
  refine ⟨hos.trans hm.os, htp.trans hm.tape, hout.trans hm.output, fun i hi hg => ?_, fun i hi hg => ?_, h.le01, ?_, fun i b hi => ?_, h.fresh, h.low, h.inj⟩
  · rw [hh]; exact h.frame i hi hg
  · rw [hh]; exact h.facts i hi hg
  · rw [hh]; exact h.le1
  · rw [hh]; exact h.blk i b hi

theorem size_zeros (z : Array Value) (n : Nat) : (Builtin.zeroCells z n).size = n * z.size := by simp [Builtin.zeroCells]

theorem appV_sound {N : Nat} {cx : Cx} {tm : Tm} {mem : List Blk} {w : World} {a : Act} {o : Oper} {c : Call} {K : C → List Blk → Prop} (ht : TmRel N tm a) (hm : MemRel cx mem w) (ho : o.op = .call c) (hc : c.callee = .builtin .append)
    (h : AppV P cx tm mem c K) : ∃ x mem' w', (execOp a.eval o).run P w = .ok (.value (den x)) w' ∧ MemRel cx mem' w' ∧ K x mem' := by
  obtain ⟨hs1, hs2, h⟩ := h
  have hev := eval_get ht
  split at h <;> (try exact h.elim)
  rename_i e hu
  obtain ⟨hz0, hni, hzl, h⟩ := h
  obtain ⟨m, news, hsrc, ⟨hone, hg⟩, _⟩ := newsV_src (P := P) hm h
  obtain ⟨i, hi⟩ := cells_info hz0
  have hcs : P.cellsOf e = i.size := by simp [Program.cellsOf, hi]
  have hby : bytesOf P e = i.bytes := by simp [bytesOf, hi]
  have hzz : ∃ z, i.zero = some z ∧ z.cells.size = i.size := by
    unfold zeroL at hzl
    simp only [hi, Option.bind_some] at hzl
    cases hz : i.zero with
    | none => simp [hz] at hzl
    | some z => exact ⟨z, rfl, by simpa [hz, hcs] using hzl⟩
  obtain ⟨z, hz, hzs⟩ := hzz
  have hargs : c.args.map a.eval = #[den (get tm (argAt c 0)), den (get tm (argAt c 1))] := by
    have : c.args = #[argAt c 0, argAt c 1] := by
      obtain ⟨l, args, tys⟩ := c
      obtain ⟨l⟩ := args
      match l, hs1 with
      | [x, y], _ => rfl
    rw [this]; simp [hev]
  have htys : c.argTypes = #[typeAt c 0, typeAt c 1] := by
    obtain ⟨l, args, tys⟩ := c
    obtain ⟨l⟩ := tys
    match l, hs2 with
    | [x, y], _ => rfl
  have hfin : ∀ {v : Value} {w' : World}, (Builtin.append_ #[typeAt c 0, typeAt c 1] o.type #[den (get tm (argAt c 0)), den (get tm (argAt c 1))]).run P w = .ok v w' → (execOp a.eval o).run P w = .ok (.value v) w' := by
    intro v w' hr
    unfold execOp
    simp only [ho, resolve, hc, invoke, builtin, Sem.run_bind, Sem.run_pure, Result.andThen_ok, hargs, htys, hr]
  rw [hcs] at hsrc hg
  rw [hby] at hg
  have hl := hsrc.size
  simp only [List.length_map] at hl
  have hone' : ∀ u ∈ news.map den, u.oneCell' = true := fun u hu' => by
    obtain ⟨c', hc', rfl⟩ := List.mem_map.1 hu'
    exact den_one (List.all_eq_true.1 hone c' hc')
  generalize hS : get tm (argAt c 0) = S at hg hfin
  unfold GrowV at hg
  split at hg
  · rename_i n cp
    obtain ⟨rfl, rfl, hg0, hg1⟩ := hg
    by_cases h0 : m = 0
    · exact ⟨_, mem, w, hfin (append_none w _ _ _ _ i hu hni hi hsrc h0), hm, hg0 h0⟩
    · obtain ⟨h63, h48, hk⟩ := hg1 h0
      have hr := append_fresh w _ _ o.type _ i z hu hni hi hz hsrc (by omega) (by unfold maxLen at h63; omega) (by omega)
      have hge := grownCap_ge w m 0 e
      have hle := grownCap_le_maxLen w m 0 e h63
      refine ⟨.s mem.length w.heap.size 0 m (grownCap w m 0 e), _, _, hfin hr, ?_, hk w.heap.size (grownCap w m 0 e) ((Builtin.zeroCells z.cells (grownCap w m 0 e - m)).toList.map C.v) hge hle (by simp [size_zeros, hzs])⟩
      refine memRel_grown hm _ _ _ rfl rfl rfl rfl ?_
      show w.heap.push _ = _
      congr 2
      apply Array.ext'
      simp [den_map_v]
  · rename_i k b off n cap
    split at hg <;> (try exact hg.elim)
    rename_i bl hb
    obtain ⟨rfl, rfl, rfl, hcl, hnc, hcm, h63, h48, hk⟩ := hg
    have hw := hm.blk k bl hb
    by_cases hroom : n + m ≤ cap
    · have hfit : n * i.size + m * i.size ≤ cap * i.size := by rw [← Nat.add_mul]; exact Nat.mul_le_mul_right _ hroom
      have hr := append_room w _ _ o.type _ i hu hni hi hsrc bl.id n cap _ hw hone' hroom (by simp [hl, hcl]; omega)
      refine ⟨.s k bl.id 0 (n + m) cap, _, _, hfin hr, ?_, hk bl.id cap (bl.cells.drop (n * i.size + news.length)) hroom hcm (by simp [hl, hcl, Nat.sub_mul, Nat.add_mul])⟩
      refine memRel_swap hm hb _ _ _ rfl rfl rfl (by simp) (fun j _ hj => setRow_other w bl.id j _ hj) ?_ (Or.inr rfl)
      have := setRow_heap w bl.id _ ((bl.cells.map den).toArray.toList.take (n * i.size) ++ news.map den ++ (bl.cells.map den).toArray.toList.drop (n * i.size + (news.map den).length)).toArray bl.ty _ hw
      rw [this]
      congr 2
      apply Array.ext'
      simp [List.map_take, List.map_drop]
    · have hfit : n * i.size ≤ cap * i.size := Nat.mul_le_mul_right _ hnc
      have hr := append_grow w _ _ o.type _ i z hu hni hi hz hsrc ⟨bl.id, 0, none⟩ n cap ((bl.cells.take (n * i.size)).map den) (by rw [List.length_map, List.length_take, hcl]; omega) (fun j v hj => by
        rw [addr_add]
        unfold World.cell?
        simp only [hw]
        rw [List.map_take, List.getElem?_take] at hj
        split at hj
        · simpa using hj
        · simp at hj) (by omega) (by unfold maxLen at h63; omega) (growslice_fits (by omega) h48)
      have hge := grownCap_ge w (n + m) cap bl.ty
      have hle := grownCap_le_maxLen w (n + m) cap bl.ty h63
      refine ⟨.s k w.heap.size 0 (n + m) (grownCap w (n + m) cap bl.ty), _, _, hfin hr, ?_, hk w.heap.size (grownCap w (n + m) cap bl.ty) ((Builtin.zeroCells z.cells (grownCap w (n + m) cap bl.ty - (n + m))).toList.map C.v) hge hle (by simp [size_zeros, hzs])⟩
      refine memRel_swap hm hb _ _ _ rfl rfl rfl (by simp) (fun j hj _ => by
        show (w.heap.push _)[j]? = _
        rw [Array.getElem?_push, if_neg (by omega)]) ?_ (Or.inl (Nat.le_refl _))
      show (w.heap.push _)[w.heap.size]? = _
      rw [Array.getElem?_push, if_pos rfl]
      congr 2
      apply Array.ext'
      simp [den_map_v]
  · exact hg.elim

theorem copyV_sound {N : Nat} {cx : Cx} {tm : Tm} {mem : List Blk} {w : World} {a : Act} {o : Oper} {c : Call} {K : C → List Blk → Prop} (ht : TmRel N tm a) (hm : MemRel cx mem w) (ho : o.op = .call c) (hc : c.callee = .builtin .copy)
    (h : CopyV P cx tm mem c K) : ∃ x mem' w', (execOp a.eval o).run P w = .ok (.value (den x)) w' ∧ MemRel cx mem' w' ∧ K x mem' := by
  obtain ⟨hs1, hs2, h⟩ := h
  have hev := eval_get ht
  split at h <;> (try exact h.elim)
  rename_i e hu
  obtain ⟨hz0, h⟩ := h
  obtain ⟨m, news, hsrc, ⟨hone, hg⟩, hfirst⟩ := newsV_src (P := P) hm h
  obtain ⟨i, hi⟩ := cells_info hz0
  have hcs : P.cellsOf e = i.size := by simp [Program.cellsOf, hi]
  have hargs : c.args.map a.eval = #[den (get tm (argAt c 0)), den (get tm (argAt c 1))] := by
    have : c.args = #[argAt c 0, argAt c 1] := by
      obtain ⟨l, args, tys⟩ := c
      obtain ⟨l⟩ := args
      match l, hs1 with
      | [x, y], _ => rfl
    rw [this]; simp [hev]
  have htys : c.argTypes = #[typeAt c 0, typeAt c 1] := by
    obtain ⟨l, args, tys⟩ := c
    obtain ⟨l⟩ := tys
    match l, hs2 with
    | [x, y], _ => rfl
  have hl := hsrc.size
  simp only [List.length_map] at hl
  split at hg <;> (try exact hg.elim)
  rename_i k b off len cap hd
  split at hg <;> (try exact hg.elim)
  rename_i bl hb
  obtain ⟨rfl, hfit, hk⟩ := hg
  have hw := hm.blk k bl hb
  rw [hcs] at hsrc hfirst hfit hk hl
  have hlen : (news.take (min m len * i.size)).length = min m len * i.size := by
    have : min m len * i.size ≤ m * i.size := Nat.mul_le_mul_right _ (Nat.min_le_left _ _)
    simp; omega
  have hr := copy_row (P := P) w (typeAt c 0) (typeAt c 1) o.type e i hu hi bl.id off len cap _ hw rfl (min m len) rfl hsrc.len (hfirst _ (Nat.min_le_left _ _)) (fun u hu' => by
    obtain ⟨c', hc', rfl⟩ := List.mem_map.1 hu'
    exact den_one (List.all_eq_true.1 hone c' (List.mem_of_mem_take hc'))) (by
      rw [List.length_map, hlen]; simpa using hfit)
  refine ⟨.v (.int .i64 (min m len : Nat)), _, w.setRow bl.id ((bl.cells.map den).toArray.toList.take off ++ (news.take (min m len * i.size)).map den ++ (bl.cells.map den).toArray.toList.drop (off + ((news.take (min m len * i.size)).map den).length)).toArray, ?_, ?_, hk⟩
  · unfold execOp
    simp only [ho, resolve, hc, invoke, builtin, Sem.run_bind, Sem.run_pure, Result.andThen_ok, hargs, htys]
    rw [hd]
    simp only [den] at hr ⊢
    rw [hr]; rfl
  · have hms := memRel_set hm hb (splice bl.cells off (news.take (min m len * i.size)))
    have e2 : ((splice bl.cells off (news.take (min m len * i.size))).map den).toArray = ((bl.cells.map den).toArray.toList.take off ++ (news.take (min m len * i.size)).map den ++ (bl.cells.map den).toArray.toList.drop (off + ((news.take (min m len * i.size)).map den).length)).toArray := by
      rw [splice_eq (by rw [hlen]; exact hfit)]
      apply Array.ext'
      simp [List.map_take, List.map_drop]
    rw [e2] at hms
    exact hms

theorem made_flat (z : List Value) (hz : z.length ≠ 0) (c : Nat) : (madeCells z.toArray (c * z.length)).toList = (List.replicate c z).flatten := by
  unfold madeCells
  simp only [Array.toList_map, Array.toList_range]
  induction c with
  | zero => simp
  | succ c ih =>
    rw [Nat.add_mul, Nat.one_mul, List.range_add, List.map_append, ih, List.replicate_succ', List.flatten_append]
    congr 1
    rw [List.map_map]
    simp only [List.flatten_cons, List.flatten_nil, List.append_nil]
    apply List.ext_getElem?
    intro j
    by_cases hj : j < z.length
    · have : (c * z.length + j) % z.length = j := by rw [Nat.mul_comm, Nat.mul_add_mod, Nat.mod_eq_of_lt hj]
      simp [hj, this]
    · rw [List.getElem?_eq_none (by simpa using hj), List.getElem?_eq_none (by simpa using hj)]

theorem makeSliceV_sound {N : Nat} {cx : Cx} {tm : Tm} {mem : List Blk} {w : World} {a : Act} {o : Oper} {t : TypeId} {l c : Operand} {K : C → List Blk → Prop} (ht : TmRel N tm a) (hm : MemRel cx mem w) (ho : o.op = .makeSlice t l c)
    (h : MakeSliceV P tm mem t l c K) : ∃ x mem' w', (execOp a.eval o).run P w = .ok (.value (den x)) w' ∧ MemRel cx mem' w' ∧ K x mem' := by
  have hev := eval_get ht
  unfold MakeSliceV at h
  split at h <;> (try exact h.elim)
  rename_i e hu
  split at h <;> (try exact h.elim)
  rename_i kl l' hl
  split at h <;> (try exact h.elim)
  rename_i kc c' hc
  split at h <;> (try exact h.elim)
  rename_i z hz
  obtain ⟨hzl, hz0, h0, h1, h48, h63, hk⟩ := h
  obtain ⟨i, hi⟩ := cells_info hz0
  have hcs : P.cellsOf e = i.size := by simp [Program.cellsOf, hi]
  have hby : bytesOf P e = i.bytes := by simp [bytesOf, hi]
  have hzz : ∃ zv, i.zero = some zv ∧ zv.cells = z.toArray := by
    unfold zeroL at hz
    simp only [hi, Option.bind_some] at hz
    cases hzv : i.zero with
    | none => simp [hzv] at hz
    | some zv => exact ⟨zv, rfl, by simp [hzv] at hz; rw [← hz]⟩
  obtain ⟨zv, hzv, hze⟩ := hzz
  have hr := run_make (P := P) w t e i zv hu hi hzv kl kc l' c' h0 h1 (by rw [← hby]; exact h48) h63
  refine ⟨_, _, _, ?_, memRel_alloc hm _ e, hk w.heap.size⟩
  have e1 : (List.map den (List.map C.v (List.replicate c'.toNat z).flatten)).toArray = madeCells zv.cells (c'.toNat * i.size) := by
    apply Array.ext'
    rw [hze, ← hcs, ← hzl, made_flat z (by omega)]
    simp [den_map_v]
  rw [e1]
  unfold execOp
  simp only [ho, hev, hl, hc, den, Sem.run_bind, hr, Result.andThen_ok]
  rfl

theorem bytesL_den : ∀ (l : List C) (bs : List UInt8), bytesL l = some bs → ∃ ns : List Int, l.map den = ns.map (Value.int .u8) ∧ ns.map (fun n => UInt8.ofNat n.toNat) = bs
  | [], bs, h => by simp [bytesL] at h; subst h; exact ⟨[], rfl, rfl⟩
  | c :: r, bs, h => by
    unfold bytesL at h
    split at h <;> (try simp only [reduceCtorEq] at h)
    · rename_i heq; simp at heq
    · rename_i n r' heq
      simp only [List.cons.injEq] at heq
      obtain ⟨rfl, rfl⟩ := heq
      cases hr : bytesL r with
      | none => simp [hr] at h
      | some l' =>
        simp [hr] at h
        obtain ⟨ns, e1, e2⟩ := bytesL_den r l' hr
        exact ⟨n :: ns, by simp [den, e1], by simp [e2, h]⟩

theorem foldl_push (ns : List Int) (s : ByteArray) : ns.foldl (fun r n => r.push (UInt8.ofNat n.toNat)) s = ⟨(s.data.toList ++ ns.map (fun n => UInt8.ofNat n.toNat)).toArray⟩ := by
  induction ns generalizing s with
  | nil => simp
  | cons n ns ih =>
    rw [List.foldl_cons, ih]
    congr 1
    apply Array.ext'
    simp [ByteArray.push]

theorem textV_sound {cx : Cx} {mem : List Blk} {w : World} {k b off len cap : Nat} {src dst e : TypeId} {K : C → Prop} (hm : MemRel cx mem w)
    (hs : P.underlying src = some (.slice e)) (he : P.underlying e = some (.int .u8)) (hd : P.underlying dst = some .string) (h : TextV mem k b off len K) :
    ∃ c, (convert src dst (.slice (some ⟨b, off, none⟩) len cap)).run P w = .ok (den c) w ∧ K c := by
  unfold TextV at h
  split at h <;> (try exact h.elim)
  rename_i bl hb
  split at h <;> (try exact h.elim)
  rename_i l hl
  obtain ⟨rfl, hfit, hk⟩ := h
  have hw := hm.blk k bl hb
  obtain ⟨ns, e1, e2⟩ := bytesL_den _ _ hl
  refine ⟨_, ?_, hk⟩
  rw [run_convert_bytes_string w src dst e _ _ _ hs he hd]
  have hlc := run_loadCells_list (P := P) w ⟨bl.id, off, none⟩ (ns.map (Value.int .u8)) (fun j u hj => by
    rw [← e1] at hj
    rw [addr_add]
    unfold World.cell?
    simp only [hw]
    rw [List.map_take, List.map_drop, List.getElem?_take] at hj
    split at hj
    · rw [List.getElem?_drop] at hj
      simpa using hj
    · simp at hj)
  have hln : (ns.map (Value.int .u8)).length = len := by rw [← e1]; simp; omega
  rw [hln] at hlc
  rw [run_bytesToString (P := P) w _ _ _ ns hlc, foldl_push]
  simp [den, e2]

theorem textF_run {cx : Cx} {mem : List Blk} {w : World} {o : Option Addr} {len cap : Nat} {src dst e : TypeId} {vs : List Value} {l : List UInt8} (hm : MemRel cx mem w)
    (hs : P.underlying src = some (.slice e)) (he : P.underlying e = some (.int .u8)) (hd : P.underlying dst = some .string) (hl : vs.length = len)
    (hv : ∀ (j : Nat) v, vs[j]? = some v → ∃ a, o = some a ∧ nowF cx mem (a.add j) = some v) (hb : bytesL (vs.map .v) = some l) :
    (convert src dst (.slice o len cap)).run P w = .ok (.string ⟨l.toArray⟩) w := by
  obtain ⟨ns, e1, e2⟩ := bytesL_den _ _ hb
  rw [map_den_v] at e1
  rw [run_convert_bytes_string w src dst e _ _ _ hs he hd]
  cases o with
  | none =>
    have hz : vs = [] := by
      cases vs with
      | nil => rfl
      | cons v r =>
        obtain ⟨a, h, _⟩ := hv 0 v rfl
        cases h
    have hn : ns = [] := by
      rw [hz] at e1
      simpa using e1.symm
    subst hn
    simp at e2
    subst e2
    rfl
  | some a =>
    have hlc := run_loadCells_list (P := P) w a (ns.map (Value.int .u8)) (fun j u hj => by
      rw [← e1] at hj
      obtain ⟨a', h1, h2⟩ := hv j u hj
      cases h1
      exact nowF_cell hm h2)
    have hln : (ns.map (Value.int .u8)).length = len := by rw [← e1]; exact hl
    rw [hln] at hlc
    rw [run_bytesToString (P := P) w _ _ _ ns hlc, foldl_push, e2]
    simp

theorem add_block (a : Addr) (j : Nat) : (a.add j).block = a.block := by
  unfold Addr.add; split <;> rfl

theorem op_value {o : Oper} {a : Act} {w w' : World} {v : Value} {K : Act → World → Prop} {Q : Exit → Act → World → Prop}
    (hr : (execOp a.eval o).run P w = .ok (.value v) w') (h : K (a.put o.dst v) w') : o.wp P a w K Q := by
  unfold Oper.wp; rw [hr]; exact h

theorem op_skip {o : Oper} {a : Act} {w w' : World} {K : Act → World → Prop} {Q : Exit → Act → World → Prop}
    (hr : (execOp a.eval o).run P w = .ok .skip w') (h : K (a.put o.dst undef) w') : o.wp P a w K Q := by
  unfold Oper.wp; rw [hr]; exact h

theorem call_run {o : Oper} {a : Act} {w w' : World} {c : Call} {fo : Operand} {con : Con P} {x : Next} (ho : o.op = .call c) (hc : c.callee = .value fo)
    (hf : a.eval fo = .func (.func con.f) #[] #[]) (hr : (callFunc con.f (c.args.map a.eval)).run P w = .ok x w') : (execOp a.eval o).run P w = .ok x w' := by
  simp [execOp, ho, resolve, hc, hf, Deferred.ofValue, invoke, hr]

theorem findCon_f : ∀ (σ : List (Con P)) (f : FuncId) (con : Con P), findCon σ f = some con → con.f = f
  | [], _, _, h => by simp [findCon] at h
  | c :: r, f, con, h => by
    simp only [findCon] at h
    split at h
    · simp at h; subst h; rename_i e; exact e.symm
    · exact findCon_f r f con h

theorem dst_of {d : Option Nat} (h : dstOk N d) : ∀ x, d = some x → x < N := by
  intro x hx; subst hx; exact h

theorem TmRel.lay {tm : Tm} {a : Act} (ht : TmRel N tm a) {d : Nat} {b b' : Bool} (h : look tm d = .v (.bool b)) (e : b = b') : TmRel N ((d, .v (.bool b')) :: tm) a := by
  refine ⟨ht.size, ht.defers, fun s => ?_⟩
  simp only [look]
  split
  · subst_vars; rw [ht.slot, h]
  · exact ht.slot s

theorem TmRel.known {tm : Tm} {a : Act} (ht : TmRel N tm a) {c : Operand} {b b' : Bool} (h : get tm c = .v (.bool b)) (e : b = b') : TmRel N (known tm c b') a := by
  cases c with
  | tmp t => exact ht.lay h e
  | _ => exact ht

theorem pure_wp {o : Oper} {cx : Cx} {tm : Tm} {mem : List Blk} {a : Act} {w : World} {c : C} {ob : Prop} {K : Act → World → Prop} {Q : Exit → Act → World → Prop}
    (ht : TmRel N tm a) (hm : MemRel cx mem w) (h : pureFn P tm mem o.op = some (c, ob)) (hob : ob) (hd : dstOk N o.dst)
    (hk : ∀ a, TmRel N (put tm o.dst c) a → K a w) : o.wp P a w K Q :=
  op_value (pureFn_sound ht hm h hob) (hk _ (put_rel ht o.dst c (dst_of hd)))

end
section
variable {P : Program} {σ : Env P} {N : Nat} {QS : Exit → Cx → Tm → List Blk → Prop} {Q : Exit → Act → World → Prop}

theorem wp_congrQ {o : Oper} {a : Act} {w : World} {K : Act → World → Prop} {Q Q' : Exit → Act → World → Prop}
    (h1 : ∀ c a w, Q (.panic c) a w → Q' (.panic c) a w) (h2 : LetsOut Q → LetsOut Q') (hh : o.wp P a w K Q) : o.wp P a w K Q' := by
  unfold Oper.wp at *
  generalize (execOp a.eval o).run P w = r at *
  cases r with
  | ok n w' =>
    cases n <;> simp only [Oper.upon] at hh ⊢ <;>
      first
        | exact hh
        | exact Calls.mono hh (fun e w'' he => by cases e <;> first | exact he | exact h1 _ _ _ he | exact h2 he)
  | halt x w' => cases x <;> simp only [Oper.upon] at hh ⊢ <;> first | exact hh | exact h1 _ _ _ hh

theorem float_run {fk : FloatKind} {op : BinOp} {a b : Nat} {res : Option Nat} (h : fAr fk op a b = some res) (t : TypeId) (x y : Operand) (w : World) :
    ∃ r n, (do eqGuard op t x y (.float fk a) (.float fk b); binOp op t (.float fk a) (.float fk b) : Sem Value).run P w = .ok (.float fk r) { w with drawn := n } ∧ fRes fk res r := by
  have key : ∃ r n, (Op.floatArith op fk a b).run P w = .ok (.float fk r) { w with drawn := n } ∧ fRes fk res r := by
    unfold fAr at h
    cases op <;> simp only [Option.some.injEq, reduceCtorEq] at h
    all_goals
      simp only [Op.floatArith, Sem.run_bind, Sem.run_pure, Result.andThen_ok, h]
      cases res with
      | some r => exact ⟨r, w.drawn, rfl, rfl⟩
      | none => exact ⟨_, _, by simp [Question.forced]; exact ⟨rfl, rfl⟩, ⟨w.tape w.drawn (.nanBits fk a b), by cases fk <;> rfl⟩⟩
  obtain ⟨r, n, hr, hf⟩ := key
  refine ⟨r, n, ?_, hf⟩
  unfold fAr at h
  cases op <;> simp only [reduceCtorEq] at h
  all_goals simp [eqGuard, binOp, hr]

theorem f2i_run (s : FloatKind) (b : Nat) (ik : IntKind) (w : World) : ∃ r n, (Conv.floatToInt s b ik).run P w = .ok (.int ik r) { w with drawn := n } ∧ f2i s b ik r := by
  unfold Conv.floatToInt f2i
  cases (s.decode b).toInt .zero with
  | none => exact ⟨_, _, by simp [Question.forced]; exact ⟨rfl, rfl⟩, ⟨_, rfl⟩⟩
  | some n =>
    by_cases h : ik.min ≤ n ∧ n ≤ ik.max
    · exact ⟨n, w.drawn, by simp only [h]; rfl, by simp [h]⟩
    · exact ⟨_, _, by simp only [if_neg h]; simp [Question.forced]; exact ⟨rfl, rfl⟩, by simp only [if_neg h]; exact ⟨_, rfl⟩⟩

theorem build_wp {o : Oper} {t : TypeId} {parts : Array (Nat × Operand)} {tm : Tm} {a : Act} {w : World} {c : C} {ob : Prop} {K : Act → World → Prop} {Q : Exit → Act → World → Prop}
    (ho : o.op = .build t parts) (ht : TmRel N tm a) (h : buildFn P tm t parts.toList = some (c, ob)) (hob : ob) (hd : dstOk N o.dst)
    (hk : ∀ a, TmRel N (put tm o.dst c) a → K a w) : o.wp P a w K Q := by
  refine op_value (v := den c) (w' := w) ?_ (hk _ (put_rel ht o.dst c (dst_of hd)))
  have := buildFn_sound ht h hob w
  simp only [execOp, ho, Sem.run_bind, this, Result.andThen_ok]; rfl

theorem ext_agg {t : TypeId} {a : Addr} {w : World} {vs : List Value} (ha : aggT P t = some true) (hl : vs.length = P.cellsOf t)
    (hv : ∀ (j : Nat) v, vs[j]? = some v → w.cell? (a.add j) = some v) : (loadVar t a).run P w = .ok (.agg vs.toArray) w := by
  obtain ⟨i, hi⟩ := aggT_info ha
  have hc := run_loadCells_list (P := P) w a vs hv
  rw [hl] at hc
  simp [loadVar, isAgg_run ha, run_size hi, hc]

theorem ext_one {t : TypeId} {a : Addr} {w : World} {v : Value} (ha : aggT P t = some false) (hv : w.cell? a = some v) : (loadVar t a).run P w = .ok v w := by
  simp [loadVar, isAgg_run ha, hv]

theorem load_wp {o : Oper} {t : TypeId} {x : Operand} {tm : Tm} {a : Act} {w : World} {ad : Addr} {v : Value} {K : Act → World → Prop} {Q : Exit → Act → World → Prop}
    (ho : o.op = .load t x) (ht : TmRel N tm a) (hx : get tm x = .v (.pointer (some ad))) (hr : (loadVar t ad).run P w = .ok v w) (hd : dstOk N o.dst)
    (hk : ∀ a, TmRel N (put tm o.dst (.v v)) a → K a w) : o.wp P a w K Q := by
  refine op_value (v := v) (w' := w) ?_ (hk _ (put_rel ht o.dst (.v v) (dst_of hd)))
  simp [execOp, ho, eval_get ht, hx, den, Instr.loadAt, Instr.sureAddr, hr]

end
section
variable {P : Program} {σ : Env P} {N : Nat} {QS : Exit → Cx → Tm → List Blk → Prop} {Q : Exit → Act → World → Prop}

theorem kont_ops_other (all l : List Oper) (k : List It) (e : Exit) (a : Act) (w : World) (he : e ≠ .normal) : kont P Q (.ops all l :: k) e a w = kont P Q k e a w := by
  cases e <;> first | rfl | exact (he rfl).elim

theorem yielded_look {all : List Oper} {tm : Tm} {a : Act} (ht : TmRel N tm a) {j d : Nat} (hd : (all[j]?).bind (·.dst) = some d) :
    yielded all.toArray a.tmps j = match look tm d with | .v (.bool b) => some b | _ => none := by
  have hs := ht.slot d
  unfold yielded
  have : (all.toArray[j]?).bind (·.dst) = some d := by simpa using hd
  rw [this]
  simp only [Option.bind_some]
  simp only [Array.getD_eq_getD_getElem?] at hs
  cases hl : a.tmps[d]? with
  | none =>
    rw [hl] at hs
    simp only [Option.getD_none] at hs
    cases hk : look tm d with
    | v x => rw [hk] at hs; simp only [den] at hs; subst hs; rfl
    | p => rfl
    | s => rfl
  | some y =>
    rw [hl] at hs
    simp only [Option.getD_some] at hs
    subst hs
    cases hk : look tm d with
    | v x => simp only [den]; cases x <;> rfl
    | p => rfl
    | s => rfl


def opDraws (P : Program) (σ : Env P) : Op → Bool
  | .move _ | .assign _ | .pick .. | .load .. | .nilCheck _ | .fieldAddr .. | .field .. | .indexAddr .. | .index .. | .unOp .. | .extract .. | .build .. | .slice .. => true
  | .binOp op t _ _ _ => (fAr .f64 op 0 0).isNone || !isFloatT P t
  | .convert src _ _ => !isFloatT P src
  | .call c => match c.callee with
    | .value (.func f) => match findCon σ.cons f with
      | some con => con.pu.isSome || con.rd
      | none => false
    | .builtin .len => true
    | .builtin .min => true
    | .builtin .max => true
    | _ => false
  | _ => false

theorem memRel_nil (w : World) : MemRel ⟨w, [], w, []⟩ [] w :=
  ⟨rfl, rfl, rfl, fun _ _ _ => rfl, fun _ _ _ => rfl, Nat.le_refl _, Nat.le_refl _, fun _ _ h => by simp at h, fun _ h => by simp at h, fun _ h => by simp at h, fun _ _ _ _ h => by simp at h⟩

def seesSlots (all : List Oper) (o : Oper) : List Nat :=
  (o.op.operands.toList.filterMap fun | .tmp t => some t | _ => none) ++
  (match o.guard with
   | some (j, _) => ((all[j]?).bind (·.dst)).toList
   | none => [])

theorem getD_put_same {a : Act} {d : Nat} {v : Value} (h : d < a.tmps.size) : (a.put (some d) v).tmps.getD d undef = v := by
  simp [Act.put, Array.getD, h]

theorem getD_put_other {a : Act} {d s : Nat} {v : Value} (h : s ≠ d) : (a.put (some d) v).tmps.getD s undef = a.tmps.getD s undef := by
  simp only [Act.put, Array.getD_eq_getD_getElem?, Array.getElem?_setIfInBounds]
  rw [if_neg (fun e => h e.symm)]

theorem yielded_getD {ops : List Oper} {a : Act} {j d : Nat} (hd : (ops[j]?).bind (·.dst) = some d) :
    yielded ops.toArray a.tmps j = match a.tmps.getD d undef with | .bool b => some b | _ => none := by
  have hd' : (ops.toArray[j]?).bind (·.dst) = some d := by simpa using hd
  unfold yielded
  rw [hd']
  simp only [Option.bind_some, Array.getD_eq_getD_getElem?]
  cases a.tmps[d]? with
  | none => rfl
  | some y => cases y <;> rfl

theorem filter_lt {α : Type} (p q : α → Bool) : ∀ (l : List α), (∀ x, p x = true → q x = true) → (∃ y ∈ l, q y = true ∧ p y = false) → (l.filter p).length < (l.filter q).length
  | [], _, ⟨y, hy, _⟩ => by simp at hy
  | x :: l, hpq, ⟨y, hy, h1, h2⟩ => by
    have hle : (l.filter p).length ≤ (l.filter q).length := by
      clear hy
      induction l with
      | nil => simp
      | cons z l ih =>
        simp only [List.filter_cons]
        by_cases hp : p z = true
        · simp [hp, hpq z hp, ih]
        · simp only [Bool.not_eq_true] at hp
          by_cases hq : q z = true <;> simp [hp, hq] <;> omega
    simp only [List.filter_cons]
    rcases List.mem_cons.1 hy with rfl | hy
    · simp [h1, h2]; omega
    · have ih := filter_lt p q l hpq ⟨y, hy, h1, h2⟩
      by_cases hp : p x = true
      · simp [hp, hpq x hp, ih]
      · simp only [Bool.not_eq_true] at hp
        by_cases hq : q x = true <;> simp [hp, hq] <;> omega

/- The order inside a drawn region. -/
def maskStep (ms : List Nat) (o : Oper) : Nat :=
  o.after.toList.foldl (fun m e => if Region.binds .any e = true then m ||| (2 ^ e.on ||| ms.getD e.on 0) else m) 0
def masks : List Oper → List Nat → List Nat
  | [], ms => ms
  | o :: r, ms => masks r (ms ++ [maskStep ms o])
def dep (ops : List Oper) (i j : Nat) : Bool := ((masks ops []).getD i 0).testBit j

def Closed (ops : List Oper) (L : Nat → Prop) : Prop := ∀ (i : Nat) o, ops[i]? = some o → L i → ∀ e ∈ o.after, Region.binds .any e = true → L e.on
def ReadyAt (ops : List Oper) (L : Nat → Prop) (i : Nat) : Prop := ∀ o, ops[i]? = some o → ∀ e ∈ o.after, Region.binds .any e = true → L e.on

theorem maskStep_bit {ms : List Nat} {o : Oper} {j : Nat} (h : (maskStep ms o).testBit j = true) :
    ∃ e ∈ o.after, Region.binds .any e = true ∧ (e.on = j ∨ (ms.getD e.on 0).testBit j = true) := by
  unfold maskStep at h
  have key : ∀ (l : List Edge) (m : Nat), (l.foldl (fun m e => if Region.binds .any e = true then m ||| (2 ^ e.on ||| ms.getD e.on 0) else m) m).testBit j = true →
      m.testBit j = true ∨ ∃ e ∈ l, Region.binds .any e = true ∧ (e.on = j ∨ (ms.getD e.on 0).testBit j = true) := by
    intro l
    induction l with
    | nil => intro m h; exact Or.inl h
    | cons e l ih =>
      intro m h
      simp only [List.foldl_cons] at h
      rcases ih _ h with h | ⟨e', he', h1, h2⟩
      · split at h
        · rename_i hb
          rw [Nat.testBit_or, Nat.testBit_or, Nat.testBit_two_pow] at h
          simp only [Bool.or_eq_true, decide_eq_true_eq] at h
          rcases h with h | h | h
          · exact Or.inl h
          · exact Or.inr ⟨e, by simp, hb, Or.inl h⟩
          · exact Or.inr ⟨e, by simp, hb, Or.inr h⟩
        · exact Or.inl h
      · exact Or.inr ⟨e', by simp [he'], h1, h2⟩
  rcases key _ _ h with h | ⟨e, he, h⟩
  · simp at h
  · exact ⟨e, by simpa using he, h⟩

theorem masks_dep {ops : List Oper} {L : Nat → Prop} (hcl : Closed ops L) : ∀ (r pre : List Oper) (ms : List Nat), ops = pre ++ r → ms.length = pre.length →
    (∀ i j, (ms.getD i 0).testBit j = true → ReadyAt ops L i → L j) → ∀ i j, ((masks r ms).getD i 0).testBit j = true → ReadyAt ops L i → L j
  | [], pre, ms, _, _, h => h
  | o :: r, pre, ms, ho, hl, h => by
    refine masks_dep hcl r (pre ++ [o]) (ms ++ [maskStep ms o]) (by simp [ho]) (by simp [hl]) ?_
    intro i j hij hr
    by_cases hi : i < ms.length
    · refine h i j ?_ hr
      simpa [List.getD, List.getElem?_append_left hi] using hij
    · by_cases e : i = ms.length
      · subst e
        have hoi : ops[ms.length]? = some o := by rw [ho, hl]; simp
        have hb : (maskStep ms o).testBit j = true := by simpa [List.getD] using hij
        obtain ⟨e, he, hbe, h1⟩ := maskStep_bit hb
        have hLe := hr o hoi e he hbe
        rcases h1 with rfl | h1
        · exact hLe
        · exact h e.on j h1 fun o' ho' => hcl e.on o' ho' hLe
      · have : (ms ++ [maskStep ms o])[i]? = none := List.getElem?_eq_none (by simp; omega)
        simp [List.getD, this] at hij

theorem dep_listed {ops : List Oper} {L : Nat → Prop} (hcl : Closed ops L) {i j : Nat} (h : dep ops i j = true) (hr : ReadyAt ops L i) : L j :=
  masks_dep hcl ops [] [] rfl rfl (fun i j h => by simp [List.getD] at h) i j h hr

def isAl (P : Program) (N : Nat) (o : Oper) : Bool :=
  match o.op, o.guard, o.dst with
  | .alloc t, none, some d => (zeroL P t).isSome && decide (d < N)
  | _, _, _ => false
def isLd : Op → Bool
  | .load .. => true
  | _ => false
def isAlAt (P : Program) (N : Nat) (ops : List Oper) (j : Nat) : Bool := match ops[j]? with | some o => isAl P N o | none => false
def isRd (σ : Env P) : Op → Bool
  | .load .. => true
  | .call c => match c.callee with
    | .value (.func f) => match findCon σ.cons f with
      | some con => con.rd
      | none => false
    | _ => false
  | _ => false
def isFr (σ : Env P) : Op → Bool
  | .call c => match c.callee with
    | .value (.func f) => match findCon σ.cons f with
      | some con => con.fr
      | none => false
    | _ => false
  | _ => false
theorem isRd_of_ld {σ : Env P} {op : Op} (h : isLd op = true) : isRd σ op = true := by cases op <;> first | rfl | simp [isLd] at h
def isLdAt (σ : Env P) (ops : List Oper) (j : Nat) : Bool := match ops[j]? with | some o => isRd σ o.op | none => false
def isLit (N : Nat) (o : Oper) : Bool :=
  match o.op, o.guard, o.dst with
  | .buildSlice _ l _, none, some d => l != 0 && decide (d < N)
  | _, _, _ => false
def isLitAt (N : Nat) (ops : List Oper) (j : Nat) : Bool := match ops[j]? with | some o => isLit N o | none => false
def mkAt (P : Program) (N : Nat) (ops : List Oper) (E r : List (Nat × Bool)) (j : Nat) : Bool := isAlAt P N ops j || (isLitAt N ops j && (E.contains (j, true) && !r.contains (j, true)))
def chks : List (Nat × Bool) → List Nat
  | (i, true) :: r => i :: chks r
  | _ => []

def esOk (P : Program) (σ : Env P) (N : Nat) (ops : List Oper) (E : List (Nat × Bool)) : List (Nat × Bool) → Bool
  | [] => true
  | (i, true) :: r => (match ops[i]? with
      | some o => if isLit N o then (List.range ops.length).all fun j => !dep ops i j || !r.contains (j, false)
        else (isLd o.op && (seesSlots ops o).all fun s => (List.range ops.length).all fun j => match ops[j]? with
        | some o' => o'.dst != some s || (j != i && dep ops i j)
        | none => true) && !r.contains (i, false)
      | none => false) && esOk P σ N ops E r
  | (i, false) :: r => (match ops[i]? with
      | none => false
      | some o => !r.contains (i, false) && ((List.range ops.length).all fun j => !dep ops i j || (j != i && !r.contains (j, false))) &&
        (opDraws P σ o.op ||
          (r.all (fun x => x.2 || dep ops x.1 i || ((mkAt P N ops E r i || isFr σ o.op) && mkAt P N ops E r x.1)) &&
           (mkAt P N ops E r i || (List.range ops.length).all fun j => r.contains (j, false) || j == i || !isLdAt σ ops j || dep ops i j || (chks r).contains j)))) && esOk P σ N ops E r

def pairOk' (ops : List Oper) (o : Oper) (i : Nat) (o' : Oper) (j : Nat) : Bool :=
  match o'.dst with
  | some d => i == j || (o.dst != some d && (!(seesSlots ops o).contains d || dep ops i j || dep ops j i))
  | none => true

def notSel : Op → Bool
  | .select .. => false
  | _ => true
def drawOk' (P : Program) (σ : Env P) (N : Nat) (ops : List Oper) (es : List (Nat × Bool)) : Bool :=
  (ops.zipIdx.all fun (o, i) => notSel o.op && es.contains (i, false) && o.after.all (fun e => !Region.binds .any e || e.on < i) && ops.zipIdx.all fun (o', j) => pairOk' ops o i o' j) && esOk P σ N ops es es

theorem drawOk'_at {ops : List Oper} {es : List (Nat × Bool)} (h : drawOk' P σ N ops es = true) {i : Nat} {o : Oper} (hi : ops[i]? = some o) :
    (i, false) ∈ es ∧ (∀ e ∈ o.after, Region.binds .any e = true → e.on < i) ∧ (∀ (j : Nat) o', ops[j]? = some o' → pairOk' ops o i o' j = true) ∧ ∀ cs b, o.op ≠ .select cs b := by
  have hz : ∀ {j : Nat} {o' : Oper}, ops[j]? = some o' → (o', j) ∈ ops.zipIdx := by
    intro j o' hj
    rw [List.mem_zipIdx_iff_getElem?]; exact hj
  have h1 := (Bool.and_eq_true _ _ ▸ h : _ ∧ _).1
  have := List.all_eq_true.1 h1 (o, i) (hz hi)
  simp only [Bool.and_eq_true] at this
  obtain ⟨⟨⟨h0, h1⟩, h2⟩, h3⟩ := this
  refine ⟨by simpa using h1, fun e he hb => ?_, fun j o' hj => ?_, fun cs b e => ?_⟩
  · have := Array.all_eq_true_iff_forall_mem.1 h2 e he
    simpa [hb] using this
  · exact List.all_eq_true.1 h3 (o', j) (hz hj)
  · rw [e] at h0; simp [notSel] at h0

theorem uniqDst' {ops : List Oper} {es : List (Nat × Bool)} (hok : drawOk' P σ N ops es = true) {i j : Nat} {o o' : Oper} {d : Nat} (hi : ops[i]? = some o) (hj : ops[j]? = some o') (hd : o.dst = some d) (hd' : o'.dst = some d) : i = j := by
  have hp := (drawOk'_at hok hi).2.2.1 j o' hj
  unfold pairOk' at hp
  rw [hd'] at hp
  simp only [Bool.or_eq_true, beq_iff_eq, Bool.and_eq_true, bne_iff_ne, ne_eq] at hp
  rcases hp with h | ⟨h, _⟩
  · exact h
  · exact (h hd).elim

def RunAll (P : Program) (ρ : Operand → Value) (o : Oper) (c : C) : Prop :=
  ∀ w, ((execOp ρ o).run P w = .ok (.value (den c)) w) ∨
    (∃ f args w1, (execOp ρ o).run P w = .ok (.enter f args) w1 ∧ Calls P f args w1 (fun e w' => e = .returned (den c) ∧ RowKit.Below w.heap.size w w'))
def RunLd (P : Program) (cx : Cx) (mem : List Blk) (ρ : Operand → Value) (o : Oper) (c : C) : Prop :=
  ∀ w, MemRel cx mem w → ((execOp ρ o).run P w = .ok (.value (den c)) w) ∨
    (∃ f args w1, (execOp ρ o).run P w = .ok (.enter f args) w1 ∧ Calls P f args w1 (fun e w' => e = .returned (den c) ∧ RowKit.Below w.heap.size w w'))

def Settled (P : Program) (σ : Env P) (cx : Cx) (mem : List Blk) (all : List Oper) (o : Oper) (c : C) (a : Act) : Prop :=
  if Region.wanted o (yielded all.toArray a.tmps) = true then RunAll P a.eval o c ∨ (isRd σ o.op = true ∧ RunLd P cx mem a.eval o c) else den c = undef

def LitOk (P : Program) (ρ : Operand → Value) (o : Oper) (z : List Value) (t : TypeId) (l : Nat) : Prop :=
  ∀ w, (execOp ρ o).run P w = .ok (.value (.slice (some ⟨w.heap.size, 0, none⟩) l l)) (w.alloc (.cells z.toArray t (0, 0)))
structure Owes (P : Program) (σ : Env P) (N : Nat) (ops : List Oper) (V : List (Nat × Bool) → Cx → Tm → List Blk → Prop) (E : Cx → Tm → List Blk → Prop) : Prop where
  fin : ∀ cx tm mem, V [] cx tm mem → E cx tm mem
  chk : ∀ i es cx tm mem a, V ((i, true) :: es) cx tm mem → TmRel N tm a → ∃ o, ops[i]? = some o ∧ V es cx tm mem ∧
    ((isLit N o = true ∧ ∃ z t l, LitOk P a.eval o z t l) ∨ (isLit N o = false ∧ Region.wanted o (yielded ops.toArray a.tmps) = true ∧ ∃ c, RunLd P cx mem a.eval o c ∧ (∀ d, o.dst = some d → a.tmps.getD d undef = den c)))
  lit : ∀ i es cx tm mem o a z t l b ex w, V ((i, false) :: es) cx tm mem → ops[i]? = some o → TmRel N tm a → isLit N o = true → LitOk P a.eval o z t l → MemRel cx (mem ++ (ex ++ [⟨b, z.map .v, t⟩])) w → cx.w0.heap.size ≤ b →
    ∃ cx' tm', MemRel cx' (mem ++ ex) w ∧ cx'.w0 = cx.w0 ∧ (∀ w', MemRel cx' mem w' → MemRel cx mem w') ∧ TmRel N tm' (a.put o.dst (.slice (some ⟨b, 0, none⟩) l l)) ∧ V es cx' tm' mem
  dst : ∀ i es cx tm mem o, V ((i, false) :: es) cx tm mem → ops[i]? = some o → ∀ a, TmRel N tm a → (Region.wanted o (yielded ops.toArray a.tmps) = true ∨ Region.wanted o (yielded ops.toArray a.tmps) = false) → dstOk N o.dst
  skip : ∀ i es cx tm mem o a, V ((i, false) :: es) cx tm mem → ops[i]? = some o → TmRel N tm a → Region.wanted o (yielded ops.toArray a.tmps) = false →
    ∃ tm', TmRel N tm' (a.put o.dst undef) ∧ V es cx tm' mem
  pure : ∀ i es cx tm mem o a, V ((i, false) :: es) cx tm mem → ops[i]? = some o → TmRel N tm a → Region.wanted o (yielded ops.toArray a.tmps) = true → opDraws P σ o.op = true →
    ∃ c tm', (RunAll P a.eval o c ∨ (isRd σ o.op = true ∧ RunLd P cx mem a.eval o c)) ∧ TmRel N tm' (a.put o.dst (den c)) ∧ V es cx tm' mem
  alloc : ∀ i es cx tm mem o a t z, V ((i, false) :: es) cx tm mem → ops[i]? = some o → TmRel N tm a → Region.wanted o (yielded ops.toArray a.tmps) = true → o.op = .alloc t → zeroL P t = some z →
    ∀ b, ∃ tm', TmRel N tm' (a.put o.dst (.pointer (some ⟨b, 0, none⟩))) ∧ V es cx tm' (mem ++ [⟨b, z.map .v, t⟩])
  eff : ∀ i es cx tm mem o a, V ((i, false) :: es) cx tm mem → ops[i]? = some o → TmRel N tm a → Region.wanted o (yielded ops.toArray a.tmps) = true → ∀ w, MemRel cx mem w →
    o.wp P a w (fun a' w' => ∃ cx' tm' mem', V es cx' tm' mem' ∧ TmRel N tm' a' ∧ MemRel cx' mem' w') (fun _ _ _ => False)
  effF : ∀ i es cx tm mem o a, V ((i, false) :: es) cx tm mem → ops[i]? = some o → TmRel N tm a → Region.wanted o (yielded ops.toArray a.tmps) = true → isFr σ o.op = true → ∀ ex w, MemRel cx (mem ++ ex) w →
    o.wp P a w (fun a' w' => ∃ cx' tm' mem2, V es cx' tm' mem2 ∧ TmRel N tm' a' ∧ MemRel cx' (mem2 ++ ex) w' ∧ cx'.w0 = cx.w0) (fun _ _ _ => False)

def Sees (ops : List Oper) (a0 aV : Act) (i : Nat) (o : Oper) (aI : Act) : Prop :=
  ∀ s ∈ seesSlots ops o, (∀ (j : Nat) o', ops[j]? = some o' → o'.dst = some s → j ≠ i → dep ops i j = true → aI.tmps.getD s undef = aV.tmps.getD s undef) ∧
    ((∀ (j : Nat) o', ops[j]? = some o' → o'.dst = some s → ¬ (j ≠ i ∧ dep ops i j = true)) → aI.tmps.getD s undef = a0.tmps.getD s undef)

def Pend (P : Program) (σ : Env P) (ops : List Oper) (a0 : Act) (es : List (Nat × Bool)) (cx : Cx) (mem : List Blk) (aV : Act) (i : Nat) (o : Oper) : Prop :=
  ∃ c aI, (∀ d, o.dst = some d → aV.tmps.getD d undef = den c) ∧ Sees ops a0 aV i o aI ∧
    (Settled P σ cx mem ops o c aI ∨ (i ∈ chks es ∧ isRd σ o.op = true))

def FreshB (cx : Cx) (b : Nat) : Prop := (b ∈ cx.gs ∨ cx.w1.heap.size ≤ b) ∧ (b < cx.w0.heap.size → b ∈ cx.g0)
def MkK (P : Program) (N : Nat) (cx : Cx) (aV : Act) (o : Oper) (b : Nat) (z : List Value) (t : TypeId) (val : Value) : Prop :=
  (o.op = .alloc t ∧ zeroL P t = some z ∧ val = .pointer (some ⟨b, 0, none⟩)) ∨ (isLit N o = true ∧ cx.w0.heap.size ≤ b ∧ ∃ l, LitOk P aV.eval o z t l ∧ val = .slice (some ⟨b, 0, none⟩) l l)
def blkOf : Value → Option Nat
  | .pointer (some a) => some a.block
  | .slice (some a) _ _ => some a.block
  | _ => none
theorem MkK.blk {P : Program} {N : Nat} {cx : Cx} {aV : Act} {o : Oper} {b : Nat} {z : List Value} {t : TypeId} {val : Value} (h : MkK P N cx aV o b z t val) : blkOf val = some b := by
  rcases h with ⟨_, _, rfl⟩ | ⟨_, _, l, _, rfl⟩ <;> rfl
def Post (P : Program) (N : Nat) (cx : Cx) (mem : List Blk) (aV a : Act) (w : World) (o : Oper) : Prop :=
  ∃ t b z d val, MkK P N cx aV o b z t val ∧ o.guard = none ∧ o.dst = some d ∧ a.tmps.getD d undef = val ∧
    w.heap[b]? = some (.cells z.toArray t (0, 0)) ∧ FreshB cx b ∧ ∀ bl ∈ mem, bl.id ≠ b
def LitIn (P : Program) (ops : List Oper) (es : List (Nat × Bool)) (aV : Act) (i : Nat) (o : Oper) : Prop :=
  (∀ k, k < ops.length → dep ops i k = true → (k, false) ∉ es) ∧ ∃ z t l, LitOk P aV.eval o z t l

structure St (P : Program) (σ : Env P) (N : Nat) (ops : List Oper) (V : List (Nat × Bool) → Cx → Tm → List Blk → Prop) (E : List (Nat × Bool)) (a0 : Act) (L : Nat → Prop) (a : Act) (w : World)
    (es : List (Nat × Bool)) (cx : Cx) (tm : Tm) (mem : List Blk) (aV : Act) : Prop where
  v : V es cx tm mem
  t : TmRel N tm aV
  m : MemRel cx mem w
  size : a.tmps.size = N
  defers : a.defers = []
  ok : esOk P σ N ops E es = true
  agree : ∀ (i : Nat) o d, ops[i]? = some o → o.dst = some d → (i, false) ∉ es → L i → a.tmps.getD d undef = aV.tmps.getD d undef
  oldA : ∀ s, (∀ (i : Nat) o, ops[i]? = some o → o.dst = some s → ¬ L i) → a.tmps.getD s undef = a0.tmps.getD s undef
  oldV : ∀ s, (∀ (i : Nat) o, ops[i]? = some o → o.dst = some s → (i, false) ∈ es) → aV.tmps.getD s undef = a0.tmps.getD s undef
  qcl : ∀ (i j : Nat), i < ops.length → (i, false) ∉ es → dep ops i j = true → (j, false) ∉ es
  pend : ∀ (i : Nat) o, ops[i]? = some o → (i, false) ∉ es → ¬ L i → Pend P σ ops a0 es cx mem aV i o
  post : ∀ (i : Nat) o, ops[i]? = some o → L i → (i, false) ∈ es → Post P N cx mem aV a w o
  lit : ∀ (i : Nat) o, ops[i]? = some o → isLit N o = true → (i, true) ∈ E → (i, true) ∉ es → (i, false) ∈ es → LitIn P ops es aV i o
  litL : ∀ (i : Nat) o, ops[i]? = some o → isLit N o = true → L i → (i, false) ∈ es → (i, true) ∈ E ∧ (i, true) ∉ es
  apart : ∀ (i j : Nat) o o' d d' p, ops[i]? = some o → ops[j]? = some o' → L i → L j → (i, false) ∈ es → (j, false) ∈ es → o.dst = some d → o'.dst = some d' →
    blkOf (a.tmps.getD d undef) = some p → blkOf (a.tmps.getD d' undef) = some p → i = j

section
variable {ops : List Oper} {V : List (Nat × Bool) → Cx → Tm → List Blk → Prop} {E : Cx → Tm → List Blk → Prop} {a0 : Act} {L : Nat → Prop} {a : Act} {w : World} {es : List (Nat × Bool)}
  {cx : Cx} {tm : Tm} {mem : List Blk} {aV : Act} {es0 : List (Nat × Bool)}

theorem put_off {a : Act} {dst : Option Nat} {v : Value} {s : Nat} (h : ∀ d, dst = some d → s ≠ d) : (a.put dst v).tmps.getD s undef = a.tmps.getD s undef := by
  cases dst with
  | none => rfl
  | some d => exact getD_put_other (h d rfl)

theorem esOk_head {i : Nat} {r : List (Nat × Bool)} (h : esOk P σ N ops es0 ((i, false) :: r) = true) : ∃ o, ops[i]? = some o ∧ (i, false) ∉ r ∧
    (∀ j, j < ops.length → dep ops i j = true → j ≠ i ∧ (j, false) ∉ r) ∧
    (opDraws P σ o.op = true ∨ ((∀ j, (j, false) ∈ r → dep ops j i = true ∨ ((mkAt P N ops es0 r i = true ∨ isFr σ o.op = true) ∧ mkAt P N ops es0 r j = true)) ∧
      (mkAt P N ops es0 r i = true ∨ ∀ j, j < ops.length → (j, false) ∈ r ∨ j = i ∨ isLdAt σ ops j = false ∨ dep ops i j = true ∨ j ∈ chks r))) ∧ esOk P σ N ops es0 r = true := by
  simp only [esOk, Bool.and_eq_true] at h
  obtain ⟨h1, h2⟩ := h
  split at h1
  · simp at h1
  · rename_i o ho
    simp only [Bool.and_eq_true, Bool.or_eq_true, Bool.not_eq_true', List.all_eq_true, List.mem_range, bne_iff_ne, ne_eq, beq_iff_eq] at h1
    obtain ⟨⟨h3, h4⟩, h5⟩ := h1
    refine ⟨o, ho, by simpa using h3, fun j hj hd => ?_, ?_, h2⟩
    · rcases h4 j hj with h | h
      · rw [h] at hd; simp at hd
      · exact ⟨h.1, by simpa using h.2⟩
    · rcases h5 with h | ⟨h6, h7⟩
      · exact Or.inl h
      · refine Or.inr ⟨fun j hj => ?_, ?_⟩
        · have := h6 (j, false) hj
          simpa using this
        · rcases h7 with h | h
          · exact Or.inl h
          · refine Or.inr fun j hj => ?_
            have := h j hj
            simp only [List.contains_iff_mem] at this
            rcases this with (((h | h) | h) | h) | h
            · exact Or.inl h
            · exact Or.inr (Or.inl h)
            · exact Or.inr (Or.inr (Or.inl h))
            · exact Or.inr (Or.inr (Or.inr (Or.inl h)))
            · exact Or.inr (Or.inr (Or.inr (Or.inr h)))

theorem St.sees {i : Nat} {r : List (Nat × Bool)} {o : Oper} (hok : drawOk' P σ N ops es0 = true) (S : St P σ N ops V es0 a0 L a w ((i, false) :: r) cx tm mem aV) (hi : ops[i]? = some o) :
    Sees ops a0 aV i o aV := by
  intro s hs
  refine ⟨fun _ _ _ _ _ _ => rfl, fun h => S.oldV s fun j o' hj hd => ?_⟩
  have hp := (drawOk'_at hok hi).2.2.1 j o' hj
  unfold pairOk' at hp
  rw [hd] at hp
  simp only [Bool.or_eq_true, beq_iff_eq, Bool.and_eq_true, bne_iff_ne, ne_eq, Bool.not_eq_true', List.contains_eq_mem, decide_eq_false_iff_not] at hp
  have hjl : j < ops.length := (List.getElem?_eq_some_iff.1 hj).1
  rcases hp with rfl | ⟨_, (hp | hp) | hp⟩
  · simp
  · exact (hp hs).elim
  · by_cases e : j = i
    · subst e; simp
    · exact (h j o' hj hd ⟨e, hp⟩).elim
  · by_cases hq : (j, false) ∈ (i, false) :: r
    · exact hq
    · exact (S.qcl j i hjl hq hp (by simp)).elim

theorem Sees.put {i j : Nat} {o oj : Oper} {aI : Act} {v : Value} (h : Sees ops a0 aV j oj aI) (hok : drawOk' P σ N ops es0 = true) (hi : ops[i]? = some o) (hd : dep ops j i = false ∨ i = j) :
    Sees ops a0 (aV.put o.dst v) j oj aI := by
  intro s hs
  refine ⟨fun k o' hk hdst hne hdep => ?_, (h s hs).2⟩
  rw [(h s hs).1 k o' hk hdst hne hdep]
  refine (put_off fun d hdd e => ?_).symm
  subst e
  have := uniqDst' hok hk hi hdst hdd
  subst this
  rcases hd with hd | hd
  · rw [hd] at hdep; simp at hdep
  · exact hne hd

theorem memRel_drop (cx : Cx) (mem : List Blk) (b : Blk) (w : World) (h : MemRel cx (mem ++ [b]) w) : MemRel cx mem w :=
  { os := h.os, tape := h.tape, output := h.output, frame := h.frame, facts := h.facts, le01 := h.le01, le1 := h.le1,
    blk := fun k c hk => h.blk k c (by rw [List.getElem?_append_left (List.getElem?_eq_some_iff.1 hk).1]; exact hk)
    fresh := fun c hc => h.fresh c (by simp [hc])
    low := fun c hc => h.low c (by simp [hc])
    inj := fun i j c d hi hj => h.inj i j c d (by rw [List.getElem?_append_left (List.getElem?_eq_some_iff.1 hi).1]; exact hi) (by rw [List.getElem?_append_left (List.getElem?_eq_some_iff.1 hj).1]; exact hj) }

theorem memRel_add (cx : Cx) (mem : List Blk) (w : World) (b : Nat) (z : List Value) (t : TypeId) (h : MemRel cx mem w) (hb : w.heap[b]? = some (.cells z.toArray t (0, 0))) (h1 : FreshB cx b)
    (h2 : ∀ bl ∈ mem, bl.id ≠ b) : MemRel cx (mem ++ [⟨b, z.map .v, t⟩]) w := by
  have key : ∀ (i : Nat) (c : Blk), (mem ++ [⟨b, z.map .v, t⟩])[i]? = some c → mem[i]? = some c ∨ (i = mem.length ∧ c = ⟨b, z.map .v, t⟩) := by
    intro i c hc
    rw [List.getElem?_append] at hc
    split at hc
    · exact Or.inl hc
    · have : i - mem.length = 0 := by
        rcases Nat.eq_zero_or_pos (i - mem.length) with h | h
        · exact h
        · rw [List.getElem?_eq_none (by simp; omega)] at hc; simp at hc
      rw [this] at hc
      simp at hc
      exact Or.inr ⟨by omega, hc.symm⟩
  refine { os := h.os, tape := h.tape, output := h.output, frame := h.frame, facts := h.facts, le01 := h.le01, le1 := h.le1, blk := fun k c hk => ?_, fresh := fun c hc => ?_, low := fun c hc hl => ?_, inj := fun i j c d hi hj he => ?_ }
  · rcases key k c hk with hk | ⟨_, rfl⟩
    · exact h.blk k c hk
    · simp only [map_den_v]; exact hb
  · simp only [List.mem_append, List.mem_singleton] at hc
    rcases hc with hc | rfl
    · exact h.fresh c hc
    · exact h1.1
  · simp only [List.mem_append, List.mem_singleton] at hc
    rcases hc with hc | rfl
    · exact h.low c hc hl
    · exact h1.2 hl
  · rcases key i c hi with a1 | ⟨a1, rfl⟩ <;> rcases key j d hj with b1 | ⟨b1, rfl⟩
    · exact h.inj i j c d a1 b1 he
    · exact absurd he (h2 c (List.mem_of_getElem? a1))
    · exact absurd he.symm (h2 d (List.mem_of_getElem? b1))
    · omega

theorem St.extras (S : St P σ N ops V es0 a0 L a w es cx tm mem aV) : ∀ (l : List Nat), l.Nodup → ∃ ex : List Blk, MemRel cx (mem ++ ex) w ∧
    (∀ bl ∈ ex, ∃ k ∈ l, ∃ ok d, ops[k]? = some ok ∧ L k ∧ (k, false) ∈ es ∧ ok.dst = some d ∧ blkOf (a.tmps.getD d undef) = some bl.id) ∧
    (∀ j ∈ l, ∀ oj, ops[j]? = some oj → L j → (j, false) ∈ es → ∃ t b z d val, MkK P N cx aV oj b z t val ∧ oj.guard = none ∧ oj.dst = some d ∧ a.tmps.getD d undef = val ∧ (⟨b, z.map .v, t⟩ : Blk) ∈ ex)
  | [], _ => ⟨[], by simpa using S.m, by simp, by simp⟩
  | j :: l, hn => by
    obtain ⟨hj, hn'⟩ := List.nodup_cons.1 hn
    obtain ⟨ex, h1, h2, h3⟩ := S.extras l hn'
    by_cases hc : ∃ oj, ops[j]? = some oj ∧ L j ∧ (j, false) ∈ es
    · obtain ⟨oj, ho, hl, he⟩ := hc
      obtain ⟨t, b, z, d, val, hmk, hg, hd, had, hhp, hbs, hbm⟩ := S.post j oj ho hl he
      have hbl : blkOf (a.tmps.getD d undef) = some b := by rw [had]; exact hmk.blk
      have hm' := memRel_add cx (mem ++ ex) w b z t h1 hhp hbs (fun bl hbl' => by
        rcases List.mem_append.1 hbl' with hbl' | hbl'
        · exact hbm bl hbl'
        · obtain ⟨k, hk, ok, dk, hok, hlk, hek, hdk, hak⟩ := h2 bl hbl'
          intro e
          rw [e] at hak
          have := S.apart j k oj ok d dk _ ho hok hl hlk he hek hd hdk hbl hak
          exact hj (this ▸ hk))
      refine ⟨ex ++ [⟨b, z.map .v, t⟩], by rw [← List.append_assoc]; exact hm', fun bl hbl' => ?_, fun k hk ok hok hlk hek => ?_⟩
      · rcases List.mem_append.1 hbl' with hbl' | hbl'
        · obtain ⟨k, hk, rest⟩ := h2 bl hbl'
          exact ⟨k, by simp [hk], rest⟩
        · simp only [List.mem_singleton] at hbl'
          subst hbl'
          exact ⟨j, by simp, oj, d, ho, hl, he, hd, hbl⟩
      · simp only [List.mem_cons] at hk
        rcases hk with rfl | hk
        · rw [ho] at hok; simp at hok; subst hok
          exact ⟨t, b, z, d, val, hmk, hg, hd, had, by simp⟩
        · obtain ⟨t', b', z', d', val', g1, g2, g3, g4, g5⟩ := h3 k hk ok hok hlk hek
          exact ⟨t', b', z', d', val', g1, g2, g3, g4, by simp [g5]⟩
    · refine ⟨ex, h1, fun bl hbl => ?_, fun k hk ok hok hlk hek => ?_⟩
      · obtain ⟨k, hk, rest⟩ := h2 bl hbl
        exact ⟨k, by simp [hk], rest⟩
      · simp only [List.mem_cons] at hk
        rcases hk with rfl | hk
        · exact absurd ⟨ok, hok, hlk, hek⟩ hc
        · exact h3 k hk ok hok hlk hek
theorem LitOk.to {ρ ρ' : Operand → Value} {o : Oper} {z : List Value} {t : TypeId} {l : Nat} (h : LitOk P ρ o z t l) (he : execOp ρ' o = execOp ρ o) : LitOk P ρ' o z t l := fun w => by rw [he]; exact h w
theorem MkK.to {cx' : Cx} {aV' : Act} {oj : Oper} {b : Nat} {z : List Value} {t : TypeId} {val : Value} (h : MkK P N cx aV oj b z t val) (hw : cx'.w0 = cx.w0) (he : isLit N oj = true → execOp aV'.eval oj = execOp aV.eval oj) :
    MkK P N cx' aV' oj b z t val := by
  rcases h with h | ⟨h1, h2, l, h3, h4⟩
  · exact Or.inl h
  · exact Or.inr ⟨h1, by rw [hw]; exact h2, l, h3.to (he h1), h4⟩
theorem extras_post {cx' : Cx} {w' : World} {mem' ex : List Blk} {aV' : Act} (hm : MemRel cx' (mem' ++ ex) w') {oj : Oper} {t b z d val} (h1 : MkK P N cx' aV' oj b z t val) (h2 : oj.guard = none) (h3 : oj.dst = some d)
    (h5 : a.tmps.getD d undef = val) (h6 : (⟨b, z.map .v, t⟩ : Blk) ∈ ex) : Post P N cx' mem' aV' a w' oj := by
  obtain ⟨k, hk⟩ := List.getElem?_of_mem h6
  have hk' : (mem' ++ ex)[mem'.length + k]? = some ⟨b, z.map .v, t⟩ := by
    rw [List.getElem?_append_right (by omega)]; simpa using hk
  have hin : (⟨b, z.map .v, t⟩ : Blk) ∈ mem' ++ ex := by simp [h6]
  refine ⟨t, b, z, d, val, h1, h2, h3, h5, ?_, ⟨hm.fresh _ hin, hm.low _ hin⟩, fun bl hbl e => ?_⟩
  · have := hm.blk _ _ hk'
    simp only [map_den_v] at this
    exact this
  · obtain ⟨q, hq⟩ := List.getElem?_of_mem hbl
    have hql := (List.getElem?_eq_some_iff.1 hq).1
    have hq' : (mem' ++ ex)[q]? = some bl := by rw [List.getElem?_append_left hql]; exact hq
    have := hm.inj q (mem'.length + k) bl _ hq' hk' e
    omega
theorem lit_eval {i j : Nat} {r : List (Nat × Bool)} {o oj : Oper} (hok : drawOk' P σ N ops es0 = true) (hi : ops[i]? = some o) (hj : ops[j]? = some oj) (hir : (i, false) ∉ r)
    (hlin : ∀ k, k < ops.length → dep ops i k = true → k ≠ i ∧ (k, false) ∉ r) (hjr : (j, false) ∈ r) (hdep : ∀ k, k < ops.length → dep ops j k = true → (k, false) ∉ (i, false) :: r) (aV : Act) (v : Value) :
    execOp (aV.put o.dst v).eval oj = execOp aV.eval oj := by
  have hil := (List.getElem?_eq_some_iff.1 hi).1
  have hjl := (List.getElem?_eq_some_iff.1 hj).1
  refine execOp_congr oj (drawOk'_at hok hj).2.2.2 fun x hx => ?_
  cases x with
  | tmp s =>
    refine put_off fun d hd e => ?_
    subst e
    have hss : s ∈ seesSlots ops oj := by
      unfold seesSlots
      simp only [List.mem_append, List.mem_filterMap]
      exact Or.inl ⟨.tmp s, by simpa using hx, rfl⟩
    have hp := (drawOk'_at hok hj).2.2.1 i o hi
    unfold pairOk' at hp
    rw [hd] at hp
    simp only [Bool.or_eq_true, beq_iff_eq, Bool.and_eq_true, bne_iff_ne, ne_eq, Bool.not_eq_true', List.contains_eq_mem, decide_eq_false_iff_not] at hp
    rcases hp with rfl | ⟨_, (hp | hp) | hp⟩
    · exact hir hjr
    · exact hp hss
    · exact hdep i hil hp (by simp)
    · exact (hlin j hjl hp).2 hjr
  | const v => rfl
  | global g => rfl
  | func f => rfl

theorem advance (hok : drawOk' P σ N ops es0 = true) (hO : Owes P σ N ops V E) (hmono : ∀ (cx : Cx) (mem : List Blk) (b : Blk) (w : World), MemRel cx (mem ++ [b]) w → MemRel cx mem w)
    (hadd : ∀ (cx : Cx) (mem : List Blk) (w : World) (b : Nat) (z : List Value) (t : TypeId), MemRel cx mem w → w.heap[b]? = some (.cells z.toArray t (0, 0)) → FreshB cx b → (∀ bl ∈ mem, bl.id ≠ b) → MemRel cx (mem ++ [⟨b, z.map .v, t⟩]) w) :
    ∀ (es : List (Nat × Bool)) (cx : Cx) (tm : Tm) (mem : List Blk) (aV : Act), St P σ N ops V es0 a0 L a w es cx tm mem aV →
    ∃ es' cx' tm' mem' aV', St P σ N ops V es0 a0 L a w es' cx' tm' mem' aV' ∧ (es' = [] ∨ ∃ h r o, es' = (h, false) :: r ∧ ops[h]? = some o ∧ opDraws P σ o.op = false ∧ ¬ L h)
  | [], cx, tm, mem, aV, S => ⟨[], cx, tm, mem, aV, S, Or.inl rfl⟩
  | (i, true) :: r, cx, tm, mem, aV, S => by
    obtain ⟨o, hi, hv, hcase⟩ := hO.chk i r _ _ _ aV S.v S.t
    have hes := S.ok
    simp only [esOk, hi, Bool.and_eq_true] at hes
    obtain ⟨hes0, hes'⟩ := hes
    have hsub : ∀ {j : Nat}, (j, false) ∈ r → (j, false) ∈ (i, true) :: r := fun h => by simp [h]
    have hsub' : ∀ {j : Nat}, (j, false) ∉ r → (j, false) ∉ (i, true) :: r := fun h => by simpa using h
    refine advance hok hO hmono hadd r cx tm mem aV {
      v := hv, t := S.t, m := S.m, size := S.size, defers := S.defers, ok := hes', agree := fun j oj d h1 h2 h3 => S.agree j oj d h1 h2 (hsub' h3),
      oldA := S.oldA, oldV := fun s h => S.oldV s fun j oj h1 h2 => by simpa using h j oj h1 h2, qcl := fun j k h1 h2 h3 => by simpa using S.qcl j k h1 (hsub' h2) h3,
      pend := fun j oj hj h1 h2 => ?_, post := fun j oj h1 h2 h3 => S.post j oj h1 h2 (hsub h3), lit := fun j oj h1 h2 h3 h4 h5 => ?_,
      litL := fun j oj h1 h2 h3 h4 => by
        have := S.litL j oj h1 h2 h3 (hsub h4)
        exact ⟨this.1, fun h => this.2 (by simp [h])⟩
      apart := fun j k oj ok d d' p h1 h2 h3 h4 h5 h6 => S.apart j k oj ok d d' p h1 h2 h3 h4 (hsub h5) (hsub h6) }
    · obtain ⟨c', aI, p1, p2, p3⟩ := S.pend j oj hj (hsub' h1) h2
      rcases hcase with ⟨hlit, _⟩ | ⟨hlit, hwt, c, hrun, hdst⟩
      · refine ⟨c', aI, p1, p2, p3.imp id fun h => ⟨?_, h.2⟩⟩
        have hc := h.1
        simp only [chks, List.mem_cons] at hc
        refine hc.resolve_left fun e => ?_
        subst e
        rw [hi] at hj; simp at hj; subst hj
        have := h.2
        unfold isLit at hlit
        split at hlit
        · rename_i q _ _
          rw [q] at this; simp [isRd] at this
        · simp at hlit
      · rw [if_neg (by simp [hlit])] at hes0
        simp only [Bool.and_eq_true, Bool.not_eq_true', List.all_eq_true, List.mem_range] at hes0
        obtain ⟨⟨hl, hse⟩, hir⟩ := hes0
        by_cases e : j = i
        · subst e
          rw [hi] at hj; simp at hj; subst hj
          refine ⟨c, aV, hdst, fun s hs => ⟨fun _ _ _ _ _ _ => rfl, fun h => S.oldV s fun k ok hk hd => ?_⟩, Or.inl ?_⟩
          · have := hse s hs k (List.getElem?_eq_some_iff.1 hk).1
            simp only [hk] at this
            simp only [Bool.or_eq_true, bne_iff_ne, ne_eq, Bool.and_eq_true] at this
            rcases this with h' | h'
            · exact (h' hd).elim
            · exact (h k ok hk hd h').elim
          · unfold Settled
            rw [if_pos hwt]
            exact Or.inr ⟨isRd_of_ld hl, hrun⟩
        · refine ⟨c', aI, p1, p2, p3.imp id fun h => ⟨?_, h.2⟩⟩
          have := h.1
          simp only [chks, List.mem_cons] at this
          exact this.resolve_left e
    · by_cases e : j = i
      · subst e
        rw [hi] at h1; simp at h1; subst h1
        rcases hcase with ⟨_, hz⟩ | ⟨hlit, _⟩
        · rw [if_pos h2] at hes0
          simp only [List.all_eq_true, List.mem_range, Bool.or_eq_true, Bool.not_eq_true'] at hes0
          refine ⟨fun k hk hd => ?_, hz⟩
          rcases hes0 k hk with h | h
          · rw [h] at hd; simp at hd
          · simpa using h
        · rw [hlit] at h2; simp at h2
      · obtain ⟨l1, l2⟩ := S.lit j oj h1 h2 h3 (by simp [h4, e]) (hsub h5)
        exact ⟨fun k hk hd => by simpa using l1 k hk hd, l2⟩
  | (i, false) :: r, cx, tm, mem, aV, S => by
    obtain ⟨o, hi, hir, hlin, hcls, hes'⟩ := esOk_head S.ok
    have hil : i < ops.length := (List.getElem?_eq_some_iff.1 hi).1
    have hsee := S.sees hok hi
    have hput : ∀ (v : Value) (j : Nat) oj d, ops[j]? = some oj → oj.dst = some d → j ≠ i → (aV.put o.dst v).tmps.getD d undef = aV.tmps.getD d undef := fun v j oj d hj hd hne =>
      put_off fun d' hd' e => hne (uniqDst' hok hj hi hd (e ▸ hd'))
    have hq : ∀ j, (j, false) ∉ r → j ≠ i → (j, false) ∉ (i, false) :: r := fun j h1 h2 => by simp [h1, h2]
    have hqcl : ∀ (j k : Nat), j < ops.length → (j, false) ∉ r → dep ops j k = true → (k, false) ∉ r := by
      intro j k hj h1 hd
      by_cases e : j = i
      · subst e
        by_cases hk : k < ops.length
        · exact (hlin k hk hd).2
        · intro hk'
          obtain ⟨ok, hok'⟩ : ∃ ok, ops[k]? = some ok := by
            have : ∀ (l : List (Nat × Bool)), esOk P σ N ops es0 l = true → (k, false) ∈ l → ∃ ok, ops[k]? = some ok := by
              intro l
              induction l with
              | nil => intro _ h; simp at h
              | cons x l ih =>
                intro h1 h2
                obtain ⟨x1, x2⟩ := x
                cases x2 with
                | true =>
                  simp only [esOk, Bool.and_eq_true] at h1
                  exact ih h1.2 (by simpa using h2)
                | false =>
                  obtain ⟨o', ho', _, _, _, h'⟩ := esOk_head h1
                  simp only [List.mem_cons, Prod.mk.injEq, and_true] at h2
                  rcases h2 with rfl | h2
                  · exact ⟨o', ho'⟩
                  · exact ih h' h2
            exact this r hes' hk'
          exact hk (List.getElem?_eq_some_iff.1 hok').1
      · have := S.qcl j k hj (hq j h1 e) hd
        exact fun h => this (by simp [h])
    have holdV : ∀ (v : Value) s, (∀ (j : Nat) oj, ops[j]? = some oj → oj.dst = some s → (j, false) ∈ r) → (aV.put o.dst v).tmps.getD s undef = a0.tmps.getD s undef := by
      intro v s h
      rw [put_off fun d hd e => hir (h i o hi (by rw [hd, e]))]
      exact S.oldV s fun j oj hj hd => by simp [h j oj hj hd]
    -- the conditions of the rest, whatever the value
    have hev : ∀ (v : Value) (j : Nat) oj, ops[j]? = some oj → (j, false) ∈ r → isLit N oj = true → (j, true) ∈ es0 → (j, true) ∉ r → execOp (aV.put o.dst v).eval oj = execOp aV.eval oj := fun v j oj hj hjr hl h1 h2 =>
      lit_eval hok hi hj hir hlin hjr (S.lit j oj hj hl h1 (by simp [h2]) (by simp [hjr])).1 aV v
    have hevL : ∀ (v : Value) (j : Nat) oj, ops[j]? = some oj → L j → (j, false) ∈ r → isLit N oj = true → execOp (aV.put o.dst v).eval oj = execOp aV.eval oj := fun v j oj hj hl hjr hlit => by
      obtain ⟨h1, h2⟩ := S.litL j oj hj hlit hl (by simp [hjr])
      exact hev v j oj hj hjr hlit h1 (by simpa using h2)
    have hpostP : ∀ (v : Value) (j : Nat) oj, ops[j]? = some oj → L j → (j, false) ∈ r → Post P N cx mem (aV.put o.dst v) a w oj := fun v j oj h1 h2 h3 => by
      obtain ⟨t, b, z, d, val, hmk, rest⟩ := S.post j oj h1 h2 (by simp [h3])
      exact ⟨t, b, z, d, val, hmk.to rfl (hevL v j oj h1 h2 h3), rest⟩
    have mk : ∀ (v : Value) (cx' : Cx) (tm' : Tm) (mem' : List Blk), V r cx' tm' mem' → TmRel N tm' (aV.put o.dst v) → MemRel cx' mem' w →
        (∀ d, o.dst = some d → L i → a.tmps.getD d undef = (aV.put o.dst v).tmps.getD d undef) →
        (¬ L i → Pend P σ ops a0 r cx' mem' (aV.put o.dst v) i o) →
        (∀ aI oj c, Settled P σ cx mem ops oj c aI → Settled P σ cx' mem' ops oj c aI) →
        (∀ (j : Nat) oj, ops[j]? = some oj → L j → (j, false) ∈ r → Post P N cx' mem' (aV.put o.dst v) a w oj) →
        St P σ N ops V es0 a0 L a w r cx' tm' mem' (aV.put o.dst v) := by
      intro v cx' tm' mem' hv ht hm hag hpe hset hpost
      refine {
        v := hv, t := ht, m := hm, size := S.size, defers := S.defers, ok := hes', agree := fun j oj d h1 h2 h3 h4 => ?_, oldA := S.oldA, oldV := holdV v, qcl := hqcl, pend := fun j oj hj h1 h2 => ?_,
        post := hpost, litL := fun j oj h1 h2 h3 h4 => by
          have := S.litL j oj h1 h2 h3 (by simp [h4])
          exact ⟨this.1, fun h => this.2 (by simp [h])⟩
        lit := fun j oj h1 h2 h3 h4 h5 => ?_, apart := fun j k oj ok d d' p h1 h2 h3 h4 h5 h6 => S.apart j k oj ok d d' p h1 h2 h3 h4 (by simp [h5]) (by simp [h6]) }
      · by_cases e : j = i
        · subst e; rw [hi] at h1; simp at h1; subst h1; exact hag d h2 h4
        · rw [hput v j oj d h1 h2 e]; exact S.agree j oj d h1 h2 (hq j h3 e) h4
      · by_cases e : j = i
        · subst e; rw [hi] at hj; simp at hj; subst hj; exact hpe h2
        · obtain ⟨c', aI, p1, p2, p3⟩ := S.pend j oj hj (hq j h1 e) h2
          refine ⟨c', aI, fun d hd => ?_, p2.put hok hi ?_, ?_⟩
          · rw [hput v j oj d hj hd e]; exact p1 d hd
          · by_cases hd : dep ops j i = true
            · exact absurd (by simp) (S.qcl j i (List.getElem?_eq_some_iff.1 hj).1 (hq j h1 e) hd)
            · exact Or.inl (by simpa using hd)
          · rcases p3 with p3 | p3
            · exact Or.inl (hset _ _ _ p3)
            · simp [chks] at p3
      · obtain ⟨l1, z, t, l, l2⟩ := S.lit j oj h1 h2 h3 (by simp [h4]) (by simp [h5])
        exact ⟨fun k hk hd hkr => l1 k hk hd (by simp [hkr]), z, t, l, l2.to (hev v j oj h1 h5 h2 h3 h4)⟩
    have hself : ∀ (v : Value), dstOk N o.dst → ∀ d, o.dst = some d → (aV.put o.dst v).tmps.getD d undef = v := fun v hds d hd => by
      rw [hd]; exact getD_put_same (by rw [S.t.size]; exact dst_of hds d hd)
    by_cases hdr : opDraws P σ o.op = true
    · have hnl : ¬ L i := fun hl => by
        obtain ⟨t, b, z, d, val, hmk, _⟩ := S.post i o hi hl (by simp)
        rcases hmk with ⟨h, _⟩ | ⟨h, _⟩
        · rw [h] at hdr; simp [opDraws] at hdr
        · unfold isLit at h
          split at h
          · rename_i q _ _
            rw [q] at hdr; simp [opDraws] at hdr
          · simp at h
      cases hw : Region.wanted o (yielded ops.toArray aV.tmps) with
      | true =>
        have hds := hO.dst _ _ _ _ _ o S.v hi aV S.t (Or.inl hw)
        obtain ⟨c, tm', hrun, ht', hv'⟩ := hO.pure _ _ _ _ _ o aV S.v hi S.t hw hdr
        refine advance hok hO hmono hadd r cx tm' mem _ (mk (den c) cx tm' mem hv' ht' S.m (fun d _ h => absurd h hnl) (fun _ => ⟨c, aV, hself _ hds, hsee.put hok hi (Or.inr rfl), Or.inl ?_⟩) (fun _ _ _ h => h)
          (hpostP _))
        unfold Settled; rw [if_pos hw]; exact hrun
      | false =>
        have hds := hO.dst _ _ _ _ _ o S.v hi aV S.t (Or.inr hw)
        obtain ⟨tm', ht', hv'⟩ := hO.skip _ _ _ _ _ o aV S.v hi S.t hw
        refine advance hok hO hmono hadd r cx tm' mem _ (mk undef cx tm' mem hv' ht' S.m (fun d _ h => absurd h hnl) (fun _ => ⟨.v undef, aV, hself _ hds, hsee.put hok hi (Or.inr rfl), Or.inl ?_⟩) (fun _ _ _ h => h)
          (hpostP _))
        unfold Settled; rw [if_neg (by simp [hw])]; rfl
    · by_cases hl : L i
      · obtain ⟨t, b, z, d, val, hmk, hg, hd, had, hhp, hbs, hbm⟩ := S.post i o hi hl (by simp)
        have hw : Region.wanted o (yielded ops.toArray aV.tmps) = true := by simp [Region.wanted, hg]
        have hds := hO.dst _ _ _ _ _ o S.v hi aV S.t (Or.inl hw)
        have hblk : blkOf (a.tmps.getD d undef) = some b := by rw [had]; exact hmk.blk
        rcases hmk with ⟨hop, hz, rfl⟩ | ⟨hlit, hw0, l, hlo, rfl⟩
        · obtain ⟨tm', ht', hv'⟩ := hO.alloc _ _ _ _ _ o aV t z S.v hi S.t hw hop hz b
          refine advance hok hO hmono hadd r cx tm' _ _ (mk _ cx tm' _ hv' ht' (hadd _ _ _ _ _ _ S.m hhp hbs hbm) (fun d' hd' _ => ?_) (fun h => absurd hl h) (fun aI oj c h => ?_) (fun j oj h1 h2 h3 => ?_))
          · rw [hself _ hds d' hd']
            rw [hd] at hd'; simp at hd'; subst hd'; exact had
          · unfold Settled at h ⊢
            split
            · rename_i hww
              rw [if_pos hww] at h
              exact h.imp id fun h => ⟨h.1, fun w hm => h.2 w (hmono _ _ _ _ hm)⟩
            · rename_i hww
              rw [if_neg hww] at h; exact h
          · obtain ⟨t', b', z', d', val', hmk', hg', hd', had', hhp', hbs', hbm'⟩ := hpostP (.pointer (some ⟨b, 0, none⟩)) j oj h1 h2 h3
            refine ⟨t', b', z', d', val', hmk', hg', hd', had', hhp', hbs', fun bl hbl => ?_⟩
            simp only [List.mem_append, List.mem_singleton] at hbl
            rcases hbl with hbl | rfl
            · exact hbm' bl hbl
            · intro e
              simp only at e
              subst e
              have := S.apart i j o oj d d' _ hi h1 hl h2 (by simp) (by simp [h3]) hd hd' hblk (by rw [had']; exact hmk'.blk)
              subst this
              exact hir h3
        · -- a literal that came early
          obtain ⟨ex, e1, e2, e3⟩ := S.extras ((List.range ops.length).filter (· != i)) (List.nodup_range.filter _)
          have e4 := hadd cx (mem ++ ex) w b z t e1 hhp hbs (fun bl hbl => by
            rcases List.mem_append.1 hbl with hbl | hbl
            · exact hbm bl hbl
            · obtain ⟨k, hk, ok, dk, hok', hlk, hek, hdk, hak⟩ := e2 bl hbl
              intro e
              rw [e] at hak
              have := S.apart i k o ok d dk _ hi hok' hl hlk (by simp) hek hd hdk hblk hak
              subst this
              simp at hk)
          rw [List.append_assoc] at e4
          obtain ⟨cx', tm', g1, g2, g3, g4, g5⟩ := hO.lit _ _ _ _ _ o aV z t l b ex w S.v hi S.t hlit hlo e4 hw0
          have g6 : MemRel cx' mem w := by
            have := memRel_take g1 mem.length
            rwa [List.take_left] at this
          refine advance hok hO hmono hadd r cx' tm' mem _ (mk _ cx' tm' mem g5 g4 g6 (fun d' hd' _ => ?_) (fun h => absurd hl h) (fun aI oj c h => ?_) (fun j oj h1 h2 h3 => ?_))
          · rw [hself _ hds d' hd']
            rw [hd] at hd'; simp at hd'; subst hd'; exact had
          · unfold Settled at h ⊢
            split
            · rename_i hww
              rw [if_pos hww] at h
              exact h.imp id fun h => ⟨h.1, fun w hm => h.2 w (g3 w hm)⟩
            · rename_i hww
              rw [if_neg hww] at h; exact h
          · have hne : j ≠ i := fun e => hir (e ▸ h3)
            have hjl := (List.getElem?_eq_some_iff.1 h1).1
            obtain ⟨t', b', z', d', val', q1, q2, q3, q4, q5⟩ := e3 j (by simp [hjl, hne]) oj h1 h2 (by simp [h3])
            exact extras_post g1 (q1.to g2 (hevL _ j oj h1 h2 h3)) q2 q3 q4 q5
      · exact ⟨_, cx, tm, mem, aV, S, Or.inr ⟨i, r, o, rfl, hi, by simpa using hdr, hl⟩⟩

theorem wp_act {o : Oper} {a a' : Act} {w : World} {K K' : Act → World → Prop} {Q' : Exit → Act → World → Prop} (h : o.wp P a w K (fun _ _ _ => False)) (he : execOp a'.eval o = execOp a.eval o)
    (hdef : ∀ a'' w'', K a'' w'' → a''.defers = []) (hk : ∀ v w', K (a.put o.dst v) w' → K' (a'.put o.dst v) w') : o.wp P a' w K' Q' := by
  unfold Oper.wp at *
  rw [he]
  generalize (execOp a.eval o).run P w = r at *
  cases r with
  | ok n w' =>
    cases n <;> simp only [Oper.upon] at h ⊢
    case value v => exact hk _ _ h
    case skip => exact hk _ _ h
    case defer d =>
      have := hdef _ _ h
      cases hd : o.dst <;> simp [Act.put, hd] at this
    case enter f args =>
      refine h.mono fun e w'' he => ?_
      cases e with
      | returned v => exact hk _ _ he
      | panicked c => exact he.elim
      | outgrown => obtain ⟨_, _, hf⟩ := he; exact hf.elim
    case row r args => exact Rows.mono h (fun _ _ he => hk _ _ he)
    all_goals exact h
  | halt x w' => cases x <;> simp only [Oper.upon] at h ⊢ <;> exact h.elim

theorem alloc_run {o : Oper} {t : TypeId} {z : List Value} (ho : o.op = .alloc t) (hz : zeroL P t = some z) (a : Act) (w : World) :
    (execOp a.eval o).run P w = .ok (.value (.pointer (some ⟨w.heap.size, 0, none⟩))) (w.alloc (.cells z.toArray t (0, 0))) := by
  obtain ⟨zv, hzv, hzr⟩ := zeroL_run hz w
  have e : zv.cells = z.toArray := by rw [← hzv]
  obtain ⟨dst, op, oty, pos, aft, gd⟩ := o
  simp only at ho
  subst ho
  simp [execOp, Instr.alloc, hzr, newVar, newRow, den, e]

theorem below_alloc (w : World) (o : Obj) : RowKit.Below w.heap.size w (w.alloc o) := by
  refine ⟨rfl, rfl, rfl, ?_, fun k hk => ?_⟩
  · show w.heap.size ≤ (w.heap.push o).size; simp
  · show (w.heap.push o)[k]? = _
    rw [Array.getElem?_push, if_neg (by omega)]

def Stable (P : Program) (σ : Env P) (ops : List Oper) (L : Nat → Prop) (es : List (Nat × Bool)) : Prop :=
  es = [] ∨ ∃ h r o, es = (h, false) :: r ∧ ops[h]? = some o ∧ opDraws P σ o.op = false ∧ ¬ L h

theorem Stable.chks {L : Nat → Prop} (h : Stable P σ ops L es) : chks es = [] := by
  rcases h with rfl | ⟨h, r, o, rfl, _⟩ <;> rfl

theorem St.now {i : Nat} {o : Oper} {aI : Act} (hok : drawOk' P σ N ops es0 = true) (S : St P σ N ops V es0 a0 L a w es cx tm mem aV) (hcl : Closed ops L) (hLn : ∀ i, L i → i < ops.length) (hi : ops[i]? = some o) (hr : ReadyAt ops L i)
    (hn : ¬ L i) (hq : ∀ j, j < ops.length → j ≠ i → dep ops i j = true → (j, false) ∉ es) (hs : Sees ops a0 aV i o aI) : ∀ s ∈ seesSlots ops o, a.tmps.getD s undef = aI.tmps.getD s undef := by
  intro s hss
  by_cases hex : ∃ (j : Nat) (o' : Oper), ops[j]? = some o' ∧ o'.dst = some s ∧ j ≠ i ∧ dep ops i j = true
  · obtain ⟨j, o', hj, hd, hne, hdep⟩ := hex
    have hl := dep_listed hcl hdep hr
    rw [(hs s hss).1 j o' hj hd hne hdep]
    exact S.agree j o' s hj hd (hq j (hLn j hl) hne hdep) hl
  · have hno : ∀ (j : Nat) o', ops[j]? = some o' → o'.dst = some s → ¬ (j ≠ i ∧ dep ops i j = true) := fun j o' hj hd h => hex ⟨j, o', hj, hd, h⟩
    rw [(hs s hss).2 hno]
    refine S.oldA s fun j o' hj hd hl => ?_
    have hp := (drawOk'_at hok hi).2.2.1 j o' hj
    unfold pairOk' at hp
    rw [hd] at hp
    simp only [Bool.or_eq_true, beq_iff_eq, Bool.and_eq_true, bne_iff_ne, ne_eq, Bool.not_eq_true', List.contains_eq_mem, decide_eq_false_iff_not] at hp
    rcases hp with rfl | ⟨_, (hp | hp) | hp⟩
    · exact hn hl
    · exact hp hss
    · by_cases e : j = i
      · subst e; exact hn hl
      · exact hno j o' hj hd ⟨e, hp⟩
    · exact hn (dep_listed hcl hp fun o'' ho'' => hcl j o'' ho'' hl)

theorem eval_same {o : Oper} {aI : Act} (hns : ∀ cs b, o.op ≠ .select cs b) (h : ∀ s ∈ seesSlots ops o, a.tmps.getD s undef = aI.tmps.getD s undef) : execOp a.eval o = execOp aI.eval o ∧
    Region.wanted o (yielded ops.toArray a.tmps) = Region.wanted o (yielded ops.toArray aI.tmps) := by
  constructor
  · refine execOp_congr o hns fun x hx => ?_
    cases x with
    | tmp t =>
      refine h t ?_
      unfold seesSlots
      simp only [List.mem_append, List.mem_filterMap]
      exact Or.inl ⟨.tmp t, by simpa using hx, rfl⟩
    | const v => rfl
    | global g => rfl
    | func f => rfl
  · unfold Region.wanted
    cases hg : o.guard with
    | none => rfl
    | some jw =>
      obtain ⟨j, want⟩ := jw
      simp only
      cases hd : (ops[j]?).bind (·.dst) with
      | none => simp [yielded, hd]
      | some d =>
        have := h d (by unfold seesSlots; simp [hg, hd])
        simp only [yielded_getD hd, this]

theorem getD_put (a : Act) (d : Nat) (v : Value) : (a.put (some d) v).tmps.getD d undef = if d < a.tmps.size then v else undef := by
  by_cases h : d < a.tmps.size
  · rw [if_pos h]; exact getD_put_same h
  · rw [if_neg h]
    simp [Act.put, Array.getD, h]
theorem getD_out {a : Act} {d : Nat} (h : ¬ d < a.tmps.size) : a.tmps.getD d undef = undef := by
  simp [Array.getD, h]

theorem esOk_mem : ∀ (l : List (Nat × Bool)) (k : Nat), esOk P σ N ops es0 l = true → (k, false) ∈ l → ∃ ok, ops[k]? = some ok
  | [], k, _, h => by simp at h
  | (x1, true) :: l, k, h1, h2 => by
    simp only [esOk, Bool.and_eq_true] at h1
    exact esOk_mem l k h1.2 (by simpa using h2)
  | (x1, false) :: l, k, h1, h2 => by
    obtain ⟨o', ho', _, _, _, h'⟩ := esOk_head h1
    simp only [List.mem_cons, Prod.mk.injEq, and_true] at h2
    rcases h2 with rfl | h2
    · exact ⟨o', ho'⟩
    · exact esOk_mem l k h' h2
theorem hr_not {r : List (Nat × Bool)} (j k : Nat) (h1 : j < ops.length) (h3 : dep ops j k = true) (h : (k, false) ∈ r) (hlin : ∀ k, k < ops.length → dep ops j k = true → k ≠ j ∧ (k, false) ∉ r) (hes : esOk P σ N ops es0 r = true) : False := by
  obtain ⟨ok, hk⟩ := esOk_mem r k hes h
  exact (hlin k (List.getElem?_eq_some_iff.1 hk).1 h3).2 h

theorem St.step {i : Nat} {o : Oper} {v : Value} {w' : World} (hok : drawOk' P σ N ops es0 = true) (S : St P σ N ops V es0 a0 L a w es cx tm mem aV) (hi : ops[i]? = some o) (hie : (i, false) ∉ es)
    (hv : ∀ d, o.dst = some d → aV.tmps.getD d undef = v) (hm : MemRel cx mem w') (hb : RowKit.Below w.heap.size w w') :
    St P σ N ops V es0 a0 (fun j => L j ∨ j = i) (a.put o.dst v) w' es cx tm mem aV := by
  have hput : ∀ (j : Nat) oj d, ops[j]? = some oj → oj.dst = some d → j ≠ i → (a.put o.dst v).tmps.getD d undef = a.tmps.getD d undef := fun j oj d hj hd hne =>
    put_off fun d' hd' e => hne (uniqDst' hok hj hi hd (e ▸ hd'))
  refine {
    v := S.v, t := S.t, m := hm
    size := by cases h : o.dst <;> simp [Act.put, S.size]
    defers := by cases h : o.dst <;> simp [Act.put, S.defers]
    ok := S.ok, agree := fun j oj d h1 h2 h3 h4 => ?_, oldA := fun s hs => ?_, oldV := S.oldV, qcl := S.qcl
    pend := fun j oj h1 h2 h3 => S.pend j oj h1 h2 (fun h => h3 (Or.inl h))
    post := fun j oj h1 h2 h3 => ?_, lit := S.lit, litL := fun j oj h1 h2 h3 h4 => S.litL j oj h1 h2 (h3.resolve_right fun e => hie (e ▸ h4)) h4, apart := fun j k oj ok d d' p h1 h2 h3 h4 h5 h6 h7 h8 h9 h10 => ?_ }
  · by_cases e : j = i
    · subst e; rw [hi] at h1; simp at h1; subst h1
      rw [hv d h2, h2, getD_put]
      split
      · rfl
      · rename_i hlt
        rw [← hv d h2]
        exact (getD_out (by rw [S.t.size, ← S.size]; exact hlt)).symm
    · rw [hput j oj d h1 h2 e]
      exact S.agree j oj d h1 h2 h3 (h4.resolve_right e)
  · rw [put_off fun d hd e => hs i o hi (by rw [hd, e]) (Or.inr rfl)]
    exact S.oldA s fun j oj hj hd hl => hs j oj hj hd (Or.inl hl)
  · have hne : j ≠ i := fun e => hie (e ▸ h3)
    obtain ⟨t, b, z, d, val, hmk, hg, hd, had, hhp, hbs, hbm⟩ := S.post j oj h1 (h2.resolve_right hne) h3
    refine ⟨t, b, z, d, val, hmk, hg, hd, by rw [hput j oj d h1 hd hne]; exact had, ?_, hbs, hbm⟩
    rw [hb.block b (Array.getElem?_eq_some_iff.1 hhp).1]; exact hhp
  · have hj : j ≠ i := fun e => hie (e ▸ h5)
    have hk : k ≠ i := fun e => hie (e ▸ h6)
    rw [hput j oj d h1 h7 hj] at h9
    rw [hput k ok d' h2 h8 hk] at h10
    exact S.apart j k oj ok d d' p h1 h2 (h3.resolve_right hj) (h4.resolve_right hk) h5 h6 h7 h8 h9 h10

theorem St.early {i : Nat} {o : Oper} {t : TypeId} {z : List Value} {d : Nat} {val : Value} (hok : drawOk' P σ N ops es0 = true) (S : St P σ N ops V es0 a0 L a w es cx tm mem aV) (hi : ops[i]? = some o) (hie : (i, false) ∈ es)
    (hLi : ¬ L i) (hmk : MkK P N cx aV o w.heap.size z t val) (hg : o.guard = none) (hd : o.dst = some d) (hdN : d < N) (hll : isLit N o = true → (i, true) ∈ es0 ∧ (i, true) ∉ es) :
    St P σ N ops V es0 a0 (fun j => L j ∨ j = i) (a.put o.dst val) (w.alloc (.cells z.toArray t (0, 0))) es cx tm mem aV := by
  have hb := below_alloc w (.cells z.toArray t (0, 0))
  have hput : ∀ (v : Value) (j : Nat) oj d, ops[j]? = some oj → oj.dst = some d → j ≠ i → (a.put o.dst v).tmps.getD d undef = a.tmps.getD d undef := fun v j oj d hj hd hne =>
    put_off fun d' hd' e => hne (uniqDst' hok hj hi hd (e ▸ hd'))
  have hself : (a.put o.dst val).tmps.getD d undef = val := by
    rw [hd]; exact getD_put_same (by rw [S.size]; exact hdN)
  refine {
    v := S.v, t := S.t, m := memRel_below S.m hb
    size := by cases h : o.dst <;> simp [Act.put, S.size]
    defers := by cases h : o.dst <;> simp [Act.put, S.defers]
    ok := S.ok, agree := fun j oj d h1 h2 h3 h4 => ?_, oldA := fun s hs => ?_, oldV := S.oldV, qcl := S.qcl
    pend := fun j oj h1 h2 h3 => S.pend j oj h1 h2 (fun h => h3 (Or.inl h))
    post := fun j oj h1 h2 h3 => ?_, lit := S.lit, litL := fun j oj h1 h2 h3 h4 => ?_, apart := fun j k oj ok d1 d2 p h1 h2 h3 h4 h5 h6 h7 h8 h9 h10 => ?_ }
  · have e : j ≠ i := fun e => h3 (e ▸ hie)
    rw [hput _ j oj d h1 h2 e]
    exact S.agree j oj d h1 h2 h3 (h4.resolve_right e)
  · rw [put_off fun d hd e => hs i o hi (by rw [hd, e]) (Or.inr rfl)]
    exact S.oldA s fun j oj hj hd hl => hs j oj hj hd (Or.inl hl)
  · by_cases e : j = i
    · subst e; rw [hi] at h1; simp at h1; subst h1
      refine ⟨t, w.heap.size, z, d, val, hmk, hg, hd, hself, ?_, ⟨Or.inr S.m.le1, fun h => ?_⟩, fun bl hbl => ?_⟩
      · show (w.heap.push _)[w.heap.size]? = _
        simp
      · have := S.m.le01; have := S.m.le1; omega
      · obtain ⟨k, hk⟩ := List.getElem?_of_mem hbl
        have := (Array.getElem?_eq_some_iff.1 (S.m.blk k bl hk)).1
        omega
    · obtain ⟨t', b, z', d', val', hmk', hg', hd', had, hhp, hbs, hbm⟩ := S.post j oj h1 (h2.resolve_right e) h3
      refine ⟨t', b, z', d', val', hmk', hg', hd', by rw [hput _ j oj d' h1 hd' e]; exact had, ?_, hbs, hbm⟩
      rw [hb.block b (Array.getElem?_eq_some_iff.1 hhp).1]; exact hhp
  · by_cases e : j = i
    · subst e; rw [hi] at h1; simp at h1; subst h1
      exact hll h2
    · exact S.litL j oj h1 h2 (h3.resolve_right e) h4
  · have old : ∀ (j : Nat) oj dj p, ops[j]? = some oj → L j → (j, false) ∈ es → oj.dst = some dj → j ≠ i → blkOf ((a.put o.dst val).tmps.getD dj undef) = some p → p ≠ w.heap.size := by
      intro j oj dj p hj hl he hdj hne hp
      obtain ⟨t', b, z', d', val', hmk', hg', hd', had, hhp, hbs, hbm⟩ := S.post j oj hj hl he
      rw [hput _ j oj dj hj hdj hne] at hp
      rw [hdj] at hd'; simp at hd'; subst hd'
      rw [had, hmk'.blk] at hp
      simp only [Option.some.injEq] at hp
      subst hp
      have := (Array.getElem?_eq_some_iff.1 hhp).1
      omega
    by_cases ej : j = i
    · by_cases ek : k = i
      · rw [ej, ek]
      · subst ej; rw [hi] at h1; simp at h1; subst h1
        rw [hd] at h7; simp at h7; subst h7
        rw [hself, hmk.blk] at h9
        simp only [Option.some.injEq] at h9
        exact absurd h9.symm (old k ok d2 p h2 (h4.resolve_right ek) h6 h8 ek h10)
    · by_cases ek : k = i
      · subst ek; rw [hi] at h2; simp at h2; subst h2
        rw [hd] at h8; simp at h8; subst h8
        rw [hself, hmk.blk] at h10
        simp only [Option.some.injEq] at h10
        exact absurd h10.symm (old j oj d1 p h1 (h3.resolve_right ej) h5 h7 ej h9)
      · rw [hput _ j oj d1 h1 h7 ej] at h9
        rw [hput _ k ok d2 h2 h8 ek] at h10
        exact S.apart j k oj ok d1 d2 p h1 h2 (h3.resolve_right ej) (h4.resolve_right ek) h5 h6 h7 h8 h9 h10

theorem St.turn {i : Nat} {r : List (Nat × Bool)} {o : Oper} {v : Value} {w' : World} {cx' : Cx} {tm' : Tm} {mem' : List Blk} (hok : drawOk' P σ N ops es0 = true) (S : St P σ N ops V es0 a0 L a w ((i, false) :: r) cx tm mem aV)
    (hcl : Closed ops L) (hi : ops[i]? = some o) (hr : ReadyAt ops L i) (hLi : ¬ L i) (hdr : opDraws P σ o.op = false) (hna : mkAt P N ops es0 r i = false)
    (hv : V r cx' tm' mem') (ht : TmRel N tm' (aV.put o.dst v)) (hm : MemRel cx' mem' w') (hpo : ∀ (j : Nat) oj, ops[j]? = some oj → L j → (j, false) ∈ r → Post P N cx' mem' (aV.put o.dst v) a w' oj) :
    St P σ N ops V es0 a0 (fun j => L j ∨ j = i) (a.put o.dst v) w' r cx' tm' mem' (aV.put o.dst v) := by
  obtain ⟨o', hi', hir, hlin, hcls, hes'⟩ := esOk_head S.ok
  rw [hi] at hi'; simp at hi'; subst hi'
  obtain ⟨hc1, hc2⟩ := hcls.resolve_left (by simp [hdr])
  replace hc2 := hc2.resolve_left (by simp [hna])
  have hil : i < ops.length := (List.getElem?_eq_some_iff.1 hi).1
  have hputV : ∀ (j : Nat) oj d, ops[j]? = some oj → oj.dst = some d → j ≠ i → (aV.put o.dst v).tmps.getD d undef = aV.tmps.getD d undef := fun j oj d hj hd hne =>
    put_off fun d' hd' e => hne (uniqDst' hok hj hi hd (e ▸ hd'))
  have hput : ∀ (j : Nat) oj d, ops[j]? = some oj → oj.dst = some d → j ≠ i → (a.put o.dst v).tmps.getD d undef = a.tmps.getD d undef := fun j oj d hj hd hne =>
    put_off fun d' hd' e => hne (uniqDst' hok hj hi hd (e ▸ hd'))
  have hq : ∀ j, (j, false) ∉ r → j ≠ i → (j, false) ∉ (i, false) :: r := fun j h1 h2 => by simp [h1, h2]
  refine {
    v := hv, t := ht, m := hm
    size := by cases h : o.dst <;> simp [Act.put, S.size]
    defers := by cases h : o.dst <;> simp [Act.put, S.defers]
    ok := hes', agree := fun j oj d h1 h2 h3 h4 => ?_, oldA := fun s hs => ?_, oldV := fun s hs => ?_, qcl := fun j k h1 h2 h3 => ?_
    pend := fun j oj h1 h2 h3 => ?_
    post := fun j oj h1 h2 h3 => ?_, lit := fun j oj h1 h2 h3 h4 h5 => ?_, litL := fun j oj h1 h2 h3 h4 => ?_, apart := fun j k oj ok d1 d2 p h1 h2 h3 h4 h5 h6 h7 h8 h9 h10 => ?_ }
  · by_cases e : j = i
    · subst e; rw [hi] at h1; simp at h1; subst h1
      rw [h2, getD_put, getD_put, S.size, S.t.size]
    · rw [hput j oj d h1 h2 e, hputV j oj d h1 h2 e]
      exact S.agree j oj d h1 h2 (hq j h3 e) (h4.resolve_right e)
  · rw [put_off fun d hd e => hs i o hi (by rw [hd, e]) (Or.inr rfl)]
    exact S.oldA s fun j oj hj hd hl => hs j oj hj hd (Or.inl hl)
  · rw [put_off fun d hd e => hir (hs i o hi (by rw [hd, e]))]
    exact S.oldV s fun j oj hj hd => by simp [hs j oj hj hd]
  · by_cases e : j = i
    · subst e
      exact fun h => (hr_not j k h1 h3 h hlin hes').elim
    · have := S.qcl j k h1 (hq j h2 e) h3
      exact fun h => this (by simp [h])
  · have hne : j ≠ i := fun e => h3 (Or.inr e)
    have hjl : j < ops.length := (List.getElem?_eq_some_iff.1 h1).1
    obtain ⟨c', aI, p1, p2, p3⟩ := S.pend j oj h1 (hq j h2 hne) (fun h => h3 (Or.inl h))
    refine ⟨c', aI, fun d hd => ?_, p2.put hok hi ?_, ?_⟩
    · rw [hputV j oj d h1 hd hne]; exact p1 d hd
    · by_cases hd : dep ops j i = true
      · exact absurd (by simp) (S.qcl j i hjl (hq j h2 hne) hd)
      · exact Or.inl (by simpa using hd)
    · rcases p3 with p3 | p3
      · unfold Settled at p3 ⊢
        split
        · rename_i hww
          rw [if_pos hww] at p3
          rcases p3 with p3 | ⟨hld, _⟩
          · exact Or.inl (Or.inl p3)
          · have hla : isLdAt σ ops j = true := by simp [isLdAt, h1, hld]
            rcases hc2 j hjl with h | h | h | h | h
            · exact absurd h h2
            · exact absurd h hne
            · rw [hla] at h; simp at h
            · exact absurd (Or.inl (dep_listed hcl h hr)) h3
            · exact Or.inr ⟨h, hld⟩
        · rename_i hww
          rw [if_neg hww] at p3
          exact Or.inl p3
      · simp [chks] at p3
  · have hne : j ≠ i := fun e => hir (e ▸ h3)
    obtain ⟨t', b, z', d', val', hmk', hg', hd', had, hrest⟩ := hpo j oj h1 (h2.resolve_right hne) h3
    exact ⟨t', b, z', d', val', hmk', hg', hd', by rw [hput j oj d' h1 hd' hne]; exact had, hrest⟩
  · obtain ⟨l1, z, t, l, l2⟩ := S.lit j oj h1 h2 h3 (by simp [h4]) (by simp [h5])
    exact ⟨fun k hk hd hkr => l1 k hk hd (by simp [hkr]), z, t, l, l2.to (lit_eval hok hi h1 hir hlin h5 l1 aV v)⟩
  · have hne : j ≠ i := fun e => hir (e ▸ h4)
    have := S.litL j oj h1 h2 (h3.resolve_right hne) (by simp [h4])
    exact ⟨this.1, fun h => this.2 (by simp [h])⟩
  · have hne : j ≠ i := fun e => hir (e ▸ h5)
    have hne2 : k ≠ i := fun e => hir (e ▸ h6)
    rw [hput j oj d1 h1 h7 hne] at h9
    rw [hput k ok d2 h2 h8 hne2] at h10
    exact S.apart j k oj ok d1 d2 p h1 h2 (h3.resolve_right hne) (h4.resolve_right hne2) (by simp [h5]) (by simp [h6]) h7 h8 h9 h10

theorem draw_main (hmx : P.follows .mixedOrders = true) (hok : drawOk' P σ N ops es0 = true) (hO : Owes P σ N ops V E) {K : Exit → Act → World → Prop}
    (hE : ∀ cx tm mem a w, E cx tm mem → TmRel N tm a → MemRel cx mem w → K .normal a w) (hv : V es0 cx tm mem) (ht : TmRel N tm a) (hm : MemRel cx mem w) (id : Nat) :
    (Code.region id ops.toArray true).wp P K a w := by
  have hadv := fun {L : Nat → Prop} {a' : Act} {w : World} => advance (P := P) (σ := σ) (N := N) (ops := ops) (V := V) (E := E) (a0 := a) (L := L) (a := a') (w := w) hok hO memRel_drop memRel_add
  refine wp_region_any hmx ?_
  have key : ∀ (fuel : Nat) (listed : Array Bool) (a' : Act) (w' : World) (es : List (Nat × Bool)) (cx : Cx) (tm : Tm) (mem : List Blk) (aV : Act), listed.size = ops.length →
      ((List.range ops.length).filter fun i => !listed.getD i true).length ≤ fuel →
      Closed ops (fun i => i < ops.length ∧ listed.getD i true = true) →
      St P σ N ops V es0 a (fun i => i < ops.length ∧ listed.getD i true = true) a' w' es cx tm mem aV → Stable P σ ops (fun i => i < ops.length ∧ listed.getD i true = true) es →
      wpAny P .any ops.toArray K fuel listed a' w' := by
    intro fuel
    have hend : ∀ (listed : Array Bool) (a' : Act) (w' : World) (es : List (Nat × Bool)) (cx : Cx) (tm : Tm) (mem : List Blk) (aV : Act),
        (∀ i, i < ops.length → listed.getD i true = true) →
        St P σ N ops V es0 a (fun i => i < ops.length ∧ listed.getD i true = true) a' w' es cx tm mem aV → Stable P σ ops (fun i => i < ops.length ∧ listed.getD i true = true) es → K .normal a' w' := by
      intro listed a' w' es cx tm mem aV hall S hst
      rcases hst with rfl | ⟨h, r, o, rfl, ho, _, hn⟩
      · refine hE cx tm mem a' w' (hO.fin _ _ _ S.v) ⟨S.size, S.defers, fun s => ?_⟩ S.m
        rw [← S.t.slot s]
        by_cases hex : ∃ (j : Nat) (o : Oper), ops[j]? = some o ∧ o.dst = some s
        · obtain ⟨j, o, hj, hd⟩ := hex
          have hjl := (List.getElem?_eq_some_iff.1 hj).1
          exact S.agree j o s hj hd (by simp) ⟨hjl, hall j hjl⟩
        · rw [S.oldA s fun j o hj hd _ => hex ⟨j, o, hj, hd⟩, S.oldV s fun j o hj hd => absurd ⟨j, o, hj, hd⟩ hex]
      · have hl := (List.getElem?_eq_some_iff.1 ho).1
        exact absurd ⟨hl, hall h hl⟩ hn
    induction fuel with
    | zero =>
      intro listed a' w' es cx tm mem aV hsz hcount hcl S hst
      have hnone : ∀ i, i < ops.length → listed.getD i true = true := by
        intro i hi
        have h0 : ((List.range ops.length).filter fun i => !listed.getD i true) = [] := List.length_eq_zero_iff.1 (by omega)
        have := List.filter_eq_nil_iff.1 h0 i (by simpa using hi)
        simpa using this
      refine ⟨?_, hend listed a' w' es cx tm mem aV hnone S hst⟩
      unfold Region.ready
      apply List.filter_eq_nil_iff.2
      intro i hi
      have := hnone i (by simpa using hi)
      simp [this]
    | succ fuel IH =>
      intro listed a' w' es cx tm mem aV hsz hcount hcl S hst
      refine ⟨fun hr => ?_, fun i hi => ?_⟩
      · have hnone : ∀ i, i < ops.length → listed.getD i true = true := by
          intro i
          induction i using Nat.strongRecOn with
          | _ i ihi =>
            intro hi
            have hr' : ∀ j, j < ops.length → ¬ ((!listed.getD j true && ((ops.toArray[j]?).map (·.after.all fun e => !Region.binds .any e || listed.getD e.on false)).getD false) = true) := by
              intro j hj
              have := List.filter_eq_nil_iff.1 hr j (by simpa using hj)
              exact this
            have h1 := hr' i hi
            have ho : ops[i]? = some ops[i] := List.getElem?_eq_getElem hi
            have hedge := (drawOk'_at hok ho).2.1
            have hpre : (ops[i].after.all fun e => !Region.binds .any e || listed.getD e.on false) = true := by
              apply Array.all_eq_true_iff_forall_mem.2
              intro e he
              by_cases hb : Region.binds .any e = true
              · have hlt := hedge e he hb
                have := ihi e.on hlt (by omega)
                have hin : e.on < listed.size := by omega
                simp only [Array.getD_eq_getD_getElem?, Array.getElem?_eq_getElem hin, Option.getD_some] at this ⊢
                simp [this]
              · simp at hb; simp [hb]
            by_cases hl : listed.getD i true = true
            · exact hl
            · simp only [Bool.not_eq_true] at hl
              exfalso
              apply h1
              have hoa : ops.toArray[i]? = some ops[i] := by simpa using ho
              simp only [hl, hoa, Option.map_some, Option.getD_some, hpre]; rfl
        exact hend listed a' w' es cx tm mem aV hnone S hst
      · have hi' := List.mem_filter.1 hi
        have hil : i < ops.length := by simpa using hi'.1
        have hcond := hi'.2
        simp only [Bool.and_eq_true, Bool.not_eq_true'] at hcond
        obtain ⟨hnl, hpre⟩ := hcond
        have ho : ops[i]? = some ops[i] := List.getElem?_eq_getElem hil
        generalize ops[i] = o at ho
        have hoa : ops.toArray[i]? = some o := by simpa using ho
        obtain ⟨hmem0, hedge, hpair, hns⟩ := drawOk'_at hok ho
        have hready : ReadyAt ops (fun i => i < ops.length ∧ listed.getD i true = true) i := by
          intro o' ho' e he hb
          rw [ho] at ho'; simp at ho'; subst ho'
          refine ⟨by have := hedge e he hb; omega, ?_⟩
          simp only [hoa, Option.map_some, Option.getD_some] at hpre
          have := Array.all_eq_true_iff_forall_mem.1 hpre e he
          simp only [hb, Bool.not_true, Bool.false_or] at this
          simp only [Array.getD] at this ⊢
          split
          · rename_i hlt; simp only [hlt, dite_true] at this; exact this
          · rfl
        have hn : ¬ (i < ops.length ∧ listed.getD i true = true) := fun h => by rw [h.2] at hnl; simp at hnl
        have hiff : ∀ j, (j < ops.length ∧ (listed.setIfInBounds i true).getD j true = true) ↔ ((j < ops.length ∧ listed.getD j true = true) ∨ j = i) := by
          intro j
          constructor
          · rintro ⟨hj, h⟩
            simp only [Array.getD_eq_getD_getElem?, Array.getElem?_setIfInBounds] at h ⊢
            by_cases e : i = j
            · exact Or.inr e.symm
            · rw [if_neg e] at h; exact Or.inl ⟨hj, h⟩
          · intro h
            have hj : j < ops.length := by rcases h with h | rfl; exact h.1; exact hil
            refine ⟨hj, ?_⟩
            simp only [Array.getD_eq_getD_getElem?, Array.getElem?_setIfInBounds] at h ⊢
            by_cases e : i = j
            · subst e; simp [hsz, hil]
            · rw [if_neg e]
              exact (h.resolve_right fun h => e h.symm).2
        have hLeq : (fun j => j < ops.length ∧ (listed.setIfInBounds i true).getD j true = true) = (fun j => (j < ops.length ∧ listed.getD j true = true) ∨ j = i) := by
          funext j; exact propext (hiff j)
        have hclosed : Closed ops (fun j => j < ops.length ∧ (listed.setIfInBounds i true).getD j true = true) := by
          rw [hLeq]
          intro j oj hj hl e he hb
          rcases hl with hl | rfl
          · exact Or.inl (hcl j oj hj hl e he hb)
          · exact Or.inl (hready oj hj e he hb)
        have hcnt : ((List.range ops.length).filter fun j => !(listed.setIfInBounds i true).getD j true).length ≤ fuel := by
          have hlt : ((List.range ops.length).filter fun j => !(listed.setIfInBounds i true).getD j true).length < ((List.range ops.length).filter fun j => !listed.getD j true).length := by
            refine filter_lt _ _ _ (fun j hj => ?_) ⟨i, by simpa using hil, by simp [hnl], ?_⟩
            · simp only [Bool.not_eq_true'] at hj ⊢
              cases hx : listed.getD j true with
              | false => rfl
              | true =>
                simp only [Array.getD_eq_getD_getElem?, Array.getElem?_setIfInBounds] at hj hx
                split at hj
                · split at hj <;> simp at hj
                · rw [hx] at hj; simp at hj
            · simp [Array.getD, hsz, hil]
          omega
        have hnext : ∀ (a'' : Act) (w'' : World) (es : List (Nat × Bool)) (cx : Cx) (tm : Tm) (mem : List Blk) (aV : Act),
            St P σ N ops V es0 a (fun j => (j < ops.length ∧ listed.getD j true = true) ∨ j = i) a'' w'' es cx tm mem aV →
            wpAny P .any ops.toArray K fuel (listed.setIfInBounds i true) a'' w'' := by
          intro a'' w'' es cx tm mem aV S
          obtain ⟨es', cx', tm', mem', aV', S', hst'⟩ := hadv es cx tm mem aV S
          have hSt : Stable P σ ops (fun j => (j < ops.length ∧ listed.getD j true = true) ∨ j = i) es' := hst'
          rw [← hLeq] at S' hSt
          exact IH _ _ _ _ _ _ _ _ (by simp [hsz]) hcnt hclosed S' hSt
        have hLn : ∀ j, (j < ops.length ∧ listed.getD j true = true) → j < ops.length := fun j h => h.1
        unfold wpOp
        rw [hoa]
        simp only
        by_cases hie : (i, false) ∈ es
        · -- at the head, or an allocation
          have hstale := hst
          rcases hstale with rfl | ⟨h, r, oh, rfl, hoh, hdh, hnh⟩
          · simp at hie
          obtain ⟨oh', hoh', hir, hlin, hcls, hes'⟩ := esOk_head S.ok
          rw [hoh] at hoh'; simp at hoh'; subst hoh'
          obtain ⟨hc1, hc2⟩ := hcls.resolve_left (by simp [hdh])
          have hmkA : ∀ (es : List (Nat × Bool)), mkAt P N ops es0 es i = true → isAl P N o = true ∨ (isLit N o = true ∧ (i, true) ∈ es0 ∧ (i, true) ∉ es) := fun es hm => by
            unfold mkAt isAlAt isLitAt at hm
            rw [ho] at hm
            simp only [Bool.or_eq_true, Bool.and_eq_true, Bool.not_eq_true', List.contains_eq_mem, decide_eq_true_eq, decide_eq_false_iff_not] at hm
            exact hm
          have hal : (isAl P N o = true ∨ (isLit N o = true ∧ (i, true) ∈ es0 ∧ (i, true) ∉ (h, false) :: r)) ∨ (i = h ∧ mkAt P N ops es0 r i = false) := by
            simp only [List.mem_cons, Prod.mk.injEq, and_true] at hie
            rcases hie with rfl | hie
            · cases hx : mkAt P N ops es0 r i with
              | true =>
                rcases hmkA r hx with h1 | ⟨h1, h2, h3⟩
                · exact Or.inl (Or.inl h1)
                · exact Or.inl (Or.inr ⟨h1, h2, by simp [h3]⟩)
              | false => exact Or.inr ⟨rfl, rfl⟩
            · rcases hc1 i hie with hd | hd
              · exact absurd (dep_listed hcl hd hready) hnh
              · rcases hmkA r hd.2 with h1 | ⟨h1, h2, h3⟩
                · exact Or.inl (Or.inl h1)
                · exact Or.inl (Or.inr ⟨h1, h2, by simp [h3]⟩)
          rcases hal with (hal | ⟨hlit, hl1, hl2⟩) | ⟨rfl, hna⟩
          · obtain ⟨t, z, d, hop, hg, hd, hz, hdN⟩ : ∃ t z d, o.op = .alloc t ∧ o.guard = none ∧ o.dst = some d ∧ zeroL P t = some z ∧ d < N := by
              unfold isAl at hal
              split at hal
              · rename_i t d h1 h2 h3
                simp only [Bool.and_eq_true, decide_eq_true_eq] at hal
                obtain ⟨z, hz⟩ := Option.isSome_iff_exists.1 hal.1
                exact ⟨t, z, d, h1, h2, h3, hz, hal.2⟩
              · simp at hal
            have hw : Region.wanted o (yielded ops.toArray a'.tmps) = true := by simp [Region.wanted, hg]
            rw [if_pos hw]
            refine Or.inl (op_value (alloc_run hop hz a' w') ?_)
            exact hnext _ _ _ _ _ _ _ (S.early hok ho hie hn (Or.inl ⟨hop, hz, rfl⟩) hg hd hdN fun hx => by
              unfold isLit at hx
              rw [hop] at hx; simp at hx)
          · obtain ⟨d, hg, hd, hdN⟩ : ∃ d, o.guard = none ∧ o.dst = some d ∧ d < N := by
              unfold isLit at hlit
              split at hlit
              · rename_i d h1 h2 h3
                simp only [Bool.and_eq_true, decide_eq_true_eq] at hlit
                exact ⟨d, h2, h3, hlit.2⟩
              · simp at hlit
            obtain ⟨l1, z, t, l, l2⟩ := S.lit i o ho hlit hl1 hl2 hie
            have hsee : Sees ops a aV i o aV := fun s hs => ⟨fun _ _ _ _ _ _ => rfl, fun hh => S.oldV s fun j o' hj hd' => by
              have hjl : j < ops.length := (List.getElem?_eq_some_iff.1 hj).1
              by_cases e : j = i
              · subst e; exact hie
              · have hp := hpair j o' hj
                unfold pairOk' at hp
                rw [hd'] at hp
                simp only [Bool.or_eq_true, beq_iff_eq, Bool.and_eq_true, bne_iff_ne, ne_eq, Bool.not_eq_true', List.contains_eq_mem, decide_eq_false_iff_not] at hp
                rcases hp with hp | ⟨_, (hp | hp) | hp⟩
                · exact absurd hp.symm e
                · exact absurd hs hp
                · exact absurd ⟨e, hp⟩ (hh j o' hj hd')
                · by_cases hq : (j, false) ∈ (h, false) :: r
                  · exact hq
                  · exact absurd hie (S.qcl j i hjl hq hp)⟩
            have hnow := S.now hok hcl hLn ho hready hn (fun j hj _ hd' => l1 j hj hd') hsee
            obtain ⟨hex, _⟩ := eval_same (ops := ops) hns hnow
            have hw : Region.wanted o (yielded ops.toArray a'.tmps) = true := by simp [Region.wanted, hg]
            rw [if_pos hw]
            refine Or.inl (op_value (by rw [hex]; exact l2 w') ?_)
            exact hnext _ _ _ _ _ _ _ (S.early hok ho hie hn (Or.inr ⟨hlit, Nat.le_trans S.m.le01 S.m.le1, l, l2, rfl⟩) hg hd hdN fun _ => ⟨hl1, hl2⟩)
          · rw [hoh] at ho; simp at ho; subst ho
            have hsee := S.sees hok hoh
            have hqi : ∀ j, j < ops.length → j ≠ i → dep ops i j = true → (j, false) ∉ (i, false) :: r := fun j hj hne hd => by
              have := (hlin j hj hd).2
              simp [hne, this]
            have hnow := S.now hok hcl hLn hoh hready hn hqi hsee
            obtain ⟨hex, hwt⟩ := eval_same (ops := ops) hns hnow
            have hdef : ∀ a'' w'', (∃ cx' tm' mem', V r cx' tm' mem' ∧ TmRel N tm' a'' ∧ MemRel cx' mem' w'') → a''.defers = [] := fun a'' w'' ⟨_, _, _, _, h, _⟩ => h.defers
            by_cases hw : Region.wanted oh (yielded ops.toArray a'.tmps) = true
            · rw [if_pos hw]
              rw [hwt] at hw
              by_cases hfr : isFr σ oh.op = true
              · obtain ⟨ex, e1, _, e3⟩ := S.extras (List.range ops.length) List.nodup_range
                have hdef' : ∀ a'' w'', (∃ cx' tm' mem2, V r cx' tm' mem2 ∧ TmRel N tm' a'' ∧ MemRel cx' (mem2 ++ ex) w'' ∧ cx'.w0 = cx.w0) → a''.defers = [] := fun a'' w'' ⟨_, _, _, _, h, _⟩ => h.defers
                refine Or.inl (wp_act (hO.effF _ _ _ _ _ oh aV S.v hoh S.t hw hfr ex w' e1) hex hdef' fun v w'' ⟨cx', tm', mem2, h1, h2, h3, h4⟩ => ?_)
                have hm2 : MemRel cx' mem2 w'' := by
                  have := memRel_take h3 mem2.length
                  rwa [List.take_left] at this
                refine hnext _ _ _ _ _ _ _ (S.turn hok hcl hoh hready hn hdh hna h1 h2 hm2 fun j oj hj hl hjr => ?_)
                obtain ⟨t, b, z, d, val, g1, g2, g3, g4, g5⟩ := e3 j (by simpa using hl.1) oj hj hl (by simp [hjr])
                refine extras_post h3 (g1.to h4 fun hlit => ?_) g2 g3 g4 g5
                obtain ⟨q1, q2⟩ := S.litL j oj hj hlit hl (by simp [hjr])
                exact lit_eval hok hoh hj hir hlin hjr (S.lit j oj hj hlit q1 q2 (by simp [hjr])).1 aV v
              · refine Or.inl (wp_act (hO.eff _ _ _ _ _ oh aV S.v hoh S.t hw w' S.m) hex hdef fun v w'' ⟨cx', tm', mem', h1, h2, h3⟩ => ?_)
                refine hnext _ _ _ _ _ _ _ (S.turn hok hcl hoh hready hn hdh hna h1 h2 h3 fun j oj hj hl hjr => ?_)
                rcases hc1 j hjr with h | ⟨h, _⟩
                · exact (hn (dep_listed hcl h fun o'' ho'' => hcl j o'' ho'' hl)).elim
                · rcases h with h | h
                  · rw [hna] at h; simp at h
                  · exact absurd h hfr
            · rw [if_neg hw]
              rw [hwt] at hw
              obtain ⟨tm', ht', hv'⟩ := hO.skip _ _ _ _ _ oh aV S.v hoh S.t (by simpa using hw)
              exact hnext _ _ _ _ _ _ _ (S.turn hok hcl hoh hready hn hdh hna hv' ht' S.m fun j oj hj hl hjr => by
                obtain ⟨t, b, z, d, val, g1, rest⟩ := S.post j oj hj hl (by simp [hjr])
                refine ⟨t, b, z, d, val, g1.to rfl fun hlit => ?_, rest⟩
                obtain ⟨q1, q2⟩ := S.litL j oj hj hlit hl (by simp [hjr])
                exact lit_eval hok hoh hj hir hlin hjr (S.lit j oj hj hlit q1 q2 (by simp [hjr])).1 aV undef)
        · obtain ⟨c, aI, hcv, hsee, hset⟩ := S.pend i o ho hie hn
          have hset := hset.resolve_right fun h => by rw [hst.chks] at h; simp at h
          have hnow := S.now hok hcl hLn ho hready hn (fun j _ _ hd => S.qcl i j hil hie hd) hsee
          obtain ⟨hex, hwt⟩ := eval_same (ops := ops) hns hnow
          unfold Settled at hset
          rw [← hwt] at hset
          by_cases hw : Region.wanted o (yielded ops.toArray a'.tmps) = true
          · rw [if_pos hw] at hset ⊢
            refine Or.inl ?_
            rcases hset with hrun | ⟨_, hrun⟩
            · rcases hrun w' with hrun | ⟨f, args, w1, hrun, hc⟩
              · rw [← hex] at hrun
                exact op_value hrun (hnext _ _ _ _ _ _ _ (S.step hok ho hie hcv S.m (RowKit.Below.refl _ _)))
              · rw [← hex] at hrun
                unfold Oper.wp
                rw [hrun]
                simp only [Oper.upon_enter]
                refine hc.mono ?_
                rintro e w'' ⟨rfl, hb⟩
                exact hnext _ _ _ _ _ _ _ (S.step hok ho hie hcv (memRel_below S.m hb) hb)
            · rcases hrun w' S.m with hrun | ⟨f, args, w1, hrun, hc⟩
              · rw [← hex] at hrun
                exact op_value hrun (hnext _ _ _ _ _ _ _ (S.step hok ho hie hcv S.m (RowKit.Below.refl _ _)))
              · rw [← hex] at hrun
                unfold Oper.wp
                rw [hrun]
                simp only [Oper.upon_enter]
                refine hc.mono ?_
                rintro e w'' ⟨rfl, hb⟩
                exact hnext _ _ _ _ _ _ _ (S.step hok ho hie hcv (memRel_below S.m hb) hb)
          · rw [if_neg hw] at hset ⊢
            rw [← hset]
            exact hnext _ _ _ _ _ _ _ (S.step hok ho hie hcv S.m (RowKit.Below.refl _ _))
  have hcl0 : Closed ops (fun _ => False) := fun _ _ _ h => h.elim
  have S0 : St P σ N ops V es0 a (fun _ => False) a w.drew es0 cx tm mem a := {
    v := hv, t := ht, m := memRel_drew hm _, size := ht.size, defers := ht.defers
    ok := (Bool.and_eq_true _ _ ▸ hok : _ ∧ _).2
    agree := fun _ _ _ _ _ _ h => h.elim, oldA := fun _ _ => rfl, oldV := fun _ _ => rfl
    qcl := fun i j hi h _ => absurd (drawOk'_at hok (List.getElem?_eq_getElem hi)).1 h
    pend := fun i o hi h _ => absurd (drawOk'_at hok hi).1 h
    post := fun _ _ _ h => h.elim, lit := fun _ _ _ _ h h' => absurd h h', litL := fun _ _ _ _ h => h.elim, apart := fun _ _ _ _ _ _ _ _ _ h => h.elim }
  obtain ⟨es', cx', tm', mem', aV', S', hst'⟩ := hadv es0 cx tm mem a S0
  have hL0 : (fun j => j < ops.length ∧ (Array.replicate ops.length false).getD j true = true) = (fun _ => False) := by
    funext j
    apply propext
    refine ⟨fun h => ?_, fun h => h.elim⟩
    have h1 := h.1
    have h2 := h.2
    simp [Array.getD, h1] at h2
  have hSt : Stable P σ ops (fun _ => False) es' := hst'
  simp only [List.size_toArray]
  refine key ops.length _ a _ es' cx' tm' mem' aV' (by simp) ?_ ?_ ?_ ?_
  · have := List.length_filter_le (fun i => !(Array.replicate ops.length false).getD i true) (List.range ops.length)
    simp only [List.length_range] at this
    simpa using this
  · rw [hL0]; exact hcl0
  · rw [hL0]; exact S'
  · rw [hL0]; exact hSt
end
theorem pureFn_mem {tm : Tm} {mem mem' : List Blk} {op : Op} (h : isLd op = false) : pureFn P tm mem op = pureFn P tm mem' op := by
  cases op <;> first | rfl | simp [isLd] at h

theorem pure_run {cx : Cx} {mem : List Blk} {tm : Tm} {a : Act} {o : Oper} {c : C} {ob : Prop} (ht : TmRel N tm a) (h : pureFn P tm mem o.op = some (c, ob)) (ho : ob) :
    RunAll P a.eval o c ∨ (isRd σ o.op = true ∧ RunLd P cx mem a.eval o c) := by
  cases hl : isLd o.op with
  | true => exact Or.inr ⟨isRd_of_ld hl, fun w hm => Or.inl (pureFn_sound ht hm h ho)⟩
  | false => exact Or.inl fun w => Or.inl (pureFn_sound ht (memRel_nil w) (by rw [← h]; exact pureFn_mem hl) ho)

theorem one_draw {n : Nat} {o : Oper} {k : List It} {cx : Cx} {tm : Tm} {mem : List Blk} {a : Act}
    (hd : opDraws P σ o.op = true) (h : vcs P σ N QS (n + 1) (.op o :: k) cx tm mem) (ht : TmRel N tm a) :
    ∃ c, (RunAll P a.eval o c ∨ (isRd σ o.op = true ∧ RunLd P cx mem a.eval o c)) ∧ dstOk N o.dst ∧ vcs P σ N QS n k cx (put tm o.dst c) mem := by
  have hev := eval_get ht
  obtain ⟨dst, op, ty, pos, aft, gd⟩ := o
  simp only [vcs] at h
  obtain ⟨hds, h⟩ := h
  have hpure : ∀ {op'}, (⟨dst, op', ty, pos, aft, gd⟩ : Oper) = ⟨dst, op, ty, pos, aft, gd⟩ → (match pureFn P tm mem op' with
      | some (c, ob) => ob ∧ vcs P σ N QS n k cx (put tm dst c) mem
      | none => False) → ∃ c, (RunAll P a.eval (⟨dst, op, ty, pos, aft, gd⟩ : Oper) c ∨ (isRd σ op = true ∧ RunLd P cx mem a.eval (⟨dst, op, ty, pos, aft, gd⟩ : Oper) c)) ∧ dstOk N dst ∧ vcs P σ N QS n k cx (put tm dst c) mem := by
    intro op' e hp
    simp only [Oper.mk.injEq, true_and, and_true] at e
    subst e
    split at hp
    · rename_i c ob hc
      exact ⟨c, pure_run (o := ⟨dst, op', ty, pos, aft, gd⟩) ht hc hp.1, hds, hp.2⟩
    · exact hp.elim
  cases op <;> simp only [opDraws, Bool.false_eq_true] at hd
  case call c =>
    simp only at h
    split at h
    · rename_i fo hc
      split at h
      · rename_i f first cap hf
        obtain ⟨rfl, rfl, h⟩ := h
        split at h
        · rename_i con hcon
          have hff := findCon_f σ.cons f con hcon
          subst hff
          have hpu : ((∃ rel, con.pu = some rel) ∨ con.rd = true) ∧ isRd σ (.call c) = con.rd := by
            rw [hc] at hd
            cases fo with
            | func g =>
              have : g = con.f := by simpa [get] using hf
              subst this
              simp only [hcon, Bool.or_eq_true] at hd
              refine ⟨hd.imp Option.isSome_iff_exists.1 id, ?_⟩
              simp only [isRd, hc, hcon]
            | _ => simp at hd
          obtain ⟨hpu | hrd, hri⟩ := hpu
          case inr =>
            obtain ⟨v, hk, hrun⟩ := con.rdSound hrd _ _ _ _ h
            refine ⟨.v v, Or.inr ⟨by rw [hri, hrd], fun w hm => ?_⟩, hds, hk⟩
            have hr := fun x w' => call_run (P := P) (o := ⟨dst, .call c, ty, pos, aft, gd⟩) (a := a) (w := w) (w' := w') (con := con) (x := x) rfl hc (by rw [hev, hf]; rfl)
            have hargs : c.args.map a.eval = ((c.args.toList.map (get tm)).map den).toArray := by
              apply Array.ext'
              simp only [Array.toList_map, List.map_map]
              apply List.map_congr_left
              intro x _
              exact hev x
            rw [hargs] at hr
            rcases hrun w hm with ⟨h1, h2⟩ | ⟨v', h1, h2⟩
            · exact Or.inr ⟨_, _, _, hr _ _ h1, h2⟩
            · refine Or.inl ?_
              simp only [Ending.returned.injEq] at h2
              obtain ⟨rfl, _⟩ := h2
              exact hr _ _ h1
          obtain ⟨rel, hrel⟩ := hpu
          obtain ⟨vs, v, hvs, hv, hk⟩ := con.puTr rel hrel _ _ _ _ h
          refine ⟨.v v, Or.inl fun w => ?_, hds, hk⟩
          have hr := fun x w' => call_run (P := P) (o := ⟨dst, .call c, ty, pos, aft, gd⟩) (a := a) (w := w) (w' := w') (con := con) (x := x) rfl hc (by rw [hev, hf]; rfl)
          have hargs : c.args.map a.eval = vs.toArray := by
            apply Array.ext'
            simp only [Array.toList_map]
            have : (c.args.toList.map (get tm)).map den = vs := by rw [hvs, map_den_v]
            rw [← this, List.map_map]
            apply List.map_congr_left
            intro x _
            exact hev x
          rw [hargs] at hr
          rcases con.puSound rel hrel vs v w hv with ⟨h1, h2⟩ | ⟨v', h1, h2⟩
          · exact Or.inr ⟨_, _, _, hr _ _ h1, h2⟩
          · refine Or.inl ?_
            simp only [Ending.returned.injEq] at h2
            obtain ⟨rfl, _⟩ := h2
            exact hr _ _ h1
        · exact h.elim
      · exact h.elim
    · rename_i hc; simp [hc] at hd
    · rename_i hc; simp [hc] at hd
    · exact hpure rfl h
  case build t ps =>
    simp only at h
    split at h
    · rename_i c ob hs
      refine ⟨c, Or.inl fun w => Or.inl ?_, hds, h.2⟩
      have := buildFn_sound ht hs h.1 w
      simp only [execOp, Sem.run_bind, this, Result.andThen_ok]; rfl
    · exact h.elim
  case load t x =>
    simp only at h
    split at h
    · rename_i p hx
      obtain ⟨ad, rfl, h⟩ := h
      split at h
      · rename_i ha
        obtain ⟨vs, hl, hv, h⟩ := h
        refine ⟨_, Or.inr ⟨rfl, fun w hm => Or.inl ?_⟩, hds, h⟩
        have hr := ext_agg (P := P) (w := w) ha hl (fun j v hj => nowF_cell hm (hv j v hj))
        simp [execOp, hev, hx, den, Instr.loadAt, Instr.sureAddr, hr]
      · rename_i ha
        obtain ⟨v, hv, h⟩ := h
        refine ⟨_, Or.inr ⟨rfl, fun w hm => Or.inl ?_⟩, hds, h⟩
        have hr := ext_one (P := P) ha (nowF_cell hm hv)
        simp [execOp, hev, hx, den, Instr.loadAt, Instr.sureAddr, hr]
      · exact h.elim
    · exact hpure rfl h
  case binOp op t x y yt =>
    simp only at h
    split at h
    · rename_i fk va hx
      split at h
      · rename_i fk' vb hy
        split at h
        · rename_i res hres
          rw [h.2.1] at hd
          cases op <;> simp [fAr] at hd hres
        · exact hpure rfl h
      · exact h.elim
    · exact hpure rfl h
  case convert src dt x =>
    simp only at h
    split at h
    · split at h
      · rename_i hu
        simp [isFloatT, hu] at hd
      · exact h.elim
    · split at h
      · rename_i hu
        simp [isFloatT, hu] at hd
      · exact h.elim
    · split at h
      · rename_i hu
        simp [isFloatT, hu] at hd
      · exact h.elim
    · exact hpure rfl h
  all_goals exact hpure rfl h

theorem wanted_look {all : List Oper} {o : Oper} {tm : Tm} {a : Act} (ht : TmRel N tm a) : Region.wanted o (yielded all.toArray a.tmps) =
    match o.guard with
    | none => true
    | some (j, want) => match (all[j]?).bind (·.dst) with
      | some d => (match look tm d with | .v (.bool b) => some b | _ => none) == some want
      | none => false := by
  unfold Region.wanted
  split
  · rename_i hg; simp [hg]
  · rename_i j want hg
    simp only [hg]
    cases hd : (all[j]?).bind (·.dst) with
    | none =>
      simp [yielded, hd]
    | some d =>
      simp only [yielded_look ht hd]


def textOrder (ops : List Oper) : List (Nat × Bool) := (List.range ops.length).map fun i => (i, false)
end
section
variable {P : Program} {σ : Env P} {N : Nat} {QS : Exit → Cx → Tm → List Blk → Prop} {Q : Exit → Act → World → Prop}

def codeOk (P : Program) (σ : Env P) (N : Nat) : Code → Bool
  | .region id ops d => !d || drawOk' P σ N ops.toList ((findOrd σ.ord id).getD (textOrder ops.toList))
  | .seq a b => codeOk P σ N a && codeOk P σ N b
  | .cond _ a b => codeOk P σ N a && codeOk P σ N b
  | .block _ b => codeOk P σ N b
  | .loop b => codeOk P σ N b
  | _ => true

def itOk (P : Program) (σ : Env P) (N : Nat) : It → Prop
  | .code c => codeOk P σ N c = true
  | _ => True

def itsOk (P : Program) (σ : Env P) (N : Nat) : List It → Bool
  | [] => true
  | .code c :: k => codeOk P σ N c && itsOk P σ N k
  | _ :: k => itsOk P σ N k

theorem itsOk_all : ∀ (k : List It), itsOk P σ N k = true → ∀ i ∈ k, itOk P σ N i
  | [], _ => fun i hi => by simp at hi
  | .code c :: k, h => fun i hi => by
    simp only [itsOk, Bool.and_eq_true] at h
    simp only [List.mem_cons] at hi
    rcases hi with rfl | hi
    · exact h.1
    · exact itsOk_all k h.2 i hi
  | .ops _ _ :: k, h => fun i hi => by
    simp only [List.mem_cons] at hi
    rcases hi with rfl | hi
    · trivial
    · exact itsOk_all k h i hi
  | .opsC _ _ :: k, h => fun i hi => by
    simp only [List.mem_cons] at hi
    rcases hi with rfl | hi
    · trivial
    · exact itsOk_all k h i hi
  | .op _ :: k, h => fun i hi => by
    simp only [List.mem_cons] at hi
    rcases hi with rfl | hi
    · trivial
    · exact itsOk_all k h i hi
  | .blk _ :: k, h => fun i hi => by
    simp only [List.mem_cons] at hi
    rcases hi with rfl | hi
    · trivial
    · exact itsOk_all k h i hi
  | .lp _ _ :: k, h => fun i hi => by
    simp only [List.mem_cons] at hi
    rcases hi with rfl | hi
    · trivial
    · exact itsOk_all k h i hi

theorem itOk_exit {id : Nat} : ∀ (k k' : List It), exitTo id k = some k' → (∀ i ∈ k, itOk P σ N i) → ∀ i ∈ k', itOk P σ N i
  | [], _, h, _ => by simp [exitTo] at h
  | .code _ :: k, k', h, hk => itOk_exit k k' (by simpa [exitTo] using h) fun i hi => hk i (by simp [hi])
  | .ops _ _ :: k, k', h, hk => itOk_exit k k' (by simpa [exitTo] using h) fun i hi => hk i (by simp [hi])
  | .opsC _ _ :: k, k', h, hk => itOk_exit k k' (by simpa [exitTo] using h) fun i hi => hk i (by simp [hi])
  | .op _ :: k, k', h, hk => itOk_exit k k' (by simpa [exitTo] using h) fun i hi => hk i (by simp [hi])
  | .lp _ _ :: k, k', h, hk => itOk_exit k k' (by simpa [exitTo] using h) fun i hi => hk i (by simp [hi])
  | .blk j :: k, k', h, hk => by
    simp only [exitTo] at h
    split at h
    · simp at h; subst h; exact fun i hi => hk i (by simp [hi])
    · exact itOk_exit k k' h fun i hi => hk i (by simp [hi])

theorem newFn_slice {tm : Tm} {mem : List Blk} {t : TypeId} {l : Nat} {ps : Array (Nat × Operand)} {cells : List C} {ty : TypeId} {mk : Nat → C} {ob : Prop} (h : newFn P tm mem (.buildSlice t l ps) = some (cells, ty, mk, ob)) (b : Nat) :
    den (mk b) = .slice (some ⟨b, 0, none⟩) l l := by
  simp only [newFn] at h
  split at h <;> (try simp only [reduceCtorEq] at h)
  split at h <;> (try simp only [Option.some.injEq, Prod.mk.injEq, reduceCtorEq] at h)
  obtain ⟨_, _, rfl, _⟩ := h
  rfl
theorem memRel_freeze {cx : Cx} {mem : List Blk} {w : World} {b : Nat} {cells : List C} {ty : TypeId} (hm : MemRel cx (mem ++ [⟨b, cells, ty⟩]) w) (hb : cx.w0.heap.size ≤ b) :
    MemRel ⟨cx.w0, cx.g0, w, mem.map (·.id)⟩ mem w ∧ Le cx ⟨cx.w0, cx.g0, w, mem.map (·.id)⟩ ∧ RdL (newF ⟨cx.w0, cx.g0, w, mem.map (·.id)⟩) (some ⟨b, 0, none⟩) (cells.map den) := by
  have hk : ∀ (k : Nat) x, mem[k]? = some x → (mem ++ [⟨b, cells, ty⟩])[k]? = some x := fun k x h => by
    rw [List.getElem?_append_left (List.getElem?_eq_some_iff.1 h).1]; exact h
  have hl : (mem ++ [(⟨b, cells, ty⟩ : Blk)])[mem.length]? = some ⟨b, cells, ty⟩ := by simp
  have hw := hm.blk _ _ hl
  have hbm : b ∉ mem.map (·.id) := by
    simp only [List.mem_map, not_exists, not_and]
    intro x hx he
    obtain ⟨k, hkx⟩ := List.getElem?_of_mem hx
    have := hm.inj k mem.length x _ (hk k x hkx) hl he
    have := (List.getElem?_eq_some_iff.1 hkx).1
    omega
  refine ⟨⟨hm.os, hm.tape, hm.output, hm.frame, fun _ _ _ => rfl, Nat.le_trans hm.le01 hm.le1, Nat.le_refl _, fun k x h => hm.blk k x (hk k x h), fun x hx => Or.inl (by simp; exact ⟨x, hx, rfl⟩), fun x hx => hm.low x (by simp [hx]), fun i j x y hi hj => hm.inj i j x y (hk i x hi) (hk j y hj)⟩, ⟨rfl, rfl, fun a v e => ?_⟩, fun j v hj => ⟨_, rfl, ?_⟩⟩
  · unfold factF at e ⊢
    split at e
    · simp at e
    · rename_i hg
      have hlt := block_lt_of_cell e
      rw [if_neg]
      · exact ext_cell hm hg e
      · simp only [List.mem_map, not_exists, not_and]
        intro x hx he
        rcases hm.fresh x (by simp [hx]) with h | h
        · exact hg (he ▸ h)
        · omega
  · rw [addr_add]
    unfold newF factF
    simp only
    rw [if_pos hb, if_neg hbm]
    simp only at hw
    unfold World.cell?
    rw [hw]
    simpa using hj

theorem one_op {n : Nat} {o : Oper} {k : List It} {cx : Cx} {tm : Tm} {mem : List Blk} {a : Act} {w : World} {K : Act → World → Prop} {Q' : Exit → Act → World → Prop}
    (h : vcs P σ N QS (n + 1) (.op o :: k) cx tm mem) (ht : TmRel N tm a) (hm : MemRel cx mem w)
    (ih : ∀ cx tm mem a w, vcs P σ N QS n k cx tm mem → TmRel N tm a → MemRel cx mem w → K a w) :
    o.wp P a w K Q' := by
  have hev := eval_get ht
  obtain ⟨dst, op, ty, pos, aft, gd⟩ := o
  simp only [vcs] at h
  obtain ⟨hd, h⟩ := h
  have hpure : ∀ {op'}, (⟨dst, op', ty, pos, aft, gd⟩ : Oper) = ⟨dst, op, ty, pos, aft, gd⟩ → (match pureFn P tm mem op' with
      | some (c, ob) => ob ∧ vcs P σ N QS n k cx (put tm dst c) mem
      | none => False) → (⟨dst, op, ty, pos, aft, gd⟩ : Oper).wp P a w K Q' := by
    intro op' e hp
    simp only [Oper.mk.injEq, true_and, and_true] at e
    subst e
    split at hp
    · rename_i c ob hc
      exact pure_wp ht hm hc hp.1 hd fun a' ha' => ih _ _ _ _ _ hp.2 ha' hm
    · exact hp.elim
  cases op
  case call c =>
    simp only at h
    split at h
    · rename_i fo hc
      split at h
      · rename_i f first cap hf
        obtain ⟨rfl, rfl, h⟩ := h
        split at h
        · rename_i con hcon
          have hff := findCon_f σ.cons f con hcon
          subst hff
          have hr := fun x w' => call_run (P := P) (o := ⟨dst, .call c, ty, pos, aft, gd⟩) (a := a) (w := w) (w' := w') (con := con) (x := x) rfl hc (by rw [hev, hf]; rfl)
          have hargs : c.args.map a.eval = ((c.args.toList.map (get tm)).map den).toArray := by
            apply Array.ext'
            simp only [Array.toList_map, List.map_map]
            apply List.map_congr_left
            intro x _
            exact hev x
          rw [hargs] at hr
          rcases con.sound cx _ mem _ w hm h with ⟨h1, h2⟩ | ⟨v', w'', h1, h2⟩
          · unfold Oper.wp
            rw [hr _ _ h1]
            simp only [Oper.upon_enter]
            refine h2.mono ?_
            rintro e w' ⟨cx', x, mem', rfl, hm', hk⟩
            exact ih _ _ _ _ _ hk (put_rel ht dst x (dst_of hd)) hm'
          · obtain ⟨cx', x, mem', e, hm', hk⟩ := h2
            simp only [Ending.returned.injEq] at e
            subst e
            exact op_value (hr _ _ h1) (ih _ _ _ _ _ hk (put_rel ht dst x (dst_of hd)) hm')
        · exact h.elim
      · exact h.elim
    · rename_i hc
      obtain ⟨x, m', w', hr, hm', hk⟩ := appV_sound (o := ⟨dst, .call c, ty, pos, aft, gd⟩) ht hm rfl hc h
      exact op_value hr (ih _ _ _ _ _ hk (put_rel ht dst x (dst_of hd)) hm')
    · rename_i hc
      obtain ⟨x, m', w', hr, hm', hk⟩ := copyV_sound (o := ⟨dst, .call c, ty, pos, aft, gd⟩) ht hm rfl hc h
      exact op_value hr (ih _ _ _ _ _ hk (put_rel ht dst x (dst_of hd)) hm')
    · exact hpure rfl h
  case makeSlice t l c =>
    simp only at h
    obtain ⟨x, m', w', hr, hm', hk⟩ := makeSliceV_sound (o := ⟨dst, .makeSlice t l c, ty, pos, aft, gd⟩) ht hm rfl h
    exact op_value hr (ih _ _ _ _ _ hk (put_rel ht dst x (dst_of hd)) hm')
  case store t x y =>
    simp only at h
    split at h
    · rename_i m ob hs
      obtain ⟨w', hr, hm'⟩ := storeFn_sound (o := ⟨dst, .store t x y, ty, pos, aft, gd⟩) ht hm hs h.1
      exact op_skip hr (ih _ _ _ _ _ h.2 (put_rel ht dst (.v undef) (dst_of hd)) hm')
    · exact h.elim
  case alloc t =>
    simp only at h
    split at h
    · rename_i cells ty' mk ob hs
      obtain ⟨b, w', hr, hm', _⟩ := newFn_sound (o := ⟨dst, .alloc t, ty, pos, aft, gd⟩) ht hm hs h.1
      exact op_value hr (ih _ _ _ _ _ (h.2 b) (put_rel ht dst (mk b) (dst_of hd)) hm')
    · exact h.elim
  case box t x =>
    simp only at h
    split at h
    · rename_i cells ty' mk ob hs
      obtain ⟨b, w', hr, hm', _⟩ := newFn_sound (o := ⟨dst, .box t x, ty, pos, aft, gd⟩) ht hm hs h.1
      exact op_value hr (ih _ _ _ _ _ (h.2 b) (put_rel ht dst (mk b) (dst_of hd)) hm')
    · exact h.elim
  case buildSlice t l ps =>
    simp only at h
    split at h
    · rename_i cells ty' mk ob hs
      obtain ⟨b, w', hr, hm', hb⟩ := newFn_sound (o := ⟨dst, .buildSlice t l ps, ty, pos, aft, gd⟩) ht hm hs h.1
      obtain ⟨ho, h⟩ := h
      split at h
      · exact op_value hr (ih _ _ _ _ _ (h b) (put_rel ht dst (mk b) (dst_of hd)) hm')
      · have hb0 : cx.w0.heap.size ≤ b := Nat.le_trans (Nat.le_trans hm.le01 hm.le1) hb
        obtain ⟨h1, h2, h3⟩ := memRel_freeze hm' hb0
        have hmk := newFn_slice hs
        rw [hmk] at hr
        exact op_value hr (ih _ _ _ _ _ (h _ _ h2 h3) (put_rel ht dst (.v (.slice (some ⟨b, 0, none⟩) l l)) (dst_of hd)) h1)
    · exact h.elim
  case build t ps =>
    simp only at h
    split at h
    · rename_i c ob hs
      exact build_wp rfl ht hs h.1 hd fun a' ha' => ih _ _ _ _ _ h.2 ha' hm
    · exact h.elim
  case load t x =>
    simp only at h
    split at h
    · rename_i p hx
      obtain ⟨ad, rfl, h⟩ := h
      split at h
      · rename_i ha
        obtain ⟨vs, hl, hv, h⟩ := h
        have hr := ext_agg (P := P) (w := w) ha hl (fun j v hj => nowF_cell hm (hv j v hj))
        exact load_wp rfl ht hx hr hd fun a' ha' => ih _ _ _ _ _ h ha' hm
      · rename_i ha
        obtain ⟨v, hv, h⟩ := h
        exact load_wp rfl ht hx (ext_one ha (nowF_cell hm hv)) hd fun a' ha' => ih _ _ _ _ _ h ha' hm
      · exact h.elim
    · exact hpure rfl h
  case binOp op t x y yt =>
    simp only at h
    split at h
    · rename_i fk va hx
      split at h
      · rename_i fk' vb hy
        split at h
        · rename_i res hres
          obtain ⟨rfl, _, h⟩ := h
          obtain ⟨r, nn, hr, hf⟩ := float_run (P := P) hres t x y w
          refine op_value (v := .float fk r) (w' := { w with drawn := nn }) ?_ (ih _ _ _ _ _ (h r hf) (put_rel ht dst (.v (.float fk r)) (dst_of hd)) (memRel_drew hm nn))
          simp only [execOp, hev, hx, hy, den]
          rw [Sem.run_bind, hr]; rfl
        · exact hpure rfl h
      · exact h.elim
    · exact hpure rfl h
  case convert src dt x =>
    simp only at h
    split at h
    · rename_i s b hx
      split at h
      · rename_i fk0 hd'
        split at h
        · rename_i ik hu
          obtain ⟨r, nn, hr, hf⟩ := f2i_run (P := P) s b ik w
          refine op_value (v := .int ik r) (w' := { w with drawn := nn }) ?_ (ih _ _ _ _ _ (h r hf) (put_rel ht dst (.v (.int ik r)) (dst_of hd)) (memRel_drew hm nn))
          simp only [execOp, hev, hx, den, convert, Sem.run_bind, run_underlying hd', Result.andThen_ok, run_underlying hu, hr]
          rfl
        · exact h.elim
      · exact h.elim
    · rename_i k' b off len cap hx
      split at h
      · rename_i e hs
        split at h
        · rename_i he
          split at h
          · rename_i hd'
            obtain ⟨c, hr, hk⟩ := textV_sound (P := P) (cap := cap) hm hs he hd' h
            refine op_value (v := den c) (w' := w) ?_ (ih _ _ _ _ _ hk (put_rel ht dst c (dst_of hd)) hm)
            simp only [execOp, hev, hx, den, Sem.run_bind, hr]
            rfl
          · exact h.elim
        · exact h.elim
      · exact h.elim
    · rename_i o' len cap hx
      split at h
      · rename_i e hs
        split at h
        · rename_i he
          split at h
          · rename_i hd'
            obtain ⟨vs, hl, hv, h⟩ := h
            split at h
            · rename_i l hb
              have hr := textF_run (P := P) (cap := cap) hm hs he hd' hl hv hb
              refine op_value (v := .string ⟨l.toArray⟩) (w' := w) ?_ (ih _ _ _ _ _ h (put_rel ht dst (.v (.string ⟨l.toArray⟩)) (dst_of hd)) hm)
              simp only [execOp, hev, hx, den, Sem.run_bind, hr]
              rfl
            · exact h.elim
          · exact h.elim
        · exact h.elim
      · exact h.elim
    · exact hpure rfl h
  all_goals exact hpure rfl h

theorem one_opF {n : Nat} {o : Oper} {k : List It} {cx : Cx} {tm : Tm} {mem ex : List Blk} {a : Act} {w : World} {K : Act → World → Prop} {Q' : Exit → Act → World → Prop}
    (h : vcs P σ N QS (n + 1) (.op o :: k) cx tm mem) (hf : isFr σ o.op = true) (ht : TmRel N tm a) (hm : MemRel cx (mem ++ ex) w)
    (ih : ∀ cx' tm' mem2 a' w', vcs P σ N QS n k cx' tm' mem2 → TmRel N tm' a' → MemRel cx' (mem2 ++ ex) w' → cx'.w0 = cx.w0 → K a' w') :
    o.wp P a w K Q' := by
  have hev := eval_get ht
  obtain ⟨dst, op, ty, pos, aft, gd⟩ := o
  simp only [vcs] at h
  obtain ⟨hd, h⟩ := h
  cases op <;> simp only [isFr, Bool.false_eq_true] at hf
  case call c =>
    simp only at h
    split at hf
    · rename_i f hc
      simp only [hc, get] at h
      obtain ⟨_, _, h⟩ := h
      split at hf
      · rename_i con hcon
        simp only [hcon] at h
        have hff := findCon_f σ.cons f con hcon
        subst hff
        have hr := fun x w' => call_run (P := P) (o := ⟨dst, .call c, ty, pos, aft, gd⟩) (a := a) (w := w) (w' := w') (con := con) (x := x) rfl hc rfl
        have hargs : c.args.map a.eval = ((c.args.toList.map (get tm)).map den).toArray := by
          apply Array.ext'
          simp only [Array.toList_map, List.map_map]
          apply List.map_congr_left
          intro x _
          exact hev x
        rw [hargs] at hr
        have h' := con.frSound hf cx _ mem ex _ h
        rcases con.sound cx _ (mem ++ ex) _ w hm h' with ⟨h1, h2⟩ | ⟨v', w'', h1, h2⟩
        · unfold Oper.wp
          rw [hr _ _ h1]
          simp only [Oper.upon_enter]
          refine h2.mono ?_
          rintro e w' ⟨cx', x, mem', rfl, hm', mem2, rfl, hw, hk⟩
          exact ih _ _ _ _ _ hk (put_rel ht dst x (dst_of hd)) hm' hw
        · obtain ⟨cx', x, mem', e, hm', mem2, rfl, hw, hk⟩ := h2
          simp only [Ending.returned.injEq] at e
          subst e
          exact op_value (hr _ _ h1) (ih _ _ _ _ _ hk (put_rel ht dst x (dst_of hd)) hm' hw)
      · simp at hf
    · simp at hf

theorem lit_run {o : Oper} {tm : Tm} {mem : List Blk} {a : Act} {cells : List C} {ty : TypeId} {mk : Nat → C} {ob : Prop} (hl : isLit N o = true) (ht : TmRel N tm a) (h : newFn P tm mem o.op = some (cells, ty, mk, ob)) (ho : ob) :
    ∃ l, LitOk P a.eval o (cells.map den) ty l ∧ ∃ t ps, o.op = .buildSlice t l ps := by
  obtain ⟨dst, op, oty, pos, aft, gd⟩ := o
  have hev := eval_get ht
  unfold isLit at hl
  split at hl
  · rename_i t l ps d hop _ _
    simp only at hop
    subst hop
    refine ⟨l, fun w => ?_, t, ps, rfl⟩
    simp only [newFn] at h
    split at h <;> (try simp only [reduceCtorEq] at h)
    rename_i e hu
    split at h <;> (try simp only [Option.some.injEq, Prod.mk.injEq, reduceCtorEq] at h)
    rename_i cs ob' hp
    obtain ⟨rfl, rfl, rfl, rfl⟩ := h
    obtain ⟨ho', hz0, hpl, hlim, hzs⟩ := ho
    obtain ⟨i, hi⟩ := cells_info hz0
    obtain ⟨z, hz⟩ := Option.isSome_iff_exists.1 hzs
    obtain ⟨zv, hzv, hzr⟩ := zeroL_run hz w
    have hf := fun base hb => fillL_fill _ _ _ _ (partsC_fill ht (P.cellsOf e) ps.toList 0 cs ob' base hp ho' hb)
    simp only [Nat.zero_mul, List.take_zero, List.nil_append] at hf
    have hnl : ¬ 16777216 < l * P.cellsOf e := by omega
    have hpe : (ps.map fun (i, x) => (i, a.eval x)).toList = ps.toList.map fun x => (x.1, a.eval x.2) := by simp
    have hf2 := fun (f : Nat → Value) => hf ((List.range (l * P.cellsOf e)).map f) (by simp [hpl])
    have hra : ∀ (f : Nat → Value), (Array.range (l * P.cellsOf e)).map f = ((List.range (l * P.cellsOf e)).map f).toArray := by
      intro f; apply Array.ext'; simp
    have hnl2 : ¬ (l * P.cellsOf e > 2 ^ 24) := by simpa using hnl
    have hrun : (Instr.buildSlice t l (ps.map fun (i, x) => (i, a.eval x))).run P w = .ok (.slice (some ⟨w.heap.size, 0, none⟩) l l) (w.alloc (.cells (cs.map den).toArray e)) := by
      simp only [Instr.buildSlice, Sem.run_bind, run_underlying hu, Result.andThen_ok, run_size hi]
      rw [if_neg hnl2]
      simp only [hra, hpe, hf2]
      split <;> simp [newRow, hzr]
    simp only [execOp, Sem.run_bind, hrun, Result.andThen_ok]
    rfl
  · simp at hl
theorem memRel_back {cx : Cx} {mem ex ex' : List Blk} {w w' : World} (hm : MemRel cx (mem ++ (ex ++ ex')) w) (hm' : MemRel ⟨cx.w0, cx.g0, w, (mem ++ ex).map (·.id)⟩ mem w') : MemRel cx mem w' := by
  refine ⟨hm'.os, hm'.tape, hm'.output, hm'.frame, fun i hi hg => ?_, hm.le01, Nat.le_trans hm.le1 hm'.le1, hm'.blk, fun b hb => hm.fresh b (by simp [hb]), hm'.low, hm'.inj⟩
  rw [← hm.facts i hi hg]
  refine hm'.facts i (Nat.lt_of_lt_of_le hi hm.le1) fun h => ?_
  simp only [List.mem_map] at h
  obtain ⟨bl, hbl, rfl⟩ := h
  rcases hm.fresh bl (by simp only [List.mem_append] at hbl ⊢; rcases hbl with h | h <;> simp [h]) with h | h
  · exact hg h
  · omega

theorem guard_split {all : List Oper} {o : Oper} {X : It} {k : List It} {m : Nat} {cx : Cx} {tm : Tm} {mem : List Blk} {a : Act} (ht : TmRel N tm a)
    (h : match o.guard with
      | none => vcs P σ N QS m (.op o :: X :: k) cx tm mem
      | some (j, want) => match (all[j]?).bind (·.dst) with
        | some d => match look tm d with
          | .v (.bool b) => Guard b want (vcs P σ N QS m (.op o :: X :: k) cx ((d, .v (.bool want)) :: tm) mem)
              (dstOk N o.dst ∧ vcs P σ N QS m (X :: k) cx (put ((d, .v (.bool (!want))) :: tm) o.dst (.v undef)) mem)
          | .v (.tuple _) => dstOk N o.dst ∧ vcs P σ N QS m (X :: k) cx (put tm o.dst (.v undef)) mem
          | _ => False
        | none => False) :
    (Region.wanted o (yielded all.toArray a.tmps) = true → ∃ tm', TmRel N tm' a ∧ vcs P σ N QS m (.op o :: X :: k) cx tm' mem) ∧
    (Region.wanted o (yielded all.toArray a.tmps) = false → dstOk N o.dst ∧ ∃ tm', TmRel N tm' (a.put o.dst undef) ∧ vcs P σ N QS m (X :: k) cx tm' mem) := by
  have hw := wanted_look (all := all) (o := o) ht
  split at h
  · rename_i hg
    rw [hg] at hw
    exact ⟨fun _ => ⟨tm, ht, h⟩, fun h' => by rw [hw] at h'; simp at h'⟩
  · rename_i j want hg
    simp only [hg] at hw
    split at h
    · rename_i d hdd
      simp only [hdd] at hw
      split at h
      · rename_i b hl
        simp only [hl] at hw
        by_cases e : b = want
        · refine ⟨fun _ => ⟨_, ht.lay hl e, h.1 e⟩, fun h' => ?_⟩
          rw [hw] at h'; simp [e] at h'
        · have hb : (!b) = want := by cases b <;> cases want <;> simp_all
          refine ⟨fun h' => ?_, fun _ => ⟨(h.2 hb).1, _, put_rel (ht.lay hl (by cases b <;> cases want <;> simp_all)) o.dst (.v undef) (dst_of (h.2 hb).1), (h.2 hb).2⟩⟩
          rw [hw] at h'; simp [e] at h'
      · rename_i vs hl
        simp only [hl] at hw
        refine ⟨fun h' => ?_, fun _ => ⟨h.1, _, put_rel ht o.dst (.v undef) (dst_of h.1), h.2⟩⟩
        rw [hw] at h'; simp at h'
      · exact h.elim
    · exact h.elim

theorem owes_of {ops : List Oper} {k : List It} (I : List (Nat × Bool) → It) (B : Nat) (ok : List (Nat × Bool) → Prop)
    (h0 : ∀ m cx tm mem, vcs P σ N QS m (I [] :: k) cx tm mem → ∃ m', m' < m ∧ vcs P σ N QS m' k cx tm mem)
    (h1 : ∀ i es o m cx tm mem, ok ((i, false) :: es) → ops[i]? = some o → vcs P σ N QS m (I ((i, false) :: es) :: k) cx tm mem → ok es ∧ ∃ m', m' < m ∧
      match o.guard with
      | none => vcs P σ N QS m' (.op o :: I es :: k) cx tm mem
      | some (j, want) => match (ops[j]?).bind (·.dst) with
        | some d => match look tm d with
          | .v (.bool b) => (b = want → vcs P σ N QS m' (.op o :: I es :: k) cx ((d, .v (.bool want)) :: tm) mem) ∧
              ((!b) = want → dstOk N o.dst ∧ vcs P σ N QS m' (I es :: k) cx (put ((d, .v (.bool (!want))) :: tm) o.dst (.v undef)) mem)
          | .v (.tuple _) => dstOk N o.dst ∧ vcs P σ N QS m' (I es :: k) cx (put tm o.dst (.v undef)) mem
          | _ => False
        | none => False)
    (h2 : ∀ i es m cx tm mem, ok ((i, true) :: es) → vcs P σ N QS m (I ((i, true) :: es) :: k) cx tm mem → ok es ∧ ∃ m' o, m' < m ∧ ops[i]? = some o ∧ vcs P σ N QS m' (I es :: k) cx tm mem ∧
      ((isLit N o = true ∧ ∃ cells ty mk ob, newFn P tm mem o.op = some (cells, ty, mk, ob) ∧ ob) ∨ (isLit N o = false ∧ (∀ a, TmRel N tm a → Region.wanted o (yielded ops.toArray a.tmps) = true) ∧ ∃ c, (∀ a, TmRel N tm a → RunLd P cx mem a.eval o c) ∧ ∀ d, o.dst = some d → look tm d = c))) :
    Owes P σ N ops (fun es cx tm mem => ok es ∧ ∃ m, m < B ∧ vcs P σ N QS m (I es :: k) cx tm mem) (fun cx tm mem => ∃ m, m < B ∧ vcs P σ N QS m k cx tm mem) := by
  have hop : ∀ {m o es cx tm mem}, vcs P σ N QS m (.op o :: I es :: k) cx tm mem → ∃ m', m = m' + 1 := by
    intro m o es cx tm mem h
    cases m with
    | zero => simp [vcs] at h
    | succ m => exact ⟨m, rfl⟩
  refine { fin := fun cx tm mem ⟨_, m, hm, h⟩ => ?_, chk := fun i es cx tm mem a ⟨hok, m, hm, h⟩ ht => ?_, dst := fun i es cx tm mem o ⟨hok, m, hm, h⟩ ho a ht _ => ?_, skip := fun i es cx tm mem o a ⟨hok, m, hm, h⟩ ho ht hw => ?_,
           pure := fun i es cx tm mem o a ⟨hok, m, hm, h⟩ ho ht hw hd => ?_, alloc := fun i es cx tm mem o a t z ⟨hok, m, hm, h⟩ ho ht hw hop' hz b => ?_, eff := fun i es cx tm mem o a ⟨hok, m, hm, h⟩ ho ht hw w hmr => ?_, effF := fun i es cx tm mem o a ⟨hok, m, hm, h⟩ ho ht hw hfr ex w hmr => ?_, lit := fun i es cx tm mem o a z t l b ex w ⟨hok, m, hm, h⟩ ho ht hlit hlo hmr hw0 => ?_ }
  · obtain ⟨m', hl, h⟩ := h0 m cx tm mem h
    exact ⟨m', by omega, h⟩
  · obtain ⟨hok', m', o, hl, ho, h, hcase⟩ := h2 i es m cx tm mem hok h
    refine ⟨o, ho, ⟨hok', m', by omega, h⟩, ?_⟩
    rcases hcase with ⟨hlit, cells, ty, mk, ob, hnf, hob⟩ | ⟨hlit, hwt, c, hrl, hdst⟩
    · obtain ⟨l, h1, _⟩ := lit_run hlit ht hnf hob
      exact Or.inl ⟨hlit, _, _, l, h1⟩
    · refine Or.inr ⟨hlit, hwt a ht, c, hrl a ht, fun d hd => ?_⟩
      rw [ht.slot d, hdst d hd]
  · obtain ⟨hok', m', hl, h⟩ := h1 i es o m cx tm mem hok ho h
    have hlit' := hlit
    unfold isLit at hlit'
    split at hlit'
    · rename_i t0 l0 ps d hop' hg hdst
      rw [hg] at h
      simp only at h
      obtain ⟨m'', rfl⟩ := hop h
      obtain ⟨dst, op, ty, pos, aft, gd⟩ := o
      simp only at hop' hg hdst
      subst hop' hg hdst
      simp only [vcs] at h
      obtain ⟨hd, h⟩ := h
      split at h
      · rename_i cells ty' mk ob hnf
        obtain ⟨hob, h⟩ := h
        obtain ⟨l1, hrun, t1, ps1, e1⟩ := lit_run (o := ⟨some d, .buildSlice t0 l0 ps, ty, pos, aft, none⟩) hlit ht hnf hob
        simp only [Op.buildSlice.injEq] at e1
        obtain ⟨rfl, rfl, rfl⟩ := e1
        simp only [Bool.and_eq_true, bne_iff_ne, ne_eq] at hlit'
        rw [if_neg hlit'.1] at h
        have hq := hlo w
        rw [hrun w] at hq
        simp only [Result.ok.injEq, Next.value.injEq, Value.slice.injEq] at hq
        obtain ⟨⟨_, rfl, _⟩, hq⟩ := hq
        have hinj : ∀ (o1 o2 : Obj), w.alloc o1 = w.alloc o2 → o1 = o2 := fun o1 o2 h => by
          have h1 : (w.heap.push o1)[w.heap.size]? = (w.heap.push o2)[w.heap.size]? := congrArg (fun (v : World) => v.heap[w.heap.size]?) h
          simpa using h1
        have hq2 := hinj _ _ hq
        simp only [Obj.cells.injEq, and_true] at hq2
        obtain ⟨hq2, rfl⟩ := hq2
        replace hq2 : cells.map den = z := by
          have := congrArg Array.toList hq2
          simpa using this
        obtain ⟨g1, g2, g3⟩ := memRel_freeze (mem := mem ++ ex) (by rw [List.append_assoc]; exact hmr) hw0
        refine ⟨_, _, g1, rfl, fun w' hm' => memRel_back hmr hm', put_rel ht _ (.v (.slice (some ⟨b, 0, none⟩) l0 l0)) (dst_of hd), hok', m'', by omega, h _ _ g2 ?_⟩
        rw [map_den_v] at g3
        rw [hq2]
        exact g3
      · exact h.elim
    · simp at hlit'
  · obtain ⟨hok', m', hl, h⟩ := h1 i es o m cx tm mem hok ho h
    have hs := guard_split ht h
    cases hw : Region.wanted o (yielded ops.toArray a.tmps) with
    | true =>
      obtain ⟨tm', _, h⟩ := hs.1 hw
      obtain ⟨m'', rfl⟩ := hop h
      simp only [vcs] at h
      exact h.1
    | false => exact (hs.2 hw).1
  · obtain ⟨hok', m', hl, h⟩ := h1 i es o m cx tm mem hok ho h
    obtain ⟨_, tm', h3, h4⟩ := (guard_split ht h).2 hw
    exact ⟨tm', h3, hok', m', by omega, h4⟩
  · obtain ⟨hok', m', hl, h⟩ := h1 i es o m cx tm mem hok ho h
    obtain ⟨tm', ht', h⟩ := (guard_split ht h).1 hw
    obtain ⟨m'', rfl⟩ := hop h
    obtain ⟨c, hr, hds, h⟩ := one_draw hd h ht'
    exact ⟨c, _, hr, put_rel ht' o.dst c (dst_of hds), hok', m'', by omega, h⟩
  · obtain ⟨hok', m', hl, h⟩ := h1 i es o m cx tm mem hok ho h
    obtain ⟨tm', ht', h⟩ := (guard_split ht h).1 hw
    obtain ⟨m'', rfl⟩ := hop h
    obtain ⟨dst, op, ty, pos, aft, gd⟩ := o
    simp only at hop'
    subst hop'
    simp only [vcs, newFn, hz] at h
    exact ⟨_, put_rel ht' dst (.p mem.length b 0) (dst_of h.1), hok', m'', by omega, h.2.2 b⟩
  · obtain ⟨hok', m', hl, h⟩ := h1 i es o m cx tm mem hok ho h
    obtain ⟨tm', ht', h⟩ := (guard_split ht h).1 hw
    obtain ⟨m'', rfl⟩ := hop h
    exact one_op h ht' hmr fun cx' tm'' mem' a' w' h1 h2 h3 => ⟨cx', tm'', mem', ⟨hok', m'', by omega, h1⟩, h2, h3⟩
  · obtain ⟨hok', m', hl, h⟩ := h1 i es o m cx tm mem hok ho h
    obtain ⟨tm', ht', h⟩ := (guard_split ht h).1 hw
    obtain ⟨m'', rfl⟩ := hop h
    exact one_opF h hfr ht' hmr fun cx' tm'' mem2 a' w' h1 h2 h3 h4 => ⟨cx', tm'', mem2, ⟨hok', m'', by omega, h1⟩, h2, h3, h4⟩

theorem range_all (ops : List Oper) : ∀ (l : List Oper) (k : Nat), (∀ j, j < l.length → ops[k + j]? = l[j]?) → (List.range' k l.length).filterMap ((fun x : Nat × Bool => ops[x.1]?) ∘ fun i => (i, false)) = l
  | [], k, _ => by simp
  | o :: l, k, h => by
    have h0 := h 0 (by simp)
    have ih := range_all ops l (k + 1) fun j hj => by
      have := h (j + 1) (by simp; omega)
      rw [show k + 1 + j = k + (j + 1) by omega]
      simpa using this
    simp only [List.length_cons, List.range'_succ, List.filterMap_cons, Function.comp]
    simp at h0
    rw [h0]
    simpa using ih

theorem draw_sound (hmx : P.follows .mixedOrders = true) {n : Nat} {ops : List Oper} {k : List It} {cx : Cx} {tm : Tm} {mem : List Blk} {a : Act} {w : World} (hok : drawOk' P σ N ops (textOrder ops) = true)
    (h : vcs P σ N QS n (.ops ops ops :: k) cx tm mem) (ht : TmRel N tm a) (hm : MemRel cx mem w) (id : Nat)
    (ih : ∀ m, m < n + 1 → ∀ cx tm mem a w, vcs P σ N QS m k cx tm mem → TmRel N tm a → MemRel cx mem w → kont P Q k .normal a w) :
    (Code.region id ops.toArray true).wp P (kont P Q k) a w := by
  have hall : (textOrder ops).filterMap (fun x => ops[x.1]?) = ops := by
    unfold textOrder
    rw [List.filterMap_map, List.range_eq_range']
    exact range_all ops ops 0 fun j hj => by simp
  refine draw_main hmx hok (owes_of (k := k) (fun es => .ops ops (es.filterMap fun x => ops[x.1]?)) (n + 1) (fun es => ∀ x ∈ es, x.2 = false) (fun m cx tm mem h => ?_) (fun i es o m cx tm mem hok' ho h => ?_) (fun i es m cx tm mem hok' h => ?_))
    (fun cx tm mem a w ⟨m, hm', h⟩ ht hm => ih m hm' cx tm mem a w h ht hm) ⟨fun x hx => ?_, n, by omega, by rw [hall]; exact h⟩ ht hm id
  · cases m with
    | zero => simp [vcs] at h
    | succ m => simp only [List.filterMap_nil, vcs] at h; exact ⟨m, by omega, h⟩
  · refine ⟨fun x hx => hok' x (by simp [hx]), ?_⟩
    cases m with
    | zero => simp [vcs] at h
    | succ m =>
      simp only [List.filterMap_cons, ho, vcs] at h
      exact ⟨m, by omega, h⟩
  · have := hok' (i, true) (by simp); simp at this
  · unfold textOrder at hx
    simp only [List.mem_map] at hx
    obtain ⟨_, _, rfl⟩ := hx
    rfl

theorem drawC_sound (hmx : P.follows .mixedOrders = true) {n : Nat} {ops : List Oper} {es : List (Nat × Bool)} {k : List It} {cx : Cx} {tm : Tm} {mem : List Blk} {a : Act} {w : World} (hok : drawOk' P σ N ops es = true)
    (h : vcs P σ N QS n (.opsC ops es :: k) cx tm mem) (ht : TmRel N tm a) (hm : MemRel cx mem w) (id : Nat)
    (ih : ∀ m, m < n + 1 → ∀ cx tm mem a w, vcs P σ N QS m k cx tm mem → TmRel N tm a → MemRel cx mem w → kont P Q k .normal a w) :
    (Code.region id ops.toArray true).wp P (kont P Q k) a w := by
  have hld : ∀ (l : List (Nat × Bool)) i, esOk P σ N ops es l = true → (i, true) ∈ l → ∀ o, ops[i]? = some o → isLit N o = true ∨ isLd o.op = true := by
    intro l
    induction l with
    | nil => intro i _ hi; simp at hi
    | cons x l ihl =>
      intro i hes hi o ho
      obtain ⟨j, b⟩ := x
      cases b with
      | true =>
        simp only [esOk, Bool.and_eq_true] at hes
        simp only [List.mem_cons, Prod.mk.injEq, and_true] at hi
        rcases hi with rfl | hi
        · have := hes.1
          rw [ho] at this
          simp only at this
          split at this
          · rename_i hx; exact Or.inl hx
          · simp only [Bool.and_eq_true] at this
            exact Or.inr this.1.1
        · exact ihl i hes.2 hi o ho
      | false =>
        obtain ⟨_, _, _, _, _, h'⟩ := esOk_head hes
        exact ihl i h' (by simpa using hi) o ho
  have hes0 : esOk P σ N ops es es = true := (Bool.and_eq_true _ _ ▸ hok : _ ∧ _).2
  refine draw_main hmx hok (owes_of (k := k) (fun es => .opsC ops es) (n + 1) (fun r => ∀ x ∈ r, x ∈ es) (fun m cx tm mem h => ?_) (fun i r o m cx tm mem hok' ho h => ?_) (fun i r m cx tm mem hok' h => ?_))
    (fun cx tm mem a w ⟨m, hm', h⟩ ht hm => ih m hm' cx tm mem a w h ht hm) ⟨fun x hx => hx, n, by omega, h⟩ ht hm id
  · cases m with
    | zero => simp [vcs] at h
    | succ m => simp only [vcs] at h; exact ⟨m, by omega, h⟩
  · refine ⟨fun x hx => hok' x (by simp [hx]), ?_⟩
    cases m with
    | zero => simp [vcs] at h
    | succ m =>
      simp only [vcs, ho] at h
      exact ⟨m, by omega, h⟩
  · refine ⟨fun x hx => hok' x (by simp [hx]), ?_⟩
    cases m with
    | zero => simp [vcs] at h
    | succ m =>
      simp only [vcs] at h
      split at h
      · rename_i o ho
        obtain ⟨hgd, h⟩ := h
        have hwt : ∀ a, TmRel N tm a → Region.wanted o (yielded ops.toArray a.tmps) = true := fun a ht => by
          rw [wanted_look ht]
          cases hg : o.guard with
          | none => rfl
          | some p =>
            obtain ⟨j, want⟩ := p
            rw [hg] at hgd
            simp only at hgd ⊢
            cases hd : (ops[j]?).bind (·.dst) with
            | none => rw [hd] at hgd; exact hgd.elim
            | some d =>
              rw [hd] at hgd
              simp only at hgd ⊢
              rw [hgd]
              simp
        split at h
        · rename_i t l ps hop
          split at h
          · rename_i cells ty mk ob hnf
            cases hx : isLit N o with
            | true => exact ⟨m, o, by omega, ho, h.2, Or.inl ⟨hx, cells, ty, mk, ob, by rw [hop]; exact hnf, h.1⟩⟩
            | false =>
              have := (hld es i hes0 (hok' (i, true) (by simp)) o ho).resolve_left (by simp [hx])
              rw [hop] at this; simp [isLd] at this
          · exact h.elim
        · rename_i t x hop
          have hnl : isLit N o = false := by
            unfold isLit
            rw [hop]
          split at h
          · rename_i p hx
            obtain ⟨ad, rfl, h⟩ := h
            have hrl : ∀ {v : Value}, (∀ w, MemRel cx mem w → (loadVar t ad).run P w = .ok v w) → ∀ a, TmRel N tm a → RunLd P cx mem a.eval o (.v v) := fun hr a ht w hm => Or.inl (by
              simp [execOp, hop, eval_get ht, hx, den, Instr.loadAt, Instr.sureAddr, hr w hm])
            split at h
            · rename_i ha
              obtain ⟨vs, hl, hv, h⟩ := h
              exact ⟨m, o, by omega, ho, h.2, Or.inr ⟨hnl, hwt, _, hrl (fun w hm => ext_agg (P := P) (w := w) ha hl (fun j v hj => nowF_cell hm (hv j v hj))), h.1⟩⟩
            · rename_i ha
              obtain ⟨v, hv, h⟩ := h
              exact ⟨m, o, by omega, ho, h.2, Or.inr ⟨hnl, hwt, _, hrl (fun w hm => ext_one ha (nowF_cell hm hv)), h.1⟩⟩
            · exact h.elim
          · split at h
            · rename_i c ob hc
              exact ⟨m, o, by omega, ho, h.2.2, Or.inr ⟨hnl, hwt, c, fun a ht w hm => Or.inl (pureFn_sound ht hm (by rw [hop]; exact hc) h.1), h.2.1⟩⟩
            · exact h.elim
        · split at h
          · rename_i hnb _ _ c ob hc
            exact ⟨m, o, by omega, ho, h.2.2, Or.inr ⟨by
              unfold isLit
              split
              · rename_i q _ _
                exact absurd q (hnb _ _ _)
              · rfl, hwt, c, fun a ht w hm => Or.inl (pureFn_sound ht hm hc h.1), h.2.1⟩⟩
          · exact h.elim
      · exact h.elim

end
section
variable {P : Program} {σ : Env P} {N : Nat} {QS : Exit → Cx → Tm → List Blk → Prop} {Q : Exit → Act → World → Prop}

theorem vcs_sound (hmx : P.follows .mixedOrders = true) (hng : NoJump Q) (hQ : ∀ e cx tm mem a w, QS e cx tm mem → TmRel N tm a → MemRel cx mem w → Q e a w) :
    ∀ (n : Nat) (k : List It) (cx : Cx) (tm : Tm) (mem : List Blk) (a : Act) (w : World), (∀ i ∈ k, itOk P σ N i) → vcs P σ N QS n k cx tm mem →
      TmRel N tm a → MemRel cx mem w → kont P Q k .normal a w := by
  intro n
  induction n using Nat.strongRecOn with
  | _ n ih =>
    intro k cx tm mem a w hk h ht hm
    cases n with
    | zero => simp [vcs] at h
    | succ n =>
      have IH := fun k cx tm mem a w => ih n (by omega) k cx tm mem a w
      cases k with
      | nil => simp only [vcs] at h; exact hQ _ _ _ _ _ _ h ht hm
      | cons i k =>
        have hk' : ∀ i ∈ k, itOk P σ N i := fun i hi => hk i (by simp [hi])
        cases i with
        | blk id => simp only [vcs] at h; exact IH k _ _ _ _ _ hk' h ht hm
        | lp M I => simp only [vcs] at h; obtain ⟨rfl, j, h⟩ := h; exact ⟨cx, tm, _, h, ht, memRel_take hm j⟩
        | opsC all es => trivial
        | op o =>
          show o.wp P a w (kont P Q k .normal) (kont P Q k)
          exact one_op h ht hm fun cx tm mem a w h ht hm => IH k _ _ _ _ _ hk' h ht hm
        | ops all l =>
          cases l with
          | nil => simp only [vcs] at h; exact IH k _ _ _ _ _ hk' h ht hm
          | cons o r =>
            have hkr : ∀ i ∈ It.ops all r :: k, itOk P σ N i := by
              intro i hi; simp only [List.mem_cons] at hi
              rcases hi with rfl | hi
              · trivial
              · exact hk' i hi
            have hkor : ∀ i ∈ It.op o :: It.ops all r :: k, itOk P σ N i := by
              intro i hi; simp only [List.mem_cons] at hi
              rcases hi with rfl | rfl | hi
              · trivial
              · trivial
              · exact hk' i hi
            have exec : ∀ m tm, TmRel N tm a → m ≤ n → vcs P σ N QS m (.op o :: .ops all r :: k) cx tm mem →
                o.wp P a w (wpList P all.toArray (kont P Q k) r) (kont P Q k) := by
              intro m tm ht hmn hv
              have := ih m (by omega) (.op o :: .ops all r :: k) cx tm mem a w hkor hv ht hm
              refine wp_congrQ (fun c a w hq => ?_) (fun ⟨a, w, hq⟩ => ⟨a, w, ?_⟩) this
              · rwa [kont_ops_other _ _ _ _ _ _ (by simp)] at hq
              · rwa [kont_ops_other _ _ _ _ _ _ (by simp)] at hq
            have skip : ∀ m tm, TmRel N tm a → m ≤ n → dstOk N o.dst → vcs P σ N QS m (.ops all r :: k) cx (put tm o.dst (.v undef)) mem →
                wpList P all.toArray (kont P Q k) r (a.put o.dst undef) w := by
              intro m tm ht hmn hd hv
              exact ih m (by omega) (.ops all r :: k) cx _ mem _ w hkr hv (put_rel ht o.dst (.v undef) (dst_of hd)) hm
            show wpList P all.toArray (kont P Q k) (o :: r) a w
            simp only [vcs] at h
            simp only [wpList]
            split at h
            · rename_i hg
              rw [if_pos (by simp [Region.wanted, hg])]
              exact Or.inl (exec n tm ht (Nat.le_refl _) h)
            · rename_i j want hg
              split at h
              · rename_i d hd
                have hy := yielded_look (a := a) ht hd
                split at h
                · rename_i b hl
                  rw [hl] at hy
                  by_cases e : b = want
                  · rw [if_pos (by simp [Region.wanted, hg, hy, e])]
                    exact Or.inl (exec n _ (ht.lay hl e) (Nat.le_refl _) (h.1 e))
                  · rw [if_neg (by simp [Region.wanted, hg, hy, e])]
                    have hb : (!b) = want := by cases b <;> cases want <;> simp_all
                    exact skip n _ (ht.lay hl (by cases b <;> cases want <;> simp_all)) (Nat.le_refl _) (h.2 hb).1 (h.2 hb).2
                · rename_i vs hl
                  rw [hl] at hy
                  rw [if_neg (by simp [Region.wanted, hg, hy])]
                  exact skip n tm ht (Nat.le_refl _) h.1 h.2
                · exact h.elim
              · exact h.elim
        | code c =>
          have hc : codeOk P σ N c = true := hk (.code c) (by simp)
          have hadd : ∀ x, itOk P σ N x → ∀ i ∈ x :: k, itOk P σ N i := by
            intro x hx i hi; simp only [List.mem_cons] at hi
            rcases hi with rfl | hi
            · exact hx
            · exact hk' i hi
          show c.wp P (kont P Q k) a w
          cases c with
          | skip => simp only [vcs] at h; exact wp_skip (IH k _ _ _ _ _ hk' h ht hm)
          | seq x y =>
            simp only [vcs] at h
            simp only [codeOk, Bool.and_eq_true] at hc
            have := IH (.code x :: .code y :: k) cx tm mem a w (by
              intro i hi; simp only [List.mem_cons] at hi
              rcases hi with rfl | rfl | hi
              · exact hc.1
              · exact hc.2
              · exact hk' i hi) h ht hm
            rw [kont_code, kont_code] at this
            exact wp_seq this
          | region id ops d =>
            cases d with
            | false =>
              simp only [vcs] at h
              have := IH (.ops ops.toList ops.toList :: k) cx tm mem a w (hadd _ trivial) h ht hm
              exact wp_region_list (by simpa [kont] using this)
            | true =>
              simp only [vcs] at h
              simp only [codeOk, Bool.not_true, Bool.false_or] at hc
              split at h
              · rename_i ho
                rw [ho] at hc
                have := draw_sound hmx (Q := Q) (k := k) hc h ht hm id fun m hm' cx tm mem a w h ht hm => ih m (by omega) k cx tm mem a w hk' h ht hm
                simpa using this
              · rename_i es ho
                rw [ho] at hc
                have := drawC_sound hmx (Q := Q) (k := k) hc h ht hm id fun m hm' cx tm mem a w h ht hm => ih m (by omega) k cx tm mem a w hk' h ht hm
                simpa using this
          | cond c x y =>
            simp only [vcs] at h
            simp only [codeOk, Bool.and_eq_true] at hc
            split at h
            · rename_i b hb
              refine wp_cond_split (t := b) (by rw [eval_get ht, hb]; rfl) (fun e => ?_) (fun e => ?_)
              · exact IH (.code x :: k) _ _ _ _ _ (hadd _ hc.1) (h.1 e) (ht.known hb e) hm
              · exact IH (.code y :: k) _ _ _ _ _ (hadd _ hc.2) (h.2 (by rw [e]; rfl)) (ht.known hb e) hm
            · exact h.elim
          | block id b =>
            simp only [vcs] at h
            simp only [codeOk] at hc
            have := IH (.code b :: .blk id :: k) cx tm mem a w (by
              intro i hi; simp only [List.mem_cons] at hi
              rcases hi with rfl | rfl | hi
              · exact hc
              · trivial
              · exact hk' i hi) h ht hm
            rw [kont_code, kont_blk] at this
            exact wp_block this
          | loop b => simp only [vcs] at h; exact h Q hng hQ a w ht hm
          | exit id =>
            simp only [vcs] at h
            split at h
            · rename_i k' he
              exact wp_exit (kont_exit id k k' a w he (IH k' _ _ _ _ _ (itOk_exit k k' he hk') h ht hm))
            · exact h.elim
          | ret => simp only [vcs] at h; exact wp_ret (by rw [kont_ret]; exact hQ _ _ _ _ _ _ h ht hm)
          | rangeFunc => simp [vcs] at h
          | scope => simp [vcs] at h
          | label => simp [vcs] at h
          | goto => simp [vcs] at h
          | refuse => simp [vcs] at h

theorem kont_goto (l : Nat) : ∀ (k : List It) (a : Act) (w : World), kont P Q k (.goto l) a w = Q (.goto l) a w
  | [], a, w => rfl
  | .code _ :: k, a, w => by simp [kont, kont_goto l k]
  | .ops _ _ :: k, a, w => by simp [kont, kont_goto l k]
  | .opsC _ _ :: k, a, w => by simp [kont, kont_goto l k]
  | .op _ :: k, a, w => by simp [kont, kont_goto l k]
  | .blk _ :: k, a, w => by simp [kont, kont_goto l k]
  | .lp _ _ :: k, a, w => by simp [kont, kont_goto l k]

theorem kont_out : ∀ (k : List It) (a : Act) (w : World), kont P Q k .outgrown a w = Q .outgrown a w
  | [], a, w => rfl
  | .code _ :: k, a, w => by simp [kont, kont_out k]
  | .ops _ _ :: k, a, w => by simp [kont, kont_out k]
  | .opsC _ _ :: k, a, w => by simp [kont, kont_out k]
  | .op _ :: k, a, w => by simp [kont, kont_out k]
  | .blk _ :: k, a, w => by simp [kont, kont_out k]
  | .lp _ _ :: k, a, w => by simp [kont, kont_out k]

theorem NoJump.kont (h : NoJump Q) (k : List It) : NoJump (kont P Q k) := fun a w => by
  refine ⟨by rw [kont_out]; exact (h a w).1, fun l => by rw [kont_goto]; exact (h a w).2 l⟩

theorem steps_next {m m₁ m' : Machine} (h : Steps P m m') (hs : step P m = .next m₁) (hne : m ≠ m') : Steps P m₁ m' := by
  obtain ⟨n, hn⟩ := h
  cases n with
  | zero => simp [runN] at hn; exact (hne hn).elim
  | succ n => simp only [runN, hs] at hn; exact ⟨n, hn⟩

theorem exitTo_len {id : Nat} : ∀ (k k' : List Item), Go.exitTo id k = some k' → k'.length ≤ k.length := by
  intro k
  induction k with
  | nil => intro k' h; simp [Go.exitTo] at h
  | cons x k ih =>
    intro k' h
    unfold Go.exitTo at h
    split at h <;> simp_all
    · split at h
      · simp at h; subst h; omega
      · have := ih k' h; omega
    all_goals (have := ih; omega)

theorem lone_todo {fr fr' : Frame} {cs cs' : List Frame} {w w' : World} (h : lone fr cs w = lone fr' cs' w') : fr = fr' := by
  simp only [lone, Machine.mk.injEq, Array.mk.injEq, List.cons.injEq, Goroutine.mk.injEq] at h
  exact h.2.1.1.1

theorem wp_loop_unroll {c : Code} {a : Act} {w : World} (hng : NoJump Q) (h : c.wp P (Exit.then ((Code.loop c).wp P Q) Q) a w) : (Code.loop c).wp P Q a w := by
  intro b k cs
  obtain ⟨e, a₁, w₁, hq, harr⟩ := h b (.inLoop c :: k) cs
  cases e with
  | normal =>
    obtain ⟨e₂, a₂, w₂, hq₂, harr₂⟩ := hq b k cs
    have h0 : Steps P (lone (b.at a (.code (.loop c) :: k)) cs w) (lone (b.at a₁ (.code c :: .inLoop c :: k)) cs w₁) :=
      .head step_loop (Steps.trans harr (.one step_inLoop))
    have hs1 : step P (lone (b.at a₁ (.code (.loop c) :: k)) cs w₁) = .next (lone (b.at a₁ (.code c :: .inLoop c :: k)) cs w₁) := step_loop
    refine ⟨e₂, a₂, w₂, hq₂, ?_⟩
    cases e₂ with
    | normal =>
      refine h0.trans (steps_next harr₂ hs1 fun e => ?_)
      have := congrArg (fun f : Frame => f.todo.length) (lone_todo e)
      simp [Frame.at] at this
    | exit id =>
      intro k' hk
      refine h0.trans (steps_next (harr₂ k' hk) hs1 fun e => ?_)
      have h1 := congrArg (fun f : Frame => f.todo.length) (lone_todo e)
      have h2 := exitTo_len k k' hk
      simp [Frame.at] at h1
      omega
    | goto l => exact ((hng _ _).2 _ hq₂).elim
    | ret =>
      obtain ⟨todo, hs⟩ := harr₂
      refine ⟨todo, h0.trans (steps_next hs hs1 fun e => ?_)⟩
      have h1 := congrArg (fun f : Frame => match f.mode with | .run => true | _ => false) (lone_todo e)
      simp [Frame.at] at h1
    | panic ch =>
      obtain ⟨todo, hs⟩ := harr₂
      refine ⟨todo, h0.trans (steps_next hs hs1 fun e => ?_)⟩
      have h1 := congrArg (fun f : Frame => match f.mode with | .run => true | _ => false) (lone_todo e)
      simp [Frame.at] at h1
    | outgrown => exact ((hng _ _).1 hq₂).elim
  | exit id => exact ⟨_, a₁, w₁, hq, .of_steps (.one step_loop) (.pass (x := .inLoop c) rfl (fun _ _ => .inl (by simp)) harr)⟩
  | goto l => exact ⟨_, a₁, w₁, hq, .of_steps (.one step_loop) (.pass (x := .inLoop c) rfl (fun _ _ => .inl (by simp)) harr)⟩
  | ret => exact ⟨_, a₁, w₁, hq, .of_steps (.one step_loop) (.pass (x := .inLoop c) rfl (fun _ _ => .inl (by simp)) harr)⟩
  | panic ch => exact ⟨_, a₁, w₁, hq, .of_steps (.one step_loop) (.pass (x := .inLoop c) rfl (fun _ _ => .inl (by simp)) harr)⟩
  | outgrown => exact ⟨_, a₁, w₁, hq, .of_steps (.one step_loop) (.pass (x := .inLoop c) rfl (fun _ _ => .inl (by simp)) harr)⟩

theorem loop_unroll (hmx : P.follows .mixedOrders = true) {n : Nat} {b : Code} {k : List It} {cx : Cx} {tm : Tm} {mem : List Blk} (hbk : itsOk P σ N (.code b :: k) = true)
    (h : vcs P σ N QS n (.code b :: .code (.loop b) :: k) cx tm mem) : LoopSem P N QS b k cx tm mem := by
  have hb : codeOk P σ N b = true := itsOk_all _ hbk (.code b) (by simp)
  have hk : ∀ i ∈ k, itOk P σ N i := fun i hi => itsOk_all _ hbk i (by simp [hi])
  intro Q hng hQ a w ht hm
  refine wp_loop_unroll (hng.kont k) ?_
  have := vcs_sound hmx hng hQ n (.code b :: .code (.loop b) :: k) cx tm mem a w (by
    intro i hi; simp only [List.mem_cons] at hi
    rcases hi with rfl | rfl | hi
    · exact hb
    · simpa [itOk, codeOk] using hb
    · exact hk i hi) h ht hm
  rw [kont_code, kont_code] at this
  refine wp_mono this fun e a w hq => ?_
  cases e <;> exact hq

theorem rounds_mono {c : Code} : ∀ (n m : Nat) (a : Act) (w : World), n ≤ m → Code.rounds P c Q n a w → Code.rounds P c Q m a w
  | 0, _, _, _, _, h => h.elim
  | n + 1, 0, _, _, hl, _ => by omega
  | n + 1, m + 1, a, w, hl, h => by
    rw [rounds_succ] at h ⊢
    refine wp_mono h fun e a w hq => ?_
    cases e
    case normal => exact rounds_mono n m a w (by omega) hq
    all_goals exact hq

theorem loop_inv (hmx : P.follows .mixedOrders = true) {b : Code} {k : List It} {cx : Cx} {tm : Tm} {mem : List Blk} (hbk : itsOk P σ N (.code b :: k) = true)
    (I : Nat → Cx → Tm → List Blk → Prop) (m : Nat) (h0 : I m cx tm mem)
    (hround : ∀ m cx tm mem, I m cx tm mem → ∃ n, vcs P σ N QS n (.code b :: .lp N (fun cx' tm' mem' => ∃ m', m' < m ∧ I m' cx' tm' mem') :: k) cx tm mem) :
    LoopSem P N QS b k cx tm mem := by
  have hb : codeOk P σ N b = true := itsOk_all _ hbk (.code b) (by simp)
  have hk : ∀ i ∈ k, itOk P σ N i := fun i hi => itsOk_all _ hbk i (by simp [hi])
  intro Q hng hQ a w ht hm
  have key : ∀ m cx tm mem a w, I m cx tm mem → TmRel N tm a → MemRel cx mem w → Code.rounds P b (kont P Q k) (m + 1) a w := by
    intro m
    induction m using Nat.strongRecOn with
    | _ m ih =>
      intro cx tm mem a w hI ht hm
      obtain ⟨n, hn⟩ := hround m cx tm mem hI
      have := vcs_sound hmx hng hQ n _ cx tm mem a w (by
        intro i hi; simp only [List.mem_cons] at hi
        rcases hi with rfl | rfl | hi
        · exact hb
        · trivial
        · exact hk i hi) hn ht hm
      rw [kont_code] at this
      rw [rounds_succ]
      refine wp_mono this fun e a' w' hq => ?_
      cases e with
      | normal =>
        obtain ⟨cx', tm', mem', ⟨m', hlt, hI'⟩, ht', hm'⟩ := hq
        exact rounds_mono _ _ _ _ (by omega) (ih m' hlt cx' tm' mem' a' w' hI' ht' hm')
      | _ => exact hq
  exact wp_loop_rounds (m + 1) (key m cx tm mem a w h0 ht hm)

def resFn (P : Program) (tm : Tm) (mem : List Blk) : List ResultVar → Option (List C × Prop)
  | [] => some ([], True)
  | .tmp t :: r => match resFn P tm mem r with
    | some (l, ob) => some (look tm t :: l, ob)
    | none => none
  | .cell t ty :: r => match pureFn P tm mem (.load ty (.tmp t)) with
    | some (c, ob) => match resFn P tm mem r with
      | some (l, ob') => some (c :: l, ob ∧ ob')
      | none => none
    | none => none

def packC : List C → Option C
  | [c] => some c
  | l => match allV l with
    | some vs => some (.v (.tuple vs.toArray))
    | none => none

def endVC (P : Program) (rs : List ResultVar) (K : Cx → C → List Blk → Prop) (e : Exit) (cx : Cx) (tm : Tm) (mem : List Blk) : Prop :=
  match e with
  | .normal | .ret => match resFn P tm mem rs with
    | some (l, ob) => match packC l with
      | some c => ob ∧ K cx c mem
      | none => False
    | none => False
  | _ => False

theorem resFn_run {cx : Cx} {tm : Tm} {mem : List Blk} {a : Act} {w : World} (g : ResultVar → Sem Value) (hg1 : ∀ t, g (.tmp t) = pure (a.tmps.getD t undef))
    (hg2 : ∀ t ty, g (.cell t ty) = (do loadVar ty (← asAddr (a.tmps.getD t undef)))) (ht : TmRel N tm a) (hm : MemRel cx mem w) : ∀ (rs : List ResultVar) (l : List C) (ob : Prop),
    resFn P tm mem rs = some (l, ob) → ob → (rs.mapM g).run P w = .ok (l.map den) w
  | [], l, ob, h, _ => by simp [resFn] at h; obtain ⟨rfl, _⟩ := h; simp
  | .tmp t :: r, l, ob, h, ho => by
    simp only [resFn] at h
    split at h <;> (try simp only [Option.some.injEq, Prod.mk.injEq, reduceCtorEq] at h)
    rename_i l' ob' hr
    obtain ⟨rfl, rfl⟩ := h
    have ih := resFn_run g hg1 hg2 ht hm r l' ob' hr ho
    simp only [List.mapM_cons, hg1, Sem.run_bind, Sem.run_pure, Result.andThen_ok, ih, List.map_cons]
    rw [← ht.slot t]
  | .cell t ty :: r, l, ob, h, ho => by
    simp only [resFn] at h
    split at h <;> (try simp only [reduceCtorEq] at h)
    rename_i c ob1 hc
    split at h <;> (try simp only [Option.some.injEq, Prod.mk.injEq, reduceCtorEq] at h)
    rename_i l' ob' hr
    obtain ⟨rfl, rfl⟩ := h
    have ih := resFn_run g hg1 hg2 ht hm r l' ob' hr ho.2
    have hp := pureFn_sound (o := ⟨none, .load ty (.tmp t), 0, "", #[], none⟩) ht hm hc ho.1
    have hrun : (do loadVar ty (← asAddr (a.tmps.getD t undef)) : Sem Value).run P w = .ok (den c) w := by
      simp only [pureFn] at hc
      split at hc <;> (try simp only [reduceCtorEq] at hc)
      rename_i k b off hx
      have hs := ht.slot t
      have hx' : look tm t = .p k b off := hx
      rw [hx'] at hs
      simp only [execOp, Act.eval, hs, den, Instr.loadAt, Instr.sureAddr, Sem.run_bind, Sem.run_pure, Result.andThen_ok] at hp
      simp only [hs, den, asAddr, Sem.run_bind, Sem.run_pure, Result.andThen_ok]
      generalize (loadVar ty ⟨b, off, none⟩).run P w = r at hp
      cases r with
      | ok v w' => simp at hp; obtain ⟨rfl, rfl⟩ := hp; rfl
      | halt x w' => simp at hp
    rw [List.mapM_cons, hg2, Sem.run_bind, hrun]
    simp only [Result.andThen_ok, Sem.run_bind, ih, Sem.run_pure, List.map_cons]

theorem results_run {cx : Cx} {tm : Tm} {mem : List Blk} {a : Act} {w : World} {fn : Func} (ht : TmRel N tm a) (hm : MemRel cx mem w) {l : List C} {ob : Prop} {c : C}
    (h : resFn P tm mem fn.results.toList = some (l, ob)) (ho : ob) (hp : packC l = some c) : (results fn a.tmps).run P w = .ok (den c) w := by
  unfold results
  rw [Array.mapM_eq_mapM_toList]
  rw [Sem.run_bind, map_eq_pure_bind, Sem.run_bind, resFn_run _ (fun _ => rfl) (fun _ _ => rfl) ht hm _ _ _ h ho]
  simp only [Result.andThen_ok, Sem.run_pure]
  congr 1
  unfold packC at hp
  split at hp
  · simp only [Option.some.injEq] at hp; subst hp; rfl
  · rename_i l' hl
    split at hp <;> (try simp only [Option.some.injEq, reduceCtorEq] at hp)
    rename_i vs hvs
    subst hp
    have e := allV_den _ _ hvs
    rw [dif_neg]
    · simp [den, e]
    · intro hsz
      match l, hl with
      | [], _ => simp at hsz
      | [x], hl => exact hl x rfl
      | _ :: _ :: _, _ => simp at hsz

theorem initTm {args : List C} {n : Nat} : TmRel (args.length + n) ((args.zipIdx.map fun x => (x.2, x.1))) { tmps := (args.map den).toArray ++ Array.replicate n undef, defers := [] } := by
  refine ⟨by simp, rfl, fun s => ?_⟩
  have key : ∀ (l : List C) (k : Nat) (s : Nat), k ≤ s → look ((l.zipIdx k).map fun x => (x.2, x.1)) s = (l[s - k]?).getD (.v undef) := by
    intro l
    induction l with
    | nil => intro k s _; simp [look]
    | cons c l ih =>
      intro k s hk
      simp only [List.zipIdx_cons, List.map_cons, look]
      by_cases e : s = k
      · subst e; simp
      · rw [if_neg e, ih (k + 1) s (by omega)]
        have : s - k = (s - (k + 1)) + 1 := by omega
        rw [this, List.getElem?_cons_succ]
  rw [key args 0 s (by omega)]
  simp only [Nat.sub_zero, Array.getD_eq_getD_getElem?, Array.getElem?_append]
  by_cases hs : s < args.length
  · simp [hs]
  · simp only [List.size_toArray, List.length_map, hs, if_false]
    rw [List.getElem?_eq_none (by omega)]
    simp only [Option.getD_none, den, Array.getElem?_replicate]
    split <;> rfl

theorem calls_of_vcs (hmx : P.follows .mixedOrders = true) {f : FuncId} {fn : Func} {c : Code} (hf : P.funcs[f]? = some fn) (hb : fn.body = some c) (hc : codeOk P σ fn.ntmps c = true)
    {args : List C} (hn : args.length ≤ fn.ntmps) {cx : Cx} {mem : List Blk} {w : World} (hm : MemRel cx mem w) (K : Cx → C → List Blk → Prop) (n : Nat)
    (h : vcs P σ fn.ntmps (endVC P fn.results.toList K) n [.code c] cx (args.zipIdx.map fun x => (x.2, x.1)) mem) :
    Calls P f (args.map den).toArray w (fun e w' => ∃ cx' c mem', e = .returned (den c) ∧ MemRel cx' mem' w' ∧ K cx' c mem') := by
  refine calls_of_wp hf hb ?_
  have hQ : ∀ e cx tm mem a w, endVC P fn.results.toList K e cx tm mem → TmRel fn.ntmps tm a → MemRel cx mem w →
      bodyPost P fn (fun e w' => ∃ cx' c mem', e = .returned (den c) ∧ MemRel cx' mem' w' ∧ K cx' c mem') e a w := by
    intro e cx tm mem a w h ht hm
    have fin : (match resFn P tm mem fn.results.toList with
        | some (l, ob) => match packC l with
          | some c => ob ∧ K cx c mem
          | none => False
        | none => False) → a.defers = [] ∧ ∃ v, (results fn a.tmps).run P w = .ok v w ∧ ∃ cx' c mem', Ending.returned v = .returned (den c) ∧ MemRel cx' mem' w ∧ K cx' c mem' := by
      intro h
      split at h
      · rename_i l ob hl
        split at h
        · rename_i c hp
          exact ⟨ht.defers, _, results_run ht hm hl h.1 hp, cx, c, mem, rfl, hm, h.2⟩
        · exact h.elim
      · exact h.elim
    cases e with
    | normal => exact fin h
    | ret => exact fin h
    | _ => exact h.elim
  have hng : NoJump (bodyPost P fn (fun e w' => ∃ cx' c mem', e = .returned (den c) ∧ MemRel cx' mem' w' ∧ K cx' c mem')) := by
    intro a w
    refine ⟨?_, fun l h => h⟩
    rintro ⟨_, _, _, h, _⟩
    simp at h
  have hi := initTm (args := args) (n := fn.ntmps - args.length)
  rw [show args.length + (fn.ntmps - args.length) = fn.ntmps by omega] at hi
  have := vcs_sound hmx hng hQ n [.code c] cx _ mem _ w (by
    intro i hi; simp only [List.mem_cons, List.not_mem_nil, or_false] at hi; subst hi; exact hc) h hi hm
  simpa [kont] using this

end

section
variable {P : Program}

def Con.pure {ι : Type} (f : FuncId) (henter : ∀ args w, (callFunc f args).run P w = .ok (.enter f args) w) (A : ι → List Value) (pre : ι → Prop) (res : ι → Value)
    (h : ∀ i w, pre i → Calls P f (A i).toArray w (fun e w' => e = .returned (res i) ∧ RowKit.Below w.heap.size w w')) : Con P where
  f := f
  tr cx args mem K := ∃ i, args = (A i).map .v ∧ pre i ∧ K cx (.v (res i)) mem
  sound cx args mem K w hm := by
    rintro ⟨i, rfl, hp, hk⟩
    rw [map_den_v]
    refine Or.inl ⟨henter _ _, (h i w hp).mono ?_⟩
    rintro e w' ⟨rfl, hb⟩
    exact ⟨cx, _, mem, rfl, memRel_below hm hb, hk⟩
  pu := some fun vs v => ∃ i, vs = A i ∧ pre i ∧ v = res i
  puTr rel hrel cx args mem K := by
    simp only [Option.some.injEq] at hrel
    subst hrel
    rintro ⟨i, rfl, hp, hk⟩
    exact ⟨_, _, rfl, ⟨i, rfl, hp, rfl⟩, hk⟩
  puSound rel hrel vs v w := by
    simp only [Option.some.injEq] at hrel
    subst hrel
    rintro ⟨i, rfl, hp, rfl⟩
    exact Or.inl ⟨henter _ _, h i w hp⟩
  rd := false
  rdSound := fun h => by cases h
  fr := true
  frSound _ cx args mem ex K := by
    rintro ⟨i, h1, h2, h3⟩
    exact ⟨i, h1, h2, _, rfl, rfl, h3⟩

def Con.ext {ι : Type} (f : FuncId) (A : ι → List Value) (pre : ι → Prop) (res : ι → Value)
    (h : ∀ i w, pre i → (callFunc f (A i).toArray).run P w = .ok (.value (res i)) w) : Con P where
  f := f
  tr cx args mem K := ∃ i, args = (A i).map .v ∧ pre i ∧ K cx (.v (res i)) mem
  sound cx args mem K w hm := by
    rintro ⟨i, rfl, hp, hk⟩
    rw [map_den_v]
    exact Or.inr ⟨_, _, h i w hp, cx, _, mem, rfl, hm, hk⟩
  pu := some fun vs v => ∃ i, vs = A i ∧ pre i ∧ v = res i
  puTr rel hrel cx args mem K := by
    simp only [Option.some.injEq] at hrel
    subst hrel
    rintro ⟨i, rfl, hp, hk⟩
    exact ⟨_, _, rfl, ⟨i, rfl, hp, rfl⟩, hk⟩
  puSound rel hrel vs v w := by
    simp only [Option.some.injEq] at hrel
    subst hrel
    rintro ⟨i, rfl, hp, rfl⟩
    exact Or.inr ⟨_, h i w hp, rfl, RowKit.Below.refl _ _⟩
  rd := false
  rdSound := fun h => by cases h
  fr := true
  frSound _ cx args mem ex K := by
    rintro ⟨i, h1, h2, h3⟩
    exact ⟨i, h1, h2, _, rfl, rfl, h3⟩

def Con.extS {ι : Type} (f : FuncId) (A : ι → List Value) (pre : ι → Prop) (post : ι → Value → Prop)
    (h : ∀ i w, pre i → ∃ v n, (callFunc f (A i).toArray).run P w = .ok (.value v) { w with drawn := n } ∧ post i v) : Con P where
  f := f
  tr cx args mem K := ∃ i, args = (A i).map .v ∧ pre i ∧ ∀ v, post i v → K cx (.v v) mem
  sound cx args mem K w hm := by
    rintro ⟨i, rfl, hp, hk⟩
    rw [map_den_v]
    obtain ⟨v, n, h1, h2⟩ := h i w hp
    exact Or.inr ⟨_, _, h1, cx, _, mem, rfl, memRel_drew hm n, hk v h2⟩
  pu := none
  puTr rel hrel := by simp at hrel
  puSound rel hrel := by simp at hrel
  rd := false
  rdSound := fun h => by cases h
  fr := true
  frSound _ cx args mem ex K := by
    rintro ⟨i, h1, h2, h3⟩
    exact ⟨i, h1, h2, fun v hv => ⟨_, rfl, rfl, h3 v hv⟩⟩

def Con.some {ι : Type} (f : FuncId) (henter : ∀ args w, (callFunc f args).run P w = .ok (.enter f args) w) (A : ι → List Value) (pre : ι → Prop) (post : ι → Value → Prop)
    (h : ∀ i w, pre i → Calls P f (A i).toArray w (fun e w' => ∃ v, e = .returned v ∧ post i v ∧ RowKit.Below w.heap.size w w')) : Con P where
  f := f
  tr cx args mem K := ∃ i, args = (A i).map .v ∧ pre i ∧ ∀ v, post i v → K cx (.v v) mem
  sound cx args mem K w hm := by
    rintro ⟨i, rfl, hp, hk⟩
    rw [map_den_v]
    refine Or.inl ⟨henter _ _, (h i w hp).mono ?_⟩
    rintro e w' ⟨v, rfl, hpo, hb⟩
    exact ⟨cx, _, mem, rfl, memRel_below hm hb, hk v hpo⟩
  pu := none
  puTr rel hrel := by simp at hrel
  puSound rel hrel := by simp at hrel
  rd := false
  rdSound := fun h => by cases h
  fr := true
  frSound _ cx args mem ex K := by
    rintro ⟨i, h1, h2, h3⟩
    exact ⟨i, h1, h2, fun v hv => ⟨_, rfl, rfl, h3 v hv⟩⟩

theorem below_of_rel {cx : Cx} {mem : List Blk} {w w' : World} (hm : MemRel cx mem w') (h0 : cx.w0 = w) (hg : cx.g0 = []) : RowKit.Below w.heap.size w w' := by
  subst h0
  exact ⟨hm.os, hm.tape, hm.output, Nat.le_trans hm.le01 hm.le1, fun k hk => hm.frame k hk (by rw [hg]; simp)⟩

theorem plain_of_vcs (σ : Env P) (hmx : P.follows .mixedOrders = true) {f : FuncId} {fn : Func} {c : Code} (hf : P.funcs[f]? = some fn) (hb : fn.body = some c) (hc : codeOk P σ fn.ntmps c = true)
    {args : List Value} (hn : args.length ≤ fn.ntmps) (w : World) (R : Value → Prop) (n : Nat)
    (h : vcs P σ fn.ntmps (endVC P fn.results.toList fun cx c _ => cx.w0 = w ∧ cx.g0 = [] ∧ ∃ v, c = .v v ∧ R v) n [.code c] ⟨w, [], w, []⟩ (args.zipIdx.map fun x => (x.2, .v x.1)) []) :
    Calls P f args.toArray w (fun e w' => ∃ v, e = .returned v ∧ R v ∧ RowKit.Below w.heap.size w w') := by
  have := calls_of_vcs (σ := σ) hmx hf hb hc (args := args.map .v) (by simpa using hn) (memRel_nil w) (fun cx c _ => cx.w0 = w ∧ cx.g0 = [] ∧ ∃ v, c = .v v ∧ R v) n (by
    simpa [List.zipIdx_map, Function.comp_def] using h)
  rw [map_den_v] at this
  refine this.mono ?_
  rintro e w' ⟨cx', c, mem', rfl, hm, h0, hg, v, rfl, hR⟩
  exact ⟨v, rfl, hR, below_of_rel hm h0 hg⟩

end

/- The equations of vcs once more, with proofs that are no 'rfl': else the kernel walks by itself, and slowly. -/
theorem vcsE1 : type_of% @vcs.eq_1 := by
  intros
  first | exact Eq.trans (vcs.eq_1 ..) rfl | (rw [vcs.eq_1] <;> assumption)
theorem vcsE2 : type_of% @vcs.eq_2 := by
  intros
  first | exact Eq.trans (vcs.eq_2 ..) rfl | (rw [vcs.eq_2] <;> assumption)
theorem vcsE3 : type_of% @vcs.eq_3 := by
  intros
  first | exact Eq.trans (vcs.eq_3 ..) rfl | (rw [vcs.eq_3] <;> assumption)
theorem vcsE4 : type_of% @vcs.eq_4 := by
  intros
  first | exact Eq.trans (vcs.eq_4 ..) rfl | (rw [vcs.eq_4] <;> assumption)
theorem vcsE5 : type_of% @vcs.eq_5 := by
  intros
  first | exact Eq.trans (vcs.eq_5 ..) rfl | (rw [vcs.eq_5] <;> assumption)
theorem vcsE6 : type_of% @vcs.eq_6 := by
  intros
  first | exact Eq.trans (vcs.eq_6 ..) rfl | (rw [vcs.eq_6] <;> assumption)
theorem vcsE7 : type_of% @vcs.eq_7 := by
  intros
  first | exact Eq.trans (vcs.eq_7 ..) rfl | (rw [vcs.eq_7] <;> assumption)
theorem vcsE8 : type_of% @vcs.eq_8 := by
  intros
  first | exact Eq.trans (vcs.eq_8 ..) rfl | (rw [vcs.eq_8] <;> assumption)
theorem vcsE9 : type_of% @vcs.eq_9 := by
  intros
  first | exact Eq.trans (vcs.eq_9 ..) rfl | (rw [vcs.eq_9] <;> assumption)
theorem vcsE10 : type_of% @vcs.eq_10 := by
  intros
  first | exact Eq.trans (vcs.eq_10 ..) rfl | (rw [vcs.eq_10] <;> assumption)
theorem vcsE11 : type_of% @vcs.eq_11 := by
  intros
  first | exact Eq.trans (vcs.eq_11 ..) rfl | (rw [vcs.eq_11] <;> assumption)
theorem vcsE12 : type_of% @vcs.eq_12 := by
  intros
  first | exact Eq.trans (vcs.eq_12 ..) rfl | (rw [vcs.eq_12] <;> assumption)
theorem vcsE13 : type_of% @vcs.eq_13 := by
  intros
  first | exact Eq.trans (vcs.eq_13 ..) rfl | (rw [vcs.eq_13] <;> assumption)
theorem vcsE14 : type_of% @vcs.eq_14 := by
  intros
  first | exact Eq.trans (vcs.eq_14 ..) rfl | (rw [vcs.eq_14] <;> assumption)
theorem vcsE15 : type_of% @vcs.eq_15 := by
  intros
  first | exact Eq.trans (vcs.eq_15 ..) rfl | (rw [vcs.eq_15] <;> assumption)
theorem vcsE16 : type_of% @vcs.eq_16 := by
  intros
  first | exact Eq.trans (vcs.eq_16 ..) rfl | (rw [vcs.eq_16] <;> assumption)
theorem vcsE17 : type_of% @vcs.eq_17 := by
  intros
  first | exact Eq.trans (vcs.eq_17 ..) rfl | (rw [vcs.eq_17] <;> assumption)
theorem vcsE18 : type_of% @vcs.eq_18 := by
  intros
  first | exact Eq.trans (vcs.eq_18 ..) rfl | (rw [vcs.eq_18] <;> assumption)
theorem vcsE19 : type_of% @vcs.eq_19 := by
  intros
  first | exact Eq.trans (vcs.eq_19 ..) rfl | (rw [vcs.eq_19] <;> assumption)
end Go.Sx
