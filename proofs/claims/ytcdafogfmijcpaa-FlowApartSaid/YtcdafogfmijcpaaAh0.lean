/-
  Abstract values and an evaluator of the operations on them: memory is a table of blocks under made-up names; what nobody writes any more is carried in the value itself.
-/
import Derived.Orders
import Derived.Laws.Sem
namespace Go.Proofs.YtcdafogfmijcpaaW.Ah
set_option linter.unusedVariables false
set_option linter.unusedSimpArgs false

/-- A value, as far as it is known. -/
inductive AV where
  | sc (v : Value)                                   -- this very value
  | own (i o : Nat)                                  -- a pointer into block i, at o
  | osl (i o n : Nat) (c : Option Nat)               -- a slice of block i, from o, n elements; c: its capacity, if known
  | sh (cs : List AV)                                -- a pointer to cells that nobody writes
  | ssl (cs : List AV) (n : Nat) (full : Bool)       -- a slice of such; full: its capacity is its length
  | esl (full : Bool)                                -- an empty slice that is not nil
  | agg (cs : List AV)
  | tup (vs : List AV)
  | fn (f : Fn) (first caps : List AV)
  | omap (i : Nat)
  | yld (i : Nat)                                    -- what a range over a function hands to it; i: the loop's record
  | any

/-- What is known of a type. -/
inductive TK where
  | int (k : IntKind) | bool | str | slice (e : Nat) | arr (n e : Nat) | struct (fs : List (Nat × Nat)) | ptr (e : Nat) | map (k e : Nat) | func | other
  deriving DecidableEq

structure TI where
  k : TK
  size : Nat
  bytes : Nat
  zero : List Value
  eq : Bool := false
  ex : Bool := false

abbrev Tab := Nat → Option TI

/-- How a range over a function stands. -/
inductive LSt where
  | ready | busy | done (c : Code)

inductive Blk where
  | cells (cs : List AV) (ty : Nat)
  | map (es : List (Value × AV × Nat)) (c : Nat)
  | loop (t : Nat → AV) (k : Nat) (ps : Array Nat) (asg bod : Code) (st : LSt)

structure St where
  t : Nat → AV
  H : Nat → Option Blk
  n : Nat

def upd {α : Type} (f : Nat → α) (i : Nat) (v : α) : Nat → α := fun j => if j = i then v else f j
theorem upd_same {α : Type} (f : Nat → α) (i : Nat) (v : α) : upd f i v i = v := by simp [upd]
theorem upd_ne {α : Type} (f : Nat → α) {i j : Nat} (v : α) (h : j ≠ i) : upd f i v j = f j := by simp [upd, h]

def ofVal : Value → AV
  | .agg cs => .agg (cs.toList.map .sc)
  | .tuple cs => .tup (cs.toList.map .sc)
  | .func f a b => .fn f (a.toList.map .sc) (b.toList.map .sc)
  | v => .sc v

def ev (t : Nat → AV) : Operand → AV
  | .tmp i => t i
  | .const v => ofVal v
  | .func f => .fn (.func f) [] []
  | .global _ => .any

abbrev I (n : Int) : AV := .sc (.int .i64 n)
abbrev B (b : Bool) : AV := .sc (.bool b)
abbrev S (s : ByteArray) : AV := .sc (.string s)

/-- The cells that a value takes. -/
def cellsOf : AV → List AV
  | .agg cs => cs
  | v => [v]

/-- It may stand in a cell. -/
def cellOk : AV → Bool
  | .sc v => v.oneCell'
  | .agg _ | .tup _ | .any => false
  | _ => true

def aggK : TK → Bool
  | .struct _ | .arr .. => true
  | _ => false

def sizeT (T : Tab) (t : Nat) : Option Nat := (T t).map (·.size)

/-- It may be a part of a row of cells. -/
def partOk : AV → Bool
  | .agg _ => true
  | v => cellOk v

/-- A part of a row of cells. -/
def partOf (T : Tab) (t : Nat) (cs : List AV) (off : Nat) : Option AV :=
  match T t with
  | some i =>
    if aggK i.k = true then (if off + i.size ≤ cs.length then some (.agg ((cs.drop off).take i.size)) else none)
    else cs[off]?
  | none => none

def intBin (op : BinOp) (k : IntKind) (x y : Int) : Option Value :=
  match op with
  | .add => some (.int k (k.wrap (x + y)))
  | .sub => some (.int k (k.wrap (x - y)))
  | .mul => some (.int k (k.wrap (x * y)))
  | .quo => if y = 0 then none else some (.int k (k.wrap (x.tdiv y)))
  | .rem => if y = 0 then none else some (.int k (x.tmod y))
  | .and => some (.int k (k.wrap (BitVec.ofInt k.bits x &&& BitVec.ofInt k.bits y).toNat))
  | .or => some (.int k (k.wrap (BitVec.ofInt k.bits x ||| BitVec.ofInt k.bits y).toNat))
  | .xor => some (.int k (k.wrap (BitVec.ofInt k.bits x ^^^ BitVec.ofInt k.bits y).toNat))
  | .andNot => some (.int k (k.wrap (BitVec.ofInt k.bits x &&& ~~~(BitVec.ofInt k.bits y)).toNat))
  | .eql => some (.bool (x == y))
  | .neq => some (.bool (x != y))
  | .lss => some (.bool (x < y))
  | .leq => some (.bool (x ≤ y))
  | .gtr => some (.bool (x > y))
  | .geq => some (.bool (x ≥ y))
  | _ => none

def shiftBin (op : BinOp) (k : IntKind) (x y : Int) : Option Value :=
  if y < 0 then none else
  match op with
  | .shl => some (.int k (k.wrap (x * 2 ^ (min y.toNat k.bits))))
  | .shr => some (.int k (x.fdiv (2 ^ (min y.toNat k.bits))))
  | _ => none

def strBin (op : BinOp) (x y : ByteArray) : Option Value :=
  match op with
  | .add => if ((x.size + y.size : Nat) : Int) > IntKind.i64.max then none else some (.string (x ++ y))
  | .eql => some (.bool (x.toList == y.toList))
  | .neq => some (.bool !(x.toList == y.toList))
  | .lss => some (.bool (Op.bytesLess x.toList y.toList))
  | .leq => some (.bool (Op.bytesLess x.toList y.toList || x.toList == y.toList))
  | .gtr => some (.bool !(Op.bytesLess x.toList y.toList || x.toList == y.toList))
  | .geq => some (.bool !(Op.bytesLess x.toList y.toList))
  | _ => none

/-- Two values alike, of a type. -/
def eqT (T : Tab) : Nat → Nat → AV → AV → Option Bool
  | 0, _, _, _ => none
  | d + 1, t, x, y =>
    match T t with
    | none => none
    | some i =>
      match i.k, x, y with
      | .bool, .sc (.bool a), .sc (.bool b) => some (a == b)
      | .int _, .sc (.int k a), .sc (.int k' b) => if k = k' then some (a == b) else none
      | .str, .sc (.string a), .sc (.string b) => some (a == b)
      | .struct fs, .agg xs, .agg ys => if i.eq then eqFs T d fs xs ys else none
      | .arr n e, .agg xs, .agg ys => if i.eq then (match T e with | some j => eqEls T d e j.size (List.range' 0 n) xs ys | none => none) else none
      | .slice _, .sc (.slice none 0 0), .sc (.slice none 0 0) => some true
      | .slice _, .sc (.slice none 0 0), .osl .. | .slice _, .sc (.slice none 0 0), .esl _ => some false
      | .slice _, .sc (.slice none 0 0), .ssl _ n _ => if n = 0 then none else some false
      | .slice _, .osl .., .sc (.slice none 0 0) | .slice _, .esl _, .sc (.slice none 0 0) => some false
      | .slice _, .ssl _ n _, .sc (.slice none 0 0) => if n = 0 then none else some false
      | .ptr _, .sc (.pointer none), .sc (.pointer none) => some true
      | .ptr _, .sc (.pointer none), .own .. | .ptr _, .own .., .sc (.pointer none) => some false
      | .ptr _, .sc (.pointer none), .sh _ | .ptr _, .sh _, .sc (.pointer none) => some false
      | .func, .sc .nilFunc, .sc .nilFunc => some true
      | .func, .sc .nilFunc, .fn .. | .func, .fn .., .sc .nilFunc => some false
      | _, _, _ => none
where
  eqFs (T : Tab) (d : Nat) : List (Nat × Nat) → List AV → List AV → Option Bool
    | [], _, _ => some true
    | (off, t) :: fs, xs, ys =>
      match partOf T t xs off, partOf T t ys off with
      | some a, some b =>
        match eqT T d t a b, eqFs T d fs xs ys with
        | some r, some s => some (r && s)
        | _, _ => none
      | _, _ => none
  eqEls (T : Tab) (d : Nat) (e z : Nat) : List Nat → List AV → List AV → Option Bool
    | [], _, _ => some true
    | k :: ks, xs, ys =>
      match partOf T e xs (k * z), partOf T e ys (k * z) with
      | some a, some b =>
        match eqT T d e a b, eqEls T d e z ks xs ys with
        | some r, some s => some (r && s)
        | _, _ => none
      | _, _ => none

def binAV (T : Tab) (op : BinOp) (t : Nat) (x y : AV) : Option AV :=
  match op, x, y with
  | .shl, .sc (.int k a), .sc (.int _ b) => (shiftBin .shl k a b).map .sc
  | .shr, .sc (.int k a), .sc (.int _ b) => (shiftBin .shr k a b).map .sc
  | op, .sc (.int k a), .sc (.int k' b) => if k = k' then (intBin op k a b).map .sc else none
  | op, .sc (.string a), .sc (.string b) => (strBin op a b).map .sc
  | .eql, x, y => (eqT T Op.maxDepth t x y).map fun b => .sc (.bool b)
  | .neq, x, y => (eqT T Op.maxDepth t x y).map fun b => .sc (.bool !b)
  | _, _, _ => none

def unAV (op : UnOp) (x : AV) : Option AV :=
  match op, x with
  | .neg, .sc (.int k n) => some (.sc (.int k (k.wrap (0 - n))))
  | .xor, .sc (.int k n) => some (.sc (.int k (k.wrap (BitVec.ofInt k.bits (if k.signed then -1 else k.max) ^^^ BitVec.ofInt k.bits n).toNat)))
  | .not, .sc (.bool b) => some (.sc (.bool !b))
  | _, _ => none

/-- Cells that are bytes. -/
def u8s : List AV → Option (List Int)
  | [] => some []
  | .sc (.int .u8 n) :: r => (u8s r).map (n :: ·)
  | _ :: _ => none
/-- A text of bytes. -/
def textOf (ns : List Int) : ByteArray := ns.foldl (fun r n => r.push (UInt8.ofNat n.toNat)) ByteArray.empty
def isU8 (T : Tab) (e : Nat) : Bool := match T e with
  | some i => (match i.k with | .int .u8 => true | _ => false)
  | none => false
def convAV (T : Tab) (src dst : Nat) (x : AV) : Option AV :=
  match T src, T dst with
  | some i, some j =>
    match i.k, j.k, x with
    | _, .int k, .sc (.int _ n) => some (.sc (.int k (k.wrap n)))
    | .str, .str, .sc (.string s) => some (.sc (.string s))
    | .slice e, .str, .ssl cs n _ =>
      match u8s (cs.take n) with
      | some ns => if ns.length = n ∧ isU8 T e = true then some (.sc (.string (textOf ns))) else none
      | none => none
    | .slice e, .str, .sc (.slice none 0 0) => if isU8 T e = true then some (.sc (.string (textOf []))) else none
    | _, _, _ => none
  | _, _ => none

def fillAV (place : Nat → Option (Nat × Nat)) (cells : List AV) : List (Nat × AV) → Option (List AV)
  | [] => some cells
  | (i, v) :: rest =>
    match place i with
    | none => none
    | some (off, size) =>
      if partOk v = true ∧ (cellsOf v).length = size ∧ off + size ≤ cells.length then fillAV place (cells.take off ++ cellsOf v ++ cells.drop (off + size)) rest else none

/-- The slice expression's bounds. -/
def boundOf (x : AV) (y : Nat) : Option Nat :=
  match x with
  | .sc (.int _ i) => if 0 ≤ i ∧ i ≤ y then some i.toNat else none
  | _ => none

def optBound (x : Option AV) (y d : Nat) : Option Nat :=
  match x with
  | some v => boundOf v y
  | none => some d

/-- x[lo:hi:mx] of n elements, of which lim may be taken; c: the capacity, if known. From, up to, the new capacity if known. -/
def bounds (n lim : Nat) (c : Option Nat) (lo hi mx : Option AV) : Option (Nat × Nat × Option Nat) :=
  match mx with
  | none =>
    match optBound hi lim n with
    | some h =>
      match optBound lo h 0 with
      | some l => some (l, h, c.map (· - l))
      | none => none
    | none => none
  | some m =>
    match boundOf m lim with
    | some m =>
      match hi with
      | some h =>
        match boundOf h m with
        | some h =>
          match optBound lo h 0 with
          | some l => some (l, h, some (m - l))
          | none => none
        | none => none
      | none => none
    | none => none

/-- How many elements of a slice of a block may be taken. -/
def limOf (H : Nat → Option Blk) (e z i o n : Nat) : Option Nat → Nat
  | some c => c
  | none =>
    match H i with
    | some (.cells cs ty) => if ty = e then max n ((cs.length - o) / z) else n
    | _ => n

/-- Of a slice that goes to its block's end, the block's elements are its own. -/
def natOk (H : Nat → Option Blk) (e i : Nat) : Option Nat → Bool
  | some _ => true
  | none =>
    match H i with
    | some (.cells _ ty) => ty == e
    | _ => false

/-- A zero of a struct that is built: nil slices are known no longer as such. -/
def zs : Value → AV
  | .slice none 0 0 => .ssl [] 0 false
  | v => .sc v
@[simp] theorem zs_nil : zs (.slice none 0 0) = .ssl [] 0 false := rfl
@[simp] theorem zs_int (k : IntKind) (n : Int) : zs (.int k n) = .sc (.int k n) := rfl
@[simp] theorem zs_bool (b : Bool) : zs (.bool b) = .sc (.bool b) := rfl
@[simp] theorem zs_string (s : ByteArray) : zs (.string s) = .sc (.string s) := rfl
@[simp] theorem zs_ptr : zs (.pointer none) = .sc (.pointer none) := rfl
@[simp] theorem zs_map : zs (.map none) = .sc (.map none) := rfl
@[simp] theorem zs_nilFunc : zs .nilFunc = .sc .nilFunc := rfl
@[simp] theorem zs_nilIface : zs .nilIface = .sc .nilIface := rfl

/-- It is no map. -/
@[simp] def isMapZ : Value → Bool
  | .map none => true
  | _ => false
/-- The zero of a struct that is built: of one with a map, and of one of which the table says so, it is known what is nil. -/
@[simp] def zb (i : TI) : List AV := if (i.ex || i.zero.any isMapZ) = true then i.zero.map .sc else i.zero.map zs

/-- It may be a map's key here. -/
def keyOk : TK → Value → Bool
  | .int _, .int _ _ => true
  | .str, .string _ => true
  | .bool, .bool _ => true
  | _, _ => false

def keyEq : Value → Value → Option Bool
  | .int k a, .int k' b => if k = k' then some (a == b) else none
  | .string a, .string b => some (a == b)
  | .bool a, .bool b => some (a == b)
  | _, _ => none

/-- An entry by its key: its number, its value, when it was made. -/
def findAV (v : Value) : List (Value × AV × Nat) → Nat → Option (Option (Nat × AV × Nat))
  | [], _ => some none
  | (k, x, b) :: es, i =>
    match keyEq v k with
    | some true => some (some (i, x, b))
    | some false => findAV v es (i + 1)
    | none => none

def zeroAV (T : Tab) (t : Nat) : Option AV :=
  match T t with
  | some i =>
    if aggK i.k = true then some (.agg (i.zero.map .sc)) else
    match i.zero with
    | [z] => some (.sc z)
    | _ => none
  | none => none

/-- A map's entries. -/
def mapOf (H : Nat → Option Blk) : AV → Option (List (Value × AV × Nat))
  | .omap i =>
    match H i with
    | some (.map es _) => some es
    | _ => none
  | .sc (.map none) => some []
  | _ => none

/-- The types of a map's keys and values. -/
def mapK (T : Tab) (t : Nat) : Option (TK × Nat) :=
  match T t with
  | some i =>
    match i.k with
    | .map kt et => (T kt).map fun ki => (ki.k, et)
    | _ => none
  | none => none

/-- Operations that leave the memory as it is. -/
def vop (T : Tab) (t : Nat → AV) (H : Nat → Option Blk) : Op → Option AV
  | .move x | .assign x => some (ev t x)
  | .pick c a b =>
    match ev t c with
    | .sc (.bool c) => some (bif c then ev t a else ev t b)
    | _ => none
  | .unOp op _ x => unAV op (ev t x)
  | .binOp op ty x y _ => binAV T op ty (ev t x) (ev t y)
  | .convert src dst x => convAV T src dst (ev t x)
  | .nilCheck x =>
    match ev t x with
    | .own i o => some (.own i o)
    | .sh cs => some (.sh cs)
    | .fn (.func f) a b => some (.fn (.func f) a b)
    | _ => none
  | .fieldAddr s x f =>
    match T s with
    | some i =>
      match i.k with
      | .struct fs =>
        match fs[f]? with
        | some (off, ft) =>
          match sizeT T ft with
          | some (_ + 1) =>
            match ev t x with
            | .own i o => some (.own i (o + off))
            | .sh cs => some (.sh (cs.drop off))
            | _ => none
          | _ => none
        | none => none
      | _ => none
    | none => none
  | .field s x f =>
    match T s with
    | some i =>
      match i.k, ev t x with
      | .struct fs, .agg cs =>
        match fs[f]? with
        | some (off, ft) => partOf T ft cs off
        | none => none
      | _, _ => none
    | none => none
  | .indexAddr s x ix =>
    match T s with
    | some i =>
      match i.k, ev t x, ev t ix with
      | .slice e, .osl i o n c, .sc (.int _ k) =>
        match sizeT T e with
        | some z => if 0 ≤ k ∧ k < n then some (.own i (o + k.toNat * z)) else none
        | none => none
      | .slice e, .ssl cs n _, .sc (.int _ k) =>
        match sizeT T e with
        | some z => if 0 ≤ k ∧ k < n then some (.sh (cs.drop (k.toNat * z))) else none
        | none => none
      | .arr n e, .own i o, .sc (.int _ k) =>
        match sizeT T e with
        | some z => if 0 ≤ k ∧ k < n then some (.own i (o + k.toNat * z)) else none
        | none => none
      | .arr n e, .sh cs, .sc (.int _ k) =>
        match sizeT T e with
        | some z => if 0 ≤ k ∧ k < n then some (.sh (cs.drop (k.toNat * z))) else none
        | none => none
      | _, _, _ => none
    | none => none
  | .index s x ix =>
    match T s with
    | some i =>
      match i.k, ev t x, ev t ix with
      | .str, .sc (.string s), .sc (.int _ k) => if 0 ≤ k ∧ k < s.size then some (.sc (.int .u8 (s.data.toList.getD k.toNat 0).toNat)) else none
      | .arr n e, .agg cs, .sc (.int _ k) =>
        match sizeT T e with
        | some z => if 0 ≤ k ∧ k < n then partOf T e cs (k.toNat * z) else none
        | none => none
      | _, _, _ => none
    | none => none
  | .extract x k =>
    match ev t x with
    | .tup vs => vs[k]?
    | _ => none
  | .build ty parts =>
    match T ty with
    | some i =>
      match i.k with
      | .struct fs => if fs.all (fun f => (sizeT T f.2).isSome) = true then (fillAV (fun j => match fs[j]? with | some (off, ft) => (match sizeT T ft with | some z => some (off, z) | none => none) | none => none) (zb i) (parts.toList.map fun p => (p.1, ev t p.2))).map .agg else none
      | .arr _ e =>
        match sizeT T e with
        | some z => (fillAV (fun j => some (j * z, z)) (i.zero.map zs) (parts.toList.map fun p => (p.1, ev t p.2))).map .agg
        | none => none
      | _ => none
    | none => none
  | .makeFunc f first caps => some (.fn f (first.toList.map (ev t)) (caps.toList.map (ev t)))
  | .slice s x lo hi mx =>
    match T s with
    | some i =>
      match i.k, ev t x with
      | .str, .sc (.string s) =>
        match mx with
        | some _ => none
        | none =>
          match optBound (hi.map (ev t)) s.size s.size with
          | some h =>
            match optBound (lo.map (ev t)) h 0 with
            | some l => some (.sc (.string (s.extract l h)))
            | none => none
          | none => none
      | .slice e, .osl i o n c =>
        match sizeT T e with
        | some z =>
          if natOk H e i c = true then
          match bounds n (limOf H e z i o n c) c (lo.map (ev t)) (hi.map (ev t)) (mx.map (ev t)) with
          | some (l, h, c') => if l = 0 ∨ l < h then some (.osl i (o + l * z) (h - l) c') else some (.esl (c' == some 0))
          | none => none
          else none
        | none => none
      | .slice e, .ssl cs n full =>
        match sizeT T e, bounds n n (if full then some n else none) (lo.map (ev t)) (hi.map (ev t)) (mx.map (ev t)) with
        | some z, some (l, h, c') => some (.ssl ((cs.drop (l * z)).take ((h - l) * z)) (h - l) (c' == some (h - l)))
        | _, _ => none
      | .slice e, .sc (.slice none 0 0) =>
        match sizeT T e, bounds 0 0 (some 0) (lo.map (ev t)) (hi.map (ev t)) (mx.map (ev t)) with
        | some _, some _ => some (.sc (.slice none 0 0))
        | _, _ => none
      | .slice e, .esl full =>
        match sizeT T e, bounds 0 0 (if full then some 0 else none) (lo.map (ev t)) (hi.map (ev t)) (mx.map (ev t)) with
        | some _, some (_, _, c') => some (.esl (c' == some 0))
        | _, _ => none
      | .arr m e, .own i o =>
        match sizeT T e, bounds m m (some m) (lo.map (ev t)) (hi.map (ev t)) (mx.map (ev t)) with
        | some z, some (l, h, c') => if l = 0 ∨ l < h then some (.osl i (o + l * z) (h - l) c') else some (.esl (c' == some 0))
        | _, _ => none
      | .arr m e, .sh cs =>
        match sizeT T e, bounds m m (some m) (lo.map (ev t)) (hi.map (ev t)) (mx.map (ev t)) with
        | some z, some (l, h, c') => if l = 0 ∨ l < h then some (.ssl ((cs.drop (l * z)).take ((h - l) * z)) (h - l) (c' == some (h - l))) else some (.esl (c' == some 0))
        | _, _ => none
      | _, _ => none
    | none => none
  | .load ty a =>
    match ev t a with
    | .own i o =>
      match H i with
      | some (.cells cs _) => partOf T ty cs o
      | _ => none
    | .sh cs => partOf T ty cs 0
    | _ => none
  | .lookup xt x ix ok =>
    match mapK T xt, mapOf H (ev t x), ev t ix with
    | some (kk, et), some es, .sc v =>
      if keyOk kk v = true then
        match findAV v es 0 with
        | some (some (_, y, _)) => some (if ok then .tup [y, .sc (.bool true)] else y)
        | some none => (zeroAV T et).map fun z => if ok then .tup [z, .sc (.bool false)] else z
        | none => none
      else none
    | _, _, _ => none
  | .call { callee := .builtin .len, args, argTypes } =>
    match args.toList.map (ev t), argTypes.toList with
    | [x], [ty] =>
      match T ty with
      | some i =>
        match i.k, x with
        | .str, .sc (.string s) => some (I s.size)
        | .slice _, .osl _ _ n _ => some (I n)
        | .slice _, .ssl _ n _ => some (I n)
        | .slice _, .esl _ => some (I 0)
        | .slice _, .sc (.slice none 0 0) => some (I 0)
        | .arr n _, _ => some (I n)
        | _, _ => none
      | none => none
    | _, _ => none
  | .call { callee := .builtin .min, args, .. } =>
    match args.toList.map (ev t) with
    | [.sc (.int k x), .sc (.int _ y)] => some (.sc (.int k (if y < x then y else x)))
    | _ => none
  | .call { callee := .builtin .max, args, .. } =>
    match args.toList.map (ev t) with
    | [.sc (.int k x), .sc (.int _ y)] => some (.sc (.int k (if x < y then y else x)))
    | _ => none
  | _ => none

/-- The elements of a slice or a string, as cells. -/
def elemsOf (H : Nat → Option Blk) (z : Nat) : AV → Option (Nat × List AV)
  | .osl i o n _ =>
    match H i with
    | some (.cells cs _) => if o + n * z ≤ cs.length then some (n, (cs.drop o).take (n * z)) else none
    | _ => none
  | .ssl cs n _ => if n * z ≤ cs.length then some (n, cs.take (n * z)) else none
  | .esl _ => some (0, [])
  | .sc (.slice none 0 0) => some (0, [])
  | .sc (.string s) => if z = 1 then some (s.size, s.data.toList.map fun b => .sc (.int .u8 b.toNat)) else none
  | _ => none

def splice (cs : List AV) (o : Nat) (new : List AV) : List AV := cs.take o ++ new ++ cs.drop (o + new.length)

def roomMax : Nat := 2 ^ 46

def fitsC (c : Option Nat) (k : Nat) : Bool :=
  match c with
  | some c => decide (k ≤ c)
  | none => true

/-- append. -/
def appendAV (T : Tab) (H : Nat → Option Blk) (n : Nat) (st : Nat) (x y : AV) : Option (AV × (Nat → Option Blk) × Nat) :=
  match T st with
  | some i =>
    match i.k with
    | .slice e =>
      match T e with
      | some ie =>
        match elemsOf H ie.size x, elemsOf H ie.size y with
        | some (k, old), some (m, new) =>
          if (k + m) * ie.bytes ≤ roomMax ∧ k + m ≤ roomMax ∧ ie.bytes ≤ 2 ^ 20 ∧ 0 < ie.size ∧ ie.zero.length = ie.size ∧ new.all cellOk = true then
            match x with
            | .osl i o _ c =>
              match H i with
              | some (.cells cs ty) =>
                if ty = e then
                  if fitsC c (k + m) = true ∧ o + (k + m) * ie.size ≤ cs.length then
                    some (.osl i o (k + m) c, upd H i (some (.cells (splice cs (o + k * ie.size) new) e)), n)
                  else
                    match c with
                    | some c => if k + m ≤ c then none else some (.osl n 0 (k + m) none, upd H n (some (.cells (old ++ new) e)), n + 1)
                    | none => if o = 0 then some (.osl n 0 (k + m) none, upd (upd H i none) n (some (.cells (old ++ new) e)), n + 1) else none
                else none
              | _ => none
            | .ssl cs _ true => if m = 0 then some (x, H, n) else some (.osl n 0 (k + m) none, upd H n (some (.cells (old ++ new) e)), n + 1)
            | .esl true => if m = 0 then some (x, H, n) else some (.osl n 0 m none, upd H n (some (.cells new e)), n + 1)
            | .sc (.slice none 0 0) => if m = 0 then some (x, H, n) else some (.osl n 0 m none, upd H n (some (.cells new e)), n + 1)
            | _ => none
          else none
        | _, _ => none
      | none => none
    | _ => none
  | none => none

/-- Operations that change the memory: what they yield, the memory, the next name. -/
def mop (T : Tab) (t : Nat → AV) (H : Nat → Option Blk) (n : Nat) : Op → Option (AV × (Nat → Option Blk) × Nat)
  | .alloc ty =>
    match T ty with
    | some i => some (.own n 0, upd H n (some (.cells (i.zero.map .sc) ty)), n + 1)
    | none => none
  | .box ty x =>
    if partOk (ev t x) = true ∧ (T ty).isSome = true then some (.own n 0, upd H n (some (.cells (cellsOf (ev t x)) ty)), n + 1) else none
  | .buildSlice ty len parts =>
    match T ty with
    | some i =>
      match i.k with
      | .slice e =>
        match T e with
        | some ie =>
          if len * ie.size ≤ 2 ^ 24 ∧ 0 < ie.size ∧ ie.zero.length = ie.size then
            match fillAV (fun j => some (j * ie.size, ie.size)) ((List.replicate len ie.zero).flatten.map .sc) (parts.toList.map fun p => (p.1, ev t p.2)) with
            | some cs => some (.osl n 0 len (some len), upd H n (some (.cells cs e)), n + 1)
            | none => none
          else none
        | none => none
      | _ => none
    | none => none
  | .makeSlice ty l c =>
    match T ty with
    | some i =>
      match i.k, ev t l, ev t c with
      | .slice e, .sc (.int .i64 l), .sc (.int .i64 c) =>
        match T e with
        | some ie =>
          if 0 ≤ l ∧ l ≤ c ∧ c * ie.bytes ≤ roomMax ∧ c ≤ roomMax ∧ 0 < ie.size ∧ ie.zero.length = ie.size then
            some (.osl n 0 l.toNat (some c.toNat), upd H n (some (.cells ((List.replicate c.toNat ie.zero).flatten.map .sc) e)), n + 1)
          else none
        | none => none
      | _, _, _ => none
    | none => none
  | .store ty a x =>
    match sizeT T ty, ev t a with
    | some z, .own i o =>
      match H i with
      | some (.cells cs ety) =>
        if (cellsOf (ev t x)).length = z ∧ o + z ≤ cs.length ∧ (cellsOf (ev t x)).all cellOk then
          some (.tup [], upd H i (some (.cells (splice cs o (cellsOf (ev t x))) ety)), n)
        else none
      | _ => none
    | _, _ => none
  | .makeMap _ none => some (.omap n, upd H n (some (.map [] 0)), n + 1)
  | .mapUpdate mt m k x =>
    match mapK T mt, ev t m, ev t k with
    | some (kk, _), .omap i, .sc v =>
      match H i with
      | some (.map es c) =>
        if keyOk kk v = true then
          match findAV v es 0 with
          | some (some (j, _, b)) => some (.tup [], upd H i (some (.map (es.set j (v, ev t x, b)) c)), n)
          | some none => some (.tup [], upd H i (some (.map (es ++ [(v, ev t x, c)]) (c + 1))), n)
          | none => none
        else none
      | _ => none
    | _, _, _ => none
  | .mapEntry mt m k =>
    match mapK T mt, ev t m, ev t k with
    | some (kk, et), .omap i, .sc v =>
      match H i with
      | some (.map es c) =>
        if keyOk kk v = true ∧ es.length < 2 ^ 62 ∧ c < 2 ^ 62 then
          match findAV v es 0 with
          | some (some (j, y, b)) => if b < 2 ^ 62 then some (.tup [y, I b], upd H i (some (.map es c)), n) else none
          | some none =>
            match zeroAV T et with
            | some z => some (.tup [z, I c], upd H i (some (.map (es ++ [(v, z, c)]) (c + 1))), n)
            | none => none
          | none => none
        else none
      | _ => none
    | _, _, _ => none
  | .entryStore _ m s x =>
    match ev t m, ev t s with
    | .omap i, .sc (.int _ b) =>
      match H i with
      | some (.map es c) =>
        match es.findIdx? (fun e => (e.2.2 : Int) == b) with
        | some j => some (.tup [], upd H i (some (.map (es.modify j fun e => (e.1, ev t x, e.2.2)) c)), n)
        | none => none
      | _ => none
    | _, _ => none
  | .call { callee := .builtin .delete, args, argTypes } =>
    match args.toList.map (ev t), argTypes.toList with
    | [.omap i, .sc v], mt :: _ =>
      match mapK T mt, H i with
      | some (kk, _), some (.map es c) =>
        if keyOk kk v = true then
          match findAV v es 0 with
          | some (some (j, _, _)) => some (.tup [], upd H i (some (.map (es.eraseIdx j) c)), n)
          | some none => some (.tup [], upd H i (some (.map es c)), n)
          | none => none
        else none
      | _, _ => none
    | _, _ => none
  | .call { callee := .builtin .append, args, argTypes } =>
    match args.toList.map (ev t), argTypes.toList with
    | [x, y], st :: yt :: [] =>
      match T yt with
      | some iy => (match iy.k with | .slice _ | .str => appendAV T H n st x y | _ => none)
      | none => none
    | _, _ => none
  | .call { callee := .builtin .copy, args, argTypes } =>
    match args.toList.map (ev t), argTypes.toList with
    | [x, y], st :: _ =>
      match T st with
      | some i =>
        match i.k with
        | .slice e =>
          match sizeT T e with
          | some z =>
            match elemsOf H z x, elemsOf H z y with
            | some (k, _), some (m, new) =>
              match x with
              | .osl i o _ _ =>
                match H i with
                | some (.cells cs ety) => if new.all cellOk = true then some (I (min m k : Nat), upd H i (some (.cells (splice cs o (new.take (min m k * z))) ety)), n) else none
                | _ => none
              | .esl _ | .sc (.slice none 0 0) => some (I 0, H, n)
              | _ => none
            | _, _ => none
          | none => none
        | _ => none
      | none => none
    | _, _ => none
  | .call { callee := .builtin .clear, args, argTypes } =>
    match args.toList.map (ev t), argTypes.toList with
    | [.osl i o m _], [st] =>
      match T st with
      | some it =>
        match it.k with
        | .slice e =>
          match T e, H i with
          | some ie, some (.cells cs ety) =>
            if ie.zero.length = ie.size ∧ 0 < ie.size ∧ o + m * ie.size ≤ cs.length ∧ ((List.replicate m ie.zero).flatten.map AV.sc).all cellOk = true then
              some (.tup [], upd H i (some (.cells (splice cs o ((List.replicate m ie.zero).flatten.map .sc)) ety)), n)
            else none
          | _, _ => none
        | _ => none
      | none => none
    | _, _ => none
  | .convert src dst x =>
    match ev t x with
    | .osl i o m c =>
      match T src with
      | some it =>
        match it.k, H i with
        | .slice e, some (.cells _ _) => if src = dst ∧ isU8 T e = true then some (.osl i o m c, H, n) else none
        | _, _ => none
      | none => none
    | _ => none
  | _ => none

end Go.Proofs.YtcdafogfmijcpaaW.Ah
