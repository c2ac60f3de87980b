/-
  For AstSame: texts of the road to it, 1 of 16.
-/
import Derived.Orders
import Derived.Laws.Sem
import Derived.Lib.DecodeN
section
namespace Go.Proofs.YtappiofmkoelnaaGreatDoorW.Ah
set_option linter.unusedVariables false
set_option linter.unusedSimpArgs false
inductive AV where
 | sc (v : Value)                                   -- this very value
 | own (i o : Nat)                                  -- a pointer into block i, at o
 | osl (i o n : Nat) (c : Option Nat)               -- a slice of block i, from o, n elements; c: its capacity, if known
 | sh (cs : List AV)                                -- a pointer to cells that nobody writes
 | ssl (cs : List AV) (n : Nat) (full : Bool)       -- a slice of such; full: its capacity is its length
 | esl (full : Bool)                                -- an empty slice that is not nil
 | agg (cs : List AV)
 | tup (vs : List AV)
 | fn (f : Fn) (first caps : List AV)
 | omap (i : Nat)
 | yld (i : Nat)                                    -- what a range over a function hands to it; i: the loop's record
 | any
inductive TK where
 | int (k : IntKind) | bool | str | slice (e : Nat) | arr (n e : Nat) | struct (fs : List (Nat × Nat)) | ptr (e : Nat) | map (k e : Nat) | func | other
 deriving DecidableEq
structure TI where
 k : TK
 size : Nat
 bytes : Nat
 zero : List Value
 eq : Bool := false
 ex : Bool := false
abbrev Tab := Nat → Option TI
inductive LSt where
 | ready | busy | done (c : Code)
inductive Blk where
 | cells (cs : List AV) (ty : Nat)
 | map (es : List (Value × AV × Nat)) (c : Nat)
 | loop (t : Nat → AV) (k : Nat) (ps : Array Nat) (asg bod : Code) (st : LSt)
 | iter (s : ByteArray) (p : Nat)
def GT : List (Nat × (Array Value → Prop)) := [(0, fun cs => ∀ c, c < 256 → cs[c]? = some (.int .u8 (Lib.firstT c))), (1, fun cs => ∀ i, i < 16 → cs[2 * i]? = some (.int .u8 (Lib.accLo i)) ∧ cs[2 * i + 1]? = some (.int .u8 (Lib.accHi i)))]
structure St where
 t : Nat → AV
 H : Nat → Option Blk
 n : Nat
def upd {α : Type} (f : Nat → α) (i : Nat) (v : α) : Nat → α := fun j => if j = i then v else f j
theorem upd_same {α : Type} (f : Nat → α) (i : Nat) (v : α) : upd f i v i = v := by simp [upd]
theorem upd_ne {α : Type} (f : Nat → α) {i j : Nat} (v : α) (h : j ≠ i) : upd f i v j = f j := by simp [upd, h]
def ofVal : Value → AV
 | .agg cs => .agg (cs.toList.map .sc)
 | .tuple cs => .tup (cs.toList.map .sc)
 | .func f a b => .fn f (a.toList.map .sc) (b.toList.map .sc)
 | v => .sc v
def ev (t : Nat → AV) : Operand → AV
 | .tmp i => t i
 | .const v => ofVal v
 | .func f => .fn (.func f) [] []
 | .global _ => .any
abbrev I (n : Int) : AV := .sc (.int .i64 n)
abbrev B (b : Bool) : AV := .sc (.bool b)
abbrev S (s : ByteArray) : AV := .sc (.string s)
def cellsOf : AV → List AV
 | .agg cs => cs
 | v => [v]
def cellOk : AV → Bool
 | .sc v => v.oneCell'
 | .agg _ | .tup _ | .any => false
 | _ => true
def aggK : TK → Bool
 | .struct _ | .arr .. => true
 | _ => false
def sizeT (T : Tab) (t : Nat) : Option Nat := (T t).map (·.size)
def partOk : AV → Bool
 | .agg _ => true
 | v => cellOk v
def partOf (T : Tab) (t : Nat) (cs : List AV) (off : Nat) : Option AV :=
 match T t with
 | some i =>
  if aggK i.k = true then (if off + i.size ≤ cs.length then some (.agg ((cs.drop off).take i.size)) else none)
  else cs[off]?
 | none => none
def intBin (op : BinOp) (k : IntKind) (x y : Int) : Option Value :=
 match op with
 | .add => some (.int k (k.wrap (x + y)))
 | .sub => some (.int k (k.wrap (x - y)))
 | .mul => some (.int k (k.wrap (x * y)))
 | .quo => if y = 0 then none else some (.int k (k.wrap (x.tdiv y)))
 | .rem => if y = 0 then none else some (.int k (x.tmod y))
 | .and => some (.int k (k.wrap (BitVec.ofInt k.bits x &&& BitVec.ofInt k.bits y).toNat))
 | .or => some (.int k (k.wrap (BitVec.ofInt k.bits x ||| BitVec.ofInt k.bits y).toNat))
 | .xor => some (.int k (k.wrap (BitVec.ofInt k.bits x ^^^ BitVec.ofInt k.bits y).toNat))
 | .andNot => some (.int k (k.wrap (BitVec.ofInt k.bits x &&& ~~~(BitVec.ofInt k.bits y)).toNat))
 | .eql => some (.bool (x == y))
 | .neq => some (.bool (x != y))
 | .lss => some (.bool (x < y))
 | .leq => some (.bool (x ≤ y))
 | .gtr => some (.bool (x > y))
 | .geq => some (.bool (x ≥ y))
 | _ => none
def shiftBin (op : BinOp) (k : IntKind) (x y : Int) : Option Value :=
 if y < 0 then none else
 match op with
 | .shl => some (.int k (k.wrap (x * 2 ^ (min y.toNat k.bits))))
 | .shr => some (.int k (x.fdiv (2 ^ (min y.toNat k.bits))))
 | _ => none
def strBin (op : BinOp) (x y : ByteArray) : Option Value :=
 match op with
 | .add => if ((x.size + y.size : Nat) : Int) > IntKind.i64.max then none else some (.string (x ++ y))
 | .eql => some (.bool (x.toList == y.toList))
 | .neq => some (.bool !(x.toList == y.toList))
 | .lss => some (.bool (Op.bytesLess x.toList y.toList))
 | .leq => some (.bool (Op.bytesLess x.toList y.toList || x.toList == y.toList))
 | .gtr => some (.bool !(Op.bytesLess x.toList y.toList || x.toList == y.toList))
 | .geq => some (.bool !(Op.bytesLess x.toList y.toList))
 | _ => none
def eqT (T : Tab) : Nat → Nat → AV → AV → Option Bool
 | 0, _, _, _ => none
 | d + 1, t, x, y =>
  match T t with
  | none => none
  | some i =>
   match i.k, x, y with
   | .bool, .sc (.bool a), .sc (.bool b) => some (a == b)
   | .int _, .sc (.int k a), .sc (.int k' b) => if k = k' then some (a == b) else none
   | .str, .sc (.string a), .sc (.string b) => some (a == b)
   | .struct fs, .agg xs, .agg ys => if i.eq then eqFs T d fs xs ys else none
   | .arr n e, .agg xs, .agg ys => if i.eq then (match T e with | some j => eqEls T d e j.size (List.range' 0 n) xs ys | none => none) else none
   | .slice _, .sc (.slice none 0 0), .sc (.slice none 0 0) => some true
   | .slice _, .sc (.slice none 0 0), .osl .. | .slice _, .sc (.slice none 0 0), .esl _ => some false
   | .slice _, .sc (.slice none 0 0), .ssl _ n _ => if n = 0 then none else some false
   | .slice _, .osl .., .sc (.slice none 0 0) | .slice _, .esl _, .sc (.slice none 0 0) => some false
   | .slice _, .ssl _ n _, .sc (.slice none 0 0) => if n = 0 then none else some false
   | .ptr _, .sc (.pointer none), .sc (.pointer none) => some true
   | .ptr _, .sc (.pointer none), .own .. | .ptr _, .own .., .sc (.pointer none) => some false
   | .ptr _, .sc (.pointer none), .sh _ | .ptr _, .sh _, .sc (.pointer none) => some false
   | .func, .sc .nilFunc, .sc .nilFunc => some true
   | .func, .sc .nilFunc, .fn .. | .func, .fn .., .sc .nilFunc => some false
   | _, _, _ => none
where
 eqFs (T : Tab) (d : Nat) : List (Nat × Nat) → List AV → List AV → Option Bool
  | [], _, _ => some true
  | (off, t) :: fs, xs, ys =>
   match partOf T t xs off, partOf T t ys off with
   | some a, some b =>
    match eqT T d t a b, eqFs T d fs xs ys with
    | some r, some s => some (r && s)
    | _, _ => none
   | _, _ => none
 eqEls (T : Tab) (d : Nat) (e z : Nat) : List Nat → List AV → List AV → Option Bool
  | [], _, _ => some true
  | k :: ks, xs, ys =>
   match partOf T e xs (k * z), partOf T e ys (k * z) with
   | some a, some b =>
    match eqT T d e a b, eqEls T d e z ks xs ys with
    | some r, some s => some (r && s)
    | _, _ => none
   | _, _ => none
def binAV (T : Tab) (op : BinOp) (t : Nat) (x y : AV) : Option AV :=
 match op, x, y with
 | .shl, .sc (.int k a), .sc (.int _ b) => (shiftBin .shl k a b).map .sc
 | .shr, .sc (.int k a), .sc (.int _ b) => (shiftBin .shr k a b).map .sc
 | op, .sc (.int k a), .sc (.int k' b) => if k = k' then (intBin op k a b).map .sc else none
 | op, .sc (.string a), .sc (.string b) => (strBin op a b).map .sc
 | .eql, x, y => (eqT T Op.maxDepth t x y).map fun b => .sc (.bool b)
 | .neq, x, y => (eqT T Op.maxDepth t x y).map fun b => .sc (.bool !b)
 | _, _, _ => none
def unAV (op : UnOp) (x : AV) : Option AV :=
 match op, x with
 | .neg, .sc (.int k n) => some (.sc (.int k (k.wrap (0 - n))))
 | .xor, .sc (.int k n) => some (.sc (.int k (k.wrap (BitVec.ofInt k.bits (if k.signed then -1 else k.max) ^^^ BitVec.ofInt k.bits n).toNat)))
 | .not, .sc (.bool b) => some (.sc (.bool !b))
 | _, _ => none
def u8s : List AV → Option (List Int)
 | [] => some []
 | .sc (.int .u8 n) :: r => (u8s r).map (n :: ·)
 | _ :: _ => none
def textOf (ns : List Int) : ByteArray := ns.foldl (fun r n => r.push (UInt8.ofNat n.toNat)) ByteArray.empty
def isU8 (T : Tab) (e : Nat) : Bool := match T e with
 | some i => (match i.k with | .int .u8 => true | _ => false)
 | none => false
def convAV (T : Tab) (src dst : Nat) (x : AV) : Option AV :=
 match T src, T dst with
 | some i, some j =>
  match i.k, j.k, x with
  | _, .int k, .sc (.int _ n) => some (.sc (.int k (k.wrap n)))
  | .str, .str, .sc (.string s) => some (.sc (.string s))
  | .slice e, .str, .ssl cs n _ =>
   match u8s (cs.take n) with
   | some ns => if ns.length = n ∧ isU8 T e = true then some (.sc (.string (textOf ns))) else none
   | none => none
  | .slice e, .str, .sc (.slice none 0 0) => if isU8 T e = true then some (.sc (.string (textOf []))) else none
  | _, _, _ => none
 | _, _ => none
def fillAV (place : Nat → Option (Nat × Nat)) (cells : List AV) : List (Nat × AV) → Option (List AV)
 | [] => some cells
 | (i, v) :: rest =>
  match place i with
  | none => none
  | some (off, size) =>
   if partOk v = true ∧ (cellsOf v).length = size ∧ off + size ≤ cells.length then fillAV place (cells.take off ++ cellsOf v ++ cells.drop (off + size)) rest else none
def boundOf (x : AV) (y : Nat) : Option Nat :=
 match x with
 | .sc (.int _ i) => if 0 ≤ i ∧ i ≤ y then some i.toNat else none
 | _ => none
def optBound (x : Option AV) (y d : Nat) : Option Nat :=
 match x with
 | some v => boundOf v y
 | none => some d
def bounds (n lim : Nat) (c : Option Nat) (lo hi mx : Option AV) : Option (Nat × Nat × Option Nat) :=
 match mx with
 | none =>
  match optBound hi lim n with
  | some h =>
   match optBound lo h 0 with
   | some l => some (l, h, c.map (· - l))
   | none => none
  | none => none
 | some m =>
  match boundOf m lim with
  | some m =>
   match hi with
   | some h =>
    match boundOf h m with
    | some h =>
     match optBound lo h 0 with
     | some l => some (l, h, some (m - l))
     | none => none
    | none => none
   | none => none
  | none => none
def limOf (H : Nat → Option Blk) (e z i o n : Nat) : Option Nat → Nat
 | some c => c
 | none =>
  match H i with
  | some (.cells cs ty) => if ty = e then max n ((cs.length - o) / z) else n
  | _ => n
def natOk (H : Nat → Option Blk) (e i : Nat) : Option Nat → Bool
 | some _ => true
 | none =>
  match H i with
  | some (.cells _ ty) => ty == e
  | _ => false
def zs : Value → AV
 | .slice none 0 0 => .ssl [] 0 false
 | v => .sc v
@[simp] theorem zs_nil : zs (.slice none 0 0) = .ssl [] 0 false := rfl
@[simp] theorem zs_int (k : IntKind) (n : Int) : zs (.int k n) = .sc (.int k n) := rfl
@[simp] theorem zs_bool (b : Bool) : zs (.bool b) = .sc (.bool b) := rfl
@[simp] theorem zs_string (s : ByteArray) : zs (.string s) = .sc (.string s) := rfl
@[simp] theorem zs_ptr : zs (.pointer none) = .sc (.pointer none) := rfl
@[simp] theorem zs_map : zs (.map none) = .sc (.map none) := rfl
@[simp] theorem zs_nilFunc : zs .nilFunc = .sc .nilFunc := rfl
@[simp] theorem zs_nilIface : zs .nilIface = .sc .nilIface := rfl
@[simp] def isMapZ : Value → Bool
 | .map none => true
 | _ => false
@[simp] def zb (i : TI) : List AV := if (i.ex || i.zero.any isMapZ) = true then i.zero.map .sc else i.zero.map zs
def keyOk : TK → Value → Bool
 | .int _, .int _ _ => true
 | .str, .string _ => true
 | .bool, .bool _ => true
 | _, _ => false
def keyEq : Value → Value → Option Bool
 | .int k a, .int k' b => if k = k' then some (a == b) else none
 | .string a, .string b => some (a == b)
 | .bool a, .bool b => some (a == b)
 | _, _ => none
def findAV (v : Value) : List (Value × AV × Nat) → Nat → Option (Option (Nat × AV × Nat))
 | [], _ => some none
 | (k, x, b) :: es, i =>
  match keyEq v k with
  | some true => some (some (i, x, b))
  | some false => findAV v es (i + 1)
  | none => none
def zeroAV (T : Tab) (t : Nat) : Option AV :=
 match T t with
 | some i =>
  if aggK i.k = true then some (.agg (i.zero.map .sc)) else
  match i.zero with
  | [z] => some (.sc z)
  | _ => none
 | none => none
def mapOf (H : Nat → Option Blk) : AV → Option (List (Value × AV × Nat))
 | .omap i =>
  match H i with
  | some (.map es _) => some es
  | _ => none
 | .sc (.map none) => some []
 | _ => none
def mapK (T : Tab) (t : Nat) : Option (TK × Nat) :=
 match T t with
 | some i =>
  match i.k with
  | .map kt et => (T kt).map fun ki => (ki.k, et)
  | _ => none
 | none => none
def vop (T : Tab) (t : Nat → AV) (H : Nat → Option Blk) : Op → Option AV
 | .move x | .assign x => some (ev t x)
 | .pick c a b =>
  match ev t c with
  | .sc (.bool c) => some (bif c then ev t a else ev t b)
  | _ => none
 | .unOp op _ x => unAV op (ev t x)
 | .binOp op ty x y _ => binAV T op ty (ev t x) (ev t y)
 | .convert src dst x => convAV T src dst (ev t x)
 | .nilCheck x =>
  match ev t x with
  | .own i o => some (.own i o)
  | .sh cs => some (.sh cs)
  | .fn (.func f) a b => some (.fn (.func f) a b)
  | _ => none
 | .fieldAddr s x f =>
  match T s with
  | some i =>
   match i.k with
   | .struct fs =>
    match fs[f]? with
    | some (off, ft) =>
     match sizeT T ft with
     | some (_ + 1) =>
      match ev t x with
      | .own i o => some (.own i (o + off))
      | .sh cs => some (.sh (cs.drop off))
      | _ => none
     | _ => none
    | none => none
   | _ => none
  | none => none
 | .field s x f =>
  match T s with
  | some i =>
   match i.k, ev t x with
   | .struct fs, .agg cs =>
    match fs[f]? with
    | some (off, ft) => partOf T ft cs off
    | none => none
   | _, _ => none
  | none => none
 | .indexAddr s x ix =>
  match T s with
  | some i =>
   match i.k, ev t x, ev t ix with
   | .slice e, .osl i o n c, .sc (.int _ k) =>
    match sizeT T e with
    | some z => if 0 ≤ k ∧ k < n then some (.own i (o + k.toNat * z)) else none
    | none => none
   | .slice e, .ssl cs n _, .sc (.int _ k) =>
    match sizeT T e with
    | some z => if 0 ≤ k ∧ k < n then some (.sh (cs.drop (k.toNat * z))) else none
    | none => none
   | .arr n e, .own i o, .sc (.int _ k) =>
    match sizeT T e with
    | some z => if 0 ≤ k ∧ k < n then some (.own i (o + k.toNat * z)) else none
    | none => none
   | .arr n e, .sh cs, .sc (.int _ k) =>
    match sizeT T e with
    | some z => if 0 ≤ k ∧ k < n then some (.sh (cs.drop (k.toNat * z))) else none
    | none => none
   | _, _, _ => none
  | none => none
 | .index s x ix =>
  match T s with
  | some i =>
   match i.k, ev t x, ev t ix with
   | .str, .sc (.string s), .sc (.int _ k) => if 0 ≤ k ∧ k < s.size then some (.sc (.int .u8 (s.data.toList.getD k.toNat 0).toNat)) else none
   | .arr n e, .agg cs, .sc (.int _ k) =>
    match sizeT T e with
    | some z => if 0 ≤ k ∧ k < n then partOf T e cs (k.toNat * z) else none
    | none => none
   | _, _, _ => none
  | none => none
 | .extract x k =>
  match ev t x with
  | .tup vs => vs[k]?
  | _ => none
 | .build ty parts =>
  match T ty with
  | some i =>
   match i.k with
   | .struct fs => if fs.all (fun f => (sizeT T f.2).isSome) = true then (fillAV (fun j => match fs[j]? with | some (off, ft) => (match sizeT T ft with | some z => some (off, z) | none => none) | none => none) (zb i) (parts.toList.map fun p => (p.1, ev t p.2))).map .agg else none
   | .arr _ e =>
    match sizeT T e with
    | some z => (fillAV (fun j => some (j * z, z)) (i.zero.map zs) (parts.toList.map fun p => (p.1, ev t p.2))).map .agg
    | none => none
   | _ => none
  | none => none
 | .makeFunc f first caps => some (.fn f (first.toList.map (ev t)) (caps.toList.map (ev t)))
 | .slice s x lo hi mx =>
  match T s with
  | some i =>
   match i.k, ev t x with
   | .str, .sc (.string s) =>
    match mx with
    | some _ => none
    | none =>
     match optBound (hi.map (ev t)) s.size s.size with
     | some h =>
      match optBound (lo.map (ev t)) h 0 with
      | some l => some (.sc (.string (s.extract l h)))
      | none => none
     | none => none
   | .slice e, .osl i o n c =>
    match sizeT T e with
    | some z =>
     if natOk H e i c = true then
     match bounds n (limOf H e z i o n c) c (lo.map (ev t)) (hi.map (ev t)) (mx.map (ev t)) with
     | some (l, h, c') => if l = 0 ∨ l < h then some (.osl i (o + l * z) (h - l) c') else some (.esl (c' == some 0))
     | none => none
     else none
    | none => none
   | .slice e, .ssl cs n full =>
    match sizeT T e, bounds n n (if full then some n else none) (lo.map (ev t)) (hi.map (ev t)) (mx.map (ev t)) with
    | some z, some (l, h, c') => some (.ssl ((cs.drop (l * z)).take ((h - l) * z)) (h - l) (c' == some (h - l)))
    | _, _ => none
   | .slice e, .sc (.slice none 0 0) =>
    match sizeT T e, bounds 0 0 (some 0) (lo.map (ev t)) (hi.map (ev t)) (mx.map (ev t)) with
    | some _, some _ => some (.sc (.slice none 0 0))
    | _, _ => none
   | .slice e, .esl full =>
    match sizeT T e, bounds 0 0 (if full then some 0 else none) (lo.map (ev t)) (hi.map (ev t)) (mx.map (ev t)) with
    | some _, some (_, _, c') => some (.esl (c' == some 0))
    | _, _ => none
   | .arr m e, .own i o =>
    match sizeT T e, bounds m m (some m) (lo.map (ev t)) (hi.map (ev t)) (mx.map (ev t)) with
    | some z, some (l, h, c') => if l = 0 ∨ l < h then some (.osl i (o + l * z) (h - l) c') else some (.esl (c' == some 0))
    | _, _ => none
   | .arr m e, .sh cs =>
    match sizeT T e, bounds m m (some m) (lo.map (ev t)) (hi.map (ev t)) (mx.map (ev t)) with
    | some z, some (l, h, c') => if l = 0 ∨ l < h then some (.ssl ((cs.drop (l * z)).take ((h - l) * z)) (h - l) (c' == some (h - l))) else some (.esl (c' == some 0))
    | _, _ => none
   | _, _ => none
  | none => none
 | .load ty a =>
  match ev t a with
  | .own i o =>
   match H i with
   | some (.cells cs _) => partOf T ty cs o
   | _ => none
  | .sh cs => partOf T ty cs 0
  | _ => none
 | .lookup xt x ix ok =>
  match mapK T xt, mapOf H (ev t x), ev t ix with
  | some (kk, et), some es, .sc v =>
   if keyOk kk v = true then
    match findAV v es 0 with
    | some (some (_, y, _)) => some (if ok then .tup [y, .sc (.bool true)] else y)
    | some none => (zeroAV T et).map fun z => if ok then .tup [z, .sc (.bool false)] else z
    | none => none
   else none
  | _, _, _ => none
 | .call { callee := .builtin .len, args, argTypes } =>
  match args.toList.map (ev t), argTypes.toList with
  | [x], [ty] =>
   match T ty with
   | some i =>
    match i.k, x with
    | .str, .sc (.string s) => some (I s.size)
    | .slice _, .osl _ _ n _ => some (I n)
    | .slice _, .ssl _ n _ => some (I n)
    | .slice _, .esl _ => some (I 0)
    | .slice _, .sc (.slice none 0 0) => some (I 0)
    | .arr n _, _ => some (I n)
    | _, _ => none
   | none => none
  | _, _ => none
 | .call { callee := .builtin .min, args, .. } =>
  match args.toList.map (ev t) with
  | [.sc (.int k x), .sc (.int _ y)] => some (.sc (.int k (if y < x then y else x)))
  | _ => none
 | .call { callee := .builtin .max, args, .. } =>
  match args.toList.map (ev t) with
  | [.sc (.int k x), .sc (.int _ y)] => some (.sc (.int k (if x < y then y else x)))
  | _ => none
 | _ => none
def elemsOf (H : Nat → Option Blk) (z : Nat) : AV → Option (Nat × List AV)
 | .osl i o n _ =>
  match H i with
  | some (.cells cs _) => if o + n * z ≤ cs.length then some (n, (cs.drop o).take (n * z)) else none
  | _ => none
 | .ssl cs n _ => if n * z ≤ cs.length then some (n, cs.take (n * z)) else none
 | .esl _ => some (0, [])
 | .sc (.slice none 0 0) => some (0, [])
 | .sc (.string s) => if z = 1 then some (s.size, s.data.toList.map fun b => .sc (.int .u8 b.toNat)) else none
 | _ => none
def splice (cs : List AV) (o : Nat) (new : List AV) : List AV := cs.take o ++ new ++ cs.drop (o + new.length)
def roomMax : Nat := 2 ^ 46
def fitsC (c : Option Nat) (k : Nat) : Bool :=
 match c with
 | some c => decide (k ≤ c)
 | none => true
def appendAV (T : Tab) (H : Nat → Option Blk) (n : Nat) (st : Nat) (x y : AV) : Option (AV × (Nat → Option Blk) × Nat) :=
 match T st with
 | some i =>
  match i.k with
  | .slice e =>
   match T e with
   | some ie =>
    match elemsOf H ie.size x, elemsOf H ie.size y with
    | some (k, old), some (m, new) =>
     if (k + m) * ie.bytes ≤ roomMax ∧ k + m ≤ roomMax ∧ ie.bytes ≤ 2 ^ 20 ∧ 0 < ie.size ∧ ie.zero.length = ie.size ∧ new.all cellOk = true then
      match x with
      | .osl i o _ c =>
       match H i with
       | some (.cells cs ty) =>
        if ty = e then
         if fitsC c (k + m) = true ∧ o + (k + m) * ie.size ≤ cs.length then
          some (.osl i o (k + m) c, upd H i (some (.cells (splice cs (o + k * ie.size) new) e)), n)
         else
          match c with
          | some c => if k + m ≤ c then none else some (.osl n 0 (k + m) none, upd H n (some (.cells (old ++ new) e)), n + 1)
          | none => if o = 0 then some (.osl n 0 (k + m) none, upd (upd H i none) n (some (.cells (old ++ new) e)), n + 1) else none
        else none
       | _ => none
      | .ssl cs _ true => if m = 0 then some (x, H, n) else some (.osl n 0 (k + m) none, upd H n (some (.cells (old ++ new) e)), n + 1)
      | .esl true => if m = 0 then some (x, H, n) else some (.osl n 0 m none, upd H n (some (.cells new e)), n + 1)
      | .sc (.slice none 0 0) => if m = 0 then some (x, H, n) else some (.osl n 0 m none, upd H n (some (.cells new e)), n + 1)
      | _ => none
     else none
    | _, _ => none
   | none => none
  | _ => none
 | none => none
def mop (T : Tab) (t : Nat → AV) (H : Nat → Option Blk) (n : Nat) : Op → Option (AV × (Nat → Option Blk) × Nat)
 | .alloc ty =>
  match T ty with
  | some i => some (.own n 0, upd H n (some (.cells (i.zero.map .sc) ty)), n + 1)
  | none => none
 | .box ty x =>
  if partOk (ev t x) = true ∧ (T ty).isSome = true then some (.own n 0, upd H n (some (.cells (cellsOf (ev t x)) ty)), n + 1) else none
 | .buildSlice ty len parts =>
  match T ty with
  | some i =>
   match i.k with
   | .slice e =>
    match T e with
    | some ie =>
     if len * ie.size ≤ 2 ^ 24 ∧ 0 < ie.size ∧ ie.zero.length = ie.size then
      match fillAV (fun j => some (j * ie.size, ie.size)) ((List.replicate len ie.zero).flatten.map .sc) (parts.toList.map fun p => (p.1, ev t p.2)) with
      | some cs => some (.osl n 0 len (some len), upd H n (some (.cells cs e)), n + 1)
      | none => none
     else none
    | none => none
   | _ => none
  | none => none
 | .makeSlice ty l c =>
  match T ty with
  | some i =>
   match i.k, ev t l, ev t c with
   | .slice e, .sc (.int .i64 l), .sc (.int .i64 c) =>
    match T e with
    | some ie =>
     if 0 ≤ l ∧ l ≤ c ∧ c * ie.bytes ≤ roomMax ∧ c ≤ roomMax ∧ 0 < ie.size ∧ ie.zero.length = ie.size then
      some (.osl n 0 l.toNat (some c.toNat), upd H n (some (.cells ((List.replicate c.toNat ie.zero).flatten.map .sc) e)), n + 1)
     else none
    | none => none
   | _, _, _ => none
  | none => none
 | .store ty a x =>
  match sizeT T ty, ev t a with
  | some z, .own i o =>
   match H i with
   | some (.cells cs ety) =>
    if (cellsOf (ev t x)).length = z ∧ o + z ≤ cs.length ∧ (cellsOf (ev t x)).all cellOk then
     some (.tup [], upd H i (some (.cells (splice cs o (cellsOf (ev t x))) ety)), n)
    else none
   | _ => none
  | _, _ => none
 | .range ty x =>
  match T ty, ev t x with
  | some i, .sc (.string s) =>
   match i.k with
   | .str => some (.own n 0, upd H n (some (.iter s 0)), n + 1)
   | _ => none
  | _, _ => none
 | .next x true =>
  match ev t x with
  | .own i 0 =>
   match H i with
   | some (.iter s p) =>
    if p < s.size then some (.tup [B true, I p, .sc (.int .i32 (Utf8.decode s p).1)], upd H i (some (.iter s (p + (Utf8.decode s p).2))), n)
    else some (.tup [B false], H, n)
   | _ => none
  | _ => none
 | .makeMap _ none => some (.omap n, upd H n (some (.map [] 0)), n + 1)
 | .mapUpdate mt m k x =>
  match mapK T mt, ev t m, ev t k with
  | some (kk, _), .omap i, .sc v =>
   match H i with
   | some (.map es c) =>
    if keyOk kk v = true then
     match findAV v es 0 with
     | some (some (j, _, b)) => some (.tup [], upd H i (some (.map (es.set j (v, ev t x, b)) c)), n)
     | some none => some (.tup [], upd H i (some (.map (es ++ [(v, ev t x, c)]) (c + 1))), n)
     | none => none
    else none
   | _ => none
  | _, _, _ => none
 | .mapEntry mt m k =>
  match mapK T mt, ev t m, ev t k with
  | some (kk, et), .omap i, .sc v =>
   match H i with
   | some (.map es c) =>
    if keyOk kk v = true ∧ es.length < 2 ^ 62 ∧ c < 2 ^ 62 then
     match findAV v es 0 with
     | some (some (j, y, b)) => if b < 2 ^ 62 then some (.tup [y, I b], upd H i (some (.map es c)), n) else none
     | some none =>
      match zeroAV T et with
      | some z => some (.tup [z, I c], upd H i (some (.map (es ++ [(v, z, c)]) (c + 1))), n)
      | none => none
     | none => none
    else none
   | _ => none
  | _, _, _ => none
 | .entryStore _ m s x =>
  match ev t m, ev t s with
  | .omap i, .sc (.int _ b) =>
   match H i with
   | some (.map es c) =>
    match es.findIdx? (fun e => (e.2.2 : Int) == b) with
    | some j => some (.tup [], upd H i (some (.map (es.modify j fun e => (e.1, ev t x, e.2.2)) c)), n)
    | none => none
   | _ => none
  | _, _ => none
 | .call { callee := .builtin .delete, args, argTypes } =>
  match args.toList.map (ev t), argTypes.toList with
  | [.omap i, .sc v], mt :: _ =>
   match mapK T mt, H i with
   | some (kk, _), some (.map es c) =>
    if keyOk kk v = true then
     match findAV v es 0 with
     | some (some (j, _, _)) => some (.tup [], upd H i (some (.map (es.eraseIdx j) c)), n)
     | some none => some (.tup [], upd H i (some (.map es c)), n)
     | none => none
    else none
   | _, _ => none
  | _, _ => none
 | .call { callee := .builtin .append, args, argTypes } =>
  match args.toList.map (ev t), argTypes.toList with
  | [x, y], st :: yt :: [] =>
   match T yt with
   | some iy => (match iy.k with | .slice _ | .str => appendAV T H n st x y | _ => none)
   | none => none
  | _, _ => none
 | .call { callee := .builtin .copy, args, argTypes } =>
  match args.toList.map (ev t), argTypes.toList with
  | [x, y], st :: _ =>
   match T st with
   | some i =>
    match i.k with
    | .slice e =>
     match sizeT T e with
     | some z =>
      match elemsOf H z x, elemsOf H z y with
      | some (k, _), some (m, new) =>
       match x with
       | .osl i o _ _ =>
        match H i with
        | some (.cells cs ety) => if new.all cellOk = true then some (I (min m k : Nat), upd H i (some (.cells (splice cs o (new.take (min m k * z))) ety)), n) else none
        | _ => none
       | .esl _ | .sc (.slice none 0 0) => some (I 0, H, n)
       | _ => none
      | _, _ => none
     | none => none
    | _ => none
   | none => none
  | _, _ => none
 | .call { callee := .builtin .clear, args, argTypes } =>
  match args.toList.map (ev t), argTypes.toList with
  | [.osl i o m _], [st] =>
   match T st with
   | some it =>
    match it.k with
    | .slice e =>
     match T e, H i with
     | some ie, some (.cells cs ety) =>
      if ie.zero.length = ie.size ∧ 0 < ie.size ∧ o + m * ie.size ≤ cs.length ∧ ((List.replicate m ie.zero).flatten.map AV.sc).all cellOk = true then
       some (.tup [], upd H i (some (.cells (splice cs o ((List.replicate m ie.zero).flatten.map .sc)) ety)), n)
      else none
     | _, _ => none
    | _ => none
   | none => none
  | _, _ => none
 | .convert src dst x =>
  match ev t x with
  | .osl i o m c =>
   match T src with
   | some it =>
    match it.k, H i with
    | .slice e, some (.cells _ _) => if src = dst ∧ isU8 T e = true then some (.osl i o m c, H, n) else none
    | _, _ => none
   | none => none
  | .sc (.string s) =>
   match T src, T dst with
   | some it, some jt =>
    match it.k, jt.k with
    | .str, .slice e => if isU8 T e = true ∧ sizeT T e = some 1 ∧ s.size ≤ roomMax then some (.osl n 0 s.size none, upd H n (some (.cells (s.data.toList.map fun b => .sc (.int .u8 b.toNat)) e)), n + 1) else none
    | _, _ => none
   | _, _ => none
  | _ => none
 | _ => none
structure Loc where
 b : Nat
 room : Nat
 z : Nat
structure Env where
 X : Nat → Prop
 N : Nat
 m : Nat → Option Loc
 w : World
def Env.shared (E : Env) (b : Nat) : Prop := ¬ E.X b ∧ ∀ i l, E.m i = some l → l.b ≠ b
mutual
def RepV (E : Env) : AV → Value → Prop
 | .sc v, u => u = v
 | .own i o, u => i < E.N ∧ ∃ b, u = .pointer (some ⟨b, o, none⟩) ∧ ∀ l, E.m i = some l → b = l.b
 | .osl i o n c, u => i < E.N ∧ ∃ b cap, u = .slice (some ⟨b, o, none⟩) n cap ∧ n ≤ cap ∧ (∀ k, c = some k → cap = k) ∧ ∀ l, E.m i = some l → b = l.b ∧ (c = none → o + cap * l.z = l.room)
 | .sh cs, u => ∃ b o cells ty fz, u = .pointer (some ⟨b, o, none⟩) ∧ E.shared b ∧ E.w.heap[b]? = some (.cells cells ty fz) ∧ RepL E cs (cells.toList.drop o)
 | .ssl cs n full, u => (∃ b o cells ty fz cap, u = .slice (some ⟨b, o, none⟩) n cap ∧ n ≤ cap ∧ (full = true → cap = n) ∧ E.shared b ∧ E.w.heap[b]? = some (.cells cells ty fz) ∧ RepL E cs (cells.toList.drop o)) ∨
  (n = 0 ∧ cs = [] ∧ ∃ a cap, u = .slice a 0 cap ∧ (full = true → cap = 0) ∧ (a = none → cap = 0))
 | .esl full, u => ∃ a cap, u = .slice (some a) 0 cap ∧ (full = true → cap = 0)
 | .agg cs, u => ∃ a, u = .agg a ∧ cs.length = a.toList.length ∧ RepL E cs a.toList
 | .tup cs, u => ∃ a, u = .tuple a ∧ cs.length = a.toList.length ∧ RepL E cs a.toList
 | .fn f x y, u => ∃ a b, u = .func f a b ∧ x.length = a.toList.length ∧ RepL E x a.toList ∧ y.length = b.toList.length ∧ RepL E y b.toList
 | .omap i, u => i < E.N ∧ ∃ r, u = .map (some r) ∧ ∀ l, E.m i = some l → r = l.b
 | .yld i, u => i < E.N ∧ ∃ b, u = .func (.yield b) #[] #[] ∧ ∀ l, E.m i = some l → b = l.b
 | .any, _ => True
def RepL (E : Env) : List AV → List Value → Prop
 | [], _ => True
 | a :: as', vs =>
  match vs with
  | [] => False
  | v :: vs => RepV E a v ∧ RepL E as' vs
end
theorem RepL.iff {E : Env} : ∀ {as' : List AV} {vs : List Value}, RepL E as' vs ↔ as'.length ≤ vs.length ∧ ∀ (i : Nat) a, as'[i]? = some a → ∃ v, vs[i]? = some v ∧ RepV E a v
 | [], vs => by simp [RepL]
 | a :: as', [] => by simp [RepL]
 | a :: as', v :: vs => by
  simp only [RepL, RepL.iff (as' := as') (vs := vs), List.length_cons, Nat.add_le_add_iff_right]
  constructor
  ·rintro ⟨h1, h2, h3⟩
   refine ⟨h2, fun i b hb => ?_⟩
   cases i with
   | zero => simp at hb; subst hb; exact ⟨v, by simp, h1⟩
   | succ i => simp at hb; simpa using h3 i b hb
  ·rintro ⟨h1, h2⟩
   refine ⟨?_, h1, fun i b hb => ?_⟩
   ·obtain ⟨u, hu, hr⟩ := h2 0 a (by simp); simp at hu; subst hu; exact hr
   ·simpa using h2 (i + 1) b (by simpa using hb)
structure Ext (E F : Env) : Prop where
 X : F.X = E.X
 N : E.N ≤ F.N
 os : F.w.os = E.w.os
 tape : F.w.tape = E.w.tape
 output : F.w.output = E.w.output
 size : E.w.heap.size ≤ F.w.heap.size
 keep : ∀ b, b < E.w.heap.size → (∀ i l, E.m i = some l → l.b ≠ b) → F.w.heap[b]? = E.w.heap[b]?
 old : ∀ i l, i < E.N → F.m i = some l → E.m i = some l
 new : ∀ i l, F.m i = some l → E.w.heap.size ≤ l.b ∨ ∃ j l', E.m j = some l' ∧ l'.b = l.b
 lp : ∀ (b : Nat) (r : Loop), E.w.heap[b]? = some (Obj.loop r) → ∃ r' : Loop, F.w.heap[b]? = some (Obj.loop r')
theorem Ext.refl (E : Env) : Ext E E := ⟨rfl, Nat.le_refl _, rfl, rfl, rfl, Nat.le_refl _, fun _ _ _ => rfl, fun _ _ _ h => h, fun i l h => .inr ⟨i, l, h, rfl⟩, fun _ r h => ⟨r, h⟩⟩
theorem Ext.trans {E F G : Env} (h : Ext E F) (k : Ext F G) : Ext E G where
 X := k.X.trans h.X
 N := Nat.le_trans h.N k.N
 os := k.os.trans h.os
 tape := k.tape.trans h.tape
 output := k.output.trans h.output
 size := Nat.le_trans h.size k.size
 keep b hb hm := by
  refine (k.keep b (Nat.lt_of_lt_of_le hb h.size) fun i l hl e => ?_).trans (h.keep b hb hm)
  rcases h.new i l hl with h' | ⟨j, l', hj, e'⟩
  ·omega
  ·exact hm j l' hj (e'.trans e)
 old i l hi hl := h.old i l hi (k.old i l (Nat.lt_of_lt_of_le hi h.N) hl)
 new i l hl := by
  rcases k.new i l hl with h' | ⟨j, l', hj, e⟩
  ·exact .inl (Nat.le_trans h.size h')
  ·rcases h.new j l' hj with h'' | ⟨j', l'', hj', e'⟩
   ·exact .inl (by omega)
   ·exact .inr ⟨j', l'', hj', e'.trans e⟩
 lp b r hb := let ⟨r', h'⟩ := h.lp b r hb; k.lp b r' h'
theorem lt_of_block {w : World} {b : Nat} {o : Obj} (h : w.heap[b]? = some o) : b < w.heap.size := by
 rcases Nat.lt_or_ge b w.heap.size with h' | h'
 ·exact h'
 ·simp [Array.getElem?_eq_none h'] at h
theorem Ext.shared {E F : Env} (h : Ext E F) {b : Nat} (hb : b < E.w.heap.size) (hs : E.shared b) : F.shared b ∧ F.w.heap[b]? = E.w.heap[b]? := by
 refine ⟨⟨by rw [h.X]; exact hs.1, fun i l hl e => ?_⟩, h.keep b hb hs.2⟩
 rcases h.new i l hl with h' | ⟨j, l', hj, e'⟩
 ·omega
 ·exact hs.2 j l' hj (e'.trans e)
mutual
theorem RepV.ext {E F : Env} (h : Ext E F) : ∀ (a : AV) (v : Value), RepV E a v → RepV F a v
 | .sc _, _, hr => by simpa [RepV] using hr
 | .own i o, u, hr => by
  simp only [RepV] at hr ⊢
  obtain ⟨h1, a, h2, h3⟩ := hr
  exact ⟨Nat.lt_of_lt_of_le h1 h.N, a, h2, fun l hl => h3 l (h.old i l h1 hl)⟩
 | .osl i o n c, u, hr => by
  simp only [RepV] at hr ⊢
  obtain ⟨h1, a, cap, h2, h3, h4, h5⟩ := hr
  exact ⟨Nat.lt_of_lt_of_le h1 h.N, a, cap, h2, h3, h4, fun l hl => h5 l (h.old i l h1 hl)⟩
 | .sh cs, u, hr => by
  simp only [RepV] at hr ⊢
  obtain ⟨b, o, cells, ty, fz, e, hs, hb, hl⟩ := hr
  obtain ⟨hs', hb'⟩ := h.shared (lt_of_block hb) hs
  exact ⟨b, o, cells, ty, fz, e, hs', by rw [hb', hb], RepL.ext h _ _ hl⟩
 | .ssl cs n full, u, hr => by
  simp only [RepV] at hr ⊢
  rcases hr with ⟨b, o, cells, ty, fz, cap, e, h1, h2, hs, hb, hl⟩ | hr
  ·obtain ⟨hs', hb'⟩ := h.shared (lt_of_block hb) hs
   exact .inl ⟨b, o, cells, ty, fz, cap, e, h1, h2, hs', by rw [hb', hb], RepL.ext h _ _ hl⟩
  ·exact .inr hr
 | .esl full, u, hr => by simpa [RepV] using hr
 | .agg cs, u, hr => by
  simp only [RepV] at hr ⊢
  obtain ⟨a, e, h1, h2⟩ := hr
  exact ⟨a, e, h1, RepL.ext h _ _ h2⟩
 | .tup cs, u, hr => by
  simp only [RepV] at hr ⊢
  obtain ⟨a, e, h1, h2⟩ := hr
  exact ⟨a, e, h1, RepL.ext h _ _ h2⟩
 | .fn f x y, u, hr => by
  simp only [RepV] at hr ⊢
  obtain ⟨a, b, e, h1, h2, h3, h4⟩ := hr
  exact ⟨a, b, e, h1, RepL.ext h _ _ h2, h3, RepL.ext h _ _ h4⟩
 | .omap i, u, hr => by
  simp only [RepV] at hr ⊢
  obtain ⟨h1, a, h2, h3⟩ := hr
  exact ⟨Nat.lt_of_lt_of_le h1 h.N, a, h2, fun l hl => h3 l (h.old i l h1 hl)⟩
 | .yld i, u, hr => by
  simp only [RepV] at hr ⊢
  obtain ⟨h1, a, h2, h3⟩ := hr
  exact ⟨Nat.lt_of_lt_of_le h1 h.N, a, h2, fun l hl => h3 l (h.old i l h1 hl)⟩
 | .any, u, hr => by simp [RepV]
theorem RepL.ext {E F : Env} (h : Ext E F) : ∀ (as' : List AV) (vs : List Value), RepL E as' vs → RepL F as' vs
 | [], _, _ => by simp [RepL]
 | _ :: _, [], hr => by simp [RepL] at hr
 | a :: as', v :: vs, hr => by
  simp only [RepL] at hr ⊢
  exact ⟨RepV.ext h a v hr.1, RepL.ext h as' vs hr.2⟩
end
def LSt.fits : LSt → Loop → Prop
 | .ready, r => r.state = .ready ∧ r.pending = none
 | .busy, r => r.state = .busy
 | .done c, r => r.state = .done ∧ r.pending = some c
def RepB (P : Program) (E : Env) (l : Loc) : Blk → Prop
 | .cells cs ty => ∃ cells fz info, E.w.heap[l.b]? = some (.cells cells ty fz) ∧ RepL E cs cells.toList ∧ cells.size = l.room ∧ (fz.1 = fz.2 ∨ cells.size ≤ fz.1) ∧ P.info? ty = some info ∧ info.size = l.z
 | .map es c => ∃ ents, E.w.heap[l.b]? = some (.map ents c) ∧ es.map (·.1) = ents.toList.map (·.key) ∧ es.map (·.2.2) = ents.toList.map (·.born) ∧ RepL E (es.map (·.2.1)) (ents.toList.map (·.val))
 | .loop t k ps asg bod st => ∃ r : Loop, E.w.heap[l.b]? = some (Obj.loop r) ∧ r.params = ps ∧ r.assign = asg ∧ r.body = bod ∧ st.fits r ∧ r.tmps.size = k ∧ ∀ i, RepV E (t i) (r.tmps.getD i undef)
 | .iter s p => E.w.heap[l.b]? = some (.stringIter s p)
def GlobOk (E : Env) : Prop := ∀ g p, (g, p) ∈ GT → E.shared g ∧ ∃ cells ty fz, E.w.heap[g]? = some (.cells cells ty fz) ∧ p cells
theorem GlobOk.ext {E F : Env} (h : Ext E F) (hg : GlobOk E) : GlobOk F := fun g cs hm => by
 obtain ⟨h1, cells, ty, fz, h2, h3⟩ := hg g cs hm
 obtain ⟨h4, h5⟩ := h.shared (lt_of_block h2) h1
 exact ⟨h4, cells, ty, fz, h5.trans h2, h3⟩
theorem GlobOk.lift {E F : Env} (hw : F.w.heap = E.w.heap) (hs : ∀ b, E.shared b → F.shared b) (hg : GlobOk E) : GlobOk F := fun g cs hm => by
 obtain ⟨h1, cells, ty, fz, h2, h3⟩ := hg g cs hm
 exact ⟨hs g h1, cells, ty, fz, by rw [hw, h2], h3⟩
structure RepH (P : Program) (E : Env) (H : Nat → Option Blk) : Prop where
 own : ∀ i blk, H i = some blk → ∃ l, E.m i = some l ∧ RepB P E l blk
 lt : ∀ i l, E.m i = some l → i < E.N ∧ l.b < E.w.heap.size ∧ ¬ E.X l.b ∧ ∃ blk, H i = some blk
 inj : ∀ i j l l', E.m i = some l → E.m j = some l' → l.b = l'.b → i = j
 glob : GlobOk E
def TK.fits : TypeDesc → TK → Bool
 | .int k, .int k' => k == k'
 | .bool, .bool => true
 | .string, .str => true
 | .slice e, .slice e' => e == e'
 | .array n e, .arr n' e' => n == n' && e == e'
 | .struct fs, .struct l => (fs.toList.map fun f => (f.offset, f.type)) == l
 | .pointer e, .ptr e' => e == e'
 | .map k e, .map k' e' => k == k' && e == e'
 | .func .., .func => true
 | _, .other => true
 | _, _ => false
def aggD : TypeDesc → Bool
 | .struct _ | .array .. => true
 | _ => false
structure TI.Ok (P : Program) (t : Nat) (i : TI) : Prop where
 info : ∃ info z, P.info? t = some info ∧ info.size = i.size ∧ info.bytes = i.bytes ∧ info.zero = some z ∧ z.cells.toList = i.zero
 desc : ∃ d, P.underlying t = some d ∧ TK.fits d i.k = true ∧ (i.k = .other → aggD d = false)
 one : aggK i.k = false → ∃ info z, P.info? t = some info ∧ info.zero = some z ∧ i.zero = [z]
 agg : aggK i.k = true → ∃ info z, P.info? t = some info ∧ info.zero = some (.agg z) ∧ i.zero = z.toList
 eq : i.eq = true → P.stoodInHeld t = false ∧ P.eqGuardType P.depth t = false ∧ ∀ fs, P.underlying t = some (.struct fs) → ∀ f ∈ fs.toList, f.name ≠ "_"
def TOk (P : Program) (T : Tab) : Prop := ∀ t i, T t = some i → TI.Ok P t i
theorem ssl_shape {E : Env} {cs : List AV} {n : Nat} {f : Bool} {u : Value} (h : RepV E (.ssl cs n f) u) : ∃ a cap, u = .slice a n cap ∧ n ≤ cap ∧ (f = true → cap = n) ∧ (n ≠ 0 → ∃ b, a = some b) := by
 simp only [RepV] at h
 rcases h with ⟨b, o, cells, ty, fz, cap, e, h1, h2, _⟩ | ⟨rfl, _, a, cap, e, h2, _⟩
 ·exact ⟨_, cap, e, h1, h2, fun _ => ⟨_, rfl⟩⟩
 ·exact ⟨a, cap, e, Nat.zero_le _, h2, fun h => absurd rfl h⟩
theorem RepV.ofVal {E : Env} : ∀ (v : Value), RepV E (ofVal v) v := by
 have key : ∀ l : List Value, RepL E (l.map .sc) l := by
  intro l
  induction l with
  | nil => simp [RepL]
  | cons v l ih => simp [RepL, RepV, ih]
 intro v
 cases v with
 | agg cs => simp only [Ah.ofVal, RepV]; exact ⟨cs, rfl, by simp, key _⟩
 | tuple cs => simp only [Ah.ofVal, RepV]; exact ⟨cs, rfl, by simp, key _⟩
 | func f a b => simp only [Ah.ofVal, RepV]; exact ⟨a, b, rfl, by simp, key _, by simp, key _⟩
 | _ => simp [Ah.ofVal, RepV]
structure RepT (E : Env) (k : Nat) (t : Nat → AV) (a : Act) : Prop where
 size : a.tmps.size = k
 at_ : ∀ i, RepV E (t i) (a.tmps.getD i undef)
theorem RepT.ext {E F : Env} {k : Nat} {t : Nat → AV} {a : Act} (h : Ext E F) (r : RepT E k t a) : RepT F k t a :=
 ⟨r.size, fun i => RepV.ext h _ _ (r.at_ i)⟩
theorem RepT.ev {E : Env} {k : Nat} {t : Nat → AV} {a : Act} (r : RepT E k t a) (x : Operand) : RepV E (ev t x) (a.eval x) := by
 cases x with
 | tmp i => exact r.at_ i
 | const v => exact RepV.ofVal v
 | global g => simp [Ah.ev, RepV]
 | func f => simp only [Ah.ev, RepV, Act.eval]; exact ⟨#[], #[], rfl, rfl, by simp [RepL], rfl, by simp [RepL]⟩
theorem RepT.put {E : Env} {k : Nat} {t : Nat → AV} {a : Act} (r : RepT E k t a) {d : Nat} (hd : d < k) {x : AV} {v : Value} (h : RepV E x v) :
  RepT E k (upd t d x) (a.put (some d) v) := by
 refine ⟨by simp [Act.put, r.size], fun i => ?_⟩
 have hk : d < a.tmps.size := by rw [r.size]; exact hd
 by_cases e : i = d
 ·subst e
  simp only [upd_same, Act.put]
  simpa [hk] using h
 ·rw [upd_ne _ _ e]
  simp only [Act.put]
  have := r.at_ i
  simp only [Array.getD_eq_getD_getElem?] at this ⊢
  rw [Array.getElem?_setIfInBounds_ne (by omega)]
  exact this
def Env.pobj (E : Env) (b : Nat) (o : Obj) : Env := { E with w := { E.w with heap := E.w.heap.setIfInBounds b o } }
theorem pobj_other {w : World} {b k : Nat} {o : Obj} (h : k ≠ b) : (w.heap.setIfInBounds b o)[k]? = w.heap[k]? := by
 simp [Array.getElem?_setIfInBounds_ne (Ne.symm h)]
mutual
theorem RepV.pobj {E : Env} {b : Nat} {o o0 : Obj} (h0 : E.w.heap[b]? = some o0) (hc : ∀ c t f, o0 ≠ .cells c t f) : ∀ (a : AV) (v : Value), RepV E a v → RepV (E.pobj b o) a v
 | .sc _, _, hr => by simpa [RepV] using hr
 | .own i o, u, hr => by simp only [RepV] at hr ⊢; exact hr
 | .osl i o n c, u, hr => by simp only [RepV] at hr ⊢; exact hr
 | .sh cs, u, hr => by
  simp only [RepV] at hr ⊢
  obtain ⟨b', o', cells, ty, fz, e, hs, hb, hl⟩ := hr
  refine ⟨b', o', cells, ty, fz, e, hs, ?_, RepL.pobj h0 hc _ _ hl⟩
  have : b' ≠ b := by rintro rfl; rw [h0] at hb; cases hb; exact hc _ _ _ rfl
  exact (pobj_other this).trans hb
 | .ssl cs n full, u, hr => by
  simp only [RepV] at hr ⊢
  rcases hr with ⟨b', o', cells, ty, fz, cap, e, h1, h2, hs, hb, hl⟩ | hr
  ·have : b' ≠ b := by rintro rfl; rw [h0] at hb; cases hb; exact hc _ _ _ rfl
   exact .inl ⟨b', o', cells, ty, fz, cap, e, h1, h2, hs, (pobj_other this).trans hb, RepL.pobj h0 hc _ _ hl⟩
  ·exact .inr hr
 | .esl full, u, hr => by simpa [RepV] using hr
 | .agg cs, u, hr => by
  simp only [RepV] at hr ⊢
  obtain ⟨a, e, h1, h2⟩ := hr
  exact ⟨a, e, h1, RepL.pobj h0 hc _ _ h2⟩
 | .tup cs, u, hr => by
  simp only [RepV] at hr ⊢
  obtain ⟨a, e, h1, h2⟩ := hr
  exact ⟨a, e, h1, RepL.pobj h0 hc _ _ h2⟩
 | .fn f x y, u, hr => by
  simp only [RepV] at hr ⊢
  obtain ⟨a, b, e, h1, h2, h3, h4⟩ := hr
  exact ⟨a, b, e, h1, RepL.pobj h0 hc _ _ h2, h3, RepL.pobj h0 hc _ _ h4⟩
 | .omap i, u, hr => by simp only [RepV] at hr ⊢; exact hr
 | .yld i, u, hr => by simp only [RepV] at hr ⊢; exact hr
 | .any, u, hr => by simp [RepV]
theorem RepL.pobj {E : Env} {b : Nat} {o o0 : Obj} (h0 : E.w.heap[b]? = some o0) (hc : ∀ c t f, o0 ≠ .cells c t f) : ∀ (as' : List AV) (vs : List Value), RepL E as' vs → RepL (E.pobj b o) as' vs
 | [], _, _ => by simp [RepL]
 | _ :: _, [], hr => by simp [RepL] at hr
 | a :: as', v :: vs, hr => by
  simp only [RepL] at hr ⊢
  exact ⟨RepV.pobj h0 hc a v hr.1, RepL.pobj h0 hc as' vs hr.2⟩
end
theorem RepT.pobj {E : Env} {k : Nat} {t : Nat → AV} {a : Act} {b : Nat} {o o0 : Obj} (h0 : E.w.heap[b]? = some o0) (hc : ∀ c t f, o0 ≠ .cells c t f) (r : RepT E k t a) : RepT (E.pobj b o) k t a :=
 ⟨r.size, fun i => RepV.pobj h0 hc _ _ (r.at_ i)⟩
theorem GlobOk.pobj {E : Env} {b : Nat} {o o0 : Obj} (h0 : E.w.heap[b]? = some o0) (hc : ∀ c t f, o0 ≠ .cells c t f) (hg : GlobOk E) : GlobOk (E.pobj b o) := fun g cs hm => by
 obtain ⟨h1, cells, ty, fz, h2, h3⟩ := hg g cs hm
 have : g ≠ b := by rintro rfl; rw [h0] at h2; cases h2; exact hc _ _ _ rfl
 exact ⟨h1, cells, ty, fz, (pobj_other this).trans h2, h3⟩
theorem RepB.pobj {P : Program} {E : Env} {b : Nat} {o o0 : Obj} (h0 : E.w.heap[b]? = some o0) (hc : ∀ c t f, o0 ≠ .cells c t f) {l : Loc} (hl : l.b ≠ b) : ∀ {blk : Blk}, RepB P E l blk → RepB P (E.pobj b o) l blk
 | .cells cs ty, h => by
  obtain ⟨cells, fz, info, h1, h2, h3⟩ := h
  exact ⟨cells, fz, info, (pobj_other hl).trans h1, RepL.pobj h0 hc _ _ h2, h3⟩
 | .map es c, h => by
  obtain ⟨ents, h1, h2, h3, h4⟩ := h
  exact ⟨ents, (pobj_other hl).trans h1, h2, h3, RepL.pobj h0 hc _ _ h4⟩
 | .loop .., h => by
  obtain ⟨r, h1, h2, h3, h4, h5, h6, h7⟩ := h
  exact ⟨r, (pobj_other hl).trans h1, h2, h3, h4, h5, h6, fun i => RepV.pobj h0 hc _ _ (h7 i)⟩
 | .iter .., h => (pobj_other hl).trans h
theorem RepH.pobj {P : Program} {E : Env} {H : Nat → Option Blk} {b : Nat} {o o0 : Obj} (h0 : E.w.heap[b]? = some o0) (hc : ∀ c t f, o0 ≠ .cells c t f) (hm : ∀ i l, E.m i = some l → l.b ≠ b) (h : RepH P E H) : RepH P (E.pobj b o) H :=
 ⟨fun i blk hb => let ⟨l, hl, hr⟩ := h.own i blk hb; ⟨l, hl, RepB.pobj h0 hc (hm i l hl) hr⟩,
  fun i l hl => let ⟨h1, h2, h3⟩ := h.lt i l hl; ⟨h1, by simpa [Env.pobj] using h2, h3⟩, h.inj, h.glob.pobj h0 hc⟩
theorem RepH.pobjAt {P : Program} {E : Env} {H : Nat → Option Blk} {i : Nat} {l : Loc} {blk : Blk} {o o0 : Obj} (h0 : E.w.heap[l.b]? = some o0) (hc : ∀ c t f, o0 ≠ .cells c t f) (hi : E.m i = some l) (h : RepH P E H)
  (hb : RepB P (E.pobj l.b o) l blk) : RepH P (E.pobj l.b o) (upd H i (some blk)) := by
 refine ⟨fun j blk' hb' => ?_, fun j l' hl => ?_, h.inj, h.glob.pobj h0 hc⟩
 ·by_cases e : j = i
  ·subst e; rw [upd_same] at hb'; cases hb'; exact ⟨l, hi, hb⟩
  ·rw [upd_ne _ _ e] at hb'
   obtain ⟨l', hl, hr⟩ := h.own j blk' hb'
   exact ⟨l', hl, RepB.pobj h0 hc (fun e' => e (h.inj j i l' l hl hi e')) hr⟩
 ·obtain ⟨h1, h2, h3, h4⟩ := h.lt j l' hl
  refine ⟨h1, by simpa [Env.pobj] using h2, h3, ?_⟩
  by_cases e : j = i
  ·subst e; exact ⟨blk, upd_same _ _ _⟩
  ·rw [upd_ne _ _ e]; exact h4
theorem Ext.pobj {E F : Env} (h : Ext E F) {b : Nat} {o : Obj} (hi : (∃ i l, E.m i = some l ∧ l.b = b) ∨ E.w.heap.size ≤ b) (ho : ∀ r : Loop, F.w.heap[b]? = some (Obj.loop r) → ∃ r' : Loop, o = Obj.loop r') : Ext E (F.pobj b o) where
 X := h.X
 N := h.N
 os := h.os
 tape := h.tape
 output := h.output
 size := by simpa [Env.pobj] using h.size
 keep b' hb' hm := by
  have : b' ≠ b := by
   rcases hi with ⟨i, l, hi, hb⟩ | hi
   ·exact fun e => hm i l hi (hb.trans e.symm)
   ·omega
  exact (pobj_other this).trans (h.keep b' hb' hm)
 old := h.old
 new := h.new
 lp b' r hr := by
  obtain ⟨r', h'⟩ := h.lp b' r hr
  by_cases e : b' = b
  ·subst e
   obtain ⟨r2, rfl⟩ := ho r' h'
   refine ⟨r2, ?_⟩
   simp [Env.pobj, lt_of_block h']
  ·exact ⟨r', (pobj_other e).trans h'⟩
section
variable {P : Program} {w : World}
theorem run_info {t : Nat} {i : TypeInfo} (h : P.info? t = some i) : (typeInfo t).run P w = .ok i w := by
 simp [typeInfo, h]
theorem run_under {t : Nat} {d : TypeDesc} (h : P.underlying t = some d) : (underlying t).run P w = .ok d w := by
 simp [underlying, h]
theorem run_size {t : Nat} {i : TypeInfo} (h : P.info? t = some i) : (sizeOf t).run P w = .ok i.size w := by
 simp [sizeOf, run_info h]
theorem run_zero {t : Nat} {i : TypeInfo} {z : Value} (h : P.info? t = some i) (hz : i.zero = some z) : (zeroValue t).run P w = .ok z w := by
 simp [zeroValue, run_info h, hz]
structure Row (P : Program) (t : Nat) (i : TI) : Prop where
 size : ∀ w, (sizeOf t).run P w = .ok i.size w
 info : ∃ info z, P.info? t = some info ∧ info.size = i.size ∧ info.bytes = i.bytes ∧ info.zero = some z ∧ z.cells.toList = i.zero
 under : ∃ d, P.underlying t = some d ∧ (∀ w, (underlying t).run P w = .ok d w) ∧ TK.fits d i.k = true
 agg : ∀ w, (isAgg t).run P w = .ok (aggK i.k) w
theorem TOk.row {T : Tab} (h : TOk P T) {t : Nat} {i : TI} (ht : T t = some i) : Row P t i := by
 obtain ⟨⟨info, z, h1, h2, h3, h4, h5⟩, ⟨d, h6, h7, h8⟩, _, _, _⟩ := h t i ht
 refine ⟨fun w => by rw [run_size h1, h2], ⟨info, z, h1, h2, h3, h4, h5⟩, ⟨d, h6, fun w => run_under h6, h7⟩, fun w => ?_⟩
 have : (isAgg t).run P w = .ok (aggD d) w := by
  simp only [isAgg, Sem.run_bind, run_under h6, Result.andThen_ok]
  cases d <;> rfl
 rw [this]
 have : aggD d = aggK i.k := by
  revert h7 h8
  cases i.k <;> cases d <;> simp [TK.fits, aggD, aggK]
 rw [this]
theorem Row.int {t : Nat} {i : TI} (r : Row P t i) {k : IntKind} (h : i.k = .int k) : P.underlying t = some (.int k) := by
 obtain ⟨d, h1, _, h2⟩ := r.under
 rw [h] at h2; cases d <;> simp [TK.fits] at h2; rw [h1, h2]
theorem Row.bool {t : Nat} {i : TI} (r : Row P t i) (h : i.k = .bool) : P.underlying t = some .bool := by
 obtain ⟨d, h1, _, h2⟩ := r.under
 rw [h] at h2; cases d <;> simp [TK.fits] at h2; rw [h1]
theorem Row.str {t : Nat} {i : TI} (r : Row P t i) (h : i.k = .str) : P.underlying t = some .string := by
 obtain ⟨d, h1, _, h2⟩ := r.under
 rw [h] at h2; cases d <;> simp [TK.fits] at h2; rw [h1]
theorem Row.slice {t : Nat} {i : TI} (r : Row P t i) {e : Nat} (h : i.k = .slice e) : P.underlying t = some (.slice e) := by
 obtain ⟨d, h1, _, h2⟩ := r.under
 rw [h] at h2; cases d <;> simp [TK.fits] at h2; rw [h1, h2]
theorem Row.arr {t : Nat} {i : TI} (r : Row P t i) {n e : Nat} (h : i.k = .arr n e) : P.underlying t = some (.array n e) := by
 obtain ⟨d, h1, _, h2⟩ := r.under
 rw [h] at h2; cases d <;> simp [TK.fits] at h2; rw [h1, h2.1, h2.2]
theorem Row.ptr {t : Nat} {i : TI} (r : Row P t i) {e : Nat} (h : i.k = .ptr e) : P.underlying t = some (.pointer e) := by
 obtain ⟨d, h1, _, h2⟩ := r.under
 rw [h] at h2; cases d <;> simp [TK.fits] at h2; rw [h1, h2]
theorem Row.func {t : Nat} {i : TI} (r : Row P t i) (h : i.k = .func) : ∃ a b c, P.underlying t = some (.func a b c) := by
 obtain ⟨d, h1, _, h2⟩ := r.under
 rw [h] at h2; cases d <;> simp [TK.fits] at h2; exact ⟨_, _, _, h1⟩
theorem Row.struct {t : Nat} {i : TI} (r : Row P t i) {l : List (Nat × Nat)} (h : i.k = .struct l) : ∃ fs, P.underlying t = some (.struct fs) ∧ fs.toList.map (fun f => (f.offset, f.type)) = l := by
 obtain ⟨d, h1, _, h2⟩ := r.under
 rw [h] at h2; cases d <;> simp [TK.fits] at h2; exact ⟨_, h1, h2⟩
end
theorem RepL.get {E : Env} {as' : List AV} {vs : List Value} (h : RepL E as' vs) {i : Nat} {a : AV} (ha : as'[i]? = some a) : ∃ v, vs[i]? = some v ∧ RepV E a v := (RepL.iff.1 h).2 i a ha
theorem RepL.length {E : Env} {as' : List AV} {vs : List Value} (h : RepL E as' vs) : as'.length ≤ vs.length := (RepL.iff.1 h).1
theorem RepL.drop {E : Env} {as' : List AV} {vs : List Value} (h : RepL E as' vs) (k : Nat) : RepL E (as'.drop k) (vs.drop k) := by
 rw [RepL.iff] at *
 refine ⟨by simp; omega, fun i a ha => ?_⟩
 rw [List.getElem?_drop] at ha ⊢
 exact h.2 _ _ ha
theorem RepL.take {E : Env} {as' : List AV} {vs : List Value} (h : RepL E as' vs) (k : Nat) : RepL E (as'.take k) (vs.take k) := by
 rw [RepL.iff] at *
 refine ⟨by simp; omega, fun i a ha => ?_⟩
 rw [List.getElem?_take] at ha ⊢
 split at ha
 ·rename_i hlt; rw [if_pos hlt]; exact h.2 _ _ ha
 ·cases ha
theorem RepL.of_take {E : Env} {as' : List AV} {vs : List Value} (h : RepL E as' vs) (k : Nat) : RepL E (as'.take k) vs := by
 rw [RepL.iff] at *
 refine ⟨by simp; omega, fun i a ha => ?_⟩
 rw [List.getElem?_take] at ha
 split at ha
 ·exact h.2 _ _ ha
 ·cases ha
theorem RepL.more {E : Env} {as' : List AV} {vs us : List Value} (h : RepL E as' vs) : RepL E as' (vs ++ us) := by
 rw [RepL.iff] at *
 refine ⟨by simp; omega, fun i a ha => ?_⟩
 obtain ⟨v, hv, hr⟩ := h.2 i a ha
 exact ⟨v, by rw [List.getElem?_append_left (by simpa using (List.getElem?_eq_some_iff.1 hv).1)]; exact hv, hr⟩
theorem RepL.append {E : Env} {as' bs : List AV} {vs us : List Value} (h : RepL E as' vs) (hl : as'.length = vs.length) (k : RepL E bs us) : RepL E (as' ++ bs) (vs ++ us) := by
 rw [RepL.iff] at *
 refine ⟨by simp; omega, fun i a ha => ?_⟩
 rcases Nat.lt_or_ge i as'.length with hi | hi
 ·rw [List.getElem?_append_left hi] at ha
  obtain ⟨v, hv, hr⟩ := h.2 i a ha
  exact ⟨v, by rw [List.getElem?_append_left (by omega)]; exact hv, hr⟩
 ·rw [List.getElem?_append_right hi] at ha
  obtain ⟨v, hv, hr⟩ := k.2 _ a ha
  exact ⟨v, by rw [List.getElem?_append_right (by omega), ← hl]; exact hv, hr⟩
theorem RepL.cellsOf {E : Env} {a : AV} {v : Value} (h : RepV E a v) (ho : partOk a = true) : RepL E (Ah.cellsOf a) v.cells.toList ∧ (Ah.cellsOf a).length = v.cells.toList.length := by
 cases a with
 | agg cs =>
  simp only [RepV] at h
  obtain ⟨x, rfl, hl, hr⟩ := h
  exact ⟨hr, hl⟩
 | sc v =>
  simp only [RepV] at h; subst h
  cases v <;> simp [partOk, cellOk, Value.oneCell'] at ho <;> simp [Ah.cellsOf, RepL, RepV, Value.cells]
 | own i o => have h' := h; simp only [RepV] at h; obtain ⟨_, a, rfl, _⟩ := h; simp [Ah.cellsOf, RepL, h', Value.cells]
 | osl i o n c => have h' := h; simp only [RepV] at h; obtain ⟨_, a, cap, rfl, _⟩ := h; simp [Ah.cellsOf, RepL, h', Value.cells]
 | sh cs => have h' := h; simp only [RepV] at h; obtain ⟨b, o, cells, ty, fz, rfl, _⟩ := h; simp [Ah.cellsOf, RepL, h', Value.cells]
 | ssl cs n f => have h' := h; obtain ⟨a, cap, rfl, _⟩ := ssl_shape h; simp only [Ah.cellsOf, RepL, Value.cells]; exact ⟨⟨h', trivial⟩, rfl⟩
 | esl f => have h' := h; simp only [RepV] at h; obtain ⟨a, cap, rfl, _⟩ := h; simp [Ah.cellsOf, RepL, h', Value.cells]
 | omap i => have h' := h; simp only [RepV] at h; obtain ⟨_, a, rfl, _⟩ := h; simp [Ah.cellsOf, RepL, h', Value.cells]
 | yld i => have h' := h; simp only [RepV] at h; obtain ⟨_, a, rfl, _⟩ := h; simp [Ah.cellsOf, RepL, h', Value.cells]
 | fn f x y => have h' := h; simp only [RepV] at h; obtain ⟨a, b, rfl, _⟩ := h; simp [Ah.cellsOf, RepL, h', Value.cells]
 | tup cs => simp [partOk, cellOk] at ho
 | any => simp [partOk, cellOk] at ho
theorem addr_add (b o k : Nat) : (⟨b, o, none⟩ : Addr).add k = ⟨b, o + k, none⟩ := by
 unfold Addr.add; split
 ·rename_i h; subst h; rfl
 ·rfl
theorem cell_at {w : World} {b o : Nat} {cells : Array Value} {ty : TypeId} {fz : Nat × Nat} (h : w.heap[b]? = some (.cells cells ty fz)) : w.cell? ⟨b, o, none⟩ = cells[o]? := by
 simp [World.cell?, h]
theorem run_load_at {P : Program} {w : World} {b o : Nat} {cells : Array Value} {ty : TypeId} {fz : Nat × Nat} {v : Value} (h : w.heap[b]? = some (.cells cells ty fz)) (hv : cells[o]? = some v) :
  (load ⟨b, o, none⟩).run P w = .ok v w := by
 rw [run_load]; rw [cell_at h, hv]
theorem run_loadCellsFrom {P : Program} {w : World} {b o : Nat} {cells : Array Value} {ty : TypeId} {fz : Nat × Nat} (h : w.heap[b]? = some (.cells cells ty fz)) :
  ∀ (n i : Nat) (acc : Array Value), o + i + n ≤ cells.size → (loadCellsFrom ⟨b, o, none⟩ i n acc).run P w = .ok (acc ++ cells.extract (o + i) (o + i + n)) w
 | 0, i, acc, _ => by simp [loadCellsFrom]; omega
 | n + 1, i, acc, hn => by
  have hlt : o + i < cells.size := by omega
  have hv : cells[o + i]? = some cells[o + i] := by simp [hlt]
  simp only [loadCellsFrom, Sem.run_bind]
  rw [addr_add, run_load_at h hv, Result.andThen_ok, run_loadCellsFrom h n (i + 1) _ (by omega)]
  congr 1
  apply Array.toList_inj.1
  simp only [Array.toList_append, Array.toList_push, Array.toList_extract, List.extract_eq_take_drop, List.append_assoc]
  congr 1
  have e : (o + i + (n + 1)) - (o + i) = n + 1 := by omega
  have e2 : (o + (i + 1) + n) - (o + (i + 1)) = n := by omega
  rw [e, e2]
  rw [show cells.toList.drop (o + i) = cells[o + i] :: cells.toList.drop (o + (i + 1)) by
   rw [List.drop_eq_getElem_cons (by simpa using hlt)]; simp [Nat.add_assoc]]
  simp
theorem run_loadCells {P : Program} {w : World} {b o n : Nat} {cells : Array Value} {ty : TypeId} {fz : Nat × Nat} (h : w.heap[b]? = some (.cells cells ty fz)) (hn : o + n ≤ cells.size) :
  (loadCells ⟨b, o, none⟩ n).run P w = .ok (cells.extract o (o + n)) w := by
 rw [loadCells, run_loadCellsFrom h n 0 #[] (by omega)]
 simp
theorem run_loadVar {P : Program} {T : Tab} (hT : TOk P T) {E : Env} {b base off t : Nat} {cells : Array Value} {ty : TypeId} {fz : Nat × Nat} {cs : List AV} {a : AV}
  (h : E.w.heap[b]? = some (.cells cells ty fz)) (hl : RepL E cs (cells.toList.drop base)) (hp : partOf T t cs off = some a) :
  ∃ v, (loadVar t ⟨b, base + off, none⟩).run P E.w = .ok v E.w ∧ RepV E a v := by
 unfold partOf at hp
 cases ht : T t with
 | none => rw [ht] at hp; cases hp
 | some i =>
  rw [ht] at hp
  have r := hT.row ht
  simp only at hp
  have hlen := hl.length
  simp only [List.length_drop, Array.length_toList] at hlen
  split at hp
  ·rename_i hk
   split at hp
   ·rename_i hle
    cases hp
    refine ⟨.agg (cells.extract (base + off) (base + off + i.size)), ?_, ?_⟩
    ·simp only [loadVar, Sem.run_bind, r.agg, hk, Result.andThen_ok, if_true, r.size]
     by_cases h0 : i.size = 0
     ·rw [h0]; simp [loadCells, loadCellsFrom]; omega
     ·rw [run_loadCells h (by omega)]; rfl
    ·simp only [RepV]
     refine ⟨_, rfl, ?_, ?_⟩
     ·simp; omega
     ·rw [Array.toList_extract, List.extract_eq_take_drop]
      have := (hl.drop off).take i.size
      rw [List.drop_drop] at this
      rw [show base + off + i.size - (base + off) = i.size by omega]
      exact this
   ·cases hp
  ·rename_i hk
   obtain ⟨v, hv, hr⟩ := hl.get hp
   rw [List.getElem?_drop, Array.getElem?_toList] at hv
   refine ⟨v, ?_, hr⟩
   simp only [loadVar, Sem.run_bind, r.agg, Result.andThen_ok]
   rw [if_neg (by simpa using hk), run_load_at h hv]
theorem run_part {P : Program} {T : Tab} (hT : TOk P T) {E : Env} {off t : Nat} {cells : Array Value} {cs : List AV} {a : AV}
  (hl : RepL E cs cells.toList) (hp : partOf T t cs off = some a) : ∃ v, (∀ w, (part t cells off).run P w = .ok v w) ∧ RepV E a v := by
 unfold partOf at hp
 cases ht : T t with
 | none => rw [ht] at hp; cases hp
 | some i =>
  rw [ht] at hp
  have r := hT.row ht
  simp only at hp
  have hlen := hl.length
  simp only [Array.length_toList] at hlen
  split at hp
  ·rename_i hk
   split at hp
   ·rename_i hle
    cases hp
    refine ⟨.agg (cells.extract off (off + i.size)), fun w => ?_, ?_⟩
    ·simp only [part, Sem.run_bind, r.agg, hk, Result.andThen_ok, if_true, r.size]; rfl
    ·simp only [RepV]
     refine ⟨_, rfl, ?_, ?_⟩
     ·simp; omega
     ·rw [Array.toList_extract, List.extract_eq_take_drop]
      have := (hl.drop off).take i.size
      rw [show off + i.size - off = i.size by omega]
      exact this
   ·cases hp
  ·rename_i hk
   obtain ⟨v, hv, hr⟩ := hl.get hp
   rw [Array.getElem?_toList] at hv
   refine ⟨v, fun w => ?_, hr⟩
   simp only [part, Sem.run_bind, r.agg, Result.andThen_ok]
   rw [if_neg (by simpa using hk), hv]; rfl
end Go.Proofs.YtappiofmkoelnaaGreatDoorW.Ah
end
