/- The operations on abstract values: what each yields, and when. -/
import Derived.Test.YtmfechcelhchcaaDoorSimVal
namespace Go.Sim
open Go

inductive SX : Type
  | t (n : Nat)
  | c (v : AVal)

inductive SI : Type
  | mv (x : SX)
  | pick (c a b : SX)
  | bin (op : BinOp) (x y : SX)
  | eqs (neg : Bool) (ks : List Nat) (x y : SX)
  | eqb (neg : Bool) (x y : SX)
  | un (op : UnOp) (x : SX)
  | cvi (k : IntKind) (x : SX)
  | idc (x : SX)
  | fld (off size : Nat) (agg : Bool) (x : SX)
  | fldA (off : Nat) (x : SX)
  | idxA (sz : Nat) (x i : SX)
  | idxS (x i : SX)
  | ld (size : Nat) (agg : Bool) (x : SX)
  | slS (x : SX) (lo hi : Option SX)
  | slA (sz : Nat) (x : SX) (lo hi : Option SX)
  | slM (sz : Nat) (x : SX) (lo hi mx : Option SX)
  | ext (x : SX) (i : Nat)
  | bld (zero : List AVal) (parts : List (Nat × Nat × SX))
  | bldF (ty sz : Nat) (parts : List SX)
  | len (x : SX)
  | lenS (x : SX)
  | min2 (x y : SX)
  | max2 (x y : SX)
  | mkf (f : Nat) (first captured : List SX)
  | isnil (kind : Nat) (neg : Bool) (x : SX)
  | bldR (ty sz : Nat) (parts : List SX)
  | box (ty sz : Nat) (x : SX)
  | boxF (ty sz : Nat) (x : SX)
  | new (ty sz : Nat) (zero : List AVal)
  | newnil (ty sz : Nat)
  | st (size : Nat) (x v : SX)
  | app (ty sz bytes : Nat) (x y : SX)
  | appS (ty bytes : Nat) (x y : SX)
  | appIn (ty sz : Nat) (x y : SX)
  | slX (sz : Nat) (x : SX) (lo hi : Option SX)
  | mks (ty sz bytes : Nat) (zero : List AVal) (n c : SX)
  | copy (sz : Nat) (x y : SX)
  | clear (sz : Nat) (zero : List AVal) (x : SX)
  | call (f : SX) (args : List SX)
  | pcall (f : Nat) (args : List SX)
  | b2s (x : SX)
  | usd (x : SX)
  | ustr (ty : Nat) (x y : SX)

def ev (e : Env) : SX → AVal
  | .t n => e n
  | .c v => v
def evO (e : Env) : Option SX → Option AVal
  | some x => some (ev e x)
  | none => none

/-! ## Scalars -/
abbrev aInt (n : Int) : AVal := .int .i64 n
def bitF (op : BinOp) (k : IntKind) (x y : Int) : Int :=
  match op with
  | .and => k.wrap ↑((BitVec.ofInt k.bits x &&& BitVec.ofInt k.bits y).toNat)
  | .or => k.wrap ↑((BitVec.ofInt k.bits x ||| BitVec.ofInt k.bits y).toNat)
  | .xor => k.wrap ↑((BitVec.ofInt k.bits x ^^^ BitVec.ofInt k.bits y).toNat)
  | _ => k.wrap ↑((BitVec.ofInt k.bits x &&& ~~~BitVec.ofInt k.bits y).toNat)
def binI (op : BinOp) (k : IntKind) (a b : Int) : AVal :=
  match op with
  | .add => .int k (k.wrap (a + b))
  | .sub => .int k (k.wrap (a - b))
  | .mul => .int k (k.wrap (a * b))
  | .quo => .int k (k.wrap (a.tdiv b))
  | .rem => .int k (a.tmod b)
  | .shl => .int k (k.wrap (a * 2 ^ (min b.toNat k.bits)))
  | .shr => .int k (a.fdiv (2 ^ (min b.toNat k.bits)))
  | .eql => .bool (a == b)
  | .neq => .bool (a != b)
  | .lss => .bool (decide (a < b))
  | .leq => .bool (decide (a ≤ b))
  | .gtr => .bool (decide (b < a))
  | .geq => .bool (decide (b ≤ a))
  | .and => .int k (bitF .and k a b)
  | .or => .int k (bitF .or k a b)
  | .xor => .int k (bitF .xor k a b)
  | .andNot => .int k (bitF .andNot k a b)
def okI (op : BinOp) (k k' : IntKind) (b : Int) : Prop :=
  match op with
  | .quo | .rem => k = k' ∧ b ≠ 0
  | .shl | .shr => 0 ≤ b
  | _ => k = k'
def binS (op : BinOp) (a b : List UInt8) : AVal :=
  match op with
  | .add => .str (a ++ b)
  | .eql => .bool (a == b)
  | .neq => .bool (a != b)
  | .lss => .bool (Op.bytesLess a b)
  | .geq => .bool (!Op.bytesLess a b)
  | _ => .dead
def okS (op : BinOp) (a b : List UInt8) : Prop :=
  match op with
  | .add => a.length + b.length ≤ 9223372036854775807
  | .eql | .neq | .lss | .geq => True
  | _ => False
def aBin (op : BinOp) : AVal → AVal → AVal
  | .int k a, .int _ b => binI op k a b
  | .str a, .str b => binS op a b
  | _, _ => .dead
def okBin (op : BinOp) : AVal → AVal → Prop
  | .int k _, .int k' b => okI op k k' b
  | .str a, .str b => okS op a b
  | _, _ => False
def aUn (op : UnOp) : AVal → AVal
  | .bool b => .bool (!b)
  | .int k n => match op with
    | .neg => .int k (k.wrap (0 - n))
    | _ => .dead
  | _ => .dead
def okUn (op : UnOp) : AVal → Prop
  | .bool _ => op = .not
  | .int _ _ => op = .neg
  | _ => False
/-- structs of scalars: are they one? -/
def eqCells : List AVal → List AVal → Bool
  | [], [] => true
  | .int _ a :: as, .int _ b :: bs => (a == b) && eqCells as bs
  | .str a :: as, .str b :: bs => (a == b) && eqCells as bs
  | .bool a :: as, .bool b :: bs => (a == b) && eqCells as bs
  | _, _ => false
def okEqCells : List Nat → List AVal → List AVal → Prop
  | [], [], [] => True
  | 0 :: ts, .int k _ :: as, .int k' _ :: bs => k = k' ∧ okEqCells ts as bs
  | 1 :: ts, .str _ :: as, .str _ :: bs => okEqCells ts as bs
  | 2 :: ts, .bool _ :: as, .bool _ :: bs => okEqCells ts as bs
  | _, _, _ => False
def okEqs (ks : List Nat) : AVal → AVal → Prop
  | .agg as, .agg bs => okEqCells ks as bs
  | _, _ => False
def aEqs (neg : Bool) : AVal → AVal → AVal
  | .agg as, .agg bs => .bool (xor neg (eqCells as bs))
  | _, _ => .dead
def aEqb (neg : Bool) : AVal → AVal → AVal
  | .bool a, .bool b => .bool (xor neg (a == b))
  | _, _ => .dead
def okEqb : AVal → AVal → Prop
  | .bool _, .bool _ => True
  | _, _ => False
def aCvi (k : IntKind) : AVal → AVal
  | .int _ n => .int k (k.wrap n)
  | _ => .dead
def okCvi : AVal → Prop
  | .int _ _ => True
  | _ => False
def aPick : AVal → AVal → AVal → AVal
  | .bool c, a, b => if c then a else b
  | _, _, _ => .dead
def okPick : AVal → Prop
  | .bool _ => True
  | _ => False

/-! ## Structs, slices, strings -/
def cutV (size : Nat) (agg : Bool) (cs : List AVal) : AVal := if agg then .agg (cs.take size) else cs.headD .dead
def aFld (off size : Nat) (agg : Bool) : AVal → AVal
  | .agg cs => cutV size agg (cs.drop off)
  | _ => .dead
def okFld (off size : Nat) (agg : Bool) : AVal → Prop
  | .agg cs => off + size ≤ cs.length ∧ (agg = false → size = 1)
  | _ => False
def aFldA (off : Nat) : AVal → AVal
  | .pin cs => .pin (cs.drop off)
  | .ptr r i j => .ptr r i (j + off)
  | .vp r j => .vp r (j + off)
  | _ => .dead
def okFldA : AVal → Prop
  | .pin _ => True
  | .ptr _ _ _ => True
  | .vp _ _ => True
  | _ => False
def aIdxA : AVal → AVal → AVal
  | .slc es, .int _ k => .pin (es.getD k.toNat [])
  | .osl r _ i _, .int _ k => .ptr r (i + k.toNat) 0
  | _, _ => .dead
def okIdxA (sz : Nat) : AVal → AVal → Prop
  | .slc es, .int _ k => 0 ≤ k ∧ k < es.length ∧ (es.getD k.toNat []).length = sz
  | .osl _ sz' _ n, .int _ k => sz' = sz ∧ 0 ≤ k ∧ k < n
  | _, _ => False
def aIdxS : AVal → AVal → AVal
  | .str l, .int _ k => .int .u8 (l.getD k.toNat 0).toNat
  | _, _ => .dead
def okIdxS : AVal → AVal → Prop
  | .str l, .int _ k => 0 ≤ k ∧ k < l.length
  | _, _ => False
def aLd0 (h : Heap) (size : Nat) (agg : Bool) : AVal → AVal
  | .pin cs => cutV size agg cs
  | .ptr r i j => match h r with
    | some o => cutV size agg ((o.es.getD i []).drop j)
    | none => .dead
  | _ => .dead
def aLd (h : Heap) (size : Nat) (agg : Bool) (x : AVal) : AVal := aLd0 h size agg (deVp x)
def okLd0 (h : Heap) (size : Nat) (agg : Bool) : AVal → Prop
  | .pin cs => size ≤ cs.length ∧ (agg = false → size = 1)
  | .ptr r i j => ∃ o, h r = some o ∧ i < o.es.length ∧ j + size ≤ (o.es.getD i []).length ∧ (agg = false → size = 1)
  | _ => False
def okLd (h : Heap) (size : Nat) (agg : Bool) (x : AVal) : Prop := okLd0 h size agg (deVp x)
def loOf : Option AVal → Int
  | some (.int _ k) => k
  | _ => 0
def hiOf (n : Nat) : Option AVal → Int
  | some (.int _ k) => k
  | _ => n
def okB : Option AVal → Prop
  | some (.int _ _) => True
  | none => True
  | _ => False
def aSlS : AVal → Option AVal → Option AVal → AVal
  | .str l, lo, hi => .str ((l.take (hiOf l.length hi).toNat).drop (loOf lo).toNat)
  | _, _, _ => .dead
def okSlS : AVal → Option AVal → Option AVal → Prop
  | .str l, lo, hi => okB lo ∧ okB hi ∧ 0 ≤ loOf lo ∧ loOf lo ≤ hiOf l.length hi ∧ hiOf l.length hi ≤ l.length
  | _, _, _ => False
def aSlA : AVal → Option AVal → Option AVal → AVal
  | .slc es, lo, hi => .slc ((es.take (hiOf es.length hi).toNat).drop (loOf lo).toNat)
  | .osl r sz i n, lo, hi => .osl r sz (i + (loOf lo).toNat) ((hiOf n hi).toNat - (loOf lo).toNat)
  | .emp, _, _ => .emp
  | _, _, _ => .dead
def okSlA (sz : Nat) : AVal → Option AVal → Option AVal → Prop
  | .slc es, lo, hi => okB lo ∧ okB hi ∧ 0 ≤ loOf lo ∧ loOf lo ≤ hiOf es.length hi ∧ hiOf es.length hi ≤ es.length ∧ ∀ e ∈ es, e.length = sz
  | .osl _ sz' _ n, lo, hi => sz' = sz ∧ okB lo ∧ okB hi ∧ 0 ≤ loOf lo ∧ loOf lo ≤ hiOf n hi ∧ hiOf n hi ≤ n
  | .emp, lo, hi => okB lo ∧ okB hi ∧ loOf lo = 0 ∧ hiOf 0 hi = 0
  | _, _, _ => False
def nOf : AVal → Nat
  | .slc es => es.length
  | .osl _ _ _ n => n
  | .str l => l.length
  | _ => 0
def okSlM : AVal → Option AVal → Option AVal → Option AVal → Prop
  | x, lo, hi, mx => (match x with | .slc _ | .osl .. | .emp => True | _ => False) ∧ okB lo ∧ okB hi ∧ okB mx ∧ 0 ≤ loOf lo ∧ loOf lo ≤ hiOf (nOf x) hi ∧ hiOf (nOf x) hi ≤ hiOf (nOf x) mx ∧ hiOf (nOf x) mx ≤ nOf x
def aExt (i : Nat) : AVal → AVal
  | .tup vs => vs.getD i .dead
  | _ => .dead
def okExt (i : Nat) : AVal → Prop
  | .tup vs => i < vs.length
  | _ => False
def cellsOf : AVal → List AVal
  | .agg cs => cs
  | a => [a]
/-- one cell, or a struct -/
def isV : AVal → Bool
  | .prim v => v.oneCell'
  | .tup _ => false
  | .dead => false
  | _ => true
def fillA (cells : List AVal) : List (Nat × Nat × AVal) → List AVal
  | [] => cells
  | (off, size, v) :: r => fillA (cells.take off ++ cellsOf v ++ cells.drop (off + size)) r
def okFill (n : Nat) : List (Nat × Nat × AVal) → Prop
  | [] => True
  | (off, size, v) :: r => isV v = true ∧ (cellsOf v).length = size ∧ off + size ≤ n ∧ okFill n r
def aLen : AVal → AVal
  | .slc es => aInt es.length
  | .osl _ _ _ n => aInt n
  | .emp => aInt 0
  | _ => .dead
def okLen : AVal → Prop
  | .slc _ | .osl .. | .emp => True
  | _ => False
def aLenS : AVal → AVal
  | .str l => aInt l.length
  | _ => .dead
def okLenS : AVal → Prop
  | .str _ => True
  | _ => False
def aMin : AVal → AVal → AVal
  | .int k a, .int _ b => .int k (min a b)
  | _, _ => .dead
def aMax : AVal → AVal → AVal
  | .int k a, .int _ b => .int k (max a b)
  | _, _ => .dead
def ok2i : AVal → AVal → Prop
  | .int k _, .int k' _ => k = k'
  | _, _ => False

/-- What a stable operation yields. -/
def fop (si : SI) (e : Env) (h : Heap) : AVal :=
  match si with
  | .mv x => ev e x
  | .pick c a b => aPick (ev e c) (ev e a) (ev e b)
  | .bin op x y => aBin op (ev e x) (ev e y)
  | .eqs neg _ x y => aEqs neg (ev e x) (ev e y)
  | .eqb neg x y => aEqb neg (ev e x) (ev e y)
  | .un op x => aUn op (ev e x)
  | .cvi k x => aCvi k (ev e x)
  | .idc x => ev e x
  | .fld off size agg x => aFld off size agg (ev e x)
  | .fldA off x => aFldA off (ev e x)
  | .idxA _ x i => aIdxA (ev e x) (ev e i)
  | .idxS x i => aIdxS (ev e x) (ev e i)
  | .ld size agg x => aLd h size agg (ev e x)
  | .slS x lo hi => aSlS (ev e x) (evO e lo) (evO e hi)
  | .slA _ x lo hi => aSlA (ev e x) (evO e lo) (evO e hi)
  | .slM _ _ _ _ _ => .dead
  | .ext x i => aExt i (ev e x)
  | .bld zero parts => .agg (fillA zero (parts.map fun p => (p.1, p.2.1, ev e p.2.2)))
  | .bldF _ _ parts => if parts.isEmpty then .emp else .slc (parts.map fun x => cellsOf (ev e x))
  | .len x => aLen (ev e x)
  | .lenS x => aLenS (ev e x)
  | .min2 x y => aMin (ev e x) (ev e y)
  | .max2 x y => aMax (ev e x) (ev e y)
  | .mkf f first captured => .fn f (first.map (ev e)) (captured.map (ev e))
  | _ => .dead
/-- .. and when. -/
def fok (si : SI) (e : Env) (h : Heap) : Prop :=
  match si with
  | .mv _ => True
  | .pick c _ _ => okPick (ev e c)
  | .bin op x y => okBin op (ev e x) (ev e y)
  | .eqs _ ks x y => okEqs ks (ev e x) (ev e y)
  | .eqb _ x y => okEqb (ev e x) (ev e y)
  | .un op x => okUn op (ev e x)
  | .cvi _ x => okCvi (ev e x)
  | .idc x => ∃ l, ev e x = .str l
  | .fld off size agg x => okFld off size agg (ev e x)
  | .fldA _ x => okFldA (ev e x)
  | .idxA sz x i => okIdxA sz (ev e x) (ev e i)
  | .idxS x i => okIdxS (ev e x) (ev e i)
  | .ld size agg x => okLd h size agg (ev e x)
  | .slS x lo hi => okSlS (ev e x) (evO e lo) (evO e hi)
  | .slA sz x lo hi => okSlA sz (ev e x) (evO e lo) (evO e hi)
  | .slM _ x lo hi mx => okSlM (ev e x) (evO e lo) (evO e hi) (evO e mx)
  | .ext x i => okExt i (ev e x)
  | .bld zero parts => okFill zero.length (parts.map fun p => (p.1, p.2.1, ev e p.2.2))
  | .bldF _ sz parts => ∀ x ∈ parts, isV (ev e x) = true ∧ (cellsOf (ev e x)).length = sz
  | .len x => okLen (ev e x)
  | .lenS x => okLenS (ev e x)
  | .min2 x y => ok2i (ev e x) (ev e y)
  | .max2 x y => ok2i (ev e x) (ev e y)
  | .mkf _ _ _ => True
  | _ => False
/-- is it one of these? -/
def SI.stable : SI → Bool
  | .mv _ | .pick .. | .bin .. | .eqs .. | .eqb .. | .un .. | .cvi .. | .idc .. | .fld .. | .fldA .. | .idxA .. | .idxS .. | .ld .. | .slS .. | .slA .. | .slM .. | .ext .. | .bld .. | .bldF .. | .len .. | .lenS .. | .min2 .. | .max2 .. | .mkf .. => true
  | _ => false

/-! ## From the program's operations -/
def ofV1 : Value → AVal
  | .int k n => .int k n
  | .bool b => .bool b
  | .string s => .str s.data.toList
  | .slice none 0 0 => .emp
  | v => .prim v
def ofV : Value → AVal
  | .agg cs => .agg (cs.toList.map ofV1)
  | v => ofV1 v
def constOK : Value → Bool
  | .agg cs => cs.toList.all Value.oneCell'
  | v => v.oneCell'
def toSX : Operand → Option SX
  | .tmp n => if n < 1000000 then some (.t n) else none
  | .const v => if constOK v then some (.c (ofV v)) else none
  | .func f => some (.c (.fn f [] []))
  | .global g => some (.t (1000000 + g))
def toSXO : Option Operand → Option (Option SX)
  | none => some none
  | some x => (toSX x).map some
def toSXs : List Operand → Option (List SX)
  | [] => some []
  | x :: r => match toSX x, toSXs r with
    | some a, some b => some (a :: b)
    | _, _ => none
def isNilC : Operand → Bool
  | .const (.slice none 0 0) | .const .nilFunc | .const (.pointer none) | .const .nilIface | .const (.map none) => true
  | _ => false
/-- a comparison with nil: of a slice, a pointer, a function -/
def nilK (P : Program) (t : TypeId) (y : Operand) : Option Nat :=
  match P.underlying t, y with
  | some (.slice _), .const (.slice none 0 0) => some 0
  | some (.pointer _), .const (.pointer none) => some 1
  | some (.func _ _ _), .const .nilFunc => some 2
  | _, _ => none
structure Ann where
  pure : List Nat := []
  how : List (Nat × Nat) := []
def Ann.at (ann : Ann) (dst : Option Nat) : Nat :=
  match dst with
  | some d => (ann.how.lookup d).getD 0
  | none => 0
def szT (P : Program) (t : TypeId) : Option Nat := (P.info? t).map (·.size)
def bytesT (P : Program) (t : TypeId) : Option Nat := (P.info? t).map (·.bytes)
def zeroT (P : Program) (t : TypeId) : Option (List AVal) := (P.info? t).bind fun i => i.zero.bind fun z => if constOK z then some (z.cells.toList.map ofV1) else none
def aggT (P : Program) (t : TypeId) : Option Bool :=
  match P.underlying t with
  | some (.struct _) => some true
  | some (.array _ _) => some true
  | some _ => some false
  | none => none
def isBoolT (P : Program) (t : TypeId) : Bool :=
  match P.underlying t with
  | some .bool => true
  | _ => false
def isStrT (P : Program) (t : TypeId) : Bool :=
  match P.underlying t with
  | some .string => true
  | _ => false
def elemT (P : Program) (t : TypeId) : Option TypeId :=
  match P.underlying t with
  | some (.slice e) => some e
  | _ => none
def fieldT (P : Program) (s : TypeId) (f : Nat) : Option Field :=
  match P.underlying s with
  | some (.struct fs) => fs[f]?
  | _ => none

def toMv (P : Program) (ann : Ann) (o : Oper) (x : Operand) : Option SI :=
  if ann.at o.dst = 1 then
    (match x with
     | .const (.slice none 0 0) => (elemT P o.type).bind fun e => (szT P e).bind fun s => if 0 < s then some (.newnil e s) else none
     | _ => none)
  else (toSX x).map .mv
def scalK (P : Program) (t : TypeId) : Option Nat :=
  match P.underlying t with
  | some (.int _) => some 0
  | some .string => some 1
  | some .bool => some 2
  | _ => none
def scalKs (P : Program) : Nat → List Field → Option (List Nat)
  | _, [] => some []
  | k, f :: fs => if f.offset = k ∧ f.name ≠ "_" then (scalK P f.type).bind fun x => (scalKs P (k + 1) fs).map (x :: ·) else none
def eqTy (P : Program) (t : TypeId) : Option (List Nat) :=
  match P.underlying t with
  | some (.struct fs) => if P.stoodInHeld t = false ∧ P.eqGuardType P.depth t = false then scalKs P 0 fs.toList else none
  | _ => none
def toBin (P : Program) (op : BinOp) (t : TypeId) (x y : Operand) : Option SI :=
  if isNilC y then (nilK P t y).bind fun k => (if op = .eql then (toSX x).map (.isnil k false) else if op = .neq then (toSX x).map (.isnil k true) else none)
  else if isNilC x then none
  else if aggT P t = some true then
    (if op = .eql then (eqTy P t).bind fun ks => (toSX x).bind fun x => (toSX y).map (.eqs false ks x)
     else if op = .neq then (eqTy P t).bind fun ks => (toSX x).bind fun x => (toSX y).map (.eqs true ks x) else none)
  else if isBoolT P t = true then
    (if op = .eql then (toSX x).bind fun x => (toSX y).map (.eqb false x)
     else if op = .neq then (toSX x).bind fun x => (toSX y).map (.eqb true x) else none)
  else (toSX x).bind fun x => (toSX y).map (.bin op x)
def toCv (P : Program) (s d : TypeId) (x : Operand) : Option SI :=
  match P.underlying s, P.underlying d with
  | some (.int _), some (.int k) => (toSX x).map (.cvi k)
  | some .string, some .string => (toSX x).map .idc
  | some (.slice el), some .string => match P.underlying el with
      | some (.int .u8) => (toSX x).map .b2s
      | _ => none
  | _, _ => none
def toParts (P : Program) (fs : Array Field) : List (Nat × Operand) → Option (List (Nat × Nat × SX))
  | [] => some []
  | (i, x) :: r => fs[i]?.bind fun f => (szT P f.type).bind fun s => (toSX x).bind fun x => (toParts P fs r).map fun r => (f.offset, s, x) :: r
def toRow : Nat → List (Nat × Operand) → Option (List SX)
  | _, [] => some []
  | k, (i, x) :: r => if i = k then (toSX x).bind fun x => (toRow (k + 1) r).map fun r => x :: r else none
def toCall (P : Program) (ann : Ann) (o : Oper) (c : Call) : Option SI :=
  match c.callee with
  | .value f => (toSXs c.args.toList).bind fun args =>
      match f with
      | .func k => if ann.pure.contains k ∧ ann.at o.dst ≠ 5 then some (.pcall k args) else some (.call (.c (.fn k [] [])) args)
      | .tmp t => if t < 1000000 then some (.call (.t t) args) else none
      | _ => none
  | .builtin .len => match c.args.toList, c.argTypes.toList with
      | [x], [t] => match P.underlying t with
        | some .string => (toSX x).map .lenS
        | some (.slice _) => (toSX x).map .len
        | _ => none
      | _, _ => none
  | .builtin .min => match c.args.toList with
      | [x, y] => (toSX x).bind fun x => (toSX y).map (.min2 x)
      | _ => none
  | .builtin .max => match c.args.toList with
      | [x, y] => (toSX x).bind fun x => (toSX y).map (.max2 x)
      | _ => none
  | .builtin .append => match c.args.toList, c.argTypes.toList with
      | [x, y], [t, u] => (elemT P t).bind fun e => (szT P e).bind fun s => (bytesT P e).bind fun b => (zeroT P e).bind fun z => (toSX x).bind fun x => (toSX y).bind fun y =>
          if 0 < s ∧ z.length = s then
            (if t = u then (if ann.at o.dst = 3 then some (.appIn e s x y) else some (.app e s b x y))
             else if isStrT P u = true ∧ s = 1 then some (.appS e b x y) else none)
          else none
      | _, _ => none
  | .builtin .copy => match c.args.toList, c.argTypes.toList with
      | [x, y], [t, _] => (elemT P t).bind fun e => (szT P e).bind fun s => (toSX x).bind fun x => (toSX y).map (.copy s x)
      | _, _ => none
  | .builtin .clear => match c.args.toList, c.argTypes.toList with
      | [x], [t] => (elemT P t).bind fun e => (szT P e).bind fun s => (zeroT P e).bind fun z => if 0 < s ∧ z.length = s then (toSX x).map (.clear s z) else none
      | _, _ => none
  | .builtin .unsafeSliceData => match c.args.toList, P.underlying o.type with
      | [x], some (.pointer _) => (toSX x).map .usd
      | _, _ => none
  | .builtin .unsafeString => match c.args.toList, c.argTypes.toList with
      | [x, y], [t, _] => match P.underlying t with
        | some (.pointer el) => if P.cellsOf el = 1 then (toSX x).bind fun x => (toSX y).map (.ustr el x) else none
        | _ => none
      | _, _ => none
  | _ => none
def toSI (P : Program) (ann : Ann) (o : Oper) : Option SI :=
  match o.op with
  | .move x => toMv P ann o x
  | .assign x => toMv P ann o x
  | .pick c a b => (toSX c).bind fun c => (toSX a).bind fun a => (toSX b).map (.pick c a)
  | .binOp op t x y _ => toBin P op t x y
  | .unOp op _ x => (toSX x).map (.un op)
  | .convert s d x => toCv P s d x
  | .field t x f => (fieldT P t f).bind fun fd => (szT P fd.type).bind fun s => (aggT P fd.type).bind fun g => (toSX x).map (.fld fd.offset s g)
  | .fieldAddr t x f => (fieldT P t f).bind fun fd => (szT P fd.type).bind fun s => if 0 < s then (toSX x).map (.fldA fd.offset) else none
  | .nilCheck x => (toSX x).map (.fldA 0)
  | .indexAddr t x i => (elemT P t).bind fun e => (szT P e).bind fun s => (toSX x).bind fun x => (toSX i).map (.idxA s x)
  | .index t x i => match P.underlying t with
      | some .string => (toSX x).bind fun x => (toSX i).map (.idxS x)
      | _ => none
  | .load t x => (szT P t).bind fun s => (aggT P t).bind fun g => (toSX x).map (.ld s g)
  | .store t x v => (szT P t).bind fun s => (toSX x).bind fun x => (toSX v).map (.st s x)
  | .slice t x lo hi mx => match P.underlying t with
      | some .string => if mx.isNone then (toSX x).bind fun x => (toSXO lo).bind fun lo => (toSXO hi).map (.slS x lo) else none
      | some (.slice e) => (szT P e).bind fun s => (toSX x).bind fun x => (toSXO lo).bind fun lo => (toSXO hi).bind fun hi =>
          if mx.isNone then (if ann.at o.dst = 4 then some (.slX s x lo hi) else some (.slA s x lo hi)) else if hi.isSome then (toSXO mx).map (.slM s x lo hi) else none
      | _ => none
  | .extract x i => (toSX x).map (.ext · i)
  | .build t parts => match P.underlying t with
      | some (.struct fs) => if (fs.toList.mapM fun f => (P.info? f.type).map fun i => (f.offset, i.size)).isSome then (zeroT P t).bind fun z => (toParts P fs parts.toList).map (.bld z) else none
      | _ => none
  | .buildSlice t n parts => (elemT P t).bind fun e => (szT P e).bind fun s => (toRow 0 parts.toList).bind fun row =>
      if 0 < s ∧ row.length = n ∧ n * s ≤ 16777216 ∧ ((P.info? e).bind (·.zero)).isSome then (if ann.at o.dst = 2 then some (.bldR e s row) else some (.bldF e s row)) else none
  | .box t x => (szT P t).bind fun s => if 0 < s then (toSX x).map (if ann.at o.dst = 6 then .box t s else .boxF t s) else none
  | .alloc t => (szT P t).bind fun s => (zeroT P t).bind fun z => if 0 < s ∧ z.length = s then some (.new t s z) else none
  | .makeFunc (.func f) first captured => (toSXs first.toList).bind fun a => (toSXs captured.toList).map (.mkf f a)
  | .makeSlice t n c => (elemT P t).bind fun e => (szT P e).bind fun s => (bytesT P e).bind fun b => (zeroT P e).bind fun z => (toSX n).bind fun n => (toSX c).bind fun c =>
      if 0 < s ∧ z.length = s then some (.mks e s b z n c) else none
  | .call c => toCall P ann o c
  | _ => none
end Go.Sim
