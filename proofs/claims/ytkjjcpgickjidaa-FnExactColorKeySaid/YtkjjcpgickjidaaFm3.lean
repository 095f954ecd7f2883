import Derived.Test.YtkjjcpgickjidaaFm2
/-! The machine's operations: what each does to a state. -/
namespace Go.Fm
set_option linter.unusedVariables false

/-- What the machine knows of a type. -/
inductive TK where
  | int (k : IntKind)
  | bool
  | str
  | slice (e : TypeId)
  | agg
  | iface
  | other
def allSized (P : Program) (t : TypeId) : Bool := match P.underlying t with | some (.struct fs) => fs.toList.all fun f => (P.info? f.type).isSome | _ => false
def kindF (P : Program) (t : TypeId) : TK :=
  match P.underlying t with
  | some (.int k) => .int k
  | some .bool => .bool
  | some .string => .str
  | some (.slice e) => .slice e
  | some (.struct _) => .agg
  | some (.interface _) => .iface
  | _ => .other
/-- How many cells a type has (none where it is unknown). -/
def sizeF (P : Program) (t : TypeId) : Option Nat := (P.info? t).map (·.size)
def bytesF (P : Program) (t : TypeId) : Option Nat := (P.info? t).map (·.bytes)
def aggF (P : Program) (t : TypeId) : Option Bool := (P.underlying t).map fun | .struct _ | .array _ _ => true | _ => false
/-- A field's place, its type and its size. -/
def foffF (P : Program) (t : TypeId) (f : Nat) : Option (Nat × TypeId) :=
  match P.underlying t with
  | some (.struct fs) => (fs[f]?).map fun d => (d.offset, d.type)
  | _ => none
def constCV : Value → CV
  | .int k n => .int k n
  | .bool b => .bool b
  | .string s => .str s.data.toList
  | .slice _ 0 0 => .emp
  | .pointer none => .nilp
  | .nilIface => .nili
  | _ => .dead
def constSV : Value → SV
  | .agg vs => if vs.toList.all (·.oneCell') then .pv (.agg (vs.toList.map constCV)) else one .dead
  | v => one (constCV v)
/-- A type's zero value, as cells; its cells are plain. -/
def zeroF (P : Program) (t : TypeId) : Option (List CV) :=
  match (P.info? t).bind (·.zero) with
  | some v => if v.cells.toList.all (·.oneCell') then some (v.cells.toList.map constCV) else none
  | none => none

def St.ev (φ : St) : Operand → SV
  | .tmp t => φ.env t
  | .const v => constSV v
  | .func f => one (.fn f [])
  | .global _ => one .dead

/-- What an operation does: which blocks it reads, its value, what becomes of which blocks. -/
structure Action where
  rd : List Nat
  val : SV
  hp : List (Nat × HS)
def heapOf (h : Nat → HS) (l : List (Nat × HS)) : Nat → HS := l.foldl (fun h p => upd h p.1 p.2) h
def St.app (φ : St) (d : Option Nat) (A : Action) : St := ({ φ with heap := heapOf φ.heap A.hp } : St).put d A.val

def SV.kI : SV → (IntKind → Int → Prop) → Prop | .pv (.one (.int k n)), K => K k n | _, _ => False
def SV.kB : SV → (Bool → Prop) → Prop | .pv (.one (.bool b)), K => K b | _, _ => False
def SV.kS : SV → (List UInt8 → Prop) → Prop | .pv (.one (.str l)), K => K l | _, _ => False
def SV.kA : SV → (List CV → Prop) → Prop | .pv (.agg cs), K => K cs | _, _ => False
def SV.kT : SV → (List PV → Prop) → Prop | .tup ps, K => K ps | _, _ => False
/-- The cells of a value that may be stored. -/
def SV.kC : SV → (List CV → Prop) → Prop
  | .pv (.one .dead), _ => False
  | .pv (.one c), K => K [c]
  | .pv (.agg cs), K => K cs
  | _, _ => False
def kO {α : Type} : Option α → (α → Prop) → Prop | some x, K => K x | none, _ => False
def kLive : HS → (Blk → Prop) → Prop | .live b, K => K b | _, _ => False
/-- A pointer into a block, or into memory that nobody writes. -/
def SV.kPtr : SV → (Nat → Nat → Prop) → (List CV → Prop) → Prop
  | .pv (.one (.ptr id off)), K, _ => K id off
  | .pv (.one (.ip cs)), _, K => K cs
  | _, _, _ => False
def pvOf (b : Bool) (cs : List CV) : PV := if b then .agg cs else .one (cs.headD .dead)
def bytesB (k : IntKind) (n : Int) : BitVec k.bits := BitVec.ofInt k.bits n
def binI (op : BinOp) (k : IntKind) (a b : Int) (K : CV → Prop) : Prop :=
  match op with
  | .add => K (.int k (k.wrap (a + b)))
  | .sub => K (.int k (k.wrap (a - b)))
  | .mul => K (.int k (k.wrap (a * b)))
  | .quo => b ≠ 0 ∧ K (.int k (k.wrap (a.tdiv b)))
  | .rem => b ≠ 0 ∧ K (.int k (a.tmod b))
  | .and => K (.int k (k.wrap (bytesB k a &&& bytesB k b).toNat))
  | .or => K (.int k (k.wrap (bytesB k a ||| bytesB k b).toNat))
  | .xor => K (.int k (k.wrap (bytesB k a ^^^ bytesB k b).toNat))
  | .eql => K (.bool (a == b))
  | .neq => K (.bool (a != b))
  | .lss => K (.bool (a < b))
  | .leq => K (.bool (a ≤ b))
  | .gtr => K (.bool (a > b))
  | .geq => K (.bool (a ≥ b))
  | _ => False
def shI (op : BinOp) (k : IntKind) (a b : Int) (K : CV → Prop) : Prop :=
  match op with
  | .shl => 0 ≤ b ∧ K (.int k (k.wrap (a * 2 ^ (min b.toNat k.bits))))
  | .shr => 0 ≤ b ∧ K (.int k (a.fdiv (2 ^ (min b.toNat k.bits))))
  | _ => False
/-- Whether two rows of plain cells are alike: by their kinds (0 a whole number, 1 a bool, 2 a text). -/
def eqCs : List Nat → List CV → List CV → Option Bool
  | [], [], [] => some true
  | 0 :: ks, .int k a :: r, .int k' b :: s => if k = k' then (eqCs ks r s).map ((a == b) && ·) else none
  | 1 :: ks, .bool a :: r, .bool b :: s => (eqCs ks r s).map ((a == b) && ·)
  | 2 :: ks, .str a :: r, .str b :: s => (eqCs ks r s).map ((a == b) && ·)
  | _, _, _ => none
/-- Structs of whole numbers, bools and texts alone, each field a cell: the kinds of these. -/
def flatL (P : Program) : Nat → List Field → Option (List Nat)
  | _, [] => some []
  | i, f :: fs => if f.name ≠ "_" ∧ f.offset = i then
      (match P.underlying f.type with
      | some (.int _) => (flatL P (i + 1) fs).map (0 :: ·)
      | some .bool => (flatL P (i + 1) fs).map (1 :: ·)
      | some .string => (flatL P (i + 1) fs).map (2 :: ·)
      | _ => none) else none
def flatF (P : Program) (t : TypeId) : Option (List Nat) :=
  match P.underlying t with
  | some (.struct fs) => if P.stoodInHeld t = false ∧ P.eqGuardType P.depth t = false then flatL P 0 fs.toList else none
  | _ => none
def kBin (P : Program) (op : BinOp) (t : TypeId) : SV → SV → (CV → Prop) → Prop
  | .pv (.one (.int k a)), .pv (.one (.int k' b)), K =>
    (match op with
    | .shl | .shr => shI op k a b K
    | _ => k = k' ∧ binI op k a b K)
  | .pv (.one (.str a)), .pv (.one (.str b)), K =>
    (match op with
    | .add => a.length + b.length < 2 ^ 62 ∧ K (.str (a ++ b))
    | .eql => K (.bool (a == b))
    | .neq => K (.bool (a != b))
    | _ => False)
  | .pv (.one (.bool a)), .pv (.one (.bool b)), K =>
    (match op, kindF P t with
    | .eql, .bool => K (.bool (a == b))
    | .neq, .bool => K (.bool (a != b))
    | _, _ => False)
  | .pv (.one .opq), .pv (.one .nili), K =>
    (match op, kindF P t with
    | .eql, .iface => K (.bool false)
    | .neq, .iface => K (.bool true)
    | _, _ => False)
  | .pv (.agg a), .pv (.agg b), K =>
    (match op with
    | .eql => kO (flatF P t) fun ks => kO (eqCs ks a b) fun r => K (.bool r)
    | .neq => kO (flatF P t) fun ks => kO (eqCs ks a b) fun r => K (.bool (!r))
    | _ => False)
  | _, _, _ => False
def kUn (u : UnOp) : SV → (CV → Prop) → Prop
  | .pv (.one (.bool b)), K => (match u with | .not => K (.bool (!b)) | _ => False)
  | .pv (.one (.int k a)), K => (match u with
    | .neg => K (.int k (k.wrap (0 - a)))
    | .xor => K (.int k (k.wrap (bytesB k (if k.signed then -1 else k.max) ^^^ bytesB k a).toNat))
    | _ => False)
  | _, _ => False
/-- A slice that is looked at: its block's number, its beginning and length; or what can be read of it. -/
def SV.kSl : SV → (Nat → Nat → Nat → Prop) → (Nat → Nat → List CV → Prop) → Prop → Prop
  | .pv (.one (.arr id lo n)), K, _, _ => K id lo n
  | .pv (.one (.imm sz n cs)), _, K, _ => K sz n cs
  | .pv (.one .emp), _, _, K => K
  | _, _, _, _ => False
def St.kLen (φ : St) : SV → (List Nat → Nat → Prop) → Prop
  | .pv (.one (.arr id _ n)), K => kLive (φ.heap id) fun _ => K [id] n
  | .pv (.one (.imm _ n _)), K => K [] n
  | .pv (.one .emp), K => K [] 0
  | _, _ => False
/-- A bound of a slice expression. -/
def St.bd (φ : St) (x : Option Operand) (d : Nat) (K : Int → Prop) : Prop :=
  match x with
  | none => K d
  | some x => (φ.ev x).kI fun _ i => K i
/-- The cells of the parts of a composite of a slice, each of a size, in order from number i on. -/
def partsOf (φ : St) (size : Nat) : Nat → List (Nat × Operand) → (List CV → Prop) → Prop
  | _, [], K => K []
  | i, (j, x) :: r, K => j = i ∧ (φ.ev x).kC fun cs => cs.length = size ∧ partsOf φ size (i + 1) r fun ds => K (cs ++ ds)
/-- The cells of a struct's parts put over cells. -/
def fillF (P : Program) (φ : St) (t : TypeId) : List CV → List (Nat × Operand) → (List CV → Prop) → Prop
  | cs, [], K => K cs
  | cs, (f, x) :: r, K => kO (foffF P t f) fun q => (φ.ev x).kC fun ns => sizeF P q.2 = some ns.length ∧ q.1 + ns.length ≤ cs.length ∧ fillF P φ t (over cs q.1 ns) r K
/-- How many elements a slice may come to. -/
def maxN : Nat := 2 ^ 32
/-- A slice's elements: of a block, of memory that nobody writes, none; of a text its bytes. -/
def St.cells (φ : St) (size : Nat) : SV → (List Nat → Nat → List CV → Prop) → Prop
  | .pv (.one (.arr id lo n)), K => kLive (φ.heap id) fun b => b.sz = size ∧ lo + n ≤ b.n ∧ K [id] n ((b.cs.drop (lo * size)).take (n * size))
  | .pv (.one (.imm sz n cs)), K => sz = size ∧ K [] n cs
  | .pv (.one .emp), K => K [] 0 []
  | .pv (.one (.str l)), K => size = 1 ∧ K [] l.length (l.map fun b => .int .u8 b.toNat)
  | _, _ => False
def capsOf (φ : St) : List Operand → (List CV → Prop) → Prop
  | [], K => K []
  | x :: r, K => (match φ.ev x with
    | .pv (.one (.ptr id off)) => capsOf φ r fun cs => K (.ptr id off :: cs)
    | _ => False)
/-- The bytes that cells are. -/
def bytesCs : List CV → Option (List UInt8)
  | [] => some []
  | .int .u8 n :: r => (bytesCs r).map (UInt8.ofNat n.toNat :: ·)
  | _ => none
def notStr : SV → Bool
  | .pv (.one (.str _)) => false
  | _ => true
def isU8 (P : Program) (t : TypeId) : Bool := match kindF P t with | .int .u8 => true | _ => false
def builtinF (P : Program) (b : Builtin) (ats : List TypeId) (xs : List SV) (φ : St) (nid : Nat) (K : Action → Prop) : Prop :=
  match b, ats, xs with
  | .len, [t], [x] => (match kindF P t with
    | .str => x.kS fun l => K ⟨[], one (.int .i64 l.length), []⟩
    | .slice _ => φ.kLen x fun rd n => K ⟨rd, one (.int .i64 n), []⟩
    | _ => False)
  | .append, t :: t2 :: _, [x, y] =>
    (match kindF P t, kindF P t2 with
    | .slice e, .slice _ | .slice e, .str => kO (sizeF P e) fun size => kO (bytesF P e) fun by_ => kO (zeroF P e) fun z => by_ ≤ 1024 ∧ z.length = size ∧ φ.cells size y fun rd m ns =>
        (match x with
        | .pv (.one (.arr id lo n)) => kLive (φ.heap id) fun b => b.sz = size ∧ lo + n ≤ b.n ∧ n + m ≤ maxN ∧
            K ⟨id :: rd, one (.arr nid 0 (n + m)), [(id, .dead), (nid, .live ⟨size, n + m, (b.cs.drop (lo * size)).take (n * size) ++ ns⟩)]⟩
        | .pv (.one .emp) => m ≤ maxN ∧ K ⟨rd, one (.arr nid 0 m), [(nid, .live ⟨size, m, ns⟩)]⟩
        | _ => False)
    | _, _ => False)
  | .max, _, [x, y] => x.kI fun k a => y.kI fun k' b => k = k' ∧ K ⟨[], one (.int k (if a < b then b else a)), []⟩
  | .copy, t :: t2 :: _, [x, y] =>
    (match kindF P t, kindF P t2 with
    | .slice e, .slice _ | .slice e, .str => kO (sizeF P e) fun size => φ.cells size y fun rd m ns =>
        (match x with
        | .pv (.one (.arr id lo n)) => kLive (φ.heap id) fun b => b.sz = size ∧ lo + n ≤ b.n ∧
            K ⟨id :: rd, one (.int .i64 (min m n : Nat)), [(id, .live ⟨size, b.n, over b.cs (lo * size) (ns.take (min m n * size))⟩)]⟩
        | .pv (.one .emp) => K ⟨rd, one (.int .i64 0), []⟩
        | _ => False)
    | _, _ => False)
  | .clear, [t], [x] =>
    (match kindF P t with
    | .slice e => kO (sizeF P e) fun size => kO (zeroF P e) fun z =>
        (match x with
        | .pv (.one (.arr id lo n)) => kLive (φ.heap id) fun b => b.sz = size ∧ z.length = size ∧ lo + n ≤ b.n ∧
            K ⟨[id], .tup [], [(id, .live ⟨size, b.n, over b.cs (lo * size) (List.replicate n z).flatten⟩)]⟩
        | .pv (.one .emp) => K ⟨[], .tup [], []⟩
        | _ => False)
    | _ => False)
  | _, _, _ => False
/-- What an operation that is no call of a Go function does. -/
def act (P : Program) (o : Oper) (φ : St) (nid : Nat) (K : Action → Prop) : Prop :=
  match o.op with
  | .move x | .assign x => K ⟨[], φ.ev x, []⟩
  | .pick c a b => (φ.ev c).kB fun t => K ⟨[], cond t (φ.ev a) (φ.ev b), []⟩
  | .extract x i => (φ.ev x).kT fun ps => kO ps[i]? fun p => K ⟨[], .pv p, []⟩
  | .unOp u _ x => kUn u (φ.ev x) fun c => K ⟨[], one c, []⟩
  | .binOp op t x y _ => kBin P op t (φ.ev x) (φ.ev y) fun c => K ⟨[], one c, []⟩
  | .convert s d x => (match kindF P s, kindF P d with
    | .int _, .int k => (φ.ev x).kI fun _ n => K ⟨[], one (.int k (k.wrap n)), []⟩
    | .str, .str => (φ.ev x).kS fun l => K ⟨[], one (.str l), []⟩
    | .str, .slice e => isU8 P e = true ∧ (φ.ev x).kS fun l => l.length ≤ maxN ∧ K ⟨[], one (.arr nid 0 l.length), [(nid, .live ⟨1, l.length, l.map fun b => .int .u8 b.toNat⟩)]⟩
    | .slice e, .str => isU8 P e = true ∧ notStr (φ.ev x) = true ∧ φ.cells 1 (φ.ev x) fun rd n cs => kO (bytesCs cs) fun l => K ⟨rd, one (.str l), []⟩
    | _, _ => False)
  | .field t x f => kO (foffF P t f) fun q => kO (sizeF P q.2) fun size => kO (aggF P q.2) fun b => (φ.ev x).kA fun cs => q.1 + size ≤ cs.length ∧ (b = false → size = 1) ∧ K ⟨[], .pv (pvOf b ((cs.drop q.1).take size)), []⟩
  | .fieldAddr t x f => kO (foffF P t f) fun q => kO (sizeF P q.2) fun size => size ≠ 0 ∧
      (φ.ev x).kPtr (fun id off => kLive (φ.heap id) fun _ => K ⟨[id], one (.ptr id (off + q.1)), []⟩) (fun cs => K ⟨[], one (.ip (cs.drop q.1)), []⟩)
  | .load t x => kO (sizeF P t) fun size => kO (aggF P t) fun b => (b = false → size = 1) ∧
      (φ.ev x).kPtr (fun id off => kLive (φ.heap id) fun bl => off + size ≤ bl.cs.length ∧ K ⟨[id], .pv (pvOf b ((bl.cs.drop off).take size)), []⟩)
        (fun cs => size ≤ cs.length ∧ K ⟨[], .pv (pvOf b (cs.take size)), []⟩)
  | .store t x v => kO (sizeF P t) fun size => (φ.ev v).kC fun ns => ns.length = size ∧
      (φ.ev x).kPtr (fun id off => kLive (φ.heap id) fun bl => off + ns.length ≤ bl.cs.length ∧ K ⟨[id], one .dead, [(id, .live ⟨bl.sz, bl.n, over bl.cs off ns⟩)]⟩) (fun _ => False)
  | .alloc t => kO (zeroF P t) fun cs => K ⟨[], one (.ptr nid 0), [(nid, .live ⟨1, cs.length, cs⟩)]⟩
  | .box t v => (φ.ev v).kC fun cs => K ⟨[], one (.ptr nid 0), [(nid, .live ⟨1, cs.length, cs⟩)]⟩
  | .build t ps => (match kindF P t with
    | .agg => allSized P t = true ∧ kO (zeroF P t) fun z => fillF P φ t z ps.toList fun cs => K ⟨[], .pv (.agg cs), []⟩
    | _ => False)
  | .buildSlice t n ps => (match kindF P t with
    | .slice e => kO (sizeF P e) fun size => n * size ≤ 4096 ∧ size ≠ 0 ∧ n = ps.size ∧ partsOf φ size 0 ps.toList fun cs => (zeroF P e).isSome = true ∧ K ⟨[], one (.arr nid 0 n), [(nid, .live ⟨size, n, cs⟩)]⟩
    | _ => False)
  | .makeSlice t l c => (match kindF P t with
    | .slice e => kO (sizeF P e) fun size => kO (zeroF P e) fun z => kO (bytesF P e) fun by_ => by_ ≤ 1024 ∧ z.length = size ∧
        (φ.ev l).kI fun k1 n => (φ.ev c).kI fun k2 m => k1 = .i64 ∧ k2 = .i64 ∧ m = n ∧ 0 ≤ n ∧ n ≤ maxN ∧
          K ⟨[], one (.arr nid 0 n.toNat), [(nid, .live ⟨size, n.toNat, (List.replicate n.toNat z).flatten⟩)]⟩
    | _ => False)
  | .index t x i => (match kindF P t with
    | .str => (φ.ev x).kS fun l => (φ.ev i).kI fun _ i => (0 ≤ i ∧ i < l.length) ∧ K ⟨[], one (.int .u8 (l.getD i.toNat 0).toNat), []⟩
    | _ => False)
  | .indexAddr t x i => (match kindF P t with
    | .slice e => kO (sizeF P e) fun size => (φ.ev i).kI fun _ i => (φ.ev x).kSl
        (fun id lo n => kLive (φ.heap id) fun b => b.sz = size ∧ (0 ≤ i ∧ i < n) ∧ K ⟨[id], one (.ptr id ((lo + i.toNat) * size)), []⟩)
        (fun sz n cs => sz = size ∧ (0 ≤ i ∧ i < n) ∧ K ⟨[], one (.ip (cs.drop (i.toNat * size))), []⟩) False
    | _ => False)
  | .slice t x lo hi none => (match kindF P t with
    | .str => (φ.ev x).kS fun l => φ.bd lo 0 fun a => φ.bd hi l.length fun b => (0 ≤ a ∧ a ≤ b ∧ b ≤ l.length) ∧ K ⟨[], one (.str ((l.drop a.toNat).take (b.toNat - a.toNat))), []⟩
    | .slice e => kO (sizeF P e) fun size => (φ.ev x).kSl
        (fun id l n => kLive (φ.heap id) fun bl => bl.sz = size ∧ φ.bd lo 0 fun a => φ.bd hi n fun b => (0 ≤ a ∧ a ≤ b ∧ b ≤ n) ∧ K ⟨[id], one (.arr id (l + a.toNat) (b.toNat - a.toNat)), []⟩)
        (fun sz n cs => sz = size ∧ φ.bd lo 0 fun a => φ.bd hi n fun b => (0 ≤ a ∧ a ≤ b ∧ b ≤ n) ∧ K ⟨[], one (.imm sz (b.toNat - a.toNat) ((cs.drop (a.toNat * sz)).take ((b.toNat - a.toNat) * sz))), []⟩)
        (φ.bd lo 0 fun a => φ.bd hi 0 fun b => (a = 0 ∧ b = 0) ∧ K ⟨[], one .emp, []⟩)
    | _ => False)
  | .makeFunc (.func f) first caps => first.size = 0 ∧ capsOf φ caps.toList fun cs => K ⟨[], one (.fn f cs), []⟩
  | .nilCheck x => (φ.ev x).kPtr (fun id off => kLive (φ.heap id) fun _ => K ⟨[id], one (.ptr id off), []⟩) (fun cs => K ⟨[], one (.ip cs), []⟩)
  | .call c => (match c.callee with
    | .builtin b => builtinF P b c.argTypes.toList (c.args.toList.map φ.ev) φ nid K
    | _ => False)
  | _ => False

end Go.Fm
