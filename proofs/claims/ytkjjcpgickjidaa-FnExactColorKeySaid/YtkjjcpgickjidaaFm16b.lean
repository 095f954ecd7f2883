import Derived.Test.YtkjjcpgickjidaaFm16
/-! The same machine over a table of types: made to be reckoned. -/
namespace Go.Fm
set_option linter.unusedVariables false

structure TyI where
  kind : TK
  size : Option Nat
  bytes : Option Nat
  agg : Option Bool
  fl : List (Nat × TypeId)
  zero : Option (List CV)
  flat : Option (List Nat)
  all : Bool
def foffL (P : Program) (t : TypeId) : List (Nat × TypeId) := match P.underlying t with | some (.struct fs) => fs.toList.map fun d => (d.offset, d.type) | _ => []
def tiOf (P : Program) (t : TypeId) : TyI := ⟨kindF P t, sizeF P t, bytesF P t, aggF P t, foffL P t, zeroF P t, flatF P t, allSized P t⟩
theorem foffL_get (P : Program) (t : TypeId) (f : Nat) : (foffL P t)[f]? = foffF P t f := by
  unfold foffL foffF
  cases P.underlying t with
  | none => simp
  | some d => cases d <;> simp
def kBinT (T : TypeId → TyI) (op : BinOp) (t : TypeId) : SV → SV → (CV → Prop) → Prop
  | .pv (.one (.int k a)), .pv (.one (.int k' b)), K =>
    (match op with
    | .shl | .shr => shI op k a b K
    | _ => k = k' ∧ binI op k a b K)
  | .pv (.one (.str a)), .pv (.one (.str b)), K =>
    (match op with
    | .add => a.length + b.length < 2 ^ 62 ∧ K (.str (a ++ b))
    | .eql => K (.bool (a == b))
    | .neq => K (.bool (a != b))
    | _ => False)
  | .pv (.one (.bool a)), .pv (.one (.bool b)), K =>
    (match op, (T t).kind with
    | .eql, .bool => K (.bool (a == b))
    | .neq, .bool => K (.bool (a != b))
    | _, _ => False)
  | .pv (.one .opq), .pv (.one .nili), K =>
    (match op, (T t).kind with
    | .eql, .iface => K (.bool false)
    | .neq, .iface => K (.bool true)
    | _, _ => False)
  | .pv (.agg a), .pv (.agg b), K =>
    (match op with
    | .eql => kO ((T t).flat) fun ks => kO (eqCs ks a b) fun r => K (.bool r)
    | .neq => kO ((T t).flat) fun ks => kO (eqCs ks a b) fun r => K (.bool (!r))
    | _ => False)
  | _, _, _ => False
def fillFT (T : TypeId → TyI) (φ : St) (t : TypeId) : List CV → List (Nat × Operand) → (List CV → Prop) → Prop
  | cs, [], K => K cs
  | cs, (f, x) :: r, K => kO ((T t).fl[f]?) fun q => (φ.ev x).kC fun ns => (T q.2).size = some ns.length ∧ q.1 + ns.length ≤ cs.length ∧ fillFT T φ t (over cs q.1 ns) r K
def isU8T (T : TypeId → TyI) (t : TypeId) : Bool := match (T t).kind with | .int .u8 => true | _ => false
def builtinFT (T : TypeId → TyI) (b : Builtin) (ats : List TypeId) (xs : List SV) (φ : St) (nid : Nat) (K : Action → Prop) : Prop :=
  match b, ats, xs with
  | .len, [t], [x] => (match (T t).kind with
    | .str => x.kS fun l => K ⟨[], one (.int .i64 l.length), []⟩
    | .slice _ => φ.kLen x fun rd n => K ⟨rd, one (.int .i64 n), []⟩
    | _ => False)
  | .append, t :: t2 :: _, [x, y] =>
    (match (T t).kind, (T t2).kind with
    | .slice e, .slice _ | .slice e, .str => kO ((T e).size) fun size => kO ((T e).bytes) fun by_ => kO ((T e).zero) fun z => by_ ≤ 1024 ∧ z.length = size ∧ φ.cells size y fun rd m ns =>
        (match x with
        | .pv (.one (.arr id lo n)) => kLive (φ.heap id) fun b => b.sz = size ∧ lo + n ≤ b.n ∧ n + m ≤ maxN ∧
            K ⟨id :: rd, one (.arr nid 0 (n + m)), [(id, .dead), (nid, .live ⟨size, n + m, (b.cs.drop (lo * size)).take (n * size) ++ ns⟩)]⟩
        | .pv (.one .emp) => m ≤ maxN ∧ K ⟨rd, one (.arr nid 0 m), [(nid, .live ⟨size, m, ns⟩)]⟩
        | _ => False)
    | _, _ => False)
  | .max, _, [x, y] => x.kI fun k a => y.kI fun k' b => k = k' ∧ K ⟨[], one (.int k (if a < b then b else a)), []⟩
  | .copy, t :: t2 :: _, [x, y] =>
    (match (T t).kind, (T t2).kind with
    | .slice e, .slice _ | .slice e, .str => kO ((T e).size) fun size => φ.cells size y fun rd m ns =>
        (match x with
        | .pv (.one (.arr id lo n)) => kLive (φ.heap id) fun b => b.sz = size ∧ lo + n ≤ b.n ∧
            K ⟨id :: rd, one (.int .i64 (min m n : Nat)), [(id, .live ⟨size, b.n, over b.cs (lo * size) (ns.take (min m n * size))⟩)]⟩
        | .pv (.one .emp) => K ⟨rd, one (.int .i64 0), []⟩
        | _ => False)
    | _, _ => False)
  | .clear, [t], [x] =>
    (match (T t).kind with
    | .slice e => kO ((T e).size) fun size => kO ((T e).zero) fun z =>
        (match x with
        | .pv (.one (.arr id lo n)) => kLive (φ.heap id) fun b => b.sz = size ∧ z.length = size ∧ lo + n ≤ b.n ∧
            K ⟨[id], .tup [], [(id, .live ⟨size, b.n, over b.cs (lo * size) (List.replicate n z).flatten⟩)]⟩
        | .pv (.one .emp) => K ⟨[], .tup [], []⟩
        | _ => False)
    | _ => False)
  | _, _, _ => False
def actT (T : TypeId → TyI) (o : Oper) (φ : St) (nid : Nat) (K : Action → Prop) : Prop :=
  match o.op with
  | .move x | .assign x => K ⟨[], φ.ev x, []⟩
  | .pick c a b => (φ.ev c).kB fun t => K ⟨[], cond t (φ.ev a) (φ.ev b), []⟩
  | .extract x i => (φ.ev x).kT fun ps => kO ps[i]? fun p => K ⟨[], .pv p, []⟩
  | .unOp u _ x => kUn u (φ.ev x) fun c => K ⟨[], one c, []⟩
  | .binOp op t x y _ => kBinT T op t (φ.ev x) (φ.ev y) fun c => K ⟨[], one c, []⟩
  | .convert s d x => (match (T s).kind, (T d).kind with
    | .int _, .int k => (φ.ev x).kI fun _ n => K ⟨[], one (.int k (k.wrap n)), []⟩
    | .str, .str => (φ.ev x).kS fun l => K ⟨[], one (.str l), []⟩
    | .str, .slice e => isU8T T e = true ∧ (φ.ev x).kS fun l => l.length ≤ maxN ∧ K ⟨[], one (.arr nid 0 l.length), [(nid, .live ⟨1, l.length, l.map fun b => .int .u8 b.toNat⟩)]⟩
    | .slice e, .str => isU8T T e = true ∧ notStr (φ.ev x) = true ∧ φ.cells 1 (φ.ev x) fun rd n cs => kO (bytesCs cs) fun l => K ⟨rd, one (.str l), []⟩
    | _, _ => False)
  | .field t x f => kO ((T t).fl[f]?) fun q => kO ((T q.2).size) fun size => kO ((T q.2).agg) fun b => (φ.ev x).kA fun cs => q.1 + size ≤ cs.length ∧ (b = false → size = 1) ∧ K ⟨[], .pv (pvOf b ((cs.drop q.1).take size)), []⟩
  | .fieldAddr t x f => kO ((T t).fl[f]?) fun q => kO ((T q.2).size) fun size => size ≠ 0 ∧
      (φ.ev x).kPtr (fun id off => kLive (φ.heap id) fun _ => K ⟨[id], one (.ptr id (off + q.1)), []⟩) (fun cs => K ⟨[], one (.ip (cs.drop q.1)), []⟩)
  | .load t x => kO ((T t).size) fun size => kO ((T t).agg) fun b => (b = false → size = 1) ∧
      (φ.ev x).kPtr (fun id off => kLive (φ.heap id) fun bl => off + size ≤ bl.cs.length ∧ K ⟨[id], .pv (pvOf b ((bl.cs.drop off).take size)), []⟩)
        (fun cs => size ≤ cs.length ∧ K ⟨[], .pv (pvOf b (cs.take size)), []⟩)
  | .store t x v => kO ((T t).size) fun size => (φ.ev v).kC fun ns => ns.length = size ∧
      (φ.ev x).kPtr (fun id off => kLive (φ.heap id) fun bl => off + ns.length ≤ bl.cs.length ∧ K ⟨[id], one .dead, [(id, .live ⟨bl.sz, bl.n, over bl.cs off ns⟩)]⟩) (fun _ => False)
  | .alloc t => kO ((T t).zero) fun cs => K ⟨[], one (.ptr nid 0), [(nid, .live ⟨1, cs.length, cs⟩)]⟩
  | .box t v => (φ.ev v).kC fun cs => K ⟨[], one (.ptr nid 0), [(nid, .live ⟨1, cs.length, cs⟩)]⟩
  | .build t ps => (match (T t).kind with
    | .agg => (T t).all = true ∧ kO ((T t).zero) fun z => fillFT T φ t z ps.toList fun cs => K ⟨[], .pv (.agg cs), []⟩
    | _ => False)
  | .buildSlice t n ps => (match (T t).kind with
    | .slice e => kO ((T e).size) fun size => n * size ≤ 4096 ∧ size ≠ 0 ∧ n = ps.size ∧ partsOf φ size 0 ps.toList fun cs => ((T e).zero).isSome = true ∧ K ⟨[], one (.arr nid 0 n), [(nid, .live ⟨size, n, cs⟩)]⟩
    | _ => False)
  | .makeSlice t l c => (match (T t).kind with
    | .slice e => kO ((T e).size) fun size => kO ((T e).zero) fun z => kO ((T e).bytes) fun by_ => by_ ≤ 1024 ∧ z.length = size ∧
        (φ.ev l).kI fun k1 n => (φ.ev c).kI fun k2 m => k1 = .i64 ∧ k2 = .i64 ∧ m = n ∧ 0 ≤ n ∧ n ≤ maxN ∧
          K ⟨[], one (.arr nid 0 n.toNat), [(nid, .live ⟨size, n.toNat, (List.replicate n.toNat z).flatten⟩)]⟩
    | _ => False)
  | .index t x i => (match (T t).kind with
    | .str => (φ.ev x).kS fun l => (φ.ev i).kI fun _ i => (0 ≤ i ∧ i < l.length) ∧ K ⟨[], one (.int .u8 (l.getD i.toNat 0).toNat), []⟩
    | _ => False)
  | .indexAddr t x i => (match (T t).kind with
    | .slice e => kO ((T e).size) fun size => (φ.ev i).kI fun _ i => (φ.ev x).kSl
        (fun id lo n => kLive (φ.heap id) fun b => b.sz = size ∧ (0 ≤ i ∧ i < n) ∧ K ⟨[id], one (.ptr id ((lo + i.toNat) * size)), []⟩)
        (fun sz n cs => sz = size ∧ (0 ≤ i ∧ i < n) ∧ K ⟨[], one (.ip (cs.drop (i.toNat * size))), []⟩) False
    | _ => False)
  | .slice t x lo hi none => (match (T t).kind with
    | .str => (φ.ev x).kS fun l => φ.bd lo 0 fun a => φ.bd hi l.length fun b => (0 ≤ a ∧ a ≤ b ∧ b ≤ l.length) ∧ K ⟨[], one (.str ((l.drop a.toNat).take (b.toNat - a.toNat))), []⟩
    | .slice e => kO ((T e).size) fun size => (φ.ev x).kSl
        (fun id l n => kLive (φ.heap id) fun bl => bl.sz = size ∧ φ.bd lo 0 fun a => φ.bd hi n fun b => (0 ≤ a ∧ a ≤ b ∧ b ≤ n) ∧ K ⟨[id], one (.arr id (l + a.toNat) (b.toNat - a.toNat)), []⟩)
        (fun sz n cs => sz = size ∧ φ.bd lo 0 fun a => φ.bd hi n fun b => (0 ≤ a ∧ a ≤ b ∧ b ≤ n) ∧ K ⟨[], one (.imm sz (b.toNat - a.toNat) ((cs.drop (a.toNat * sz)).take ((b.toNat - a.toNat) * sz))), []⟩)
        (φ.bd lo 0 fun a => φ.bd hi 0 fun b => (a = 0 ∧ b = 0) ∧ K ⟨[], one .emp, []⟩)
    | _ => False)
  | .makeFunc (.func f) first caps => first.size = 0 ∧ capsOf φ caps.toList fun cs => K ⟨[], one (.fn f cs), []⟩
  | .nilCheck x => (φ.ev x).kPtr (fun id off => kLive (φ.heap id) fun _ => K ⟨[id], one (.ptr id off), []⟩) (fun cs => K ⟨[], one (.ip cs), []⟩)
  | .call c => (match c.callee with
    | .builtin b => builtinFT T b c.argTypes.toList (c.args.toList.map φ.ev) φ nid K
    | _ => False)
  | _ => False


variable {P : Program}
theorem tiOf_table {T : TypeId → TyI} (n : Nat) (h1 : (List.range n).map T = (List.range n).map (tiOf P)) (h2 : ∀ t, Nat.blt t n = false → T t = tiOf P t) : T = tiOf P := by
  funext t
  by_cases h : t < n
  · have := congrArg (fun l => l[t]?) h1
    simpa [h] using this
  · exact h2 t (Bool.eq_false_iff.2 fun hh => h (by rw [← Nat.blt_eq]; exact hh))
theorem kBinT_eq (op : BinOp) (t : TypeId) (x y : SV) (K : CV → Prop) (h : kBinT (tiOf P) op t x y K) : kBin P op t x y K := h
theorem fillT_eq (φ : St) (t : TypeId) : ∀ (l : List (Nat × Operand)) (cs : List CV) (K : List CV → Prop), fillFT (tiOf P) φ t cs l K = fillF P φ t cs l K
  | [], cs, K => rfl
  | (f, x) :: r, cs, K => by
    simp only [fillFT, fillF]
    rw [show (tiOf P t).fl[f]? = foffF P t f from foffL_get P t f]
    congr 1
    funext q
    congr 1
    funext ns
    rw [fillT_eq φ t r]
    rfl
theorem actT_act {o : Oper} {φ : St} {nid : Nat} {K : Action → Prop} (h : actT (tiOf P) o φ nid K) : act P o φ nid K := by
  unfold actT at h
  unfold act
  generalize o.op = op at h ⊢
  cases op <;> try exact h
  case field t x f =>
    simp only [show (tiOf P t).fl[f]? = foffF P t f from foffL_get P t f] at h
    exact h
  case fieldAddr t x f =>
    simp only [show (tiOf P t).fl[f]? = foffF P t f from foffL_get P t f] at h
    exact h
  case build t ps =>
    simp only [fillT_eq] at h
    exact h
  case makeFunc fn a b => cases fn <;> exact h
  case slice t x lo hi mx => cases mx <;> exact h
end Go.Fm
