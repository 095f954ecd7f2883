import Derived.Test.YtniciinhflolnaaDoorMD
import Derived.Test.YtniciinhflolnaaDoorME
/-! Operations that may fail, each as a function that may fail: so that what is known of one is a rule of reckoning. -/
namespace Go.Fm
variable [Globs]
set_option linter.unusedVariables false
set_option linter.unusedSectionVars false

def idxS (l : List UInt8) (i : Int) : Option Int := if 0 ≤ i ∧ i < l.length then some ((l.getD i.toNat 0).toNat : Int) else none
def subL {α : Type} (l : List α) (a b : Int) : Option (List α) := if 0 ≤ a ∧ a ≤ b ∧ b ≤ l.length then some ((l.drop a.toNat).take (b.toNat - a.toNat)) else none
def catS (a b : List UInt8) : Option (List UInt8) := if a.length + b.length < 2 ^ 62 then some (a ++ b) else none
def rowAt (i : Int) (n sz : Nat) (cs : List CV) : Option (List CV) := if 0 ≤ i ∧ i < n then some (cs.drop (i.toNat * sz)) else none
def rowPtr (lo : Nat) (i : Int) (n sz : Nat) : Option Nat := if 0 ≤ i ∧ i < n then some ((lo + i.toNat) * sz) else none
def subN (a b : Int) (n : Nat) : Option (Nat × Nat) := if 0 ≤ a ∧ a ≤ b ∧ b ≤ n then some (a.toNat, b.toNat - a.toNat) else none
def subC (a b : Int) (n sz : Nat) (cs : List CV) : Option (Nat × List CV) := if 0 ≤ a ∧ a ≤ b ∧ b ≤ n then some (b.toNat - a.toNat, (cs.drop (a.toNat * sz)).take ((b.toNat - a.toNat) * sz)) else none
def appN (lo n bn m : Nat) : Option Nat := if lo + n ≤ bn ∧ n + m ≤ maxN then some (n + m) else none
def mkN (n m : Int) : Option Nat := if m = n ∧ 0 ≤ n ∧ n ≤ maxN then some n.toNat else none
def mkC (n : Nat) (z : List CV) : List CV := (List.replicate n z).flatten
def bldN (n : Nat) : Nat := n
def bldC (cs : List CV) : List CV := cs
def s2bN (l : List UInt8) : Option Nat := if l.length ≤ maxN then some l.length else none
def okP (p : Prop) [Decidable p] : Option Unit := if p then some () else none
def quoI (k : IntKind) (a b : Int) : Option Int := if b = 0 then none else some (k.wrap (a.tdiv b))
def remI (k : IntKind) (a b : Int) : Option Int := if b = 0 then none else some (a.tmod b)
def shlI (k : IntKind) (a b : Int) : Option Int := if 0 ≤ b then some (k.wrap (a * 2 ^ (min b.toNat k.bits))) else none
def shrI (k : IntKind) (a b : Int) : Option Int := if 0 ≤ b then some (a.fdiv (2 ^ (min b.toNat k.bits))) else none
def andI (k : IntKind) (a b : Int) : Int := k.wrap (bytesB k a &&& bytesB k b).toNat
def orI (k : IntKind) (a b : Int) : Int := k.wrap (bytesB k a ||| bytesB k b).toNat
def xorI (k : IntKind) (a b : Int) : Int := k.wrap (bytesB k a ^^^ bytesB k b).toNat
def notI (k : IntKind) (a : Int) : Int := k.wrap (bytesB k (if k.signed then -1 else k.max) ^^^ bytesB k a).toNat
def maxI (a b : Int) : Int := if a < b then b else a
theorem kO_if {α : Type} {p : Prop} [Decidable p] {x : α} {K : α → Prop} (h : kO (if p then some x else none) K) : p ∧ K x := by
  by_cases hp : p
  · rw [if_pos hp] at h; exact ⟨hp, h⟩
  · rw [if_neg hp] at h; exact h.elim
theorem kO_ifn {α : Type} {p : Prop} [Decidable p] {x : α} {K : α → Prop} (h : kO (if p then none else some x) K) : ¬ p ∧ K x := by
  by_cases hp : p
  · rw [if_pos hp] at h; exact h.elim
  · rw [if_neg hp] at h; exact ⟨hp, h⟩

theorem kO_idxS {l : List UInt8} {i : Int} {K : Int → Prop} (h : kO (idxS l i) K) : (0 ≤ i ∧ i < l.length) ∧ K ((l.getD i.toNat 0).toNat : Int) := kO_if h
theorem kO_subL {α : Type} {l : List α} {a b : Int} {K : List α → Prop} (h : kO (subL l a b) K) : (0 ≤ a ∧ a ≤ b ∧ b ≤ l.length) ∧ K ((l.drop a.toNat).take (b.toNat - a.toNat)) := kO_if h
theorem kO_rowAt {i : Int} {n sz : Nat} {cs : List CV} {K : List CV → Prop} (h : kO (rowAt i n sz cs) K) : (0 ≤ i ∧ i < n) ∧ K (cs.drop (i.toNat * sz)) := kO_if h
theorem kO_rowPtr {lo : Nat} {i : Int} {n sz : Nat} {K : Nat → Prop} (h : kO (rowPtr lo i n sz) K) : (0 ≤ i ∧ i < n) ∧ K ((lo + i.toNat) * sz) := kO_if h
theorem kO_subN {a b : Int} {n : Nat} {K : Nat × Nat → Prop} (h : kO (subN a b n) K) : (0 ≤ a ∧ a ≤ b ∧ b ≤ n) ∧ K (a.toNat, b.toNat - a.toNat) := kO_if h
theorem kO_subC {a b : Int} {n sz : Nat} {cs : List CV} {K : Nat × List CV → Prop} (h : kO (subC a b n sz cs) K) : (0 ≤ a ∧ a ≤ b ∧ b ≤ n) ∧ K (b.toNat - a.toNat, (cs.drop (a.toNat * sz)).take ((b.toNat - a.toNat) * sz)) := kO_if h
theorem kO_s2bN {l : List UInt8} {K : Nat → Prop} (h : kO (s2bN l) K) : l.length ≤ maxN ∧ K l.length := kO_if h
theorem kO_okP {p : Prop} [Decidable p] {K : Unit → Prop} (h : kO (okP p) K) : p ∧ K () := kO_if h
theorem kO_mkN {n m : Int} {K : Nat → Prop} (h : kO (mkN n m) K) : (m = n ∧ 0 ≤ n ∧ n ≤ maxN) ∧ K n.toNat := kO_if h

def binH (op : BinOp) (k : IntKind) (a b : Int) (K : CV → Prop) : Prop :=
  match op with
  | .add => K (.int k (k.wrap (a + b)))
  | .sub => K (.int k (k.wrap (a - b)))
  | .mul => K (.int k (k.wrap (a * b)))
  | .quo => kO (quoI k a b) fun r => K (.int k r)
  | .rem => kO (remI k a b) fun r => K (.int k r)
  | .and => K (.int k (andI k a b))
  | .or => K (.int k (orI k a b))
  | .xor => K (.int k (xorI k a b))
  | .eql => K (.bool (a == b))
  | .neq => K (.bool (a != b))
  | .lss => K (.bool (a < b))
  | .leq => K (.bool (a ≤ b))
  | .gtr => K (.bool (a > b))
  | .geq => K (.bool (a ≥ b))
  | _ => False
theorem binH_ok {op : BinOp} {k : IntKind} {a b : Int} {K : CV → Prop} (h : binH op k a b K) : binI op k a b K := by
  cases op <;> try exact h
  · have h2 := kO_ifn (show kO (if b = 0 then none else some (k.wrap (a.tdiv b))) fun r => K (.int k r) from h); exact h2
  · have h2 := kO_ifn (show kO (if b = 0 then none else some (a.tmod b)) fun r => K (.int k r) from h); exact h2
def kBinH (T : TypeId → TyI) (op : BinOp) (t : TypeId) : SV → SV → (CV → Prop) → Prop
  | .pv (.one (.int k a)), .pv (.one (.int k' b)), K =>
    (match op with
    | .shl => kO (shlI k a b) fun r => K (.int k r)
    | .shr => kO (shrI k a b) fun r => K (.int k r)
    | _ => k = k' ∧ binH op k a b K)
  | .pv (.one (.str a)), .pv (.one (.str b)), K =>
    (match op with
    | .add => kO (catS a b) fun r => K (.str r)
    | .eql => K (.bool (a == b))
    | .neq => K (.bool (a != b))
    | _ => False)
  | x, y, K => kBinT T op t x y K
theorem kBinH_int {T : TypeId → TyI} {op : BinOp} {t : TypeId} {k k' : IntKind} {a b : Int} {K : CV → Prop} (h : kBinH T op t (.pv (.one (.int k a))) (.pv (.one (.int k' b))) K) : kBinT T op t (.pv (.one (.int k a))) (.pv (.one (.int k' b))) K := by
  cases op <;> first | exact h | (exact ⟨h.1, binH_ok h.2⟩) | skip
  · have h2 := kO_if (show kO (if 0 ≤ b then some (k.wrap (a * 2 ^ (min b.toNat k.bits))) else none) fun r => K (.int k r) from h); exact h2
  · have h2 := kO_if (show kO (if 0 ≤ b then some (a.fdiv (2 ^ (min b.toNat k.bits))) else none) fun r => K (.int k r) from h); exact h2
theorem kBinH_str {T : TypeId → TyI} {op : BinOp} {t : TypeId} {a b : List UInt8} {K : CV → Prop} (h : kBinH T op t (.pv (.one (.str a))) (.pv (.one (.str b))) K) : kBinT T op t (.pv (.one (.str a))) (.pv (.one (.str b))) K := by
  cases op <;> first | exact h | skip
  have h2 := kO_if (show kO (if a.length + b.length < 2 ^ 62 then some (a ++ b) else none) fun r => K (.str r) from h); exact h2
theorem kBinH_ok {T : TypeId → TyI} {op : BinOp} {t : TypeId} {x y : SV} {K : CV → Prop} (h : kBinH T op t x y K) : kBinT T op t x y K := by
  unfold kBinH at h
  split at h
  · exact kBinH_int h
  · exact kBinH_str h
  · exact h
def kUnH (u : UnOp) : SV → (CV → Prop) → Prop
  | .pv (.one (.bool b)), K => (match u with | .not => K (.bool (!b)) | _ => False)
  | .pv (.one (.int k a)), K => (match u with
    | .neg => K (.int k (k.wrap (0 - a)))
    | .xor => K (.int k (notI k a))
    | _ => False)
  | _, _ => False
theorem kUnH_ok {u : UnOp} {x : SV} {K : CV → Prop} (h : kUnH u x K) : kUn u x K := by
  unfold kUnH at h
  split at h
  · exact h
  · exact h
  · exact h.elim
def cellsH (φ : St) (size : Nat) : SV → (List Nat → Nat → List CV → Prop) → Prop
  | .pv (.one (.arr id lo n)), K => kLive (φ.heap id) fun b => b.sz = size ∧ kO (okP (lo + n ≤ b.n)) fun _ => K [id] n (winC lo n size b.cs)
  | .pv (.one (.imm sz n cs)), K => sz = size ∧ K [] n cs
  | .pv (.one .emp), K => K [] 0 []
  | .pv (.one (.str l)), K => size = 1 ∧ K [] l.length ((bsOf l).flatMap (eI .u8))
  | _, _ => False
theorem cellsH_ok {φ : St} {size : Nat} {x : SV} {K K' : List Nat → Nat → List CV → Prop} (h : cellsH φ size x K) (hk : ∀ a b c, K a b c → K' a b c) : cellsG φ size x K' := by
  unfold cellsH at h
  unfold cellsG
  split at h
  · exact kLive_mono h fun b h => by obtain ⟨h1, h2⟩ := h; obtain ⟨h2, h3⟩ := kO_if h2; exact ⟨h1, h2, hk _ _ _ h3⟩
  · exact ⟨h.1, hk _ _ _ h.2⟩
  · exact hk _ _ _ h
  · exact ⟨h.1, hk _ _ _ h.2⟩
  · exact h.elim
def builtinH (T : TypeId → TyI) (b : Builtin) (ats : List TypeId) (xs : List SV) (φ : St) (nid : Nat) (K : Action → Prop) : Prop :=
  match b, ats, xs with
  | .append, t :: t2 :: _, [x, y] =>
    (match (T t).kind, (T t2).kind with
    | .slice e, .slice _ | .slice e, .str => kO ((T e).size) fun size => kO ((T e).bytes) fun by_ => kO ((T e).zero) fun z => (Nat.ble by_ 1024 && Nat.beq z.length size) = true ∧ cellsH φ size y fun rd m ns =>
        (match x with
        | .pv (.one (.arr id lo n)) => kLive (φ.heap id) fun b => b.sz = size ∧ kO (appN lo n b.n m) fun n' =>
            K ⟨id :: rd, one (.arr nid 0 n'), [(id, .dead), (nid, .live ⟨size, n', winC lo n size b.cs ++ ns⟩)]⟩
        | .pv (.one .emp) => kO (appN 0 0 0 m) fun n' => K ⟨rd, one (.arr nid 0 n'), [(nid, .live ⟨size, n', winC 0 0 size [] ++ ns⟩)]⟩
        | _ => False)
    | .slice e, .int _ => kO ((T e).size) fun size => kO ((T e).bytes) fun by_ => kO ((T e).zero) fun z => (Nat.ble by_ 1024 && Nat.beq z.length size) = true ∧
        (match x with
        | .pv (.one .emp) => y.kI fun k n => k = .i64 ∧ kO (mkN n n) fun n' => K ⟨[], one (.arr nid 0 n'), [(nid, .live ⟨size, n', mkC n' z⟩)]⟩
        | _ => False)
    | _, _ => False)
  | .max, _, [x, y] => x.kI fun k a => y.kI fun k' b => k = k' ∧ K ⟨[], one (.int k (maxI a b)), []⟩
  | b, ats, xs => builtinG T b ats xs φ nid K
theorem builtinH_ok {T : TypeId → TyI} {b : Builtin} {ats : List TypeId} {xs : List SV} {φ : St} {nid : Nat} {K : Action → Prop} (h : builtinH T b ats xs φ nid K) : builtinG T b ats xs φ nid K := by
  have key : ∀ {x y : SV} {size by_ : Nat} {z : List CV}, ((Nat.ble by_ 1024 && Nat.beq z.length size) = true ∧ cellsH φ size y fun rd m ns =>
        (match x with
        | .pv (.one (.arr id lo n)) => kLive (φ.heap id) fun b => b.sz = size ∧ kO (appN lo n b.n m) fun n' =>
            K ⟨id :: rd, one (.arr nid 0 n'), [(id, .dead), (nid, .live ⟨size, n', winC lo n size b.cs ++ ns⟩)]⟩
        | .pv (.one .emp) => kO (appN 0 0 0 m) fun n' => K ⟨rd, one (.arr nid 0 n'), [(nid, .live ⟨size, n', winC 0 0 size [] ++ ns⟩)]⟩
        | _ => False)) → (by_ ≤ 1024 ∧ z.length = size ∧ cellsG φ size y fun rd m ns =>
        (match x with
        | .pv (.one (.arr id lo n)) => kLive (φ.heap id) fun b => b.sz = size ∧ lo + n ≤ b.n ∧ n + m ≤ maxN ∧
            K ⟨id :: rd, one (.arr nid 0 (n + m)), [(id, .dead), (nid, .live ⟨size, n + m, winC lo n size b.cs ++ ns⟩)]⟩
        | .pv (.one .emp) => m ≤ maxN ∧ K ⟨rd, one (.arr nid 0 m), [(nid, .live ⟨size, m, ns⟩)]⟩
        | _ => False)) := by
    intro x y size by_ z h
    obtain ⟨h1, h2⟩ := h
    simp only [Bool.and_eq_true] at h1
    refine ⟨Nat.le_of_ble_eq_true h1.1, Nat.eq_of_beq_eq_true h1.2, cellsH_ok h2 fun rd m ns h => ?_⟩
    split at h
    · exact kLive_mono h fun b h => by obtain ⟨e1, e2⟩ := h; obtain ⟨e2, e3⟩ := kO_if e2; exact ⟨e1, e2.1, e2.2, e3⟩
    · obtain ⟨e2, e3⟩ := kO_if h
      simp only [winC, Nat.zero_mul, List.drop_nil, List.take_nil, List.nil_append, Nat.zero_add] at e3
      exact ⟨by omega, e3⟩
    · exact h.elim
  unfold builtinH at h
  split at h
  · unfold builtinG
    simp only
    split at h
    · rename_i h1 h2
      rw [h1, h2]
      exact kO_mono h fun _ h => kO_mono h fun _ h => kO_mono h fun _ h => key h
    · rename_i h1 h2
      rw [h1, h2]
      exact kO_mono h fun _ h => kO_mono h fun _ h => kO_mono h fun _ h => key h
    · rename_i h1 h2
      rw [h1, h2]
      refine kO_mono h fun _ h => kO_mono h fun _ h => kO_mono h fun _ h => ?_
      obtain ⟨h1, h⟩ := h
      simp only [Bool.and_eq_true] at h1
      refine ⟨⟨Nat.le_of_ble_eq_true h1.1, Nat.eq_of_beq_eq_true h1.2⟩, ?_⟩
      split at h
      · obtain ⟨k, n, rfl, h⟩ := SV.kI_elim h
        obtain ⟨e1, h⟩ := h
        obtain ⟨e2, h⟩ := kO_mkN h
        exact ⟨⟨e1, e2.2⟩, h⟩
      · exact h.elim
    · exact h.elim
  · exact h
  · exact h
/-- The lower bound of a slice expression. -/
def bdL (φ : St) (x : Option Operand) (K : Int → Prop) : Prop := match x with | none => K 0 | some x => (φ.ev x).kI fun _ i => K i
theorem bdL_ok {φ : St} {x : Option Operand} {K : Int → Prop} (h : bdL φ x K) : φ.bd x 0 K := by cases x <;> exact h
def actH (T : TypeId → TyI) (op : Op) (φ : St) (nid : Nat) (K : Action → Prop) : Prop :=
  match op with
  | .move x | .assign x => K ⟨[], φ.ev x, []⟩
  | .pick c a b => (φ.ev c).kB fun t => K ⟨[], cond t (φ.ev a) (φ.ev b), []⟩
  | .extract x i => (φ.ev x).kT fun ps => kO ps[i]? fun p => K ⟨[], .pv p, []⟩
  | .unOp u _ x => kUnH u (φ.ev x) fun c => K ⟨[], one c, []⟩
  | .binOp op t x y _ => kBinH T op t (φ.ev x) (φ.ev y) fun c => K ⟨[], one c, []⟩
  | .convert s d x => (match (T s).kind, (T d).kind with
    | .int _, .int k => (φ.ev x).kI fun _ n => K ⟨[], one (.int k (k.wrap n)), []⟩
    | .str, .str => (φ.ev x).kS fun l => K ⟨[], one (.str l), []⟩
    | .str, .slice e => isU8T T e = true ∧ (φ.ev x).kS fun l => kO (s2bN l) fun n => K ⟨[], one (.arr nid 0 n), [(nid, .live ⟨1, n, (bsOf l).flatMap (eI .u8)⟩)]⟩
    | .slice e, .str => isU8T T e = true ∧ notStr (φ.ev x) = true ∧ cellsH φ 1 (φ.ev x) fun rd n cs => kO (bytesCs cs) fun l => K ⟨rd, one (.str l), []⟩
    | _, _ => False)
  | .field t x f => kO ((T t).fl[f]?) fun q => kO ((T q.2).size) fun size => kO ((T q.2).agg) fun b => (φ.ev x).kA fun cs => (b || Nat.beq size 1) = true ∧ kO (getC size (cs.drop q.1)) fun ns => K ⟨[], .pv (pvOf b ns), []⟩
  | .fieldAddr t x f => kO ((T t).fl[f]?) fun q => kO ((T q.2).size) fun size => Nat.blt 0 size = true ∧
      @kPtrI (φ.ev x) ⟨(fun id off => kLive (φ.heap id) fun _ => K ⟨[id], one (.ptr id (off + q.1)), []⟩), (fun cs => K ⟨[], one (.ip (cs.drop q.1)), []⟩)⟩
  | .load t x => kO ((T t).size) fun size => kO ((T t).agg) fun b => (b || Nat.beq size 1) = true ∧
      @kPtrI (φ.ev x) ⟨(fun id off => kLive (φ.heap id) fun bl => kO (getC size (bl.cs.drop off)) fun ns => K ⟨[id], .pv (pvOf b ns), []⟩), (fun cs => kO (getC size cs) fun ns => K ⟨[], .pv (pvOf b ns), []⟩)⟩
  | .store t x v => kO ((T t).size) fun size => (φ.ev v).kC fun ns => Nat.beq ns.length size = true ∧
      @kPtrI (φ.ev x) ⟨(fun id off => kLive (φ.heap id) fun bl => kO (putN off ns bl.cs) fun cs => K ⟨[id], one .dead, [(id, .live ⟨bl.sz, bl.n, cs⟩)]⟩), (fun _ => False)⟩
  | .alloc t => kO ((T t).zero) fun cs => K ⟨[], one (.ptr nid 0), [(nid, .live ⟨1, cs.length, cs⟩)]⟩
  | .box t v => (φ.ev v).kC fun cs => K ⟨[], one (.ptr nid 0), [(nid, .live ⟨1, cs.length, cs⟩)]⟩
  | .build t ps => (match (T t).kind with
    | .agg => (T t).all = true ∧ kO ((T t).zero) fun z => fillFT T φ t z ps.toList fun cs => K ⟨[], .pv (.agg cs), []⟩
    | _ => False)
  | .buildSlice t n ps => (match (T t).kind with
    | .slice e => kO ((T e).size) fun size => (Nat.ble (n * size) 4096 && Nat.blt 0 size && Nat.beq n ps.size) = true ∧ partsOf φ size 0 ps.toList fun cs => ((T e).zero).isSome = true ∧ K ⟨[], one (.arr nid 0 (bldN n)), [(nid, .live ⟨size, bldN n, bldC cs⟩)]⟩
    | _ => False)
  | .makeSlice t l c => (match (T t).kind with
    | .slice e => kO ((T e).size) fun size => kO ((T e).zero) fun z => kO ((T e).bytes) fun by_ => (Nat.ble by_ 1024 && Nat.beq z.length size) = true ∧
        (φ.ev l).kI fun k1 n => (φ.ev c).kI fun k2 m => k1 = .i64 ∧ k2 = .i64 ∧ kO (mkN n m) fun n' =>
          K ⟨[], one (.arr nid 0 n'), [(nid, .live ⟨size, n', mkC n' z⟩)]⟩
    | _ => False)
  | .index t x i => (match (T t).kind with
    | .str => (φ.ev x).kS fun l => (φ.ev i).kI fun _ i => kO (idxS l i) fun r => K ⟨[], one (.int .u8 r), []⟩
    | _ => False)
  | .indexAddr t x i => (match (T t).kind with
    | .slice e => kO ((T e).size) fun size => (φ.ev i).kI fun _ i => @kSlI (φ.ev x) ⟨(fun id lo n => kLive (φ.heap id) fun b => b.sz = size ∧ kO (rowPtr lo i n size) fun off => K ⟨[id], one (.ptr id off), []⟩), (fun sz n cs => sz = size ∧ kO (rowAt i n size cs) fun cs' => K ⟨[], one (.ip cs'), []⟩), False⟩
    | .tarr n e => kO ((T e).size) fun size => (φ.ev i).kI fun _ i => @kPtrI (φ.ev x) ⟨(fun id off => kLive (φ.heap id) fun _ => kO (rowPtr 0 i n size) fun q => K ⟨[id], one (.ptr id (off + q)), []⟩), (fun cs => kO (rowAt i n size cs) fun r => K ⟨[], one (.ip r), []⟩)⟩
    | _ => False)
  | .slice t x lo hi none => (match (T t).kind with
    | .str => (φ.ev x).kS fun l => bdL φ lo fun a => φ.bd hi l.length fun b => kO (subL l a b) fun r => K ⟨[], one (.str r), []⟩
    | .slice e => kO ((T e).size) fun size => @kSlI (φ.ev x) ⟨(fun id l n => kLive (φ.heap id) fun bl => bl.sz = size ∧ bdL φ lo fun a => φ.bd hi n fun b => kO (subN a b n) fun q => K ⟨[id], one (.arr id (l + q.1) q.2), []⟩),
        (fun sz n cs => sz = size ∧ bdL φ lo fun a => φ.bd hi n fun b => kO (subC a b n size cs) fun q => K ⟨[], one (.imm size q.1 q.2), []⟩),
        (bdL φ lo fun a => φ.bd hi 0 fun b => kO (okP (a = 0 ∧ b = 0)) fun _ => K ⟨[], one .emp, []⟩)⟩
    | _ => False)
  | .makeFunc (.func f) first caps => Nat.beq first.size 0 = true ∧ capsOf φ caps.toList fun cs => K ⟨[], one (.fn f cs), []⟩
  | .nilCheck x => @kPtrI (φ.ev x) ⟨(fun id off => kLive (φ.heap id) fun _ => K ⟨[id], one (.ptr id off), []⟩), (fun cs => K ⟨[], one (.ip cs), []⟩)⟩
  | .call c => (match c.callee with
    | .builtin b => builtinH T b c.argTypes.toList (c.args.toList.map φ.ev) φ nid K
    | _ => False)
  | _ => False
theorem bd_mono {φ : St} {x : Option Operand} {d : Nat} {K K' : Int → Prop} (h : φ.bd x d K) (hk : ∀ i, K i → K' i) : φ.bd x d K' := by
  obtain ⟨i, h1, h2⟩ := bd_elim h
  unfold St.bd
  rcases h2 with ⟨rfl, rfl⟩ | ⟨y, k, rfl, hy⟩
  · exact hk _ h1
  · simp only [hy]; exact hk _ h1
theorem kI_mono {x : SV} {K K' : IntKind → Int → Prop} (h : x.kI K) (hk : ∀ k n, K k n → K' k n) : x.kI K' := by
  obtain ⟨k, n, rfl, h⟩ := SV.kI_elim h
  exact hk _ _ h
theorem kS_mono {x : SV} {K K' : List UInt8 → Prop} (h : x.kS K) (hk : ∀ l, K l → K' l) : x.kS K' := by
  obtain ⟨l, rfl, h⟩ := SV.kS_elim h
  exact hk _ h
theorem kSl_mono {x : SV} {a a' : Nat → Nat → Nat → Prop} {b b' : Nat → Nat → List CV → Prop} {c c' : Prop} (h : x.kSl a b c) (ha : ∀ i l n, a i l n → a' i l n) (hb : ∀ s n cs, b s n cs → b' s n cs) (hc : c → c') : x.kSl a' b' c' := by
  unfold SV.kSl at h ⊢
  split at h
  · exact ha _ _ _ h
  · exact hb _ _ _ h
  · exact hc h
  · exact h.elim
theorem kBinT_mono {T : TypeId → TyI} {op : BinOp} {t : TypeId} {x y : SV} {K : CV → Prop} (h : kBinH T op t x y K) : kBinT T op t x y K := kBinH_ok h
theorem bool_size {b : Bool} {size : Nat} (h : (b || Nat.beq size 1) = true) : b = false → size = 1 := fun hb => by subst hb; exact Nat.eq_of_beq_eq_true (by simpa using h)
theorem parts_mono {φ : St} {size : Nat} : ∀ {l : List (Nat × Operand)} {i : Nat} {K K' : List CV → Prop}, partsOf φ size i l K → (∀ c, K c → K' c) → partsOf φ size i l K'
  | [], i, K, K', h, hk => hk _ h
  | (j, x) :: r, i, K, K', h, hk => ⟨h.1, kC_mono h.2 fun cs h => ⟨h.1, parts_mono h.2 fun ds h => hk _ h⟩⟩
theorem caps_mono {φ : St} : ∀ {l : List Operand} {K K' : List CV → Prop}, capsOf φ l K → (∀ c, K c → K' c) → capsOf φ l K'
  | [], K, K', h, hk => hk _ h
  | x :: r, K, K', h, hk => by
    unfold capsOf at h ⊢
    split at h
    · exact caps_mono h fun cs h => hk _ h
    · exact h.elim
theorem actH_ok {T : TypeId → TyI} {o : Oper} {φ : St} {nid : Nat} {K : Action → Prop} (h : actH T o.op φ nid K) : actG T o φ nid K := by
  unfold actH at h
  unfold actG actT
  generalize o.op = op at h ⊢
  cases op <;> try exact h
  all_goals try exact kUnH_ok h
  case binOp => exact kBinH_ok h
  case convert s d x =>
    simp only at h ⊢
    split at h
    · rename_i h1 h2; rw [h1, h2]; exact h
    · rename_i h1 h2; rw [h1, h2]; exact h
    · rename_i h1 h2
      rw [h1, h2]
      exact ⟨h.1, kS_mono h.2 fun l h => kO_s2bN h⟩
    · rename_i h1 h2
      rw [h1, h2]
      exact ⟨h.1, h.2.1, cellsH_ok h.2.2 fun _ _ _ h => h⟩
    · exact h.elim
  case field => exact kO_mono h fun _ h => kO_mono h fun _ h => kO_mono h fun _ h => kA_mono h fun _ h => ⟨bool_size h.1, h.2⟩
  case fieldAddr => exact kO_mono h fun _ h => kO_mono h fun _ h => ⟨by have h1 := h.1; rw [Nat.blt_eq] at h1; omega, h.2⟩
  case load => exact kO_mono h fun _ h => kO_mono h fun _ h => ⟨bool_size h.1, h.2⟩
  case store => exact kO_mono h fun _ h => kC_mono h fun _ h => ⟨Nat.eq_of_beq_eq_true h.1, h.2⟩
  case buildSlice t n ps =>
    simp only at h ⊢
    split at h
    · rename_i h1
      rw [h1]
      exact kO_mono h fun size h => by
        obtain ⟨h1, h2⟩ := h
        simp only [Bool.and_eq_true] at h1
        exact ⟨Nat.le_of_ble_eq_true h1.1.1, by have h3 := h1.1.2; rw [Nat.blt_eq] at h3; omega, Nat.eq_of_beq_eq_true h1.2, h2⟩
    · exact h.elim
  case makeSlice t l c =>
    simp only at h ⊢
    split at h
    · rename_i h1
      rw [h1]
      exact kO_mono h fun size h => kO_mono h fun z h => kO_mono h fun by_ h => by
        obtain ⟨h1, h2⟩ := h
        simp only [Bool.and_eq_true] at h1
        refine ⟨Nat.le_of_ble_eq_true h1.1, Nat.eq_of_beq_eq_true h1.2, kI_mono h2 fun k n h => kI_mono h fun k' m h => ?_⟩
        obtain ⟨e1, e2, e3⟩ := h
        obtain ⟨e3, e4⟩ := kO_mkN e3
        exact ⟨e1, e2, e3.1, e3.2.1, e3.2.2, e4⟩
    · exact h.elim
  case index t x i =>
    simp only at h ⊢
    split at h
    · rename_i h1; rw [h1]; exact kS_mono h fun l h => kI_mono h fun k i h => kO_idxS h
    · exact h.elim
  case indexAddr t x i =>
    simp only at h ⊢
    split at h
    · rename_i h1
      rw [h1]
      exact kO_mono h fun size h => kI_mono h fun k i h => kSl_mono h (fun id lo n h => kLive_mono h fun b h => ⟨h.1, kO_rowPtr h.2⟩) (fun s n cs h => ⟨h.1, kO_rowAt h.2⟩) (fun h => h)
    · rename_i h1
      rw [h1]
      exact kO_mono h fun size h => kI_mono h fun k i h => kPtr_mono h (fun id off h => kLive_mono h fun b h => by
        obtain ⟨h2, h3⟩ := kO_rowPtr h
        rw [Nat.zero_add] at h3
        exact ⟨h2, h3⟩) (fun cs h => kO_rowAt h)
    · exact h.elim
  case slice t x lo hi mx =>
    cases mx with
    | some _ => exact h.elim
    | none =>
      simp only at h ⊢
      split at h
      · rename_i h1; rw [h1]; exact kS_mono h fun l h => bd_mono (bdL_ok h) fun a h => bd_mono h fun b h => kO_subL h
      · rename_i h1
        rw [h1]
        exact kO_mono h fun size h => kSl_mono h (fun id l n h => kLive_mono h fun bl h => ⟨h.1, bd_mono (bdL_ok h.2) fun a h => bd_mono h fun b h => kO_subN h⟩)
          (fun s n cs h => ⟨h.1, by obtain ⟨rfl, h⟩ := h; exact bd_mono (bdL_ok h) fun a h => bd_mono h fun b h => kO_subC h⟩) (fun h => bd_mono (bdL_ok h) fun a h => bd_mono h fun b h => kO_okP h)
      · exact h.elim
  case makeFunc fn a b =>
    cases fn with
    | func f => exact ⟨Nat.eq_of_beq_eq_true h.1, h.2⟩
    | _ => exact h
  case call c =>
    simp only at h ⊢
    split at h
    · rename_i b hb; rw [hb]; exact builtinH_ok h
    · exact h.elim
end Go.Fm

/-! Code as a demand on a state, made to be reckoned. -/
namespace Go.Fm
variable [Globs]
set_option linter.unusedVariables false
set_option linter.unusedSectionVars false

def opG (P : Unit → Program) (T : TypeId → TyI) (o : Oper) (s : S) (K : Action → Prop) : Prop :=
  match o.op with
  | .call c => (match c.callee with
    | .value x => (match s.st.ev x with
      | .pv (.one (.fn f caps)) => @callT _ P f caps (c.args.toList.map s.st.ev) s ⟨K⟩
      | _ => False)
    | _ => actH T o.op s.st s.heap.length K)
  | _ => actH T o.op s.st s.heap.length K
theorem opG_opF {P : Unit → Program} {T : TypeId → TyI} {o : Oper} {s : S} {K : Action → Prop} (h : opG P T o s K) : opF P T o s K := by
  unfold opG at h
  unfold opF
  split at h
  · rename_i c ho
    rw [ho]
    simp only
    split at h
    · rename_i x hx
      rw [hx]
      simp only
      split at h
      · rename_i hf; rw [hf]; exact h
      · exact h.elim
    · rename_i hx
      have h := actG_eq (actH_ok h)
      split
      · rename_i x hx2; exact absurd hx2 (hx x)
      · exact h
  · rename_i hne
    have h := actG_eq (actH_ok h)
    split
    · rename_i c ho; exact absurd ho (hne c)
    · exact h
def okOps (nt : Nat) : List Oper → Bool
  | [] => true
  | o :: r => (match o.dst with | none => true | some d => Nat.blt d nt) && okOps nt r
/-- The operations of a region. -/
def wopsN (P : Unit → Program) (T : TypeId → TyI) (all : List Oper) [K : Kn S] : List Oper → S → Prop
  | [], s => K.go s
  | o :: os, s => guardF all s o fun g => match g with
      | true => opG P T o s fun A => wopsN P T all os (s.app o.dst A)
      | false => wopsN P T all os (s.app o.dst skipA)
/-- The operations of a region, with what they touch. -/
def wopsD (P : Unit → Program) (T : TypeId → TyI) (all : List Oper) [K : Kw] : List Oper → S → Feet → Prop
  | [], s, acc => K.go s acc
  | o :: os, s, acc => guardF all s o fun g => match g with
      | true => opG P T o s fun A => wopsD P T all os (s.app o.dst A) ((A.rd, A.hp.map (·.1)) :: acc)
      | false => wopsD P T all os (s.app o.dst skipA) (([], []) :: acc)
theorem guardF_mono {all : List Oper} {s : S} {o : Oper} {K K' : Bool → Prop} (h : guardF all s o K) (hk : ∀ g, K g → K' g) : guardF all s o K' := by
  unfold guardF at h ⊢
  split at h
  · exact hk _ h
  · split at h
    · exact hk _ h
    · split at h
      · rename_i t ht
        split at h
        · exact kIf_mk (fun e => hk _ (@kIf.t _ ⟨_⟩ ⟨_⟩ h e)) (fun e => hk _ (@kIf.f _ ⟨_⟩ ⟨_⟩ h e))
        · exact kIf_mk (fun e => hk _ (@kIf.t _ ⟨_⟩ ⟨_⟩ h e)) (fun e => hk _ (@kIf.f _ ⟨_⟩ ⟨_⟩ h e))
      · exact hk _ h
      · exact h.elim
theorem opF_mono {P : Unit → Program} {T : TypeId → TyI} (hT : T = tiOf (P ())) {nt : Nat} {all : List Oper} {o : Oper} {os : List Oper} {s : S} {acc : Feet} {K : Kw} : dstOk nt o →
    guardF all s o (fun g => match g with
      | true => opF P T o s fun A => @wops _ P T nt all K os (s.app o.dst A) ((A.rd, A.hp.map (·.1)) :: acc)
      | false => @wops _ P T nt all K os (s.app o.dst skipA) (([], []) :: acc)) → @wops _ P T nt all K (o :: os) s acc := fun h1 h2 => ⟨h1, h2⟩
theorem okOps_dst {nt : Nat} {o : Oper} {r : List Oper} (h : okOps nt (o :: r) = true) : dstOk nt o ∧ okOps nt r = true := by
  simp only [okOps, Bool.and_eq_true] at h
  refine ⟨?_, h.2⟩
  unfold dstOk
  cases hd : o.dst with
  | none => trivial
  | some d =>
    have h1 := h.1
    rw [hd] at h1
    simpa [Nat.blt_eq] using h1
/-- What is demanded of an action turned. -/
theorem callT_mono {P : Unit → Program} {f : FuncId} {caps : List CV} {args : List SV} {s : S} {K K' : Action → Prop} (h : @callT _ P f caps args s ⟨K⟩) (hk : ∀ A, K A → K' A) : @callT _ P f caps args s ⟨K'⟩ :=
  @callT.mk _ P f caps args s ⟨K'⟩ fun hm o c x h1 h2 h3 h4 => by
    obtain ⟨A, hA, hK⟩ := @callT.get _ P f caps args s ⟨K⟩ h hm o c x h1 h2 h3 h4
    exact ⟨A, hA, hk A hK⟩
/-- The operations one after the other, as a demand on what is there at the end. -/
theorem opG_seq {P : Unit → Program} {T : TypeId → TyI} (hT : T = tiOf (P ())) (hm : (P ()).follows .mixedOrders = true) {o : Oper} {s : S} {K : Action → Prop} (h : opG P T o s K) : ∃ A, ActX (P ()) o s.st s.heap.length A ∧ K A := opF_ok hT hm (opG_opF h)
theorem wopsN_seq {P : Unit → Program} {T : TypeId → TyI} (hT : T = tiOf (P ())) (hm : (P ()).follows .mixedOrders = true) {nt : Nat} {all : List Oper} : ∀ {os : List Oper} {s : S} {K : S → Prop}, okOps nt os = true → @wopsN _ P T all ⟨K⟩ os s →
    ∃ l s', Seq (P ()) nt all os s l s' ∧ K s'
  | [], s, K, _, h => ⟨[], s, .nil s, h⟩
  | o :: os, s, K, hd, h => by
    obtain ⟨hd1, hd2⟩ := okOps_dst hd
    obtain ⟨g, hg, h⟩ := guardF_ok h
    cases g with
    | true =>
      obtain ⟨A, hA, h⟩ := opG_seq hT hm h
      obtain ⟨l, s', hs, hK⟩ := wopsN_seq hT hm hd2 h
      exact ⟨_, s', .cons o os s s' A true l hd1 hg (.inl ⟨rfl, hA⟩) hs, hK⟩
    | false =>
      obtain ⟨l, s', hs, hK⟩ := wopsN_seq hT hm hd2 h
      exact ⟨_, s', .cons o os s s' skipA false l hd1 hg (.inr ⟨rfl, rfl⟩) hs, hK⟩
theorem wopsD_seq {P : Unit → Program} {T : TypeId → TyI} (hT : T = tiOf (P ())) (hm : (P ()).follows .mixedOrders = true) {nt : Nat} {all : List Oper} : ∀ {os : List Oper} {s : S} {acc : Feet} {K : S → Feet → Prop}, okOps nt os = true → @wopsD _ P T all ⟨K⟩ os s acc →
    ∃ l s', Seq (P ()) nt all os s l s' ∧ K s' ((feetOf l).reverse ++ acc)
  | [], s, acc, K, _, h => ⟨[], s, .nil s, h⟩
  | o :: os, s, acc, K, hd, h => by
    obtain ⟨hd1, hd2⟩ := okOps_dst hd
    obtain ⟨g, hg, h⟩ := guardF_ok h
    cases g with
    | true =>
      obtain ⟨A, hA, h⟩ := opG_seq hT hm h
      obtain ⟨l, s', hs, hK⟩ := wopsD_seq hT hm hd2 h
      exact ⟨_, s', .cons o os s s' A true l hd1 hg (.inl ⟨rfl, hA⟩) hs, by simpa [feetOf] using hK⟩
    | false =>
      obtain ⟨l, s', hs, hK⟩ := wopsD_seq hT hm hd2 h
      exact ⟨_, s', .cons o os s s' skipA false l hd1 hg (.inr ⟨rfl, rfl⟩) hs, by simpa [feetOf, skipA] using hK⟩
theorem W.regionN {P : Unit → Program} {T : TypeId → TyI} (hT : T = tiOf (P ())) {nt k0 : Nat} {s : S} {Q : Ex → S → Prop} {id : Nat} {ops : Array Oper} (hd : okOps nt ops.toList = true) (h : @wopsN _ P T ops.toList ⟨fun s' => Q .normal s'⟩ ops.toList s) : W (P ()) nt k0 (.region id ops false) s Q := fun hm => by
  obtain ⟨l, s', hs, hq⟩ := wopsN_seq hT hm hd h
  refine ⟨.normal, s', fun C hP hn hk a w R => ?_, hq⟩
  refine wp_region ?_
  have := hs.text 0 rfl C hP hn a w R (fun e' a' w' => e' = .normal ∧ RelX C s'.st a' w') (fun a' w' R' => ⟨rfl, R'⟩)
  rw [List.range_eq_range']
  simpa [Ex.of] using this
theorem W.regionD {P : Unit → Program} {T : TypeId → TyI} (hT : T = tiOf (P ())) {nt k0 : Nat} {s : S} {Q : Ex → S → Prop} {id : Nat} {ops : Array Oper} (hd : okOps nt ops.toList = true)
    (h : @wopsD _ P T ops.toList ⟨fun s' f => drawOk ops.toList f.reverse = true ∧ Q .normal s'⟩ ops.toList s []) : W (P ()) nt k0 (.region id ops true) s Q := fun hm => by
  obtain ⟨l, s', hs, hd, hq⟩ := wopsD_seq hT hm hd h
  refine ⟨.normal, s', fun C hP hn hk a w R => ?_, hq⟩
  refine wp_region_any hm ?_
  have hok := hd
  simp only [List.append_nil, List.reverse_reverse] at hok
  refine hs.drawn hok hP hn (fun a' w' R' => ⟨rfl, R'⟩) _ _ _ _ (by simp) ?_ (fun j o ho hp => ?_) ?_
  · suffices ∀ (p : Nat → Bool) n, unl p n ≤ n from this _ _
    intro p n
    induction n with
    | zero => exact Nat.le_refl _
    | succ n ih => simp only [unl]; split <;> omega
  · exfalso
    by_cases hj : j < ops.size
    · simp [hj] at hp
    · rw [List.getElem?_eq_none (by simpa using hj)] at ho; cases ho
  · have hdr : RelX C s.st a { w with drawn := w.drawn + 1 } := by
      obtain ⟨C', hC, ρ, R0⟩ := R
      exact ⟨C', hC, ρ, R0.drew⟩
    have hph : phiS ops.toList l s (fun i => (Array.replicate ops.size false).getD i false) ops.size = s.st := by
      have hf : ∀ j, (Array.replicate ops.size false).getD j false = false := fun j => by
        by_cases hj : j < ops.size <;> simp [hj]
      simp only [phiS]
      show St.mk _ _ = s.st
      congr 1
      · funext t; exact vAt_past (i := 0) (Nat.zero_le _) (fun j _ _ _ => hf j)
      · funext id; exact vAt_past (i := 0) (Nat.zero_le _) (fun j _ _ _ => hf j)
    rw [hph]
    exact hdr
def okC (nt : Nat) : Code → Bool
  | .region _ ops _ => okOps nt ops.toList
  | .seq x y => okC nt x && okC nt y
  | .cond _ x y => okC nt x && okC nt y
  | .block _ c => okC nt c
  | .loop c => okC nt c
  | _ => true
def noG : List Oper → Bool
  | [] => true
  | o :: r => o.guard.isNone && noG r
/-- Code behind which the ways do not part. -/
def inl : Code → Bool
  | .region _ ops _ => noG ops.toList
  | .skip => true
  | .seq x y => inl x && inl y
  | _ => false
/-- A piece of code, and what follows where its ways have met again. -/
structure seqT (P : Unit → Program) (nt k0 : Nat) (x y : Code) (s : S) [Q : Kx] : Prop where
  get : okC nt x = true → okC nt y = true → W (P ()) nt k0 (.seq x y) s Q.go
/-- Code read as a demand on the state; a loop stays one. -/
def VC2 (P : Unit → Program) (T : TypeId → TyI) (nt k0 : Nat) : (c : Code) → (s : S) → [Q : Kx] → Prop
  | .skip, s, Q => Q.go .normal s
  | .region _ ops draw, s, Q => (match draw with
    | false => @wopsN _ P T ops.toList ⟨fun s' => Q.go .normal s'⟩ ops.toList s
    | true => @wopsD _ P T ops.toList ⟨fun s' f => drawOk ops.toList f.reverse = true ∧ Q.go .normal s'⟩ ops.toList s [])
  | .seq x y, s, Q => (match inl x with
    | true => @VC2 P T nt k0 x s ⟨fun e s1 => kSeq e (fun _ => @VC2 P T nt k0 y s1 Q) (fun _ => Q.go e s1)⟩
    | false => @seqT _ P nt k0 x y s Q)
  | .cond c x y, s, Q => (s.st.ev c).kB fun b => @kIf b ⟨fun _ => @VC2 P T nt k0 x s Q⟩ ⟨fun _ => @VC2 P T nt k0 y s Q⟩
  | .block id c, s, Q => @VC2 P T nt k0 c s ⟨fun e s1 => kBlock id e (fun _ => Q.go .normal s1) (fun _ => Q.go e s1)⟩
  | .exit id, s, Q => Q.go (.exit id) s
  | .ret, s, Q => Q.go .ret s
  | .loop c, s, Q => @loopT _ P nt k0 c s Q
  | _, _, _ => False
theorem VC2.w {P : Unit → Program} {T : TypeId → TyI} (hT : T = tiOf (P ())) {nt k0 : Nat} : ∀ (c : Code) {s : S} {Q : Ex → S → Prop}, okC nt c = true → @VC2 _ P T nt k0 c s ⟨Q⟩ → W (P ()) nt k0 c s Q
  | .skip, s, Q, _, h => .skip h
  | .region _ ops draw, s, Q, hd, h => by
    cases draw with
    | false => exact .regionN hT hd h
    | true => exact .regionD hT hd h
  | .seq x y, s, Q, hd, h => by
    simp only [okC, Bool.and_eq_true] at hd
    have h : (match inl x with
      | true => @VC2 _ P T nt k0 x s ⟨fun e s1 => kSeq e (fun _ => @VC2 _ P T nt k0 y s1 ⟨Q⟩) (fun _ => Q e s1)⟩
      | false => @seqT _ P nt k0 x y s ⟨Q⟩) := h
    cases hx : inl x with
    | true =>
      rw [hx] at h
      exact .seq ((VC2.w hT x hd.1 h).mono fun e s1 h1 => by
        cases e with
        | normal => exact VC2.w hT y hd.2 h1
        | exit id => exact h1
        | ret => exact h1)
    | false =>
      rw [hx] at h
      exact @seqT.get _ P nt k0 x y s ⟨Q⟩ h hd.1 hd.2
  | .cond c x y, s, Q, hd, h => by
    simp only [okC, Bool.and_eq_true] at hd
    obtain ⟨b, hb, h⟩ := SV.kB_elim h
    obtain ⟨h1, h2⟩ := h
    refine .cond hb ?_
    cases b with
    | true => exact VC2.w hT x hd.1 (h1 rfl)
    | false => exact VC2.w hT y hd.2 (h2 rfl)
  | .block id c, s, Q, hd, h => .block (VC2.w hT c hd h)
  | .exit id, s, Q, _, h => .exit h
  | .ret, s, Q, _, h => .ret h
  | .loop c, s, Q, _, h => by obtain ⟨g⟩ := h; exact g
  | .rangeFunc .., s, Q, _, h => h.elim
  | .scope _, s, Q, _, h => h.elim
  | .label _, s, Q, _, h => h.elim
  | .goto _, s, Q, _, h => h.elim
  | .refuse _, s, Q, _, h => h.elim
theorem seqN {P : Unit → Program} {T : TypeId → TyI} (hT : T = tiOf (P ())) {nt k0 : Nat} {x y : Code} {s : S} {Q : Ex → S → Prop} (hx : inl x = false)
    (h : @VC2 _ P T nt k0 x s ⟨fun e s1 => kSeq e (fun _ => @VC2 _ P T nt k0 y s1 ⟨Q⟩) (fun _ => Q e s1)⟩) : @VC2 _ P T nt k0 (.seq x y) s ⟨Q⟩ := by
  show (match inl x with
      | true => @VC2 _ P T nt k0 x s ⟨fun e s1 => kSeq e (fun _ => @VC2 _ P T nt k0 y s1 ⟨Q⟩) (fun _ => Q e s1)⟩
      | false => @seqT _ P nt k0 x y s ⟨Q⟩)
  rw [hx]
  exact @seqT.mk _ P nt k0 x y s ⟨Q⟩ fun h1 h2 => .seq ((VC2.w hT x h1 h).mono fun e s1 h3 => by
    cases e with
    | normal => exact VC2.w hT y h2 h3
    | exit id => exact h3
    | ret => exact h3)
/-- What is seen in another way where ways meet. -/
structure CutT (k0 : Nat) {α : Type} (st : α → S) (G : α → Prop) (s : S) : Prop where
  get : ∃ v, G v ∧ Weak k0 s (st v)
theorem seqK {P : Unit → Program} {T : TypeId → TyI} (hT : T = tiOf (P ())) {nt k0 : Nat} {x y : Code} {s : S} {Q : Ex → S → Prop} {α : Type} (st : α → S) (G : α → Prop) (hx : inl x = false)
    (h : @VC2 _ P T nt k0 x s ⟨fun e s1 => kSeq e (fun _ => CutT k0 st G s1) (fun _ => Q e s1)⟩) (h2 : ∀ v, G v → @VC2 _ P T nt k0 y (st v) ⟨Q⟩) : @VC2 _ P T nt k0 (.seq x y) s ⟨Q⟩ := by
  show (match inl x with
      | true => @VC2 _ P T nt k0 x s ⟨fun e s1 => kSeq e (fun _ => @VC2 _ P T nt k0 y s1 ⟨Q⟩) (fun _ => Q e s1)⟩
      | false => @seqT _ P nt k0 x y s ⟨Q⟩)
  rw [hx]
  exact @seqT.mk _ P nt k0 x y s ⟨Q⟩ fun d1 d2 => .seq ((VC2.w hT x d1 h).mono fun e s1 h3 => by
    cases e with
    | normal =>
      obtain ⟨v, g1, g2⟩ := h3.get
      exact (VC2.w hT y d2 (h2 v g1)).weak g2
    | exit id => exact h3
    | ret => exact h3)
theorem cutT_mk {k0 : Nat} {α : Type} {st : α → S} {G : α → Prop} {s : S} (v : α) (hg : G v) (hw : Weak k0 s (st v)) : CutT k0 st G s := ⟨v, hg, hw⟩
/-- A loop by what holds at its head; what is counted down is the fuel. -/
theorem loopK {P : Unit → Program} {T : TypeId → TyI} (hT : T = tiOf (P ())) {nt k0 : Nat} {s : S} {Q : Ex → S → Prop} {α : Type} (st : α → S) (Inv : Nat → α → Prop) {c : Code} (hd : okC nt c = true) (k : Nat) (x0 : α) (hw : Weak k0 s (st x0)) (h0 : Inv k x0)
    (zero : ∀ x, ¬ Inv 0 x) (step : ∀ k x, Inv (k + 1) x → @VC2 _ P T nt k0 c (st x) ⟨fun e s' => kSeq e (fun _ => ∃ x', Inv k x' ∧ Weak k0 s' (st x')) (fun _ => Q e s')⟩) : @loopT _ P nt k0 c s ⟨Q⟩ :=
  @loopT.mk _ P nt k0 c s ⟨Q⟩ <| (.loop (fun p : Nat × α => st p.2) (fun p => Inv p.1 p.2) (fun p => p.1) (k, x0) hw h0 fun p hp => by
    obtain ⟨k, x⟩ := p
    cases k with
    | zero => exact absurd hp (zero x)
    | succ k =>
      refine (VC2.w hT c hd (step k x hp)).mono fun e s' h => ?_
      cases e with
      | normal =>
        obtain ⟨x', h1, h2⟩ := h
        exact ⟨(k, x'), h1, Nat.lt_succ_self _, h2⟩
      | exit id => exact h
      | ret => exact h)
theorem ansK {P : Unit → Program} {T : TypeId → TyI} (hT : T = tiOf (P ())) {f : FuncId} {fn : Func} {c : Code} {ps : List PV} {bs : List HS} {K : SV → List HS → Prop} (hf : (P ()).funcs[f]? = some fn) (hb : fn.body = some c)
    (hc : (fn.name == "runtime.NumGoroutine") = false ∧ Nat.ble ps.length fn.ntmps = true ∧ Nat.blt 0 fn.ntmps = true ∧ okC fn.ntmps c = true) (hbs : ∀ s ∈ bs, s ≠ .no) {s0 : S} (hw0 : Weak bs.length ⟨zipE 0 ps, bs⟩ s0)
    (h : @VC2 _ P T fn.ntmps bs.length c s0 ⟨fun e s' => (match e with | .exit _ => False | _ => True) ∧ kO (resF T (hOf s'.heap) s'.env fn.results.toList) fun r0 => @EndT _ bs.length r0 s'.heap ⟨K⟩⟩) :
    Ans (P ()) f ps bs K :=
  ans_ofW hT hf hb hc.1 (Nat.le_of_ble_eq_true hc.2.1) (by simpa [Nat.blt_eq] using hc.2.2.1) hbs hw0 (VC2.w hT c hc.2.2.2 h)
end Go.Fm

/-! The rules of reckoning, in two bundles. -/
namespace Go.Fm
variable [Globs]
set_option linter.unusedVariables false
set_option linter.unusedSectionVars false
set_option linter.defProp false

def evL (env : List (Nat × SV)) : Operand → SV
  | .tmp t => lk env t
  | .const v => constSV v
  | .func f => one (.fn f [])
  | .global g => match Globs.tab g with | some cs => one (.ip cs) | none => one .dead
theorem ev_evL {env : List (Nat × SV)} {heap : List HS} {x : Operand} : St.ev (S.st ⟨env, heap⟩) x = evL env x := by cases x <;> rfl
theorem ev_map {env : List (Nat × SV)} {heap : List HS} (as : List Operand) : as.map (evL env) = as.map (S.st ⟨env, heap⟩).ev := List.map_congr_left fun x _ => ev_evL.symm
theorem heap_st {env : List (Nat × SV)} {heap : List HS} {i : Nat} : (S.st ⟨env, heap⟩).heap i = hOf heap i := rfl
def kG (x : SV) (b : Bool) (K : Bool → Prop) : Prop := match x with
  | .pv (.one (.bool t)) => (match b with | true => @kIf t ⟨fun _ => K true⟩ ⟨fun _ => K false⟩ | false => @kIf t ⟨fun _ => K false⟩ ⟨fun _ => K true⟩)
  | .tup _ => K false
  | _ => False
theorem kG_t {t : Bool} {K : Bool → Prop} : kG (.pv (.one (.bool t))) true K = @kIf t ⟨fun _ => K true⟩ ⟨fun _ => K false⟩ := rfl
theorem kG_f {t : Bool} {K : Bool → Prop} : kG (.pv (.one (.bool t))) false K = @kIf t ⟨fun _ => K false⟩ ⟨fun _ => K true⟩ := rfl
theorem kG_u {l : List PV} {b : Bool} {K : Bool → Prop} : kG (.tup l) b K = K false := rfl
@[congr] theorem kIf_congr {b c : Bool} {X Y : Kn Unit} (h : b = c) : @kIf b X Y = @kIf c X Y := by rw [h]
@[congr] theorem kG_congr {x y : SV} {b : Bool} {K : Bool → Prop} (h : x = y) : kG x b K = kG y b K := by rw [h]
def kD (d : Option Nat) (env : List (Nat × SV)) (b : Bool) (K : Bool → Prop) : Prop := match d with | none => K false | some d => kG (lk env d) b K
theorem kD_s {d : Nat} {env : List (Nat × SV)} {b : Bool} {K : Bool → Prop} : kD (some d) env b K = kG (lk env d) b K := rfl
theorem kD_n {env : List (Nat × SV)} {b : Bool} {K : Bool → Prop} : kD none env b K = K false := rfl
@[congr] theorem kD_congr {x y : Option Nat} {env : List (Nat × SV)} {b : Bool} {K : Bool → Prop} (h : x = y) : kD x env b K = kD y env b K := by rw [h]
def dstAt : List Oper → Nat → Option Nat
  | [], _ => none
  | o :: _, 0 => o.dst
  | _ :: r, n + 1 => dstAt r n
theorem dstAt_eq : ∀ (l : List Oper) (j : Nat), dstAt l j = (l[j]?).bind (·.dst)
  | [], j => by simp [dstAt]
  | o :: r, 0 => rfl
  | o :: r, j + 1 => by simp only [dstAt, List.getElem?_cons_succ]; exact dstAt_eq r j
def kFn (x : SV) (K : FuncId → List CV → Prop) : Prop := match x with | .pv (.one (.fn f caps)) => K f caps | _ => False
theorem kFn_fn {f : FuncId} {caps : List CV} {K : FuncId → List CV → Prop} : kFn (.pv (.one (.fn f caps))) K = K f caps := rfl
@[congr] theorem kFn_congr {x y : SV} {K : FuncId → List CV → Prop} (h : x = y) : kFn x K = kFn y K := by rw [h]

section
variable {P : Unit → Program} {T : TypeId → TyI} {nt k0 : Nat} {s : S} {Q : Ex → S → Prop} {all os : List Oper} {K : S → Prop} {KD : S → Feet → Prop} {acc : Feet} {d : Option Tmp} {op : Op} {ty : TypeId} {p : String} {es : Array Edge} {KA : Action → Prop} {g : Option (Nat × Bool)}
  {env : List (Nat × SV)} {heap : List HS}
theorem v_skip : @VC2 _ P T nt k0 .skip s ⟨Q⟩ = Q .normal s := rfl
theorem v_regN {id : Nat} {l : List Oper} : @VC2 _ P T nt k0 (.region id l.toArray false) s ⟨Q⟩ = @wopsN _ P T l ⟨fun s' => Q .normal s'⟩ l s := rfl
theorem v_regD {id : Nat} {l : List Oper} : @VC2 _ P T nt k0 (.region id l.toArray true) s ⟨Q⟩ = @wopsD _ P T l ⟨fun s' f => drawOk l f.reverse = true ∧ Q .normal s'⟩ l s [] := rfl
theorem n_reg {id : Nat} {l : List Oper} {b : Bool} : inl (.region id l.toArray b) = noG l := rfl
theorem n_skip : inl .skip = true := rfl
theorem n_seq {x y : Code} : inl (.seq x y) = (inl x && inl y) := rfl
theorem n_tt {b : Bool} : (true && b) = b := rfl
theorem v_seqA {x y z : Code} (h1 : inl x = true) (h2 : inl y = true) : @VC2 _ P T nt k0 (.seq (.seq x y) z) s ⟨Q⟩ = @VC2 _ P T nt k0 (.seq x y) s ⟨fun e s1 => kSeq e (fun _ => @VC2 _ P T nt k0 z s1 ⟨Q⟩) (fun _ => Q e s1)⟩ := by
  have h : inl (.seq x y) = true := by rw [n_seq, h1, h2]; rfl
  show (match inl (.seq x y) with | true => _ | false => _) = _
  rw [h]
theorem v_seqS {y : Code} : @VC2 _ P T nt k0 (.seq .skip y) s ⟨Q⟩ = @VC2 _ P T nt k0 y s ⟨Q⟩ := rfl
theorem ng_nil : noG [] = true := rfl
theorem ng_cons : noG (⟨d, op, ty, p, es, none⟩ :: os) = noG os := rfl
theorem v_seqR {id : Nat} {l : List Oper} {y : Code} (h : noG l = true) : @VC2 _ P T nt k0 (.seq (.region id l.toArray false) y) s ⟨Q⟩ = @wopsN _ P T l ⟨fun s' => @VC2 _ P T nt k0 y s' ⟨Q⟩⟩ l s := by
  show (match noG l with | true => _ | false => _) = _
  rw [h]; rfl
theorem v_seqRD {id : Nat} {l : List Oper} {y : Code} (h : noG l = true) : @VC2 _ P T nt k0 (.seq (.region id l.toArray true) y) s ⟨Q⟩ = @wopsD _ P T l ⟨fun s' f => drawOk l f.reverse = true ∧ @VC2 _ P T nt k0 y s' ⟨Q⟩⟩ l s [] := by
  show (match noG l with | true => _ | false => _) = _
  rw [h]; rfl
theorem v_cond {c : Operand} {x y : Code} : @VC2 _ P T nt k0 (.cond c x y) ⟨env, heap⟩ ⟨Q⟩ = (evL env c).kB fun b => @kIf b ⟨fun _ => @VC2 _ P T nt k0 x ⟨env, heap⟩ ⟨Q⟩⟩ ⟨fun _ => @VC2 _ P T nt k0 y ⟨env, heap⟩ ⟨Q⟩⟩ := by
  rw [← ev_evL]; rfl
theorem v_block {id : Nat} {c : Code} : @VC2 _ P T nt k0 (.block id c) s ⟨Q⟩ = @VC2 _ P T nt k0 c s ⟨fun e s1 => kBlock id e (fun _ => Q .normal s1) (fun _ => Q e s1)⟩ := rfl
theorem v_exit {id : Nat} : @VC2 _ P T nt k0 (.exit id) s ⟨Q⟩ = Q (.exit id) s := rfl
theorem v_ret : @VC2 _ P T nt k0 .ret s ⟨Q⟩ = Q .ret s := rfl
theorem v_loop {c : Code} : @VC2 _ P T nt k0 (.loop c) s ⟨Q⟩ = @loopT _ P nt k0 c s ⟨Q⟩ := rfl
theorem w_nil : @wopsN _ P T all ⟨K⟩ [] s = K s := rfl
theorem w_cons : @wopsN _ P T all ⟨K⟩ (⟨d, op, ty, p, es, none⟩ :: os) s = opG P T ⟨d, op, ty, p, es, none⟩ s fun A => @wopsN _ P T all ⟨K⟩ os (s.app d A) := rfl
theorem w_consG {j : Nat} {b : Bool} : @wopsN _ P T all ⟨K⟩ (⟨d, op, ty, p, es, some (j, b)⟩ :: os) ⟨env, heap⟩ = kD (dstAt all j) env b fun g => match g with
    | true => opG P T ⟨d, op, ty, p, es, none⟩ ⟨env, heap⟩ fun A => @wopsN _ P T all ⟨K⟩ os (S.app ⟨env, heap⟩ d A)
    | false => @wopsN _ P T all ⟨K⟩ os (S.app ⟨env, heap⟩ d skipA) := by
  rw [dstAt_eq]
  rfl
theorem wD_nil : @wopsD _ P T all ⟨KD⟩ [] s acc = KD s acc := rfl
theorem wD_cons : @wopsD _ P T all ⟨KD⟩ (⟨d, op, ty, p, es, none⟩ :: os) s acc = opG P T ⟨d, op, ty, p, es, none⟩ s fun A => @wopsD _ P T all ⟨KD⟩ os (s.app d A) ((A.rd, A.hp.map (·.1)) :: acc) := rfl
theorem wD_consG {j : Nat} {b : Bool} : @wopsD _ P T all ⟨KD⟩ (⟨d, op, ty, p, es, some (j, b)⟩ :: os) ⟨env, heap⟩ acc = kD (dstAt all j) env b fun g => match g with
    | true => opG P T ⟨d, op, ty, p, es, none⟩ ⟨env, heap⟩ fun A => @wopsD _ P T all ⟨KD⟩ os (S.app ⟨env, heap⟩ d A) ((A.rd, A.hp.map (·.1)) :: acc)
    | false => @wopsD _ P T all ⟨KD⟩ os (S.app ⟨env, heap⟩ d skipA) (([], []) :: acc) := by
  rw [dstAt_eq]
  rfl
theorem o_call {x : Operand} {as : List Operand} {ts : Array TypeId} : opG P T ⟨d, .call ⟨.value x, as.toArray, ts⟩, ty, p, es, g⟩ ⟨env, heap⟩ KA = kFn (evL env x) fun f caps => @callT _ P f caps (as.map (evL env)) ⟨env, heap⟩ ⟨KA⟩ := by
  have : as.map (evL env) = as.map (S.st ⟨env, heap⟩).ev := ev_map as
  rw [this, ← ev_evL (heap := heap)]
  try rfl
theorem o_bi {b : Builtin} {as : List Operand} {ts : List TypeId} : opG P T ⟨d, .call ⟨.builtin b, as.toArray, ts.toArray⟩, ty, p, es, g⟩ ⟨env, heap⟩ KA = builtinH T b ts (as.map (evL env)) (S.st ⟨env, heap⟩) heap.length KA := by
  have : as.map (evL env) = as.map (S.st ⟨env, heap⟩).ev := ev_map as
  rw [this]
  try rfl
theorem o_move {x : Operand} : opG P T ⟨d, .move x, ty, p, es, g⟩ ⟨env, heap⟩ KA = KA ⟨[], evL env x, []⟩ := by rw [← ev_evL (heap := heap)]; rfl
theorem o_assign {x : Operand} : opG P T ⟨d, .assign x, ty, p, es, g⟩ ⟨env, heap⟩ KA = KA ⟨[], evL env x, []⟩ := by rw [← ev_evL (heap := heap)]; rfl
theorem o_pick {c a b : Operand} : opG P T ⟨d, .pick c a b, ty, p, es, g⟩ ⟨env, heap⟩ KA = (evL env c).kB fun t => KA ⟨[], cond t (evL env a) (evL env b), []⟩ := by rw [← ev_evL (heap := heap), ← ev_evL (heap := heap), ← ev_evL (heap := heap)]; rfl
theorem o_extract {x : Operand} {i : Nat} : opG P T ⟨d, .extract x i, ty, p, es, g⟩ ⟨env, heap⟩ KA = (evL env x).kT fun ps => kO ps[i]? fun p => KA ⟨[], .pv p, []⟩ := by rw [← ev_evL (heap := heap)]; rfl
theorem o_un {u : UnOp} {t : TypeId} {x : Operand} : opG P T ⟨d, .unOp u t x, ty, p, es, g⟩ ⟨env, heap⟩ KA = kUnH u (evL env x) fun c => KA ⟨[], one c, []⟩ := by rw [← ev_evL (heap := heap)]; rfl
theorem o_bin {bo : BinOp} {t t2 : TypeId} {x y : Operand} : opG P T ⟨d, .binOp bo t x y t2, ty, p, es, g⟩ ⟨env, heap⟩ KA = kBinH T bo t (evL env x) (evL env y) fun c => KA ⟨[], one c, []⟩ := by rw [← ev_evL (heap := heap), ← ev_evL (heap := heap)]; rfl
theorem o_conv {a b : TypeId} {x : Operand} : opG P T ⟨d, .convert a b x, ty, p, es, g⟩ s KA = actH T (.convert a b x) s.st s.heap.length KA := rfl
theorem o_field {a : TypeId} {x : Operand} {f : Nat} : opG P T ⟨d, .field a x f, ty, p, es, g⟩ s KA = actH T (.field a x f) s.st s.heap.length KA := rfl
theorem o_fa {a : TypeId} {x : Operand} {f : Nat} : opG P T ⟨d, .fieldAddr a x f, ty, p, es, g⟩ s KA = actH T (.fieldAddr a x f) s.st s.heap.length KA := rfl
theorem o_load {a : TypeId} {x : Operand} : opG P T ⟨d, .load a x, ty, p, es, g⟩ s KA = actH T (.load a x) s.st s.heap.length KA := rfl
theorem o_store {a : TypeId} {x v : Operand} : opG P T ⟨d, .store a x v, ty, p, es, g⟩ s KA = actH T (.store a x v) s.st s.heap.length KA := rfl
theorem o_alloc {a : TypeId} : opG P T ⟨d, .alloc a, ty, p, es, g⟩ s KA = actH T (.alloc a) s.st s.heap.length KA := rfl
theorem o_box {a : TypeId} {x : Operand} : opG P T ⟨d, .box a x, ty, p, es, g⟩ s KA = actH T (.box a x) s.st s.heap.length KA := rfl
theorem o_build {a : TypeId} {ps : Array (Nat × Operand)} : opG P T ⟨d, .build a ps, ty, p, es, g⟩ s KA = actH T (.build a ps) s.st s.heap.length KA := rfl
theorem o_bs {a : TypeId} {n : Nat} {ps : Array (Nat × Operand)} : opG P T ⟨d, .buildSlice a n ps, ty, p, es, g⟩ s KA = actH T (.buildSlice a n ps) s.st s.heap.length KA := rfl
theorem o_ms {a : TypeId} {x y : Operand} : opG P T ⟨d, .makeSlice a x y, ty, p, es, g⟩ s KA = actH T (.makeSlice a x y) s.st s.heap.length KA := rfl
theorem o_idx {a : TypeId} {x y : Operand} : opG P T ⟨d, .index a x y, ty, p, es, g⟩ s KA = actH T (.index a x y) s.st s.heap.length KA := rfl
theorem o_ia {a : TypeId} {x y : Operand} : opG P T ⟨d, .indexAddr a x y, ty, p, es, g⟩ s KA = actH T (.indexAddr a x y) s.st s.heap.length KA := rfl
theorem o_sl {a : TypeId} {x : Operand} {l h : Option Operand} : opG P T ⟨d, .slice a x l h none, ty, p, es, g⟩ s KA = actH T (.slice a x l h none) s.st s.heap.length KA := rfl
theorem o_mf {f : FuncId} {a b : Array Operand} : opG P T ⟨d, .makeFunc (.func f) a b, ty, p, es, g⟩ s KA = actH T (.makeFunc (.func f) a b) s.st s.heap.length KA := rfl
theorem o_nc {x : Operand} : opG P T ⟨d, .nilCheck x, ty, p, es, g⟩ s KA = actH T (.nilCheck x) s.st s.heap.length KA := rfl
end
@[congr] theorem opG_congr {P : Unit → Program} {T : TypeId → TyI} {o : Oper} {s s' : S} {K : Action → Prop} (h : s = s') : opG P T o s K = opG P T o s' K := by rw [h]
@[congr] theorem VC2_congr {P : Unit → Program} {T : TypeId → TyI} {nt k0 : Nat} {c : Code} {s s' : S} {Q : Kx} (h : s = s') : @VC2 _ P T nt k0 c s Q = @VC2 _ P T nt k0 c s' Q := by rw [h]
@[congr] theorem wopsN_congr {P : Unit → Program} {T : TypeId → TyI} {all os : List Oper} {s s' : S} {Q : Kn S} (h : s = s') : @wopsN _ P T all Q os s = @wopsN _ P T all Q os s' := by rw [h]
@[congr] theorem wopsD_congr {P : Unit → Program} {T : TypeId → TyI} {all os : List Oper} {s s' : S} {f f' : Feet} {Q : Kw} (h : s = s') (h2 : f = f') : @wopsD _ P T all Q os s f = @wopsD _ P T all Q os s' f' := by rw [h, h2]
@[congr] theorem loopT_congr {P : Unit → Program} {nt k0 : Nat} {c : Code} {s s' : S} {Q : Kx} (h : s = s') : @loopT _ P nt k0 c s Q = @loopT _ P nt k0 c s' Q := by rw [h]
@[congr] theorem callT_congr {P : Unit → Program} {f : FuncId} {caps caps' : List CV} {args args' : List SV} {s s' : S} {K : Kn Action} (h1 : caps = caps') (h2 : args = args') (h : s = s') : @callT _ P f caps args s K = @callT _ P f caps' args' s' K := by rw [h1, h2, h]
@[congr] theorem actH_congr {T : TypeId → TyI} {op : Op} {φ ψ : St} {n m : Nat} {K : Action → Prop} (h : φ = ψ) (h2 : n = m) : actH T op φ n K = actH T op ψ m K := by rw [h, h2]
@[congr] theorem builtinH_congr {T : TypeId → TyI} {b : Builtin} {ts : List TypeId} {xs ys : List SV} {φ ψ : St} {n m : Nat} {K : Action → Prop} (h0 : xs = ys) (h : φ = ψ) (h2 : n = m) : builtinH T b ts xs φ n K = builtinH T b ts ys ψ m K := by rw [h0, h, h2]
@[congr] theorem builtinG_congr {T : TypeId → TyI} {b : Builtin} {ts : List TypeId} {xs ys : List SV} {φ ψ : St} {n m : Nat} {K : Action → Prop} (h0 : xs = ys) (h : φ = ψ) (h2 : n = m) : builtinG T b ts xs φ n K = builtinG T b ts ys ψ m K := by rw [h0, h, h2]
@[congr] theorem builtinFT_congr {T : TypeId → TyI} {b : Builtin} {ts : List TypeId} {xs ys : List SV} {φ ψ : St} {n m : Nat} {K : Action → Prop} (h0 : xs = ys) (h : φ = ψ) (h2 : n = m) : builtinFT T b ts xs φ n K = builtinFT T b ts ys ψ m K := by rw [h0, h, h2]
section
variable {T : TypeId → TyI} {φ : St} {nid size : Nat} {K : CV → Prop} {t : TypeId} {k k' : IntKind} {a b : Int} {KC : List Nat → Nat → List CV → Prop} {env : List (Nat × SV)} {heap : List HS}
@[congr] theorem kBinH_congr {op : BinOp} {x x' y y' : SV} (h1 : x = x') (h2 : y = y') : kBinH T op t x y K = kBinH T op t x' y' K := by rw [h1, h2]
@[congr] theorem kUnH_congr {u : UnOp} {x x' : SV} (h1 : x = x') : kUnH u x K = kUnH u x' K := by rw [h1]
@[congr] theorem cellsH_congr {ψ : St} {m : Nat} {x y : SV} (h1 : φ = ψ) (h2 : size = m) (h : x = y) : cellsH φ size x KC = cellsH ψ m y KC := by rw [h1, h2, h]
theorem b_add : kBinH T .add t (.pv (.one (.int k a))) (.pv (.one (.int k' b))) K = (k = k' ∧ K (.int k (k.wrap (a + b)))) := rfl
theorem b_sub : kBinH T .sub t (.pv (.one (.int k a))) (.pv (.one (.int k' b))) K = (k = k' ∧ K (.int k (k.wrap (a - b)))) := rfl
theorem b_mul : kBinH T .mul t (.pv (.one (.int k a))) (.pv (.one (.int k' b))) K = (k = k' ∧ K (.int k (k.wrap (a * b)))) := rfl
theorem b_quo : kBinH T .quo t (.pv (.one (.int k a))) (.pv (.one (.int k' b))) K = (k = k' ∧ kO (quoI k a b) fun r => K (.int k r)) := rfl
theorem b_rem : kBinH T .rem t (.pv (.one (.int k a))) (.pv (.one (.int k' b))) K = (k = k' ∧ kO (remI k a b) fun r => K (.int k r)) := rfl
theorem b_and : kBinH T .and t (.pv (.one (.int k a))) (.pv (.one (.int k' b))) K = (k = k' ∧ K (.int k (andI k a b))) := rfl
theorem b_or : kBinH T .or t (.pv (.one (.int k a))) (.pv (.one (.int k' b))) K = (k = k' ∧ K (.int k (orI k a b))) := rfl
theorem b_xor : kBinH T .xor t (.pv (.one (.int k a))) (.pv (.one (.int k' b))) K = (k = k' ∧ K (.int k (xorI k a b))) := rfl
theorem b_shl : kBinH T .shl t (.pv (.one (.int k a))) (.pv (.one (.int k' b))) K = kO (shlI k a b) fun r => K (.int k r) := rfl
theorem b_shr : kBinH T .shr t (.pv (.one (.int k a))) (.pv (.one (.int k' b))) K = kO (shrI k a b) fun r => K (.int k r) := rfl
theorem b_eql : kBinH T .eql t (.pv (.one (.int k a))) (.pv (.one (.int k' b))) K = (k = k' ∧ K (.bool (a == b))) := rfl
theorem b_neq : kBinH T .neq t (.pv (.one (.int k a))) (.pv (.one (.int k' b))) K = (k = k' ∧ K (.bool (a != b))) := rfl
theorem b_lss : kBinH T .lss t (.pv (.one (.int k a))) (.pv (.one (.int k' b))) K = (k = k' ∧ K (.bool (a < b))) := rfl
theorem b_leq : kBinH T .leq t (.pv (.one (.int k a))) (.pv (.one (.int k' b))) K = (k = k' ∧ K (.bool (a ≤ b))) := rfl
theorem b_gtr : kBinH T .gtr t (.pv (.one (.int k a))) (.pv (.one (.int k' b))) K = (k = k' ∧ K (.bool (a > b))) := rfl
theorem b_geq : kBinH T .geq t (.pv (.one (.int k a))) (.pv (.one (.int k' b))) K = (k = k' ∧ K (.bool (a ≥ b))) := rfl
theorem b_sadd {x y : List UInt8} : kBinH T .add t (.pv (.one (.str x))) (.pv (.one (.str y))) K = kO (catS x y) fun r => K (.str r) := rfl
theorem b_seql {x y : List UInt8} : kBinH T .eql t (.pv (.one (.str x))) (.pv (.one (.str y))) K = K (.bool (x == y)) := rfl
theorem b_sneq {x y : List UInt8} : kBinH T .neq t (.pv (.one (.str x))) (.pv (.one (.str y))) K = K (.bool (x != y)) := rfl
def kKind (x : TK) (A B C : Prop) : Prop := match x with | .bool => A | .iface => B | _ => C
theorem kK_b {A B C : Prop} : kKind .bool A B C = A := rfl
theorem kK_i {A B C : Prop} : kKind .iface A B C = B := rfl
theorem b_beql {x y : Bool} : kBinH T .eql t (.pv (.one (.bool x))) (.pv (.one (.bool y))) K = kKind (T t).kind (K (.bool (x == y))) False False := by
  show (match BinOp.eql, (T t).kind with | .eql, .bool => K (.bool (x == y)) | .neq, .bool => K (.bool (x != y)) | _, _ => False) = _
  cases (T t).kind <;> rfl
theorem b_bneq {x y : Bool} : kBinH T .neq t (.pv (.one (.bool x))) (.pv (.one (.bool y))) K = kKind (T t).kind (K (.bool (x != y))) False False := by
  show (match BinOp.neq, (T t).kind with | .eql, .bool => K (.bool (x == y)) | .neq, .bool => K (.bool (x != y)) | _, _ => False) = _
  cases (T t).kind <;> rfl
theorem b_oeql : kBinH T .eql t (.pv (.one .opq)) (.pv (.one .nili)) K = kKind (T t).kind False (K (.bool false)) False := by
  show (match BinOp.eql, (T t).kind with | .eql, .iface => K (.bool false) | .neq, .iface => K (.bool true) | _, _ => False) = _
  cases (T t).kind <;> rfl
theorem b_oneq : kBinH T .neq t (.pv (.one .opq)) (.pv (.one .nili)) K = kKind (T t).kind False (K (.bool true)) False := by
  show (match BinOp.neq, (T t).kind with | .eql, .iface => K (.bool false) | .neq, .iface => K (.bool true) | _, _ => False) = _
  cases (T t).kind <;> rfl
@[congr] theorem kKind_congr {x y : TK} {A B C : Prop} (h : x = y) : kKind x A B C = kKind y A B C := by rw [h]
theorem b_aeql {x y : List CV} : kBinH T .eql t (.pv (.agg x)) (.pv (.agg y)) K = kO (T t).flat fun ks => kO (eqCs ks x y) fun r => K (.bool r) := rfl
theorem b_aneq {x y : List CV} : kBinH T .neq t (.pv (.agg x)) (.pv (.agg y)) K = kO (T t).flat fun ks => kO (eqCs ks x y) fun r => K (.bool (!r)) := rfl
theorem u_not {x : Bool} : kUnH .not (.pv (.one (.bool x))) K = K (.bool (!x)) := rfl
theorem u_neg : kUnH .neg (.pv (.one (.int k a))) K = K (.int k (k.wrap (0 - a))) := rfl
theorem u_xor : kUnH .xor (.pv (.one (.int k a))) K = K (.int k (notI k a)) := rfl
theorem ch_arr {i lo n : Nat} : cellsH φ size (.pv (.one (.arr i lo n))) KC = kLive (φ.heap i) fun b => b.sz = size ∧ kO (okP (lo + n ≤ b.n)) fun _ => KC [i] n (winC lo n size b.cs) := rfl
theorem ch_imm {sz n : Nat} {cs : List CV} : cellsH φ size (.pv (.one (.imm sz n cs))) KC = (sz = size ∧ KC [] n cs) := rfl
theorem ch_emp : cellsH φ size (.pv (.one .emp)) KC = KC [] 0 [] := rfl
theorem ch_str {l : List UInt8} : cellsH φ size (.pv (.one (.str l))) KC = (size = 1 ∧ KC [] l.length ((bsOf l).flatMap (eI .u8))) := rfl
theorem bdL_n {K : Int → Prop} : bdL φ none K = K 0 := rfl
theorem bdL_s {x : Operand} {K : Int → Prop} : bdL φ (some x) K = (φ.ev x).kI fun _ i => K i := rfl
theorem lk_nil {t : Nat} : lk [] t = one .dead := rfl
theorem lk_cons {i t : Nat} {v : SV} {r : List (Nat × SV)} : lk ((i, v) :: r) t = if i = t then v else lk r t := rfl
theorem ho_nil {i : Nat} : hOf [] i = .no := by simp [hOf]
theorem ho_zero {x : HS} {r : List HS} : hOf (x :: r) 0 = x := rfl
theorem ho_succ {x : HS} {r : List HS} {i : Nat} : hOf (x :: r) (i + 1) = hOf r i := rfl
theorem ev_t {i : Nat} : evL env (.tmp i) = lk env i := rfl
theorem ev_c {v : Value} : evL env (.const v) = constSV v := rfl
theorem ev_f {f : FuncId} : evL env (.func f) = one (.fn f []) := rfl
theorem ev_g {g : Nat} : evL env (.global g) = (match Globs.tab g with | some cs => one (.ip cs) | none => one .dead) := rfl
theorem app_some {t : Nat} {A : Action} : S.app ⟨env, heap⟩ (some t) A = ⟨(t, A.val) :: env, setHs heap A.hp⟩ := rfl
theorem app_none {A : Action} : S.app ⟨env, heap⟩ none A = ⟨env, setHs heap A.hp⟩ := rfl
theorem sh_nil {l : List HS} : setHs l [] = l := rfl
theorem sh_cons {l : List HS} {i : Nat} {x : HS} {r : List (Nat × HS)} : setHs l ((i, x) :: r) = setHs (setH l i x) r := rfl
theorem s1 {x : HS} : setH [] 0 x = [x] := rfl
theorem s2 {x : HS} {n : Nat} : setH [] (n + 1) x = .no :: setH [] n x := rfl
theorem s3 {x y : HS} {r : List HS} : setH (y :: r) 0 x = x :: r := rfl
theorem s4 {x y : HS} {r : List HS} {n : Nat} : setH (y :: r) (n + 1) x = y :: setH r n x := rfl
theorem c_int {k : IntKind} {n : Int} : constSV (.int k n) = one (.int k n) := rfl
theorem c_bool {b : Bool} : constSV (.bool b) = one (.bool b) := rfl
theorem c_str {x : ByteArray} : constSV (.string x) = one (.str x.data.toList) := rfl
theorem c_sl {a : Option Addr} : constSV (.slice a 0 0) = one .emp := rfl
theorem c_np : constSV (.pointer none) = one .nilp := rfl
theorem c_ni : constSV .nilIface = one .nili := rfl
end
abbrev an {a b : Prop} (x : a) (y : b) : a ∧ b := ⟨x, y⟩
def MD := an @n_reg <| an @n_skip <| an @n_seq <| an @n_tt <| an @v_skip <| an @v_regN <| an @v_regD <| an @v_seqA <| an @v_seqS <| an @v_seqR <| an @v_seqRD <| an @v_cond <| an @v_block <| an @v_exit <| an @v_ret <| an @v_loop <|
  an @w_nil <| an @w_cons <| an @w_consG <| an @wD_nil <| an @wD_cons <| an @wD_consG <| an @o_call <| an @o_bi <| an @o_move <| an @o_assign <| an @o_pick <|
  an @o_extract <| an @o_un <| an @o_bin <| an @o_conv <| an @o_field <| an @o_fa <| an @o_load <| an @o_store <| an @o_alloc <| an @o_box <| an @o_build <|
  an @o_bs <| an @o_ms <| an @o_idx <| an @o_ia <| an @o_sl <| an @o_mf <| an @o_nc <|
  an @kD_s <| an @kD_n <| an @kG_t <| an @kG_f <| an @kG_u <| an @kFn_fn <| an @kIf_true <| an @kIf_false <|
  an @b_add <| an @b_sub <| an @b_mul <| an @b_quo <| an @b_rem <| an @b_and <| an @b_or <| an @b_xor <| an @b_shl <| an @b_shr <| an @b_eql <| an @b_neq <|
  an @b_lss <| an @b_leq <| an @b_gtr <| an @b_geq <| an @b_sadd <| an @b_seql <| an @b_sneq <| an @b_beql <| an @b_bneq <| an @b_oeql <| an @b_oneq <|
  an @b_aeql <| an @b_aneq <| an @u_not <| an @u_neg <| an @u_xor <| an @kK_b <| an @kK_i <|
  an @ch_arr <| an @ch_imm <| an @ch_emp <| an @ch_str <|
  an @kI_int <| an @kB_bool <| an @kS_str <| an @kA_agg <| an @kT_tup <| an @kC_agg <| an @kC_int <| an @kC_bool <| an @kC_str <| an @kC_imm <| an @kC_ip <| an @kC_arr <|
  an @kC_emp <| an @kC_ptr <| an @kC_fn <| an @kC_opq <| an @kC_nilp <| an @kC_nili <| an @kO_some <| an @kLive_live <| an @kPtrI_ptr <| an @kPtrI_ip <|
  an @kSlI_arr <| an @kSlI_imm <| an @kSlI_emp <| an @kLen_arr <| an @kLen_imm <| an @kLen_emp <| an @bd_none <| an @bdL_n <| an @bdL_s <| an @bd_some <|
  an @kSeq_n <| an @kSeq_e <| an @kSeq_r <| an @kBlock_n <| an @kBlock_r @kBlock_e
theorem t_t1 (p : Prop) : (True ∧ p) = p := by simp
theorem nb_t {a b : Nat} (h : a = b) : Nat.beq a b = true := by subst h; simp
theorem nb1 : Nat.beq 0 0 = true := rfl
theorem nb2 {n m : Nat} : Nat.beq (n + 1) (m + 1) = Nat.beq n m := rfl
theorem nb3 {n : Nat} : Nat.beq (n + 1) 0 = false := rfl
theorem nb4 {n : Nat} : Nat.beq 0 (n + 1) = false := rfl
theorem nl1 {n : Nat} : Nat.ble 0 n = true := by cases n <;> rfl
theorem nl2 {n m : Nat} : Nat.ble (n + 1) (m + 1) = Nat.ble n m := rfl
theorem nl3 {n : Nat} : Nat.ble (n + 1) 0 = false := rfl
theorem nl4 {n m : Nat} : Nat.blt n m = Nat.ble (n + 1) m := rfl
def MU := an @ng_nil <| an @ng_cons <| an @nb1 <| an @nb2 <| an @nb3 <| an @nb4 <| an @nl1 <| an @nl2 <| an @nl3 <| an @nl4 <| an @ev_t <| an @ev_c <| an @ev_f <| an @ev_g <| an @ev_evL <| an @heap_st <| an @lk_nil <| an @lk_cons <| an @ho_nil <| an @ho_zero <| an @ho_succ <|
  an @app_some <| an @app_none <| an @sh_nil <| an @sh_cons <| an @s1 <| an @s2 <| an @s3 <| an @s4 <|
  an @c_int <| an @c_bool <| an @c_str <| an @c_sl <| an @c_np <| an @c_ni <|
  an @List.getElem?_cons_zero.{0} <| an @List.getElem?_cons_succ.{0} <| an @List.getElem?_nil.{0} <| an @List.map_cons.{0, 0} <| an @List.map_nil.{0, 0} <| an @List.length_cons.{0} <| an @List.length_nil.{0} <|
  an @List.drop_succ_cons.{0} <| an @List.drop_zero.{0} <| an @List.drop_nil.{0} <| an @List.take_succ_cons.{0} <| an @List.take_zero.{0} <| an @List.take_nil.{0} <|
  an @List.cons_append.{0} <| an @List.nil_append.{0} <| an @List.append_nil.{0} <| an @List.headD_cons.{0} <| an @cond_true.{1} <| an @cond_false.{1} <|
  an @Option.map_some.{0, 0} <| an @Option.map_none.{0, 0} <| an @Option.bind_some.{0, 0} <| an @Option.bind_none.{0, 0} <| an @Option.isSome_some.{0} <|
  an @Nat.zero_add <| an @Nat.add_zero <| an @Bool.or_true <| an @Bool.true_or <| an @Bool.false_or <| an @Bool.or_false <| an @Bool.and_self <| an @Bool.not_true <| an @Bool.not_false <|
  an @if_true.{1} <| an @if_false.{1} <| an @eq_self.{1} <| an @true_and <| an @and_true <| an @ne_eq.{1} <| an @not_true_eq_false <| an @not_false_eq_true <| an @List.size_toArray.{0} <| @Nat.beq_eq_true_eq
end Go.Fm

/-! What a function of lists that answers says of the machine's cells; and how the two are led side by side. -/
namespace Go.Fm
variable [Globs]
set_option linter.unusedVariables false
set_option linter.unusedSectionVars false
set_option linter.defProp false

def bigK : Nat := 18446744073709551616
def getI {α : Type} (xs : List α) (i : Int) : Option α := if 0 ≤ i then xs[i.toNat]? else none
def app {α : Type} (xs ys : List α) : Option (List α) := if (xs ++ ys).length ≤ maxN then some (xs ++ ys) else none
def mk {α : Type} (z : α) (n : Int) : Option (List α) := if 0 ≤ n ∧ n ≤ maxN then some (List.replicate n.toNat z) else none
def s2b (s : List UInt8) : Option (List Int) := if s.length ≤ maxN then some (bsOf s) else none
def strOf (b : List Int) : List UInt8 := b.map fun n => UInt8.ofNat n.toNat
/-- Rows of cells that are laid of a kind of element. -/
structure EncOk {α : Type} (e : α → List CV) (k : Nat) : Prop where
  len : ∀ x, (e x).length = k
  ri : ∀ x, riAll (e x) = true
theorem riAll_of_flat : ∀ {cs : List CV}, riAll cs = true → flatAll cs = true
  | [], _ => rfl
  | c :: r, h => by
    simp only [riAll, Bool.and_eq_true] at h
    simp only [flatAll, Bool.and_eq_true]
    exact ⟨by cases c <;> first | rfl | (simp [CV.ri] at h), riAll_of_flat h.2⟩
theorem eI_ok (k : IntKind) : EncOk (eI k) 1 := ⟨fun _ => rfl, fun _ => rfl⟩
def eS (s : List UInt8) : List CV := [.str s]
def eB (b : Bool) : List CV := [.bool b]
def eL {α : Type} (e : α → List CV) (k : Nat) (xs : List α) : List CV := [.imm k xs.length (xs.flatMap e)]
theorem eS_ok : EncOk eS 1 := ⟨fun _ => rfl, fun _ => rfl⟩
theorem eB_ok : EncOk eB 1 := ⟨fun _ => rfl, fun _ => rfl⟩
theorem eL_ok {α : Type} (e : α → List CV) (k : Nat) : EncOk (eL e k) 1 := ⟨fun _ => rfl, fun _ => rfl⟩
theorem getI_some {α : Type} {xs : List α} {i : Int} {x : α} (h : getI xs i = some x) : 0 ≤ i ∧ i < xs.length ∧ xs[i.toNat]? = some x := by
  unfold getI at h
  split at h
  · have := (List.getElem?_eq_some_iff.1 h).1
    exact ⟨by assumption, by omega, h⟩
  · cases h
theorem appSome {α : Type} {xs ys zs : List α} (h : app xs ys = some zs) : zs = xs ++ ys ∧ zs.length ≤ maxN := by
  unfold app at h
  split at h
  · cases h; exact ⟨rfl, by assumption⟩
  · cases h
theorem mk_some {α : Type} {z : α} {n : Int} {xs : List α} (h : mk z n = some xs) : xs = List.replicate n.toNat z ∧ 0 ≤ n ∧ n ≤ maxN := by
  unfold mk at h
  split at h
  · rename_i h1; cases h; exact ⟨rfl, h1⟩
  · cases h
theorem subL_some {α : Type} {xs ys : List α} {a b : Int} (h : subL xs a b = some ys) : ys = (xs.drop a.toNat).take (b.toNat - a.toNat) ∧ 0 ≤ a ∧ a ≤ b ∧ b ≤ xs.length ∧ ys.length = b.toNat - a.toNat := by
  unfold subL at h
  split at h
  · rename_i h1
    cases h
    refine ⟨rfl, h1.1, h1.2.1, h1.2.2, ?_⟩
    rw [List.length_take, List.length_drop]
    omega
  · cases h
section
variable {α : Type} {e : α → List CV} {k n m lo q : Nat} {xs ys zs : List α} {x y z : α} {i a b : Int} {ns : List CV}
theorem fAt (ok : EncOk e k) (h : getI xs i = some x) (hn : n = xs.length) : rowAt i n k (xs.flatMap e) = some (e x ++ (xs.drop (i.toNat + 1)).flatMap e) := by
  subst hn
  obtain ⟨h1, h2, h3⟩ := getI_some h
  unfold rowAt
  rw [if_pos ⟨h1, h2⟩, flat_drop ok.len]
  obtain ⟨hi, he⟩ := List.getElem?_eq_some_iff.1 h3
  rw [List.drop_eq_getElem_cons hi, he, List.flatMap_cons]
theorem fPtr (h : getI xs i = some x) (hn : n = xs.length) : rowPtr 0 i n k = some (i.toNat * k) := by
  subst hn
  obtain ⟨h1, h2, h3⟩ := getI_some h
  unfold rowPtr
  rw [if_pos ⟨h1, h2⟩, Nat.zero_add]
theorem getC_eq {l : List CV} (h : m ≤ l.length) (h0 : 0 < m) : getC m l = some (l.take m) := by
  have key : ∀ (m : Nat) (l : List CV), m ≤ l.length → takeN m l = some (l.take m) := by
    intro m
    induction m with
    | zero => intro l _; rfl
    | succ m ih =>
      intro l hl
      cases l with
      | nil => simp at hl
      | cons c r => simp only [takeN, List.take_succ_cons, ih r (by simpa using hl), Option.map_some]
  cases m with
  | zero => omega
  | succ m => exact key _ _ h
theorem fGet (ok : EncOk e k) (h : getI xs i = some x) (hq : q + m ≤ k) (hm : 0 < m) : getC m ((xs.flatMap e).drop (i.toNat * k + q)) = getC m ((e x).drop q) := by
  obtain ⟨h1, h2, h3⟩ := getI_some h
  obtain ⟨hi, he⟩ := List.getElem?_eq_some_iff.1 h3
  rw [← List.drop_drop, flat_drop ok.len, List.drop_eq_getElem_cons hi, he, List.flatMap_cons, List.drop_append_of_le_length (by rw [ok.len]; omega),
    getC_eq (by rw [List.length_append, List.length_drop, ok.len]; omega) hm, getC_eq (by rw [List.length_drop, ok.len]; omega) hm, List.take_append_of_le_length (by rw [List.length_drop, ok.len]; omega)]
theorem fGet0 (ok : EncOk e k) (h : getI xs i = some x) (hq : m ≤ k) (hm : 0 < m) : getC m ((xs.flatMap e).drop (i.toNat * k)) = getC m (e x) := by
  have := fGet (q := 0) ok h (by omega) hm
  simpa using this
theorem putN_eq : ∀ {off : Nat} {ns cs : List CV}, off + ns.length ≤ cs.length → putN off ns cs = some (over cs off ns)
  | 0, [], cs, _ => by cases cs <;> simp [putN, over]
  | 0, n :: ns, c :: cs, h => by
    simp only [putN, putN_eq (off := 0) (ns := ns) (cs := cs) (by simpa using h)]
    simp [over]
  | 0, n :: ns, [], h => by simp at h
  | off + 1, ns, c :: cs, h => by
    have h' : off + ns.length ≤ cs.length := by simp only [List.length_cons] at h; omega
    have e1 : putN (off + 1) ns (c :: cs) = (putN off ns cs).map (c :: ·) := by cases ns <;> rfl
    rw [e1, putN_eq h']
    simp only [Option.map_some, over, List.take_succ_cons, List.cons_append, show off + 1 + ns.length = (off + ns.length) + 1 by omega, List.drop_succ_cons]
  | off + 1, ns, [], h => by simp at h
theorem over_split (A B C : List CV) (q : Nat) (h : q + ns.length ≤ B.length) : over (A ++ B ++ C) (A.length + q) ns = A ++ over B q ns ++ C := by
  unfold over
  rw [List.append_assoc A B C, List.take_append, List.take_of_length_le (l := A) (by omega), show A.length + q - A.length = q by omega, List.take_append_of_le_length (by omega),
    Nat.add_assoc, List.drop_append, List.drop_eq_nil_of_le (by omega : A.length ≤ A.length + (q + ns.length)), List.nil_append, Nat.add_sub_cancel_left, List.drop_append_of_le_length (by omega)]
  simp only [List.append_assoc]
theorem fPut (ok : EncOk e k) (h : getI xs i = some x) (hx : putN q ns (e x) = some (e y)) : putN (i.toNat * k + q) ns (xs.flatMap e) = some ((xs.set i.toNat y).flatMap e) := by
  obtain ⟨h1, h2, h3⟩ := getI_some h
  obtain ⟨hi, he⟩ := List.getElem?_eq_some_iff.1 h3
  obtain ⟨g1, g2⟩ := putN_some hx
  have hsp : xs.flatMap e = (xs.take i.toNat).flatMap e ++ e x ++ (xs.drop (i.toNat + 1)).flatMap e := by
    have : xs = xs.take i.toNat ++ (x :: xs.drop (i.toNat + 1)) := by rw [← he, ← List.drop_eq_getElem_cons hi, List.take_append_drop]
    conv => lhs; rw [this]
    rw [List.flatMap_append, List.flatMap_cons, List.append_assoc]
  have hl : ((xs.take i.toNat).flatMap e).length = i.toNat * k := by rw [flat_len ok.len, List.length_take, Nat.min_eq_left (by omega)]
  rw [putN_eq (by rw [hsp, List.length_append, List.length_append, hl]; omega), hsp, ← hl, over_split _ _ _ _ g1, ← g2, List.set_eq_take_append_cons_drop, if_pos hi]
  simp only [List.flatMap_append, List.flatMap_cons, List.append_assoc]
theorem fPut0 (ok : EncOk e k) (h : getI xs i = some x) (hx : putN 0 ns (e x) = some (e y)) : putN (i.toNat * k) ns (xs.flatMap e) = some ((xs.set i.toNat y).flatMap e) := by
  have := fPut (q := 0) ok h hx
  simpa using this
theorem fPtrL {c : Nat} (h : getI xs i = some x) (hn : n = xs.length) (hc : i.toNat * k = c) : rowPtr 0 i n k = some c := by rw [fPtr h hn, hc]
theorem fGetL {c : Nat} (ok : EncOk e k) (h : getI xs i = some x) (hc : i.toNat * k + q = c) (hq : q + m ≤ k) (hm : 0 < m) : getC m ((xs.flatMap e).drop c) = getC m ((e x).drop q) := by
  rw [← hc]; exact fGet ok h hq hm
theorem fGetL0 (ok : EncOk e k) (h : getI xs i = some x) (hc : i.toNat = 0) (hq : m ≤ k) (hm : 0 < m) : getC m (xs.flatMap e) = getC m (e x) := by
  have := fGet0 (m := m) ok h hq hm
  rw [hc, Nat.zero_mul, List.drop_zero] at this
  exact this
theorem fPutL {c j : Nat} (ok : EncOk e k) (h : getI xs i = some x) (hj : i.toNat = j) (hc : j * k + q = c) (hx : putN q ns (e x) = some (e y)) : putN c ns (xs.flatMap e) = some ((xs.set j y).flatMap e) := by
  subst hj hc; exact fPut ok h hx
theorem fApp (h : app xs ys = some zs) (hn : n = xs.length) (hm : m = ys.length) : appN 0 n n m = some zs.length := by
  subst hn hm
  obtain ⟨rfl, h2⟩ := appSome h
  unfold appN
  rw [List.length_append] at h2 ⊢
  rw [if_pos ⟨by omega, h2⟩]
theorem fCat (h : app xs ys = some zs) (hn : ns = ys.flatMap e) : xs.flatMap e ++ ns = zs.flatMap e := by
  subst hn
  obtain ⟨rfl, _⟩ := appSome h
  rw [List.flatMap_append]
theorem fWin (ok : EncOk e k) (hn : n = xs.length) : winC 0 n k (xs.flatMap e) = xs.flatMap e := by
  subst hn
  unfold winC
  rw [Nat.zero_mul, List.drop_zero, List.take_of_length_le (by rw [flat_len ok.len]; exact Nat.le_refl _)]
theorem fMk (h : mk z i = some xs) : mkN i i = some xs.length := by
  obtain ⟨rfl, h1, h2⟩ := mk_some h
  unfold mkN
  rw [if_pos ⟨rfl, h1, h2⟩, List.length_replicate]
theorem fMkC (h : mk z i = some xs) (hz : ns = e z) : mkC xs.length ns = xs.flatMap e := by
  obtain ⟨rfl, h1, h2⟩ := mk_some h
  subst hz
  unfold mkC
  rw [List.length_replicate, List.flatMap_replicate]
theorem fSubN (h : subL xs a b = some ys) (hn : n = xs.length) : subN a b n = some (a.toNat, ys.length) := by
  subst hn
  obtain ⟨h1, h2, h3, h4, h5⟩ := subL_some h
  unfold subN
  rw [if_pos ⟨h2, h3, h4⟩, h5]
theorem fSubC (ok : EncOk e k) (h : subL xs a b = some ys) (hn : n = xs.length) : subC a b n k (xs.flatMap e) = some (ys.length, ys.flatMap e) := by
  subst hn
  obtain ⟨h1, h2, h3, h4, h5⟩ := subL_some h
  unfold subC
  rw [if_pos ⟨h2, h3, h4⟩, h5, flat_drop ok.len, flat_take ok.len, ← h1]
/-- A window of a block. -/
theorem fWinW (ok : EncOk e k) (h : subL xs a b = some ys) (hl : lo = a.toNat) : winC lo ys.length k (xs.flatMap e) = ys.flatMap e := by
  subst hl
  obtain ⟨h1, h2, h3, h4, h5⟩ := subL_some h
  unfold winC
  rw [flat_drop ok.len, flat_take ok.len, h5, ← h1]
theorem fOkW (h : subL xs a b = some ys) (hl : lo = a.toNat) (hn : n = xs.length) : okP (lo + ys.length ≤ n) = some () := by
  subst hn hl
  obtain ⟨h1, h2, h3, h4, h5⟩ := subL_some h
  unfold okP
  rw [if_pos (by omega)]
theorem fLeW (h : subL xs a b = some ys) (hl : lo = a.toNat) (hn : n = xs.length) : lo + ys.length ≤ n := by
  subst hn hl
  obtain ⟨h1, h2, h3, h4, h5⟩ := subL_some h
  omega
theorem fAppW (h : subL xs a b = some ys) (hl : lo = a.toNat) (hn : n = xs.length) {us ws : List α} (hx : app ys us = some ws) (hm : m = us.length) : appN lo ys.length n m = some ws.length := by
  subst hn hm hl
  obtain ⟨h1, h2, h3, h4, h5⟩ := subL_some h
  obtain ⟨rfl, g2⟩ := appSome hx
  unfold appN
  rw [List.length_append] at g2 ⊢
  rw [if_pos ⟨by omega, g2⟩]
theorem sub_get (h : subL xs a b = some ys) (h2 : getI ys i = some x) : getI xs (a.toNat + i.toNat : Nat) = some x := by
  obtain ⟨rfl, e2, e3, e4, h5⟩ := subL_some h
  obtain ⟨g1, g2, g3⟩ := getI_some h2
  unfold getI
  rw [if_pos (by omega), Int.toNat_natCast]
  rw [List.getElem?_take] at g3
  split at g3
  · rw [List.getElem?_drop] at g3; exact g3
  · cases g3
theorem fPtrW (h : subL xs a b = some ys) (hl : lo = a.toNat) (h2 : getI ys i = some x) : rowPtr lo i ys.length k = some (((a.toNat + i.toNat : Nat) : Int).toNat * k) := by
  subst hl
  obtain ⟨g1, g2, g3⟩ := getI_some h2
  unfold rowPtr
  rw [if_pos ⟨g1, g2⟩, Int.toNat_natCast]
theorem fLend {h : Nat → HS} {π : List Nat} {f : Nat} (ok : EncOk e k) (xs : List α) : lendAll (lendC h π f) (xs.flatMap e) = some ([], xs.flatMap e) := lendAll_flat (flatAll_flat (fun x => riAll_of_flat (ok.ri x)) xs)
theorem fRi (ok : EncOk e k) (xs : List α) : riAll (xs.flatMap e) = true := riAll_flat ok.ri xs
theorem backC_flat {σ : Nat → Nat} : ∀ {cs : List CV}, riAll cs = true → cs.map (backC σ true) = cs
  | [], _ => rfl
  | c :: r, h => by
    simp only [riAll, Bool.and_eq_true] at h
    rw [List.map_cons, backC_flat h.2]
    cases c <;> first | rfl | (simp [CV.ri] at h)
theorem fBack {σ : Nat → Nat} (ok : EncOk e k) (xs : List α) : (xs.flatMap e).map (backC σ true) = xs.flatMap e := backC_flat (fRi ok xs)
theorem trC_flat {j l n : Nat} : ∀ {cs : List CV}, riAll cs = true → cs.map (trC j l n) = cs
  | [], _ => rfl
  | c :: r, h => by
    simp only [riAll, Bool.and_eq_true] at h
    rw [List.map_cons, trC_flat h.2]
    cases c <;> first | rfl | (simp [CV.ri] at h)
theorem fTr {j l n : Nat} (ok : EncOk e k) (xs : List α) : (xs.flatMap e).map (trC j l n) = xs.flatMap e := trC_flat (fRi ok xs)
theorem fTrim {j l : Nat} (ok : EncOk e k) (h : subL xs a b = some ys) (hl : lo = a.toNat) : (((xs.flatMap e).drop (lo * k)).take (ys.length * k)).map (trC j l n) = ys.flatMap e := by
  have := fWinW ok h hl
  unfold winC at this
  rw [this, fTr ok]
theorem fTrim0 {j l : Nat} (ok : EncOk e k) (h : subL xs a b = some ys) (hl : lo = a.toNat) (h0 : lo = 0 := by rfl) : ((xs.flatMap e).take (ys.length * k)).map (trC j l n) = ys.flatMap e := by
  have := fTrim (j := j) (l := l) (n := n) ok h hl
  rw [h0, Nat.zero_mul, List.drop_zero] at this
  exact this
end
theorem bytesCs_flat : ∀ xs : List Int, bytesCs (xs.flatMap (eI .u8)) = some (strOf xs)
  | [] => rfl
  | n :: r => by
    show (bytesCs (r.flatMap (eI .u8))).map _ = _
    rw [bytesCs_flat r]; rfl
theorem okP_true {i : Decidable True} : @okP True i = some () := by unfold okP; exact if_pos trivial
theorem okP_refl {n : Nat} : okP (n ≤ n) = some () := by unfold okP; rw [if_pos (Nat.le_refl _)]
theorem fS2b {s : List UInt8} {b : List Int} (h : s2b s = some b) : s2bN s = some b.length ∧ bsOf s = b := by
  unfold s2b at h
  split at h
  · rename_i h1
    cases h
    refine ⟨?_, rfl⟩
    unfold s2bN
    rw [if_pos h1]; simp [bsOf]
  · cases h
theorem quoI_ne {k : IntKind} {a b : Int} (h : b ≠ 0) : quoI k a b = some (k.wrap (a.tdiv b)) := by unfold quoI; rw [if_neg h]
theorem remI_ne {k : IntKind} {a b : Int} (h : b ≠ 0) : remI k a b = some (a.tmod b) := by unfold remI; rw [if_neg h]
theorem shlI_lit {k : IntKind} {a b m : Int} (h : 0 ≤ b) (hm : 2 ^ (min b.toNat k.bits) = m) : shlI k a b = some (k.wrap (a * m)) := by unfold shlI; rw [if_pos h, hm]
theorem shrI_lit {k : IntKind} {a b m : Int} (h : 0 ≤ b) (hm : 2 ^ (min b.toNat k.bits) = m) : shrI k a b = some (a / m) := by
  unfold shrI
  rw [if_pos h, hm, Int.fdiv_eq_ediv_of_nonneg]
  rw [← hm]
  exact Int.le_of_lt (Int.pow_pos (by decide))
theorem winE {α : Type} {e : α → List CV} {k : Nat} (ok : EncOk e k) : winC 0 0 k [] = List.flatMap e [] := by simp [winC]
theorem bsOf_len (s : List UInt8) : s.length = (bsOf s).length := by simp [bsOf]
/-- Side by side. -/
theorem bS {α β : Type} {o : Option α} {f : α → Option β} {r : β} (h : o.bind f = some r) : ∃ y, o = some y ∧ f y = some r := Option.bind_eq_some_iff.1 h
theorem stIf {α : Type} {c : Bool} {A B : Option α} {r : α} {X Y : Unit → Prop} (h : cond c A B = some r) (hx : c = true → A = some r → X ()) (hy : c = false → B = some r → Y ()) : @kIf c ⟨X⟩ ⟨Y⟩ :=
  kIf_mk (fun e => hx e (by subst e; exact h)) (fun e => hy e (by subst e; exact h))
theorem kIf_ft {b : Bool} {X Y : Unit → Prop} (e : b = true) (h : X ()) : @kIf b ⟨X⟩ ⟨Y⟩ := by subst e; exact kIf_t h
theorem kIf_ff {b : Bool} {X Y : Unit → Prop} (e : b = false) (h : Y ()) : @kIf b ⟨X⟩ ⟨Y⟩ := by subst e; exact kIf_f h
theorem ans_le {P : Program} {f : FuncId} {ps ps' : List PV} {bs : List HS} {K : SV → List HS → Prop} (h : Ans P f ps' bs K) (hp : lePs (hOf bs) ps ps') : Ans P f ps bs K := fun hm => by
  obtain ⟨r, h1, hme, hk⟩ := h hm
  refine ⟨r, h1, fun C vs hP hk0 hl ha hH hn => hme C vs hP hk0 (by rw [(lePs_get hp).1]; exact hl) (fun i p' hp' => ?_) hH hn, hk⟩
  obtain ⟨p, e1, e2⟩ := (lePs_get hp).2 i p' hp'
  obtain ⟨u, hu, hr⟩ := ha i p e1
  exact ⟨u, hu, leP_ok hr e2⟩
theorem ans_le2 {P : Program} {f : FuncId} {ps ps' : List PV} {bs bs' : List HS} {K : SV → List HS → Prop} (h : Ans P f ps' bs' K) (hp : lePs (hOf bs') ps ps') (hb : leH (hOf bs') bs bs') : Ans P f ps bs K := fun hm => by
  obtain ⟨r, h1, hme, hk⟩ := h hm
  refine ⟨r, h1, fun C vs hP hk0 hl ha hH hn => ?_, hk⟩
  obtain ⟨q1, q2, q3⟩ := leH_get hb
  let a0 : Act := { tmps := vs.toArray, defers := [] }
  let C0 : Ctx := { C with nt := vs.length }
  have hR0 : RelX C0 (⟨zipE 0 ps, bs⟩ : S).st a0 C.w0 := by
    refine ⟨C0, .refl _, C.rho0, rfl, by simp [a0, C0], fun t => ?_, hH, fun id hid => ⟨hn id (by rw [← hk0]; exact hid), rfl⟩, .refl _ _⟩
    show RSV C.w0 C.Sh C.rho0 (hOf bs) _ (lk (zipE 0 ps) t)
    rw [lk_zipE, if_pos (Nat.zero_le _), Nat.sub_zero]
    cases hpt : ps[t]? with
    | none => trivial
    | some p =>
      obtain ⟨u, hu, hr⟩ := ha t p hpt
      have : a0.tmps.getD t undef = u := by simp [a0, Array.getD_eq_getD_getElem?, hu]
      rw [this]
      exact hr
  have hW : Weak bs.length ⟨zipE 0 ps, bs⟩ ⟨zipE 0 ps', bs'⟩ := weak_le (by
    have key : ∀ (l : List PV) (i : Nat), (∀ j p', l[j]? = some p' → leS (hOf bs') (lk (zipE 0 ps) (i + j)) (.pv p')) → leE (hOf bs') (zipE 0 ps) (zipE i l) := by
      intro l
      induction l with
      | nil => intro i _; trivial
      | cons p r ih =>
        intro i h
        exact ⟨h 0 p rfl, ih (i + 1) fun j p' hj => by rw [show i + 1 + j = i + (j + 1) by omega]; exact h (j + 1) p' (by simpa using hj)⟩
    refine key ps' 0 fun j p' hj => ?_
    obtain ⟨p, e1, e2⟩ := (lePs_get hp).2 j p' hj
    rw [lk_zipE, if_pos (Nat.zero_le _), Nat.zero_add, Nat.sub_zero, e1]
    exact e2) hb
  obtain ⟨C1, hreb, ρ', R1⟩ := hW C0 a0 C.w0 hk0 hR0
  have hO : ∀ id b L, hOf bs' id = .live b → ρ' id = some L → C.O L.b := fun id b L e1 e2 => by
    obtain ⟨g1, g2, g3⟩ := R1.hp.own id b L e1 e2
    rcases g3 with g3 | g3
    · have h5 : C.w0.heap.size ≤ C1.w0.heap.size := hreb.fr.size
      omega
    · rcases hreb.o _ g3 with g4 | g4
      · have g4 : C.w0.heap.size ≤ L.b := g4
        omega
      · exact g4
  let C2 : Ctx := { P := C.P, w0 := C.w0, Sh := C1.Sh, O := (fun k => ∃ id b L, hOf bs' id = .live b ∧ ρ' id = some L ∧ L.b = k), rho0 := ρ', k0 := bs'.length, nt := 0, old := (fun k hk => ⟨R1.sh_lt hk, fun ⟨id, b, L, e1, e2, e3⟩ => (R1.hp.own id b L e1 e2).2.1 (e3 ▸ hk)⟩), gl := fun g cs hg => (C1.gl g cs hg).mono fun k hk => ⟨hk, R1.fr.keep k (C1.old k hk).1 (C1.old k hk).2⟩ }
  have hno' : ∀ id, id < bs'.length → hOf bs' id ≠ .no := fun id hid => by
    by_cases hl2 : id < bs.length
    · rcases q2 id hl2 with ⟨b, b', e1, e2, _⟩ | ⟨e1, e2⟩ | ⟨e1, e2⟩
      · rw [e2]; simp
      · rw [e2]; simp
      · exact absurd e1 (hn id hl2)
    · obtain ⟨b, e1, _⟩ := q3 id (by omega) hid
      rw [e1]; simp
  have hlen : vs.length = ps'.length := by rw [(lePs_get hp).1]; exact hl
  have hs := hme C2 vs hP rfl hlen (fun i p' hp' => by
      have hi : i < vs.length := by rw [hlen]; exact (List.getElem?_eq_some_iff.1 hp').1
      refine ⟨vs[i], List.getElem?_eq_getElem hi, ?_⟩
      have h3 := R1.env i
      have h4 : a0.tmps.getD i undef = vs[i] := by simp [a0, Array.getD_eq_getD_getElem?, hi]
      rw [h4] at h3
      have h5 : (S.st ⟨zipE 0 ps', bs'⟩).env i = .pv p' := by
        show lk (zipE 0 ps') i = _
        rw [lk_zipE, if_pos (Nat.zero_le _), Nat.sub_zero, hp']
      rw [h5] at h3
      exact h3)
    ⟨R1.hp.blk, fun id b L e1 e2 => ⟨(R1.hp.own id b L e1 e2).1, (R1.hp.own id b L e1 e2).2.1, .inr ⟨id, b, L, e1, e2, rfl⟩⟩, R1.hp.inj⟩ hno'
  have key : ∀ v w', (∃ (ρ'' : Rho) (Sh' : Nat → Prop), HeapRel C2.w0 Sh' C2.O ρ'' (hOf h1) w' ∧ RSV w' Sh' ρ'' (hOf h1) v r ∧
      (∀ id, id < bs'.length → hOf h1 id ≠ .no ∧ ρ'' id = C2.rho0 id) ∧ Fr C2.w0 C2.O w' ∧ (∀ k, C2.Sh k → Sh' k) ∧
      (∀ k, Sh' k → k < w'.heap.size ∧ (C2.Sh k ∨ C2.w0.heap.size ≤ k ∨ C2.O k))) →
      (∃ (ρ'' : Rho) (Sh' : Nat → Prop), HeapRel C.w0 Sh' C.O ρ'' (hOf h1) w' ∧ RSV w' Sh' ρ'' (hOf h1) v r ∧
      (∀ id, id < bs.length → hOf h1 id ≠ .no ∧ ρ'' id = C.rho0 id) ∧ Fr C.w0 C.O w' ∧ (∀ k, C.Sh k → Sh' k) ∧
      (∀ k, Sh' k → k < w'.heap.size ∧ (C.Sh k ∨ C.w0.heap.size ≤ k ∨ C.O k))) := fun v w' ⟨ρ'', Sh', g1, g2, g3, g4, g5, g6⟩ => by
    have hO2 : ∀ k, C2.O k → C.O k := fun k ⟨id, b, L, e1, e2, e3⟩ => e3 ▸ hO id b L e1 e2
    refine ⟨ρ'', Sh', ⟨g1.blk, fun id b L e1 e2 => ?_, g1.inj⟩, g2, fun id hid => ?_, ⟨g4.os, g4.tape, g4.output, g4.size, fun k hk hn => g4.keep k hk fun h => hn (hO2 k h)⟩, fun k hk => g5 k (hreb.sh k hk), fun k hk => ?_⟩
    · obtain ⟨f1, f2, f3⟩ := g1.own id b L e1 e2
      refine ⟨f1, f2, ?_⟩
      rcases f3 with f3 | f3
      · exact .inl f3
      · exact .inr (hO2 _ f3)
    · obtain ⟨f1, f2⟩ := g3 id (by omega)
      refine ⟨f1, ?_⟩
      rw [f2]
      have := (R1.init id (by rw [hreb.k0]; show id < C.k0; omega)).2
      rw [hreb.rho0] at this
      exact this
    · obtain ⟨f1, f2⟩ := g6 k hk
      refine ⟨f1, ?_⟩
      rcases f2 with f2 | f2 | f2
      · exact hreb.shn k f2
      · exact .inr (.inl f2)
      · exact .inr (.inr (hO2 _ f2))
  have hs2 : Serves P f vs.toArray C.w0 _ := hs
  clear hs
  unfold Serves at hs2 ⊢
  generalize (callFunc f vs.toArray).run P C.w0 = rr at hs2 ⊢
  cases rr with
  | ok nx w2 =>
    cases nx with
    | value v => exact key v w2 hs2
    | enter g ar =>
      refine Calls.mono hs2 fun e w3 he => ?_
      cases e with
      | returned v => exact key v w3 he
      | panicked ch => exact he
      | outgrown => exact he
    | _ => exact hs2
  | halt h w2 => exact hs2
theorem callE {P : Unit → Program} {f : FuncId} {caps : List CV} {args : List SV} {s : S} {K : Action → Prop} (π : List Nat) (fuel : Nat) {ps1 ps : List PV} {rd1 rd2 : List Nat} {bs H : List HS} {R : SV}
    (hps : argsP args = some ps1) (hl : lendPs (lendP s.st.heap π fuel) (ps1 ++ caps.map .one) = some (rd1, ps)) (hb : lendH s.st.heap π fuel π = some (rd2, bs)) (hnd : nodB π = true)
    (hc : Ans (P ()) f ps bs fun r h => r = R ∧ h = H) (hk : keepOk bs H = true) (hK : K (callA π s.heap.length (rd1 ++ rd2) bs.length R H)) : @callT _ P f caps args s ⟨K⟩ :=
  callT_of π fuel hps hl hb hnd hc fun r h1 ⟨e1, e2⟩ => by subst e1 e2; exact ⟨hk, hK⟩
/-- A call whose results are no memory that may only be read. -/
theorem callG {P : Unit → Program} {f : FuncId} {caps : List CV} {args : List SV} {s : S} {K : Action → Prop} (π : List Nat) (fuel : Nat) {ps1 ps : List PV} {bs H : List HS} {R : SV}
    (hps : argsP args = some ps1) (hl : (lendPs (lendP s.st.heap π fuel) (ps1 ++ caps.map .one)).map (·.2) = some ps) (hb : (lendH s.st.heap π fuel π).map (·.2) = some bs) (hnd : nodB π = true)
    (hc : Ans (P ()) f ps bs fun r h => r = R ∧ h = H) (hk : keepOk bs H = true) (hK : ∀ rd b, K ⟨rd, backS (sig π bs.length s.heap.length) b R, backHp (sig π bs.length s.heap.length) b 0 H⟩) : @callT _ P f caps args s ⟨K⟩ := by
  obtain ⟨⟨rd1, ps'⟩, h1, rfl⟩ := Option.map_eq_some_iff.1 hl
  obtain ⟨⟨rd2, bs'⟩, h2, rfl⟩ := Option.map_eq_some_iff.1 hb
  exact callE π fuel hps h1 h2 hnd hc hk (hK _ _)
end Go.Fm

/-! The rules of lending and of results, in bundles. -/
namespace Go.Fm
variable [Globs]
set_option linter.unusedVariables false
set_option linter.unusedSectionVars false
set_option linter.defProp false
theorem lendC_arrW {h : Nat → HS} {π : List Nat} {f id lo n : Nat} : lendC h π (f + 1) (.arr id lo n) = (match ixOf π id with
    | some j => some ([], .arr j lo n)
    | none => match h id with
      | .live b => (match lendAll (lendC h π f) (winC lo n b.sz b.cs) with
        | some (rd, cs) => if riAll cs then some (id :: rd, .imm b.sz n cs) else none
        | none => none)
      | _ => some ([id], .dead)) := lendC_arr
theorem lendC_fn0 {h : Nat → HS} {π : List Nat} {f : Nat} {q : FuncId} : lendC h π f (.fn q []) = some ([], .fn q []) := by cases f <;> rfl
theorem kk1 {b b' : Blk} {r s : List HS} : keepOk (.live b :: r) (.live b' :: s) = (b.sz == b'.sz && b.n == b'.n && keepOk r s) := rfl
theorem kk2 {b : Blk} {r s : List HS} : keepOk (.live b :: r) (.dead :: s) = keepOk r s := rfl
theorem kk3 {r s : List HS} : keepOk (.dead :: r) (.dead :: s) = keepOk r s := rfl
theorem kk4 {s : List HS} : keepOk [] s = true := by cases s <;> rfl
theorem bc_arr {σ : Nat → Nat} {b : Bool} {i l n : Nat} : backC σ b (.arr i l n) = .arr (σ i) l n := rfl
theorem bc_ptr {σ : Nat → Nat} {b : Bool} {i l : Nat} : backC σ b (.ptr i l) = .ptr (σ i) l := rfl
theorem bc_int {σ : Nat → Nat} {b : Bool} {k : IntKind} {n : Int} : backC σ b (.int k n) = .int k n := rfl
theorem bc_bool {σ : Nat → Nat} {b x : Bool} : backC σ b (.bool x) = .bool x := rfl
theorem bc_str {σ : Nat → Nat} {b : Bool} {l : List UInt8} : backC σ b (.str l) = .str l := rfl
theorem bc_emp {σ : Nat → Nat} {b : Bool} : backC σ b .emp = .emp := rfl
theorem bc_opq {σ : Nat → Nat} {b : Bool} : backC σ b .opq = .opq := rfl
theorem bc_nilp {σ : Nat → Nat} {b : Bool} : backC σ b .nilp = .nilp := rfl
theorem bc_nili {σ : Nat → Nat} {b : Bool} : backC σ b .nili = .nili := rfl
theorem bc_dead {σ : Nat → Nat} {b : Bool} : backC σ b .dead = .dead := rfl
theorem bc_imm {σ : Nat → Nat} {s n : Nat} {cs : List CV} : backC σ true (.imm s n cs) = .imm s n cs := rfl
theorem bc_ip {σ : Nat → Nat} {cs : List CV} : backC σ true (.ip cs) = .ip cs := rfl
theorem fBackB {α : Type} {e : α → List CV} {σ : Nat → Nat} {b : Bool} (h : ∀ x, (e x).map (backC σ b) = e x) : ∀ xs : List α, (xs.flatMap e).map (backC σ b) = xs.flatMap e
  | [] => rfl
  | x :: r => by rw [List.flatMap_cons, List.map_append, h, fBackB h r]
theorem backH_live' {σ : Nat → Nat} {b : Bool} {sz n : Nat} {cs : List CV} : backH σ b (.live ⟨sz, n, cs⟩) = .live ⟨sz, n, cs.map (backC σ b)⟩ := rfl
theorem backH_dead {σ : Nat → Nat} {b : Bool} : backH σ b .dead = .dead := rfl
theorem eI_eq {k : IntKind} {n : Int} : eI k n = [.int k n] := rfl
theorem eS_eq {x : List UInt8} : eS x = [.str x] := rfl
theorem eB_eq {x : Bool} : eB x = [.bool x] := rfl
theorem eL_eq {α : Type} {e : α → List CV} {k : Nat} {xs : List α} : eL e k xs = [.imm k xs.length (xs.flatMap e)] := rfl
theorem sig_eq {π : List Nat} {k0 nid j : Nat} : sig π k0 nid j = if j < k0 then π.getD j 0 else nid + (j - k0) := rfl
theorem rl_tmp {T : TypeId → TyI} {h : Nat → HS} {env : List (Nat × SV)} {t : Nat} {r : List ResultVar} : resL T h env (.tmp t :: r) = (match lk env t with | .pv p => (resL T h env r).map (p :: ·) | _ => none) := rfl
theorem getC_s {n : Nat} {c : CV} {r : List CV} : getC (n + 1) (c :: r) = (takeN n r).map (c :: ·) := rfl
theorem takeN_z {l : List CV} : takeN 0 l = some [] := by cases l <;> rfl
theorem takeN_s {n : Nat} {c : CV} {r : List CV} : takeN (n + 1) (c :: r) = (takeN n r).map (c :: ·) := rfl
theorem putN_a {cs : List CV} : putN 0 [] cs = some cs := by cases cs <;> rfl
theorem putN_b {n : CV} {ns : List CV} {c : CV} {cs : List CV} : putN 0 (n :: ns) (c :: cs) = (putN 0 ns cs).map (n :: ·) := rfl
theorem putN_c {off : Nat} {ns : List CV} {c : CV} {cs : List CV} : putN (off + 1) ns (c :: cs) = (putN off ns cs).map (c :: ·) := by cases ns <;> rfl
theorem pvOf_t {cs : List CV} : pvOf true cs = .agg cs := rfl
theorem pvOf_f {c : CV} {cs : List CV} : pvOf false (c :: cs) = .one c := rfl
theorem resF_1 {T : TypeId → TyI} {h : Nat → HS} {env : List (Nat × SV)} {l : List ResultVar} : resF T h env l = (match resL T h env l with | some [p] => some (.pv p) | some ps => some (.tup ps) | none => none) := rfl
section
variable {h : Nat → HS} {c : CV}
theorem le_int {k : IntKind} {n : Int} : leC h (.int k n) c = (c = .int k n ∨ c = .dead) := rfl
theorem le_bool {b : Bool} : leC h (.bool b) c = (c = .bool b ∨ c = .dead) := rfl
theorem le_str {l : List UInt8} : leC h (.str l) c = (c = .str l ∨ c = .dead) := rfl
theorem le_imm {s n : Nat} {cs : List CV} : leC h (.imm s n cs) c = (c = .imm s n cs ∨ c = .dead) := rfl
theorem le_ip {cs : List CV} : leC h (.ip cs) c = (c = .ip cs ∨ c = .dead) := rfl
theorem le_arr {i l n : Nat} : leC h (.arr i l n) c = (c = .arr i l n ∨ c = .dead) := rfl
theorem le_ptr {i o : Nat} : leC h (.ptr i o) c = (c = .ptr i o ∨ c = .dead) := rfl
theorem le_opq : leC h .opq c = (c = .opq ∨ c = .dead) := rfl
theorem le_nilp : leC h .nilp c = (c = .nilp ∨ c = .dead) := rfl
theorem le_nili : leC h .nili c = (c = .nili ∨ c = .dead) := rfl
theorem le_dead : leC h .dead c = (c = .dead ∨ c = .dead) := rfl
theorem le_e1 {s n : Nat} {cs : List CV} : leC h .emp (.imm s n cs) = (n = 0 ∧ cs = []) := rfl
theorem le_e2 {j lo n : Nat} : leC h .emp (.arr j lo n) = (n = 0 ∧ (match h j with | .no => False | .dead => True | .live b => b.n ≤ lo)) := rfl
theorem le_e3 : leC h .emp .emp = (CV.emp = .emp ∨ CV.emp = .dead) := rfl
end
def LEb := an @leE.eq_1 <| an @leE.eq_2 <| an @leS.eq_1 <| an @leS.eq_2 <| an @leP.eq_1 <| an @leP.eq_2 <| an @lePs.eq_1 <| an @lePs.eq_2 <| an @leL.eq_1 <| an @leL.eq_2 <| an @leH.eq_1 <| an @leH.eq_2 <| an @leH.eq_3 <| an @leH.eq_4 <| an @leH.eq_5 <|
  an @le_int <| an @le_bool <| an @le_str <| an @le_imm <| an @le_ip <| an @le_arr <| an @le_ptr <| an @le_opq <| an @le_nilp <| an @le_nili <| an @le_dead <| an @le_e1 <| an @le_e2 <| an @le_e3 <|
  an @lk_nil <| an @lk_cons <| an @ho_nil <| an @ho_zero <| an @ho_succ <| an @eq_self.{1} <| an @true_and <| an @and_true <| an @true_or <| an @or_true <| an @if_true.{1} <| an @if_false.{1} <| an @List.length_nil.{0} <| an @List.flatMap_nil.{0, 0} <| @Nat.le_refl
/-- Rules of lending. -/
def ML := an @List.length_set.{0} <| an @lendPs.eq_1 <| an @lendPs.eq_2 <| an @lendP.eq_1 <| an @lendP.eq_2 <| an @lendAll.eq_1 <| an @lendAll.eq_2 <| an @lendC_int <| an @lendC_bool <| an @lendC_str <| an @lendC_imm <| an @lendC_ip <| an @lendC_emp <|
  an @lendC_dead <| an @lendC_opq <| an @lendC_nilp <| an @lendC_nili <| an @lendC_arrW <| an @lendC_ptr <| an @lendC_fn0 <| an @ixOf.eq_1 <| an @ixOf.eq_2 <| an @lendH.eq_1 <| an @lendH.eq_2 <| an @heap_st <| an @ho_nil <| an @ho_zero <| an @ho_succ <|
  an @List.map_nil.{0, 0} <| an @List.map_cons.{0, 0} <| an @List.append_nil.{0} <| an @List.nil_append.{0} <| an @List.cons_append.{0} <| an @Option.map_some.{0, 0} <| an @Option.map_none.{0, 0} <| an @riAll.eq_1 <| an @riAll.eq_2 <| an @CV.ri.eq_def <| an @Bool.and_self <| an @Bool.and_true <| an @Bool.true_and <| an @if_true.{1} <|
  an @if_false.{1} <| an @Nat.zero_add <| an @List.drop_zero.{0} <| an @List.drop_succ_cons.{0} <| an @eq_self.{1} <| an @normS.eq_1 <| an @lendE.eq_1 <| an @lendE.eq_2 <| an @lendS.eq_1 <| an @lendS.eq_2 <| an @lk_nil <| an @lk_cons <| an @nodB.eq_1 <| an @nodB.eq_2 <|
  an @preK.eq_1 <| an @preK.eq_2 <| an @Option.isNone_none.{0} <| an @Option.isNone_some.{0} <| an @beq_self_eq_true.{0} <| an @kk1 <| an @kk2 <| an @kk3 <| an @kk4 <| an @List.length_cons.{0} <| @List.length_nil.{0}
/-- Rules of results. -/
theorem int_n0 : ((0 : Nat) : Int) = 0 := rfl
def MB := an @int_n0 <| an @true_and <| an @backS.eq_1 <| an @backS.eq_2 <| an @backP.eq_1 <| an @backP.eq_2 <| an @backHp.eq_1 <| an @backHp.eq_2 <| an @backH_live' <| an @backH_dead <| an @bc_arr <| an @bc_ptr <| an @bc_int <| an @bc_bool <| an @bc_str <| an @bc_emp <| an @bc_opq <| an @bc_nilp <|
  an @bc_nili <| an @bc_dead <| an @bc_imm <| an @bc_ip <| an @sig_eq <| an @List.getD_cons_zero.{0} <| an @List.getD_cons_succ.{0} <| an @List.getD_nil.{0} <| an @eI_eq <| an @eS_eq <| an @eB_eq <| an @eL_eq <| an @callA.eq_1 <| an @allIn.eq_1 <| an @allIn.eq_2 <| an @ixOf.eq_1 <| an @ixOf.eq_2 <|
  an @resF_1 <| an @resL.eq_1 <| an @resL.eq_2 <| an @resL.eq_3 <| an @getC_s <| an @takeN_z <| an @takeN_s <| an @putN_a <| an @putN_b <| an @putN_c <| an @pvOf_t <| an @pvOf_f <| an @skipA.eq_1 <| an @okP_refl <| an @okP_true <| an @bytesCs_flat <|
  an @mvI.eq_1 <| an @mvI.eq_2 <| an @mvS.eq_1 <| an @mvL.eq_1 <| an @mvL.eq_2 <| an @backE.eq_1 <| an @backE.eq_2 <| an @zipE.eq_1 <| an @zipE.eq_2 <| an @dstAt.eq_2 <| an @dstAt.eq_3 <| an @eqCs.eq_1 <| an @eqCs.eq_2 <| an @eqCs.eq_3 <| an @eqCs.eq_4 <|
  an @fillFT.eq_1 <| an @fillFT.eq_2 <| an @partsOf.eq_1 <| an @partsOf.eq_2 <| an @capsOf.eq_1 <| an @capsOf.eq_2 <| an @over.eq_1 <| an @notStr.eq_1 <| an @notStr.eq_2 <| an @isU8T.eq_1 <| @forall_const.{0}
end Go.Fm

/-! Calls whose lent blocks are given up: what is handed back may read them. -/
namespace Go.Fm
variable [Globs]
set_option linter.unusedVariables false
set_option linter.unusedSectionVars false
set_option linter.defProp false
open Classical

def heapZ (h : Nat → HS) (fz : List Nat) : Nat → HS := heapOf h (fz.map fun j => (j, HS.dead))
theorem heapZ_not {h : Nat → HS} {fz : List Nat} {id : Nat} (hn : id ∉ fz) : heapZ h fz id = h id :=
  heapOf_not _ _ _ fun p hp he => by
    obtain ⟨j, hj, rfl⟩ := List.mem_map.1 hp
    exact hn (he ▸ hj)
theorem heapZ_in {id : Nat} : ∀ {fz : List Nat} {h : Nat → HS}, id ∈ fz → heapZ h fz id = .dead
  | j :: r, h, hm => by
    show heapZ (upd h j .dead) r id = .dead
    by_cases hr : id ∈ r
    · exact heapZ_in hr
    · rw [heapZ_not hr]
      rcases List.mem_cons.1 hm with rfl | hm
      · simp [upd]
      · exact absurd hm hr
theorem close {C : Ctx} {ρ : Rho} {φ : St} {a : Act} {w : World} (R : RelAt C ρ φ a w) (fz : List Nat) :
    ∃ C' : Ctx, Reb C C' ∧ (C'.Sh = fun k => C.Sh k ∨ ∃ id b L, φ.heap id = .live b ∧ id ∈ fz ∧ ρ id = some L ∧ L.b = k) ∧ RelAt C' ρ { φ with heap := heapZ φ.heap fz } a w := by
  let Sh2 : Nat → Prop := fun k => C.Sh k ∨ ∃ id b L, φ.heap id = .live b ∧ id ∈ fz ∧ ρ id = some L ∧ L.b = k
  have hl : ∀ id b, heapZ φ.heap fz id = .live b → φ.heap id = .live b ∧ id ∉ fz := fun id b h => by
    by_cases hm : id ∈ fz
    · rw [heapZ_in hm] at h; cases h
    · rw [heapZ_not hm] at h; exact ⟨h, hm⟩
  have hHLe : ∀ id, HLe (φ.heap id) (ρ id) (heapZ φ.heap fz id) (ρ id) := fun id => by
    by_cases hm : id ∈ fz
    · rw [heapZ_in hm]
      cases φ.heap id <;> trivial
    · rw [heapZ_not hm]; exact HLe.refl _ _
  let O3 : Nat → Prop := fun k => ∃ id b L, heapZ φ.heap fz id = .live b ∧ ρ id = some L ∧ L.b = k
  have hown : ∀ id b L, heapZ φ.heap fz id = .live b → ρ id = some L → L.b < w.heap.size ∧ ¬ Sh2 L.b ∧ (C.w0.heap.size ≤ L.b ∨ C.O L.b) := fun id b L hb hL => by
    obtain ⟨e1, e2⟩ := hl id b hb
    obtain ⟨g1, g2, g3⟩ := R.hp.own id b L e1 hL
    refine ⟨g1, fun h => ?_, g3⟩
    rcases h with h | ⟨id', b', L', f1, f2, f3, f4⟩
    · exact g2 h
    · exact e2 (R.hp.inj id' id b' b L' L f1 e1 f3 hL f4 ▸ f2)
  have hsh2 : ∀ k, Sh2 k → k < w.heap.size ∧ (C.Sh k ∨ C.w0.heap.size ≤ k ∨ C.O k) := fun k hk => by
    rcases hk with hk | ⟨id, b, L, e1, e2, e3, rfl⟩
    · exact ⟨R.sh_lt hk, .inl hk⟩
    · obtain ⟨g1, g2, g3⟩ := R.hp.own id b L e1 e3
      exact ⟨g1, .inr g3⟩
  let C3 : Ctx := { P := C.P, w0 := w, Sh := Sh2, O := O3, rho0 := C.rho0, k0 := C.k0, nt := C.nt, old := fun k hk => ⟨(hsh2 k hk).1, fun ⟨j, b, L, e1, e2, e3⟩ => (hown j b L e1 e2).2.1 (e3 ▸ hk)⟩, gl := fun g cs hg => (C.gl g cs hg).mono fun k hk => ⟨.inl hk, R.fr.keep k (C.old k hk).1 (C.old k hk).2⟩ }
  refine ⟨C3, ⟨rfl, rfl, rfl, rfl, R.fr, fun k ⟨j, b, L, e1, e2, e3⟩ => e3 ▸ (hown j b L e1 e2).2.2, fun k hk => .inl hk, fun k hk => (hsh2 k hk).2⟩, rfl, ?_⟩
  refine ⟨R.defers, R.nt, fun t => ((R.env t).mono (fun _ _ => rfl) hHLe).incl fun k hk => .inl hk, ⟨fun id b hb => ?_, fun id b L e1 e2 => ⟨(hown id b L e1 e2).1, (hown id b L e1 e2).2.1, .inr ⟨id, b, L, e1, e2, rfl⟩⟩, fun id id' b b' L L' hb hb' hL hL' he => ?_⟩, fun id hid => ?_, .refl _ _⟩
  · have hB := R.hp.blk id b (hl id b hb).1
    show RB w Sh2 ρ (heapZ φ.heap fz) id b
    unfold RB at hB ⊢
    cases hL : ρ id with
    | none => rw [hL] at hB; exact hB
    | some L =>
      rw [hL] at hB
      refine ⟨hB.1, hB.2.1, hB.2.2.1, fun j c hc => ?_⟩
      obtain ⟨u, hu, hr⟩ := hB.2.2.2 j c hc
      exact ⟨u, hu, (hr.mono (fun _ _ => rfl) hHLe).incl fun k hk => .inl hk⟩
  · exact R.hp.inj id id' b b' L L' (hl id b hb).1 (hl id' b' hb').1 hL hL' he
  · obtain ⟨g1, g2⟩ := R.init id hid
    refine ⟨?_, g2⟩
    show heapZ φ.heap fz id ≠ .no
    by_cases hm : id ∈ fz
    · rw [heapZ_in hm]; simp
    · rw [heapZ_not hm]; exact g1

def callZ (fz π : List Nat) (nid : Nat) (rd : List Nat) (k0 : Nat) (r : SV) (h1 : List HS) : Action :=
  ⟨rd, backS (sig π k0 nid) true r, fz.map (fun j => (j, HS.dead)) ++ backHp (sig π k0 nid) true 0 h1⟩
theorem call_actz {P : Program} {o : Oper} {φ : St} {nid : Nat} {c : Call} {x : Operand} {f : FuncId} {caps : List CV} {ps1 ps : List PV} {π : List Nat} {fuel : Nat} {rd1 rd2 : List Nat} {bs h1 : List HS} {r : SV} {fz : List Nat}
    (hz1 : allIn (π ++ fz) (rd1 ++ rd2) = true) (hz2 : fz.all (fun x => (ixOf π x).isNone && Nat.blt x nid) = true) (ho : o.op = .call c) (hc : c.callee = .value x) (hx : φ.ev x = one (.fn f caps)) (hps : argsP (c.args.toList.map φ.ev) = some ps1)
    (hl : lendPs (lendP φ.heap π fuel) (ps1 ++ caps.map .one) = some (rd1, ps)) (hb : lendH φ.heap π fuel π = some (rd2, bs)) (hnd : nodB π = true) (hk : keepOk bs h1 = true)
    (hm : Meets P f ps bs r h1) : ActX P o φ nid (callZ fz π nid (rd1 ++ rd2) bs.length r h1) := by
  intro C hP φ' a w hag hR hd K Q hK
  obtain ⟨C1, hreb, ρ, R⟩ := hR
  have hevx : φ'.ev x = φ.ev x := hag.env x (by simp [ho, Op.operands, Call.operands, hc])
  have hevs : c.args.toList.map φ'.ev = c.args.toList.map φ.ev := List.map_congr_left fun y hy => hag.env y (by simp only [ho, Op.operands, Call.operands]; exact Array.mem_append_right _ (by simpa using hy))
  have hag1 : ∀ y ∈ rd1 ++ rd2, φ'.heap y = φ.heap y := hag.hp
  have hl' := lendPs_congr hl (g' := lendP φ'.heap π fuel) (fun c c' r e1 e2 => lendP_congr e1 (fun y hy => hag1 y (List.mem_append_left _ (e2 y hy))))
  have hb' := lendH_congr hb (h' := φ'.heap) (fun y hy => hag1 y (List.mem_append_right _ hy))
  obtain ⟨hbl, hbm, hbg⟩ := lendH_some hb'
  have hlen1 : bs.length = π.length := hbl
  have hfzπ : ∀ id, id ∈ π → id ∉ fz := fun id h1 h2 => by
    have := List.all_eq_true.1 hz2 id h2
    simp only [Bool.and_eq_true, Option.isNone_iff_eq_none] at this
    have h := ixOf_mem h1
    rw [this.1] at h
    cases h
  have hfzn : ∀ id, id ∈ fz → id < nid := fun id h2 => by
    have := List.all_eq_true.1 hz2 id h2
    simp only [Bool.and_eq_true] at this
    exact Nat.le_of_ble_eq_true this.2
  -- the callee's value and the arguments
  have hfx := R.ev x
  rw [hevx, hx] at hfx
  obtain ⟨vsc, hvx, hvl, hvp⟩ := hfx
  have hpm := argsP_some hps
  have hargs : ∀ (i : Nat) (p : PV), (ps1 ++ caps.map .one)[i]? = some p → ∃ u : Value, (c.args.toList.map a.eval ++ vsc)[i]? = some u ∧ RPV w C1.Sh ρ φ'.heap u p := by
    have hl1 : ps1.length = c.args.toList.length := by
      have := congrArg List.length hpm
      simpa using this.symm
    intro i p hp
    by_cases hi : i < ps1.length
    · rw [List.getElem?_append_left hi] at hp
      rw [List.getElem?_append_left (by simpa [← hl1] using hi)]
      have hi2 : i < c.args.toList.length := by omega
      refine ⟨a.eval c.args.toList[i], by rw [List.getElem?_map, List.getElem?_eq_getElem hi2]; rfl, ?_⟩
      have h1 := R.ev c.args.toList[i]
      have h2 : φ'.ev c.args.toList[i] = .pv p := by
        have : (c.args.toList.map φ'.ev)[i]? = some (.pv p) := by rw [hevs, hpm, List.getElem?_map, hp]; rfl
        rw [List.getElem?_map, List.getElem?_eq_getElem hi2] at this
        exact Option.some.inj this
      rw [h2] at h1
      exact h1
    · have hi := Nat.le_of_not_lt hi
      rw [List.getElem?_append_right hi] at hp
      rw [List.getElem?_append_right (by simpa [← hl1] using hi)]
      rw [List.getElem?_map] at hp
      cases hci : caps[i - ps1.length]? with
      | none => rw [hci] at hp; cases hp
      | some c0 =>
        rw [hci] at hp
        cases hp
        obtain ⟨u, hu, id, off, rfl, hr⟩ := hvp _ _ hci
        refine ⟨u, by simpa [← hl1] using hu, ?_⟩
        exact hr
  -- the callee's beginning
  let F : Nat → Prop := fun id => id ∈ rd1 ++ rd2 ∨ id ∈ fz
  let Sh2 : Nat → Prop := fun k => C1.Sh k ∨ ∃ id b L, φ'.heap id = .live b ∧ id ∉ π ∧ F id ∧ ρ id = some L ∧ L.b = k
  let ρ2 : Rho := fun j => (π[j]?).bind ρ
  let O2 : Nat → Prop := fun k => ∃ id b L, id ∈ π ∧ φ'.heap id = .live b ∧ ρ id = some L ∧ L.b = k
  have hbs : ∀ j id, π[j]? = some id → ∀ l, HLe (φ'.heap id) l (hOf bs j) l := fun j id hj l => by
    rcases hbg j id hj with ⟨e1, e2⟩ | ⟨b, cs, r, e1, e2, e3, e4⟩
    · rw [e1, hOf_get e2]; trivial
    · rw [e1, hOf_get e2]; exact ⟨rfl, rfl, rfl⟩
  have hρ2 : ∀ j id, π[j]? = some id → ρ2 j = ρ id := fun j id hj => by simp only [ρ2, hj, Option.bind_some]
  have H : Lent w C1.Sh ρ φ'.heap π F Sh2 ρ2 (hOf bs) :=
    ⟨R.hp.blk, fun k hk => .inl hk, fun id b L e1 e2 e3 e4 => .inr ⟨id, b, L, e1, e2, e3, e4, rfl⟩, fun j id hj => ⟨hρ2 j id hj, fun _ => hbs j id hj _⟩⟩
  have hold : ∀ k, Sh2 k → k < w.heap.size ∧ ¬ O2 k := fun k hk => by
    rcases hk with hk | ⟨id, b, L, e1, e2, e3, e4, rfl⟩
    · exact ⟨R.sh_lt hk, fun ⟨id, b, L, e0, e1, e2, e3⟩ => (R.hp.own id b L e1 e2).2.1 (e3 ▸ hk)⟩
    · refine ⟨(R.hp.own id b L e1 e4).1, fun ⟨id', b', L', g0, g1, g2, g3⟩ => ?_⟩
      have := R.hp.inj id' id b' b L' L g1 e1 g2 e4 g3
      exact e2 (this ▸ g0)
  let C2 : Ctx := { P := C1.P, w0 := w, Sh := Sh2, O := O2, rho0 := ρ2, k0 := bs.length, nt := 0, old := hold, gl := fun g cs hg => (C1.gl g cs hg).mono fun k hk => ⟨.inl hk, R.fr.keep k (C1.old k hk).1 (C1.old k hk).2⟩ }
  have hlive : ∀ j b', hOf bs j = .live b' → ∃ id b r, π[j]? = some id ∧ φ'.heap id = .live b ∧ b'.sz = b.sz ∧ b'.n = b.n ∧ lendAll (lendC φ'.heap π fuel) b.cs = some (r, b'.cs) ∧ ∀ y ∈ r, y ∈ rd2 := fun j b' hj => by
    have hjl := hOf_ne (l := bs) (j := j) (by rw [hj]; simp)
    have hjl' : j < π.length := by omega
    rcases hbg j _ (List.getElem?_eq_getElem hjl') with ⟨e1, e2⟩ | ⟨b, cs, r, e1, e2, e3, e4⟩
    · rw [hOf_get e2] at hj; cases hj
    · rw [hOf_get e2] at hj; cases hj; exact ⟨_, b, r, List.getElem?_eq_getElem hjl', e1, rfl, rfl, e3, e4⟩
  have hnd' := nodB_spec hnd
  have hHR : HeapRel w Sh2 O2 ρ2 (hOf bs) w := by
    refine ⟨fun j b' hj => ?_, fun j b' L hj hL => ?_, fun j j' b b' L L' hj hj' hL hL' he => ?_⟩
    · obtain ⟨id, b, r, e0, e1, e2, e3, e4, e5⟩ := hlive j b' hj
      have hB := R.hp.blk id b e1
      unfold RB at hB ⊢
      rw [hρ2 j id e0]
      obtain ⟨g1, g2⟩ := lendAll_some e4
      cases hL : ρ id with
      | none =>
        rw [hL] at hB
        simp only at hB ⊢
        rw [hB.1] at g1
        exact ⟨List.eq_nil_of_length_eq_zero g1, by rw [e3]; exact hB.2⟩
      | some L =>
        rw [hL] at hB
        simp only at hB ⊢
        refine ⟨by rw [g1, e2, e3]; exact hB.1, by rw [g1]; exact hB.2.1, hB.2.2.1, fun i c' hc' => ?_⟩
        obtain ⟨c0, r0, f1, f2, f3⟩ := g2 i c' hc'
        obtain ⟨u, hu, hr⟩ := hB.2.2.2 i c0 f1
        exact ⟨u, hu, lendC_ok H fuel c0 c' r0 u f2 (fun y hy => .inl (List.mem_append_right _ (e5 y (f3 y hy)))) hr⟩
    · obtain ⟨id, b, r, e0, e1, _⟩ := hlive j b' hj
      rw [hρ2 j id e0] at hL
      obtain ⟨g1, g2, g3⟩ := R.hp.own id b L e1 hL
      have hO : O2 L.b := ⟨id, b, L, List.mem_of_getElem? e0, e1, hL, rfl⟩
      exact ⟨g1, fun h => (hold _ h).2 hO, .inr hO⟩
    · obtain ⟨id, b0, r, e0, e1, _⟩ := hlive j b hj
      obtain ⟨id', b0', r', e0', e1', _⟩ := hlive j' b' hj'
      rw [hρ2 j id e0] at hL
      rw [hρ2 j' id' e0'] at hL'
      have := R.hp.inj id id' b0 b0' L L' e1 e1' hL hL' he
      subst this
      exact hnd' j j' id e0 e0'
  have hbno : ∀ id, id < bs.length → hOf bs id ≠ .no := fun j hj => by
    rcases hbg j _ (List.getElem?_eq_getElem (by omega)) with ⟨e1, e2⟩ | ⟨b, cs, r, e1, e2, e3, e4⟩
    · rw [hOf_get e2]; simp
    · rw [hOf_get e2]; simp
  obtain ⟨hpl, hpg⟩ := lendPs_some hl'
  have hvlen : (c.args.toList.map a.eval ++ vsc).length = ps.length := by
    rw [hpl]
    have := congrArg List.length hpm
    simp only [List.length_map] at this
    simp only [List.length_append, List.length_map, this, hvl]
  have hserve := hm C2 (c.args.toList.map a.eval ++ vsc) (hreb.P.trans hP) rfl hvlen (fun i p hp => by
    obtain ⟨p0, r0, e1, e2, e3⟩ := hpg i p hp
    obtain ⟨u, hu, hr⟩ := hargs i p0 e1
    exact ⟨u, hu, lendP_ok H e2 (fun y hy => .inl (List.mem_append_left _ (e3 y hy))) hr⟩) hHR hbno
  -- the run
  have hrun : (execOp a.eval o).run P w = (callFunc f (c.args.toList.map a.eval ++ vsc).toArray).run P w := by
    have : (c.args.toList.map a.eval ++ vsc).toArray = c.args.map a.eval ++ vsc.toArray := by
      apply Array.ext'
      simp
    simp [execOp, ho, resolve, hc, hvx, Deferred.ofValue, invoke, this]
  have hfin : ∀ (v : Value) (w' : World), (∃ (ρ' : Rho) (Sh' : Nat → Prop), HeapRel w Sh' O2 ρ' (hOf h1) w' ∧ RSV w' Sh' ρ' (hOf h1) v r ∧
      (∀ id, id < bs.length → hOf h1 id ≠ .no ∧ ρ' id = ρ2 id) ∧ Fr w O2 w' ∧ (∀ k, Sh2 k → Sh' k) ∧
      (∀ k, Sh' k → k < w'.heap.size ∧ (Sh2 k ∨ w.heap.size ≤ k ∨ O2 k))) → K (a.put o.dst v) w' := by
    intro v w' ⟨ρ', Sh', g1, g2, g3, g4, g5, g6⟩
    have hkb := keepOk_get hk
    obtain ⟨Cz, hrebz, hShz, Rz⟩ := close R fz
    obtain ⟨C3, ρ3, hreb3, R3, hv3⟩ := merge Rz (π := π) (nid := nid) (Sh2 := Sh2) (O2 := O2) (Sh' := Sh') (bs := bs) (h1 := h1) (keep := true) (ρ2 := ρ2) (ρ' := ρ') (w' := w') hnd' hlen1
      (fun id hid => by
        obtain ⟨j, hj⟩ := List.getElem?_of_mem hid
        show heapZ φ'.heap fz id ≠ .no
        rw [heapZ_not (hfzπ id hid)]
        rcases hbg j id hj with ⟨e1, _⟩ | ⟨b, cs, r, e1, _⟩ <;> rw [e1] <;> simp)
      (fun i hi => by
        have hg : (backHp (sig π bs.length nid) (true) 0 h1)[bs.length + i]? = some (nid + i, backH (sig π bs.length nid) (true) h1[bs.length + i]) := by
          rw [backHp_get, List.getElem?_eq_getElem hi]
          simp only [Option.map_some, Nat.zero_add, sig]
          rw [if_neg (by omega), Nat.add_sub_cancel_left]
        show heapZ φ'.heap fz (nid + i) = .no
        rw [heapZ_not (fun h => absurd (hfzn _ h) (by omega))]
        exact hag.fresh _ (List.mem_append_right _ (List.mem_of_getElem? hg)) (Nat.le_add_right _ _))
      (fun k hk => by
        rw [hShz] at hk
        rcases hk with hk | ⟨id, b, L, e1, e2, e3, e4⟩
        · exact .inl hk
        · exact .inr ⟨id, b, L, e1, fun h => hfzπ id h e2, .inr e2, e3, e4⟩)
      (fun _ k hk => by
        rw [hShz]
        rcases hk with hk | ⟨id, b, L, e1, e2, e3, e4, e5⟩
        · exact .inl hk
        · refine .inr ⟨id, b, L, e1, ?_, e4, e5⟩
          rcases e3 with e3 | e3
          · rcases List.mem_append.1 (allIn_mem hz1 id e3) with h | h
            · exact absurd h e2
            · exact h
          · exact e3)
      (fun k ⟨id, b, L, e0, e1, e2, e3⟩ => ⟨id, b, L, e0, (heapZ_not (hfzπ id e0)).trans e1, e2, e3⟩) hρ2
      (fun j id hj l => by
        have hj' : j < bs.length := by have := (List.getElem?_eq_some_iff.1 hj).1; omega
        have q1 := hbs j id hj l
        show HLe (heapZ φ'.heap fz id) l (hOf h1 j) l
        rw [heapZ_not (hfzπ id (List.mem_of_getElem? hj))]
        have q2 := hkb j hj' l
        cases hs : φ'.heap id with
        | no => trivial
        | dead =>
          rw [hs] at q1
          cases hs2 : hOf bs j with
          | dead => rw [hs2] at q2; exact q2
          | _ => rw [hs2] at q1; exact q1.elim
        | live b =>
          rw [hs] at q1
          cases hs2 : hOf bs j with
          | no => rw [hs2] at q1; exact q1.elim
          | dead =>
            rw [hs2] at q2
            cases hs3 : hOf h1 j with
            | dead => trivial
            | _ => rw [hs3] at q2; exact q2.elim
          | live b' =>
            rw [hs2] at q1 q2
            cases hs3 : hOf h1 j with
            | no => rw [hs3] at q2; exact q2.elim
            | dead => trivial
            | live b'' => rw [hs3] at q2; exact ⟨q2.1.trans q1.1, q2.2.1.trans q1.2.1, rfl⟩)
      g1 g3 g4 g5 g6
    refine hK _ _ ⟨C3, (hreb.trans hrebz).trans hreb3, ρ3, ?_⟩
    have e : heapOf (heapZ φ'.heap fz) (backHp (sig π bs.length nid) true 0 h1) = heapOf φ'.heap (fz.map (fun j => (j, HS.dead)) ++ backHp (sig π bs.length nid) true 0 h1) := by
      unfold heapZ heapOf; rw [List.foldl_append]
    have R4 := R3.put (fun t ht => by rw [((hreb.trans hrebz).trans hreb3).nt]; exact hd t ht) (hv3 v r g2)
    simp only [e] at R4
    exact R4
  unfold Oper.wp
  rw [hrun]
  unfold Serves at hserve
  generalize (callFunc f (c.args.toList.map a.eval ++ vsc).toArray).run P w = res at hserve ⊢
  cases res with
  | halt h w' => exact hserve.elim
  | ok n w' =>
    cases n <;> try exact hserve.elim
    · exact hfin _ _ hserve
    · rename_i g as
      refine Calls.mono hserve fun e w'' he => ?_
      cases e with
      | returned v => exact hfin v w'' he
      | panicked ch => exact he.elim
      | outgrown => exact he.elim


theorem callF_z {P : Program} {f : FuncId} {caps : List CV} {args : List SV} {s : S} {K : Action → Prop} (π : List Nat) (fuel : Nat) {ps1 ps : List PV} {rd1 rd2 : List Nat} {bs h1 : List HS} {r : SV} {fz : List Nat}
    (hz1 : allIn (π ++ fz) (rd1 ++ rd2) = true) (hz2 : fz.all (fun x => (ixOf π x).isNone && Nat.blt x s.heap.length) = true)
    (hps : argsP args = some ps1) (hl : lendPs (lendP s.st.heap π fuel) (ps1 ++ caps.map .one) = some (rd1, ps)) (hb : lendH s.st.heap π fuel π = some (rd2, bs)) (hnd : nodB π = true) (hk : keepOk bs h1 = true)
    (hm : Meets P f ps bs r h1) (hK : K (callZ fz π s.heap.length (rd1 ++ rd2) bs.length r h1)) : callF P f caps args s K :=
  fun o c x ho hc hx ha => ⟨_, call_actz hz1 hz2 ho hc hx (ha.symm ▸ hps) hl hb hnd hk hm, hK⟩
/-- A call whose lent blocks are given up. -/
theorem callE_z {P : Unit → Program} {f : FuncId} {caps : List CV} {args : List SV} {s : S} {K : Action → Prop} (fz π : List Nat) (fuel : Nat) {ps1 ps : List PV} {rd1 rd2 : List Nat} {bs H : List HS} {R : SV}
    (hps : argsP args = some ps1) (hl : lendPs (lendP s.st.heap π fuel) (ps1 ++ caps.map .one) = some (rd1, ps)) (hb : lendH s.st.heap π fuel π = some (rd2, bs)) (hnd : nodB π = true)
    (hz1 : allIn (π ++ fz) (rd1 ++ rd2) = true) (hz2 : fz.all (fun x => (ixOf π x).isNone && Nat.blt x s.heap.length) = true)
    (hc : Ans (P ()) f ps bs fun r h => r = R ∧ h = H) (hk : keepOk bs H = true) (hK : K (callZ fz π s.heap.length (rd1 ++ rd2) bs.length R H)) : @callT _ P f caps args s ⟨K⟩ :=
  @callT.mk _ P f caps args s ⟨K⟩ <| fun hm => by
    obtain ⟨r, h1, hme, e1, e2⟩ := hc hm
    subst e1 e2
    exact callF_z π fuel hz1 hz2 hps hl hb hnd hk hme hK
theorem allIn_append {L : List Nat} : ∀ {a b : List Nat}, allIn L (a ++ b) = (allIn L a && allIn L b)
  | [], b => by simp [allIn]
  | x :: r, b => by simp only [List.cons_append, allIn, allIn_append, Bool.and_assoc]
theorem callGz {P : Unit → Program} {f : FuncId} {caps : List CV} {args : List SV} {s : S} {K : Action → Prop} (fz L π : List Nat) (fuel : Nat) {ps1 ps : List PV} {bs H : List HS} {R : SV}
    (hL : L = π ++ fz) (hps : argsP args = some ps1) (hl : (lendPs (lendP s.st.heap π fuel) (ps1 ++ caps.map .one)).map (fun x => (allIn L x.1, x.2)) = some (true, ps))
    (hb : (lendH s.st.heap π fuel π).map (fun x => (allIn L x.1, x.2)) = some (true, bs)) (hnd : nodB π = true) (hz2 : fz.all (fun x => (ixOf π x).isNone && Nat.blt x s.heap.length) = true)
    (hc : Ans (P ()) f ps bs fun r h => r = R ∧ h = H) (hk : keepOk bs H = true) (hK : ∀ rd, K (callZ fz π s.heap.length rd bs.length R H)) : @callT _ P f caps args s ⟨K⟩ := by
  subst hL
  obtain ⟨⟨rd1, ps'⟩, h1, e1⟩ := Option.map_eq_some_iff.1 hl
  obtain ⟨⟨rd2, bs'⟩, h2, e2⟩ := Option.map_eq_some_iff.1 hb
  simp only [Prod.mk.injEq] at e1 e2
  obtain ⟨a1, rfl⟩ := e1
  obtain ⟨a2, rfl⟩ := e2
  exact callE_z fz π fuel hps h1 h2 hnd (by rw [allIn_append, a1, a2]; rfl) hz2 hc hk (hK _)
theorem callZ_nil {π : List Nat} {nid k0 : Nat} {rd : List Nat} {r : SV} {h1 : List HS} : callZ [] π nid rd k0 r h1 = ⟨rd, backS (sig π k0 nid) true r, backHp (sig π k0 nid) true 0 h1⟩ := rfl
def consA (j : Nat) : Action → Action
  | ⟨rd, v, hp⟩ => ⟨rd, v, (j, .dead) :: hp⟩
theorem consA_eq {j : Nat} {rd : List Nat} {v : SV} {hp : List (Nat × HS)} : consA j ⟨rd, v, hp⟩ = ⟨rd, v, (j, .dead) :: hp⟩ := rfl
theorem callZ_cons {j : Nat} {fz π : List Nat} {nid k0 : Nat} {rd : List Nat} {r : SV} {h1 : List HS} : callZ (j :: fz) π nid rd k0 r h1 = consA j (callZ fz π nid rd k0 r h1) := rfl
theorem isSome_s {α : Type} {x : α} : (some x).isSome = true := rfl
theorem isSome_n {α : Type} : (none : Option α).isSome = false := rfl
def MZ := an @allIn.eq_1 <| an @allIn.eq_2 <| an @allIn_append <| an @isSome_s <| @isSome_n
def MC := an @callZ_nil <| an @callZ_cons <| @consA_eq
theorem b_cap {T : TypeId → TyI} {φ : St} {nid : Nat} {K : Action → Prop} {t : TypeId} : builtinFT T .cap [t] [.pv (.one .emp)] φ nid K = (match (T t).kind with | .slice _ => K ⟨[], one (.int .i64 (0 : Nat)), []⟩ | _ => False) := by
  cases h : (T t).kind with
  | slice e => exact builtinFT.eq_2 T φ nid K t e h
  | _ => exact builtinFT.eq_3 T φ nid K t _ (fun e he _ => by rw [h] at he; cases he)
end Go.Fm

/-! What is laid in memory, read as typed values. -/
namespace Go.Fm
variable [Globs]
set_option linter.unusedVariables false
set_option linter.unusedSectionVars false
/-- Rows of cells of these shapes are typed values. -/
def Typed {α : Type} (es : List Sh1) (e : α → List CV) (good : α → Prop) : Prop :=
  ∀ row : List CV, row.length = es.length → (∀ (j : Nat) (s : Sh1) (c : CV), es[j]? = some s → row[j]? = some c → CTy s c) → ∃ x, row = e x ∧ good x
theorem typed_int (k : IntKind) : Typed [.int k] (eI k) (fun n => (Lit.int k n).wf = true) := fun row hl h => by
  match row, hl with
  | [c], _ =>
    cases h 0 _ c rfl rfl with
    | int _ n hn => exact ⟨n, rfl, hn⟩
theorem typed_bool : Typed [.bool] eB (fun _ => True) := fun row hl h => by
  match row, hl with
  | [c], _ =>
    cases h 0 _ c rfl rfl with
    | bool b => exact ⟨b, rfl, trivial⟩
theorem typed_str : Typed [.str] eS (fun l => l.length ≤ maxLen) := fun row hl h => by
  match row, hl with
  | [c], _ =>
    cases h 0 _ c rfl rfl with
    | str l hl => exact ⟨l, rfl, hl⟩
theorem typed_rows {α : Type} {es : List Sh1} {e : α → List CV} {good : α → Prop} (R : Typed es e good) (hp : 0 < es.length) : ∀ (n : Nat) (cs : List CV), cs.length = n * es.length →
    (∀ i j s c, i < n → es[j]? = some s → cs[i * es.length + j]? = some c → CTy s c) → ∃ xs : List α, xs.length = n ∧ cs = xs.flatMap e ∧ ∀ x ∈ xs, good x
  | 0, cs, hl, _ => ⟨[], rfl, by simpa using hl, by simp⟩
  | n + 1, cs, hl, h => by
    have hle : es.length ≤ cs.length := by rw [hl, Nat.succ_mul]; omega
    obtain ⟨x, hx, gx⟩ := R (cs.take es.length) (by rw [List.length_take]; omega) fun j s c hj hc => by
      have hlt := (List.getElem?_eq_some_iff.1 hj).1
      rw [List.getElem?_take_of_lt hlt] at hc
      exact h 0 j s c (Nat.succ_pos _) hj (by simpa using hc)
    obtain ⟨xs, h1, h2, h3⟩ := typed_rows R hp n (cs.drop es.length) (by rw [List.length_drop, hl, Nat.succ_mul]; omega) fun i j s c hi hj hc => by
      rw [List.getElem?_drop] at hc
      exact h (i + 1) j s c (Nat.succ_lt_succ hi) hj (by rw [Nat.succ_mul]; rw [← hc]; congr 1; omega)
    refine ⟨x :: xs, by rw [List.length_cons, h1], by rw [List.flatMap_cons, ← hx, ← h2, List.take_append_drop], fun y hy => ?_⟩
    rcases List.mem_cons.1 hy with rfl | hy
    · exact gx
    · exact h3 y hy
theorem typed_sl {α : Type} {es : List Sh1} {e : α → List CV} {good : α → Prop} {k : Nat} (R : Typed es e good) (hk : es.length = k) (hp : 0 < k) :
    Typed [.sl es] (eL e k) (fun xs => xs.length ≤ maxLen ∧ ∀ x ∈ xs, good x) := fun row hl h => by
  subst hk
  match row, hl with
  | [c], _ =>
    cases h 0 _ c rfl rfl with
    | sl _ n cs hl hn hc =>
      obtain ⟨xs, h1, h2, h3⟩ := typed_rows R hp n cs hl hc
      subst h1 h2
      exact ⟨xs, rfl, hn, h3⟩
/-- An argument, opened. -/
theorem open_row {α : Type} {W : World} {vs : List Value} {es : List Sh1} {e : α → List CV} {good : α → Prop} (R : Typed es e good) (h : Opens W vs es) :
    ∃ x, good x ∧ vs.length = (e x).length ∧ ∀ (i : Nat) (u : Value) (c : CV), vs[i]? = some u → (e x)[i]? = some c → RI W (fun k => k < W.heap.size) u c := by
  obtain ⟨hl, cs, hcl, hc⟩ := h
  obtain ⟨x, hx, gx⟩ := R cs hcl fun j s c hj hcj => by
    have hlt : j < vs.length := by rw [hl]; exact (List.getElem?_eq_some_iff.1 hj).1
    obtain ⟨c', s', h1, h2, h3, h4⟩ := hc j _ (List.getElem?_eq_getElem hlt)
    rw [hcj] at h1
    rw [hj] at h2
    cases h1
    cases h2
    exact h4
  subst hx
  refine ⟨x, gx, by rw [hl, hcl], fun i u c hu hcx => ?_⟩
  obtain ⟨c', s', h1, h2, h3, h4⟩ := hc i u hu
  rw [hcx] at h1
  cases h1
  exact h3
/-- A slice as argument. -/
theorem open_slice {α : Type} {W : World} {v : Value} {es : List Sh1} {e : α → List CV} {good : α → Prop} {k : Nat} (R : Typed es e good) (hk : es.length = k) (hp : 0 < k) (h : Opens W [v] [.sl es]) :
    ∃ xs : List α, xs.length ≤ maxLen ∧ (∀ x ∈ xs, good x) ∧ RI W (fun k => k < W.heap.size) v (.imm k xs.length (xs.flatMap e)) := by
  obtain ⟨xs, ⟨g1, g2⟩, _, g3⟩ := open_row (typed_sl R hk hp) h
  exact ⟨xs, g1, g2, g3 0 v _ rfl rfl⟩
theorem slice_of {P : Program} {w : World} {r : Reach} {b : Nat} {t e : TypeId} {v : Value} (ht : P.underlying t = some (.slice e)) (h : Value.okWide P w r b t v) : v.cells.toList = [v] := by
  simp only [Value.okWide, ht, Cell.okWide] at h
  cases v <;> simp_all [Cell.ok, Value.cells]
end Go.Fm

/-! Functions without a Go body. -/
namespace Go.Fm
variable [Globs]
set_option linter.unusedVariables false
set_option linter.unusedSectionVars false
/-- Where a byte stands first in a text, or -1. -/
def idxB (l : List UInt8) (c : Int) : Int := match l.findIdx? (fun b => (b.toNat : Int) == c) with | some i => (i : Int) | none => -1
def gIdxB (l : List UInt8) (c : Int) : Option Int := if 0 ≤ c ∧ c < 256 then some (idxB l c) else none
theorem idxB_find (l : List UInt8) (c : UInt8) : (match (List.range (⟨l.toArray⟩ : ByteArray).size).find? fun i => (⟨l.toArray⟩ : ByteArray)[i]! == c with | some i => (i : Int) | none => -1) = idxB l c.toNat := by
  have hsz : (⟨l.toArray⟩ : ByteArray).size = l.length := by simp [ByteArray.size]
  have hget : ∀ i, (h : i < l.length) → (⟨l.toArray⟩ : ByteArray)[i]! = l[i] := fun i h => by
    rw [getElem!_pos _ _ (by rw [hsz]; exact h)]
    rfl
  have hbe : ∀ b : UInt8, (((b.toNat : Int) == (c.toNat : Int)) = true ↔ b = c) := fun b => by
    rw [beq_iff_eq, Int.natCast_inj, UInt8.toNat_inj]
  unfold idxB
  cases hf : (List.range (⟨l.toArray⟩ : ByteArray).size).find? fun i => (⟨l.toArray⟩ : ByteArray)[i]! == c with
  | none =>
    have : l.findIdx? (fun b => (b.toNat : Int) == (c.toNat : Int)) = none := by
      rw [List.findIdx?_eq_none_iff]
      intro b hb
      obtain ⟨i, hi, he⟩ := List.getElem_of_mem hb
      have h1 := List.find?_range_eq_none.1 hf i (by rw [hsz]; exact hi)
      rw [hget i hi, he] at h1
      rw [Bool.eq_false_iff]
      intro h2
      rw [hbe] at h2
      subst h2
      simp at h1
    rw [this]
  | some i =>
    obtain ⟨h1, h2, h3⟩ := List.find?_range_eq_some.1 hf
    have hi : i < l.length := by have := List.mem_range.1 h2; omega
    rw [hget i hi] at h1
    have : l.findIdx? (fun b => (b.toNat : Int) == (c.toNat : Int)) = some i := by
      rw [List.findIdx?_eq_some_iff_getElem]
      refine ⟨hi, (hbe _).2 (by simpa using h1), fun j hj => ?_⟩
      have h4 := h3 j hj
      rw [hget j (by omega)] at h4
      rw [hbe]
      simpa using h4
    rw [this]
theorem ext_indexByte {P : Program} {f : FuncId} {fn : Func} (hf : P.funcs[f]? = some fn) (hname : (fn.name == "runtime.NumGoroutine") = false)
    (hb : fn.body.isNone = true) (hn : Extern.findNext fn = none) (he : Extern.find fn = some Extern.BytealgIndexByte.indexByte) {l : List UInt8} {c r : Int} (h : gIdxB l c = some r) :
    Ans P f [.one (.str l), .one (.int .u8 c)] [] fun v h1 => v = .pv (.one (.int .i64 r)) ∧ h1 = [] := by
  unfold gIdxB at h
  split at h
  case isFalse => cases h
  rename_i hc
  cases h
  obtain ⟨c, rfl⟩ : ∃ d : UInt8, c = (d.toNat : Int) := ⟨UInt8.ofNat c.toNat, by simp; omega⟩
  refine Ans.mono (ans_extern (r := one (.int .i64 (match (List.range (⟨l.toArray⟩ : ByteArray).size).find? fun i => (⟨l.toArray⟩ : ByteArray)[i]! == c with | some i => (i : Int) | none => -1))) hf hname hb hn he fun C vs hl h => ?_) fun r h ⟨h1, h2⟩ => ⟨by rw [h1, idxB_find], h2⟩
  obtain ⟨u0, h0, r0⟩ := h 0 _ rfl
  obtain ⟨u1, h1, r1⟩ := h 1 _ rfl
  obtain rfl : vs = [u0, u1] := by
    match vs, hl, h0, h1 with
    | [a, b], _, h0, h1 => simp at h0 h1; rw [h0, h1]
  obtain ⟨s, rfl, hs⟩ := RSV.str (ρ := C.rho0) (h := hOf []) r0
  obtain rfl := RSV.int (ρ := C.rho0) (h := hOf []) r1
  have hsl : s = ⟨l.toArray⟩ := by
    cases s
    simp only at hs
    subst hs
    simp
  subst hsl
  have hc : Int.toNat (c.toNat : Int) = c.toNat := rfl
  have hc2 : c.toNat.toUInt8 = c := by simp
  have hrun : ∀ (P : Program) (w : World), (Extern.BytealgIndexByte.indexByte [Value.string ⟨l.toArray⟩, Value.int .u8 c.toNat].toArray).run P w = .ok (.int .i64 (match (List.range (⟨l.toArray⟩ : ByteArray).size).find? fun i => (⟨l.toArray⟩ : ByteArray)[i]! == (Int.toNat (c.toNat : Int)).toUInt8 with | some i => (i : Int) | none => -1)) w := fun P w => by
    change (match (List.range (⟨l.toArray⟩ : ByteArray).size).find? fun i => (⟨l.toArray⟩ : ByteArray)[i]! == (Int.toNat (c.toNat : Int)).toUInt8 with | some i => (pure (goInt i) : Sem Value) | none => pure (goInt (-1))).run P w = _
    cases (List.range (⟨l.toArray⟩ : ByteArray).size).find? fun i => (⟨l.toArray⟩ : ByteArray)[i]! == (Int.toNat (c.toNat : Int)).toUInt8 <;> rfl
  rw [hc, hc2] at hrun
  exact ⟨_, hrun _ _, RI.int _ _⟩
end Go.Fm

/-! A list that is cloned; lengths that stay. -/
namespace Go.Fm
variable [Globs]
set_option linter.unusedVariables false
set_option linter.unusedSectionVars false
set_option linter.defProp false
set_option linter.unusedSimpArgs false
def lenC (a b : Nat) : Option Unit := if a = b then some () else none
theorem lenC_eq {a b : Nat} {u : Unit} (h : lenC a b = some u) : a = b := by
  unfold lenC at h
  split at h
  · assumption
  · cases h
theorem lendC_fn {h : Nat → HS} {π : List Nat} {f : Nat} {q : FuncId} {caps : List CV} : lendC h π f (.fn q caps) = (capsIx π caps).map fun cs => ([], .fn q cs) := by cases f <;> rfl
theorem capsIx_nil {π : List Nat} : capsIx π [] = some [] := rfl
theorem capsIx_ptr {π : List Nat} {id off : Nat} {r : List CV} : capsIx π (.ptr id off :: r) = (match ixOf π id with | some j => (capsIx π r).map (.ptr j off :: ·) | none => none) := rfl
def MX := an @lendC_fn <| an @capsIx_nil <| @capsIx_ptr
section
variable {P : Program} {o : Oper} {φ : St} {nid : Nat}
theorem kindF_slice {t e : TypeId} (h : kindF P t = .slice e) : P.underlying t = some (.slice e) := by
  unfold kindF at h; split at h <;> first | (cases h; done) | (rename_i h'; cases h; exact h')
/-- Whether a list is nil. -/
theorem ok_nil {t yt e : TypeId} {x : Operand} {sz n : Nat} {cs : List CV} (ho : o.op = .binOp .eql t x (.const (.slice none 0 0)) yt) (hx : φ.ev x = one (.imm sz n cs)) (he : P.underlying t = some (.slice e)) :
    ActOk P o φ nid ⟨[], one (.anyb n), []⟩ := .quiet fun C φ' ac w ρ hP hag R => by
  have h1 := R.ev x
  rw [hag.env x (by simp [ho, Op.operands]), hx] at h1
  have h1' : RI w C.Sh (ac.eval x) (.imm sz n cs) := h1
  have hy : ac.eval (.const (.slice none 0 0)) = .slice none 0 0 := rfl
  have hrun : ∀ (a : Option Addr) (n cap : Nat), (execOp ac.eval o).run P w = .ok (.value (.bool a.isNone)) w ∨ ac.eval x ≠ .slice a n cap := fun a n cap => by
    by_cases hv : ac.eval x = .slice a n cap
    · left
      have hq : (Op.equal t (.slice a n cap) (.slice none 0 0)).run P w = .ok a.isNone w := by
        unfold Op.equal Op.maxDepth
        rw [show (10000 : Nat) = 9999 + 1 from rfl]
        unfold Op.equalIn
        cases a <;> simp [run_underlying he]
      have hg : (eqGuard .eql t x (.const (.slice none 0 0)) (.slice a n cap) (.slice none 0 0)).run P w = .ok () w := by
        unfold eqGuard
        first | rfl | simp [run_underlying he] | skip
      simp only [execOp, ho, hv, hy, Sem.run_bind, hg, Sem.run_pure, Result.andThen_ok, binOp, hq]
    · exact .inr hv
  generalize hv1 : ac.eval x = v1 at h1' hrun
  cases h1' with
  | imm0 a cap sz =>
    exact ⟨.bool a.isNone, (hrun a 0 cap).resolve_right (fun h => h rfl), .of_RI (.anyb _ _ (fun _ => rfl))⟩
  | imm b off n cap sz cs vals a1 a2 a3 a4 a5 =>
    exact ⟨.bool false, (hrun _ n cap).resolve_right (fun h => h rfl), .of_RI (.anyb _ _ (fun h => by cases h))⟩
end
theorem relX_any {C : Ctx} {s : S} {d n : Nat} {a : Act} {w : World} (hd : lk s.env d = one (.anyb n)) (R : RelX C s.st a w) :
    ∃ b, (b = true → n = 0) ∧ a.eval (.tmp d) = .bool b := by
  obtain ⟨C', hr, ρ, R0⟩ := R
  have h : RSV w C'.Sh ρ (hOf s.heap) (a.tmps.getD d undef) (lk s.env d) := R0.env d
  rw [hd] at h
  have h' : RI w C'.Sh (a.tmps.getD d undef) (.anyb n) := h
  generalize hv : a.tmps.getD d undef = v at h'
  cases h' with
  | anyb b n h => exact ⟨b, h, hv⟩
theorem W.runs {P : Program} {nt k0 : Nat} {c : Code} {s : S} {e0 : Ex} {s0 : S} (hm : P.follows .mixedOrders = true) (h : W P nt k0 c s fun e s' => e = e0 ∧ Weak k0 s' s0) : Runs P nt k0 c s e0 s0 := by
  obtain ⟨e, s', hr, rfl, hw⟩ := h hm
  exact fun C hP hn hk a w R => wp_mono (hr C hP hn hk a w R) fun e' a' w' ⟨he, R'⟩ => ⟨he, hw C a' w' hk R'⟩
/-- A list is cloned: nil stays nil. -/
theorem ext_clone {P : Unit → Program} {T : TypeId → TyI} (hT : T = tiOf (P ())) {f : FuncId} {fn : Func} {k n m : Nat} {cs ds : List CV} {t t0 t1 t2 t3 yt e : TypeId} {i0 i1 i2 : Nat} {p0 p1 p2 p3 : String} {e0 e1 e2 e3 : Array Edge} {R3 : Code}
    (hf : (P ()).funcs[f]? = some fn)
    (hb : fn.body = some (.seq (.region i0 #[⟨some 2, .assign (.const (.slice none 0 0)), t0, p0, e0, none⟩] false) (.seq (.seq (.region i1 #[⟨some 3, .move (.tmp 0), t1, p1, e1, none⟩, ⟨some 4, .binOp .eql t (.tmp 3) (.const (.slice none 0 0)) yt, t2, p2, e2, none⟩] false)
      (.cond (.tmp 4) (.seq (.region i2 #[⟨some 2, .assign (.const (.slice none 0 0)), t3, p3, e3, none⟩] false) .ret) .skip)) R3)))
    (hr : fn.results.toList = [.tmp 2]) (hc : (fn.name == "runtime.NumGoroutine") = false ∧ Nat.blt 4 fn.ntmps = true ∧ okC fn.ntmps R3 = true) (ht : (T t).kind = .slice e)
    (hn : n = 0 → m = 0 ∧ ds = [])
    (h3 : @VC2 _ P T fn.ntmps 0 R3 ⟨[(0, one (.imm k n cs))], []⟩ ⟨fun e s' => e = .ret ∧ Weak 0 s' ⟨[(2, one (.arr 0 0 m))], [.live ⟨k, m, ds⟩]⟩⟩) :
    Ans (P ()) f [.one (.imm k n cs)] [] fun v h1 => v = one (.arr 0 0 m) ∧ h1 = [.live ⟨k, m, ds⟩] := by
  have hnt : 4 < fn.ntmps := by simpa [Nat.blt_eq] using hc.2.1
  refine ans_ofW hT hf hb hc.1 (by simp; omega) (by omega) (fun s hs => by cases hs) (Weak.refl _ _) ?_
  intro hm
  refine ⟨.ret, ⟨[(2, one (.arr 0 0 m))], [.live ⟨k, m, ds⟩]⟩, ?_, trivial, ?_⟩
  rotate_left
  · rw [hr]
    exact endT_of (Weak.refl _ _) ⟨rfl, rfl⟩
  -- the ways
  have w0 := W.runs (s0 := ⟨[(2, one .emp), (0, one (.imm k n cs))], []⟩) hm (W.regionN hT (nt := fn.ntmps) (k0 := 0) (s := ⟨[(0, one (.imm k n cs))], []⟩) (id := i0) (ops := #[⟨some 2, .assign (.const (.slice none 0 0)), t0, p0, e0, none⟩])
    (Q := fun e s' => e = .normal ∧ Weak 0 s' ⟨[(2, one .emp), (0, one (.imm k n cs))], []⟩) (by simp [okOps, Nat.blt_eq]; omega) ⟨rfl, Weak.refl _ _⟩)
  have w1 : Runs (P ()) fn.ntmps 0 (.region i1 #[⟨some 3, .move (.tmp 0), t1, p1, e1, none⟩, ⟨some 4, .binOp .eql t (.tmp 3) (.const (.slice none 0 0)) yt, t2, p2, e2, none⟩] false) ⟨[(2, one .emp), (0, one (.imm k n cs))], []⟩ .normal
      ⟨[(4, one (.anyb n)), (3, one (.imm k n cs)), (2, one .emp), (0, one (.imm k n cs))], []⟩ := fun C hP hnn hk a w R => by
    refine wp_region ?_
    have hu : (P ()).underlying t = some (.slice e) := kindF_slice (by rw [hT] at ht; exact ht)
    have hs : Seq (P ()) fn.ntmps [⟨some 3, .move (.tmp 0), t1, p1, e1, none⟩, ⟨some 4, .binOp .eql t (.tmp 3) (.const (.slice none 0 0)) yt, t2, p2, e2, none⟩] [⟨some 3, .move (.tmp 0), t1, p1, e1, none⟩, ⟨some 4, .binOp .eql t (.tmp 3) (.const (.slice none 0 0)) yt, t2, p2, e2, none⟩]
        ⟨[(2, one .emp), (0, one (.imm k n cs))], []⟩ _ ⟨[(4, one (.anyb n)), (3, one (.imm k n cs)), (2, one .emp), (0, one (.imm k n cs))], []⟩ :=
      .cons _ _ _ _ ⟨[], one (.imm k n cs), []⟩ true _ (show (3 : Nat) < fn.ntmps by omega) rfl (.inl ⟨rfl, (ok_move (x := .tmp 0) (.inl rfl)).x⟩)
        (.cons _ _ _ _ ⟨[], one (.anyb n), []⟩ true _ (show (4 : Nat) < fn.ntmps by omega) rfl (.inl ⟨rfl, (ok_nil rfl rfl hu).x⟩) (.nil _))
    have := Seq.text (ops := #[⟨some 3, .move (.tmp 0), t1, p1, e1, none⟩, ⟨some 4, .binOp .eql t (.tmp 3) (.const (.slice none 0 0)) yt, t2, p2, e2, none⟩]) hs 0 rfl C hP hnn a w R (fun e' a' w' => e' = .normal ∧ RelX C (S.st ⟨[(4, one (.anyb n)), (3, one (.imm k n cs)), (2, one .emp), (0, one (.imm k n cs))], []⟩) a' w') (fun a' w' R' => ⟨rfl, R'⟩)
    rw [List.range_eq_range']
    simpa [Ex.of] using this
  have w2 : n = 0 → Runs (P ()) fn.ntmps 0 (.seq (.region i2 #[⟨some 2, .assign (.const (.slice none 0 0)), t3, p3, e3, none⟩] false) .ret) ⟨[(4, one (.anyb n)), (3, one (.imm k n cs)), (2, one .emp), (0, one (.imm k n cs))], []⟩ .ret ⟨[(2, one (.arr 0 0 m))], [.live ⟨k, m, ds⟩]⟩ := fun h0 => by
    obtain ⟨rfl, rfl⟩ := hn h0
    refine W.runs hm (W.seq (W.regionN hT (nt := fn.ntmps) (k0 := 0) (s := ⟨[(4, one (.anyb n)), (3, one (.imm k n cs)), (2, one .emp), (0, one (.imm k n cs))], []⟩) (id := i2) (ops := #[⟨some 2, .assign (.const (.slice none 0 0)), t3, p3, e3, none⟩]) (by simp [okOps, Nat.blt_eq]; omega) ?_))
    show W (P ()) fn.ntmps 0 .ret ⟨[(2, one .emp), (4, one (.anyb n)), (3, one (.imm k n cs)), (2, one .emp), (0, one (.imm k n cs))], []⟩ _
    refine W.ret ⟨rfl, ?_⟩
    refine (weak_norm (ks := [2]) (π := []) (fuel := 9) (s' := ⟨[(2, one .emp)], []⟩) rfl).trans (weak_le ?_ ?_)
    · simp only [LEb]
    · simp only [LEb]
  have w3 := W.runs (s0 := ⟨[(2, one (.arr 0 0 m))], [.live ⟨k, m, ds⟩]⟩) hm (W.weak (k0 := 0) (s := ⟨[(4, one (.anyb n)), (3, one (.imm k n cs)), (2, one .emp), (0, one (.imm k n cs))], []⟩) (weak_norm (ks := [0]) (π := []) (fuel := 9) (s' := ⟨[(0, one (.imm k n cs))], []⟩) rfl) (VC2.w hT R3 hc.2.2 h3))
  intro C hP hnn hk a w R
  refine wp_seq (wp_mono (w0 C hP hnn hk a w R) fun e1 a1 r1 ⟨he, R1⟩ => ?_)
  subst he
  show (Code.seq (.seq _ _) R3).wp _ _ a1 r1
  refine wp_seq (wp_seq (wp_mono (w1 C hP hnn hk a1 r1 R1) fun e2 a2 r2 ⟨he, R2⟩ => ?_))
  subst he
  show (Code.cond (.tmp 4) _ .skip).wp _ _ a2 r2
  obtain ⟨b, hb, hv⟩ := relX_any (d := 4) (n := n) rfl R2
  refine wp_cond (t := b) hv ?_
  cases b with
  | true =>
    rw [if_pos rfl]
    refine wp_mono (w2 (hb rfl) C hP hnn hk a2 r2 R2) fun e3 a3 r3 ⟨he, R3⟩ => ?_
    subst he
    exact ⟨rfl, R3⟩
  | false =>
    rw [if_neg (by decide)]
    refine wp_skip ?_
    show R3.wp _ _ a2 r2
    exact w3 C hP hnn hk a2 r2 R2
theorem clone0 {α : Type} {e : α → List CV} {s r : List α} (h : ((app [] s).bind fun v => some v) = some r) (hz : s.length = 0) : r.length = 0 ∧ r.flatMap e = [] := by
  unfold app at h
  split at h
  · simp only [List.nil_append, Option.bind_some, Option.some.injEq] at h
    subst h
    have : s = [] := List.eq_nil_of_length_eq_zero hz
    subst this
    exact ⟨rfl, rfl⟩
  · cases h
end Go.Fm

/-! Arguments of all sorts, opened. -/
namespace Go.Fm
variable [Globs]
set_option linter.unusedVariables false
set_option linter.unusedSectionVars false
section
variable {P : Program} {w : World} {r : Reach} {b : Nat} {t : TypeId} {v : Value}
theorem str_of (ht : P.underlying t = some .string) (h : Value.okWide P w r b t v) : v.cells.toList = [v] := by
  simp only [Value.okWide, ht, Cell.okWide] at h
  cases v <;> simp_all [Cell.ok, Value.cells]
theorem int_of {k : IntKind} (ht : P.underlying t = some (.int k)) (h : Value.okWide P w r b t v) : v.cells.toList = [v] := by
  simp only [Value.okWide, ht, Cell.okWide] at h
  cases v <;> simp_all [Cell.ok, Value.cells]
theorem bool_of (ht : P.underlying t = some .bool) (h : Value.okWide P w r b t v) : v.cells.toList = [v] := by
  simp only [Value.okWide, ht, Cell.okWide] at h
  cases v <;> simp_all [Cell.ok, Value.cells]
theorem arg_one {α : Type} {W : World} {es : List Sh1} {e : α → List CV} {c : α → CV} {good : α → Prop} (R : Typed es e good) (he : ∀ x, e x = [c x]) (hv : v.cells.toList = [v]) (h : Opens W v.cells.toList es) (ρ : Rho) (hh : Nat → HS) :
    ∃ x, good x ∧ RPV W (fun k => k < W.heap.size) ρ hh v (.one (c x)) := by
  rw [hv] at h
  obtain ⟨x, gx, _, h2⟩ := open_row R h
  exact ⟨x, gx, RPV.of_one (RV.of_RI (h2 0 v (c x) rfl (by rw [he]; rfl)))⟩
theorem arg_agg {α : Type} {W : World} {fs : Array Field} {es : List Sh1} {e : α → List CV} {good : α → Prop} (ht : P.underlying t = some (.struct fs)) (hv : Value.okWide P w r b t v) (R : Typed es e good) (h : Opens W v.cells.toList es) (ρ : Rho) (hh : Nat → HS) :
    ∃ x, good x ∧ RPV W (fun k => k < W.heap.size) ρ hh v (.agg (e x)) := by
  simp only [Value.okWide, ht] at hv
  obtain ⟨cs, rfl, _⟩ := hv
  obtain ⟨x, gx, hl, h2⟩ := open_row R h
  refine ⟨x, gx, cs.toList, rfl, hl, fun i c hc => ?_⟩
  have hi : i < cs.toList.length := by
    have := (List.getElem?_eq_some_iff.1 hc).1
    have hl2 : cs.toList.length = (e x).length := hl
    omega
  exact ⟨_, List.getElem?_eq_getElem hi, RV.of_RI (h2 i _ c (List.getElem?_eq_getElem hi) hc)⟩
end
theorem one_cell {s : Sh1} {c : CV} (h : CTy s c) : ∀ (j : Nat) (s' : Sh1) (c' : CV), [s][j]? = some s' → [c][j]? = some c' → CTy s' c' := fun j s' c' h1 h2 => by
  cases j with
  | zero => simp at h1 h2; subst h1 h2; exact h
  | succ j => simp at h1
theorem wfU32 {x : Int} (h : (Lit.int .u32 x).wf = true) : 0 ≤ x ∧ x < 4294967296 := by
  simp [Lit.wf, IntKind.min, IntKind.max, IntKind.bits, IntKind.signed] at h
  omega
end Go.Fm

/-! Lists that are cleared and copied over. -/
namespace Go.Fm
variable [Globs]
set_option linter.unusedVariables false
set_option linter.unusedSectionVars false
set_option linter.defProp false
/-- A list laid over another one, at a place. -/
def putL {α : Type} : List α → Nat → List α → List α
  | [], _, _ => []
  | x :: r, a + 1, ys => x :: putL r a ys
  | x :: r, 0, [] => x :: r
  | x :: r, 0, y :: ys => y :: putL r 0 ys
@[simp] theorem putL_len {α : Type} : ∀ (xs : List α) (a : Nat) (ys : List α), (putL xs a ys).length = xs.length
  | [], _, _ => rfl
  | x :: r, a + 1, ys => by rw [putL, List.length_cons, putL_len r, List.length_cons]
  | x :: r, 0, [] => rfl
  | x :: r, 0, y :: ys => by rw [putL, List.length_cons, putL_len r, List.length_cons]
theorem putL_eq {α : Type} : ∀ (xs : List α) (a : Nat) (ys : List α), a + ys.length ≤ xs.length → putL xs a ys = xs.take a ++ ys ++ xs.drop (a + ys.length)
  | [], a, ys, h => by
    have h1 : a = 0 := by simp only [List.length_nil] at h; omega
    have h2 : ys = [] := List.eq_nil_of_length_eq_zero (by simp only [List.length_nil] at h; omega)
    subst h1 h2
    rfl
  | x :: r, a + 1, ys, h => by
    rw [putL, putL_eq r a ys (by simp at h; omega), show a + 1 + ys.length = (a + ys.length) + 1 by omega, List.drop_succ_cons, List.take_succ_cons, List.cons_append, List.cons_append]
  | x :: r, 0, [], h => by simp [putL]
  | x :: r, 0, y :: ys, h => by
    rw [putL, putL_eq r 0 ys (by simp at h ⊢; omega)]
    simp
section
variable {α : Type} {e : α → List CV} {k : Nat} {xs ys v : List α} {lo hi : Int} {a n : Nat}
theorem fOver (ok : EncOk e k) (h : a + ys.length ≤ xs.length) : over (xs.flatMap e) (a * k) (ys.flatMap e) = (putL xs a ys).flatMap e := by
  rw [putL_eq _ _ _ h, List.flatMap_append, List.flatMap_append]
  unfold over
  have h1 : (xs.flatMap e).take (a * k) = (xs.take a).flatMap e := by
    have : xs.flatMap e = (xs.take a).flatMap e ++ (xs.drop a).flatMap e := by rw [← List.flatMap_append, List.take_append_drop]
    rw [this, List.take_left' (by rw [flat_len ok.len, List.length_take, Nat.min_eq_left (by omega)])]
  rw [h1, flat_len ok.len, ← Nat.add_mul, flat_drop ok.len]
theorem rep_flat {z : α} : ∀ n : Nat, (List.replicate n (e z)).flatten = (List.replicate n z).flatMap e
  | 0 => rfl
  | n + 1 => by rw [List.replicate_succ, List.replicate_succ, List.flatten_cons, List.flatMap_cons, rep_flat n]
theorem fClear (ok : EncOk e k) (h : a + n ≤ xs.length) (z : α) {zc : List CV} (hz : zc = e z) : (xs.flatMap e).take (a * k) ++ (List.replicate n zc).flatten ++ (xs.flatMap e).drop (a * k + (List.replicate n zc).flatten.length) = (putL xs a (List.replicate n z)).flatMap e := by
  subst hz
  have := fOver (xs := xs) (ys := List.replicate n z) ok (by simpa using h)
  rw [← rep_flat] at this
  exact this
theorem fCopy (ok : EncOk e k) (h : a + n ≤ xs.length) {m : Nat} (hm : m = ys.length) : (xs.flatMap e).take (a * k) ++ (ys.flatMap e).take (min m n * k) ++ (xs.flatMap e).drop (a * k + ((ys.flatMap e).take (min m n * k)).length) = (putL xs a (ys.take n)).flatMap e := by
  subst hm
  show over (xs.flatMap e) (a * k) ((ys.flatMap e).take (min ys.length n * k)) = _
  have h1 : (ys.flatMap e).take (min ys.length n * k) = (ys.take n).flatMap e := by
    have h2 : ys.take n = ys.take (min ys.length n) := by
      rcases Nat.le_total ys.length n with h | h
      · rw [Nat.min_eq_left h, List.take_length, List.take_of_length_le h]
      · rw [Nat.min_eq_right h]
    rw [h2]
    have : ys.flatMap e = (ys.take (min ys.length n)).flatMap e ++ (ys.drop (min ys.length n)).flatMap e := by rw [← List.flatMap_append, List.take_append_drop]
    conv => lhs; rw [this]
    rw [List.take_left' (by rw [flat_len ok.len, List.length_take, Nat.min_eq_left (Nat.min_le_left _ _)])]
  rw [h1, fOver ok (by rw [List.length_take]; omega)]
/-- A window of what was laid over. -/
theorem subPut (h : subL xs lo hi = some v) (hy : ys.length = v.length) : subL (putL xs lo.toNat ys) lo hi = some ys := by
  obtain ⟨h1, h2, h3, h4, h5⟩ := subL_some h
  have hl : ys.length = hi.toNat - lo.toNat := by omega
  unfold subL
  rw [putL_len, if_pos ⟨h2, h3, h4⟩, putL_eq _ _ _ (by omega), List.append_assoc, List.drop_left' (by rw [List.length_take, Nat.min_eq_left (by omega)]), List.take_left' (by omega)]
end
theorem cg_imm {φ : St} {size sz n : Nat} {cs : List CV} {K : List Nat → Nat → List CV → Prop} : cellsG φ size (.pv (.one (.imm sz n cs))) K = (sz = size ∧ K [] n cs) := rfl
theorem cg_emp {φ : St} {size : Nat} {K : List Nat → Nat → List CV → Prop} : cellsG φ size (.pv (.one .emp)) K = K [] 0 [] := rfl
@[congr] theorem cellsG_congr {φ ψ : St} {n m : Nat} {x y : SV} {K : List Nat → Nat → List CV → Prop} (h1 : φ = ψ) (h2 : n = m) (h : x = y) : cellsG φ n x K = cellsG ψ m y K := by rw [h1, h2, h]
def MY := an @cg_imm <| an @cg_emp <| an @putL_len <| an @List.length_replicate.{0} <| an @cells_imm <| @cells_emp
end Go.Fm

/-! A list of own lists of numbers: each row a block, wherever it lies. -/
namespace Go.Fm
variable [Globs]
set_option linter.unusedVariables false
set_option linter.unusedSectionVars false
set_option linter.unusedSimpArgs false
def idC (m : Nat) (ids : List Nat) : List CV := ids.map fun i => CV.arr i 0 m
theorem idC_len (m : Nat) (ids : List Nat) : (idC m ids).length = ids.length := by unfold idC; rw [List.length_map]
structure TabInv (H : List HS) (o : Nat) (ids : List Nat) (rs : List (List Int)) (m : Nat) : Prop where
  ho : hOf H o = .live ⟨1, ids.length, idC m ids⟩
  len : rs.length = ids.length
  row : ∀ (j : Nat) (id : Nat) (r : List Int), ids[j]? = some id → rs[j]? = some r → hOf H id = .live ⟨1, m, r.flatMap (eI .i64)⟩ ∧ r.length = m
  lto : o < H.length
  lt : ∀ id ∈ ids, id < H.length ∧ id ≠ o
  nd : ids.Nodup
  bd : ids.length ≤ maxN
theorem tab_nil (m : Nat) : TabInv [.live ⟨1, 0, []⟩] 0 [] [] m where
  ho := rfl
  len := rfl
  row := fun j id r h => by simp at h
  lto := by simp
  lt := fun id h => by simp at h
  nd := List.nodup_nil
  bd := Nat.zero_le _
theorem setH_len : ∀ (l : List HS) (i : Nat) (h : HS), (setH l i h).length = max l.length (i + 1)
  | [], 0, h => rfl
  | [], n + 1, h => by simp only [setH, List.length_cons, setH_len [] n h]; simp
  | a :: r, 0, h => by simp only [setH, List.length_cons]; omega
  | a :: r, n + 1, h => by simp only [setH, List.length_cons, setH_len r n h]; omega
theorem TabInv.app {H H' : List HS} {o : Nat} {ids : List Nat} {rs : List (List Int)} {m : Nat} (I : TabInv H o ids rs m) {z : List Int} {tmp : HS} (hz : z.length = m) (hb : ids.length + 1 ≤ maxN) (hl : H'.length = H.length + 3)
    (hh : ∀ j, hOf H' j = if j = H.length + 2 then .live ⟨1, ids.length + 1, idC m ids ++ [CV.arr H.length 0 m]⟩ else if j = o then .dead else if j = H.length + 1 then tmp else if j = H.length then .live ⟨1, m, z.flatMap (eI .i64)⟩ else hOf H j) :
    TabInv H' (H.length + 2) (ids ++ [H.length]) (rs ++ [z]) m where
  ho := by
    rw [hh, if_pos rfl]
    unfold idC
    rw [List.map_append, List.length_append]
    rfl
  len := by rw [List.length_append, List.length_append, I.len]; rfl
  row := fun j id r hj hr => by
    have hlo := I.lto
    rcases Nat.lt_or_ge j ids.length with h | h
    · rw [List.getElem?_append_left h] at hj
      rw [List.getElem?_append_left (by rw [I.len]; exact h)] at hr
      have hi := I.lt id (List.mem_of_getElem? hj)
      rw [hh, if_neg (by omega), if_neg hi.2, if_neg (by omega), if_neg (by omega)]
      exact I.row j id r hj hr
    · rw [List.getElem?_append_right h] at hj
      rw [List.getElem?_append_right (by rw [I.len]; exact h), I.len] at hr
      have h0 : j - ids.length = 0 := by
        rcases Nat.eq_zero_or_pos (j - ids.length) with h0 | h0
        · exact h0
        · rw [List.getElem?_eq_none (by simp; omega)] at hj; cases hj
      rw [h0] at hj hr
      cases hj
      cases hr
      rw [hh, if_neg (by omega), if_neg (by omega), if_neg (by omega), if_pos rfl]
      exact ⟨rfl, hz⟩
  lto := by omega
  lt := fun id hi => by
    rcases List.mem_append.1 hi with h | h
    · have := I.lt id h; omega
    · simp at h; omega
  nd := by
    refine List.nodup_append.2 ⟨I.nd, by simp, fun a ha b hb he => ?_⟩
    have := I.lt a ha
    simp at hb
    omega
  bd := by rw [List.length_append]; exact hb
theorem TabInv.set {H : List HS} {o : Nat} {ids : List Nat} {rs : List (List Int)} {m : Nat} (I : TabInv H o ids rs m) {i id : Nat} {r r' : List Int} (hi : ids[i]? = some id) (hr : rs[i]? = some r) (hl : r'.length = r.length) :
    TabInv (setH H id (.live ⟨1, m, r'.flatMap (eI .i64)⟩)) o ids (rs.set i r') m where
  ho := by rw [hOf_setH, if_neg (fun h => (I.lt id (List.mem_of_getElem? hi)).2 h.symm)]; exact I.ho
  len := by rw [List.length_set, I.len]
  row := fun j jd q hj hq => by
    rw [hOf_setH]
    by_cases h : j = i
    · subst h
      rw [hi] at hj
      cases hj
      rw [if_pos rfl]
      rw [List.getElem?_set_self (by exact (List.getElem?_eq_some_iff.1 hr).1)] at hq
      cases hq
      exact ⟨rfl, by rw [hl]; exact (I.row j id r hi hr).2⟩
    · have hne : jd ≠ id := fun he => h ((List.getElem?_inj (List.getElem?_eq_some_iff.1 hj).1 I.nd).1 (by rw [hj, hi, he]))
      rw [if_neg hne]
      rw [List.getElem?_set_ne (fun e => h e.symm)] at hq
      exact I.row j jd q hj hq
  lto := by rw [setH_len]; have := I.lto; omega
  lt := fun jd hj => by rw [setH_len]; have := I.lt jd hj; omega
  nd := I.nd
  bd := I.bd
theorem TabInv.get {H : List HS} {o : Nat} {ids : List Nat} {rs : List (List Int)} {m : Nat} (I : TabInv H o ids rs m) {i : Int} {r : List Int} (h : getI rs i = some r) : ∃ id, ids[i.toNat]? = some id ∧ rs[i.toNat]? = some r ∧ hOf H id = .live ⟨1, m, r.flatMap (eI .i64)⟩ ∧ r.length = m ∧ rowPtr 0 i ids.length 1 = some i.toNat ∧ getC 1 ((idC m ids).drop i.toNat) = some [CV.arr id 0 m] := by
  obtain ⟨h1, h2, h3⟩ := getI_some h
  rw [I.len] at h2
  have hlt : i.toNat < ids.length := by omega
  have hid : ids[i.toNat]? = some ids[i.toNat] := List.getElem?_eq_getElem hlt
  obtain ⟨g1, g2⟩ := I.row _ _ _ hid h3
  refine ⟨ids[i.toNat], hid, h3, g1, g2, ?_, ?_⟩
  · unfold rowPtr
    rw [if_pos ⟨h1, h2⟩, Nat.zero_add, Nat.mul_one]
  · unfold idC
    rw [← List.map_drop, List.drop_eq_getElem_cons hlt]
    rfl
/-- A row's number. -/
theorem row_get {r : List Int} {k x : Int} {m : Nat} (h : getI r k = some x) (hm : r.length = m) : rowPtr 0 k m 1 = some k.toNat ∧ getC 1 ((r.flatMap (eI .i64)).drop k.toNat) = some [CV.int .i64 x] := by
  obtain ⟨h1, h2, h3⟩ := getI_some h
  refine ⟨?_, ?_⟩
  · unfold rowPtr
    rw [if_pos ⟨h1, by rw [← hm]; exact h2⟩, Nat.zero_add, Nat.mul_one]
  · have := fGet0 (eI_ok .i64) h (m := 1) (by decide) (by decide)
    rw [Nat.mul_one] at this
    rw [this]
    rfl
theorem row_put {r : List Int} {k x : Int} (h : getI r k = some x) (y : Int) : putN k.toNat [CV.int .i64 y] (r.flatMap (eI .i64)) = some ((r.set k.toNat y).flatMap (eI .i64)) := by
  have := fPut0 (eI_ok .i64) h (ns := [CV.int .i64 y]) (y := y) rfl
  rw [Nat.mul_one] at this
  exact this
theorem lend_rows {h : Nat → HS} {f m : Nat} : ∀ (ids : List Nat) (rs : List (List Int)), rs.length = ids.length → (∀ (j : Nat) (id : Nat) (r : List Int), ids[j]? = some id → rs[j]? = some r → h id = .live ⟨1, m, r.flatMap (eI .i64)⟩ ∧ r.length = m) →
    ∃ rd, lendAll (lendC h [] (f + 1)) (idC m ids) = some (rd, rs.flatMap (eL (eI .i64) 1)) ∧ riAll (rs.flatMap (eL (eI .i64) 1)) = true
  | [], [], _, _ => ⟨[], rfl, rfl⟩
  | [], _ :: _, hl, _ => by simp at hl
  | _ :: _, [], hl, _ => by simp at hl
  | id :: ids, r :: rs, hl, hr => by
    obtain ⟨rd, h1, h2⟩ := lend_rows (h := h) (f := f) (m := m) ids rs (by simpa using hl) (fun j jd q hj hq => hr (j + 1) jd q (by simpa using hj) (by simpa using hq))
    obtain ⟨g1, g2⟩ := hr 0 id r rfl rfl
    have hc : lendC h [] (f + 1) (.arr id 0 m) = some ([id], .imm 1 m (r.flatMap (eI .i64))) := by
      rw [lendC_arrW]
      have hw : winC 0 m 1 (r.flatMap (eI .i64)) = r.flatMap (eI .i64) := fWin (eI_ok .i64) g2.symm
      simp only [ixOf, g1, hw, fLend (eI_ok .i64) r, fRi (eI_ok .i64) r]
      rfl
    refine ⟨[id] ++ rd, ?_, ?_⟩
    · show (match lendC h [] (f + 1) (.arr id 0 m) with | none => none | some (a, c') => match lendAll (lendC h [] (f + 1)) (idC m ids) with | none => none | some (b, r') => some (a ++ b, c' :: r')) = _
      rw [hc, h1]
      simp only [List.flatMap_cons, eL, g2, List.singleton_append]
    · show ((CV.imm 1 r.length (r.flatMap (eI .i64))).ri && riAll (rs.flatMap (eL (eI .i64) 1))) = true
      rw [h2]
      rfl
theorem TabInv.shut {H : List HS} {o : Nat} {ids : List Nat} {rs : List (List Int)} {m : Nat} (I : TabInv H o ids rs m) : Weak 0 ⟨[(0, .pv (.one (.arr o 0 ids.length)))], H⟩ ⟨[(0, .pv (.one (.imm 1 rs.length (rs.flatMap (eL (eI .i64) 1)))))], []⟩ := by
  obtain ⟨rd, h1, h2⟩ := lend_rows (h := hOf H) (f := 7) ids rs I.len I.row
  refine weak_norm (ks := [0]) (π := []) (fuel := 9) ?_
  have hc : lendC (hOf H) [] 9 (.arr o 0 ids.length) = some (o :: rd, .imm 1 rs.length (rs.flatMap (eL (eI .i64) 1))) := by
    rw [show (9 : Nat) = 8 + 1 from rfl, lendC_arrW]
    have hw : winC 0 ids.length 1 (idC m ids) = idC m ids := by
      unfold winC
      rw [Nat.zero_mul, List.drop_zero, Nat.mul_one, ← idC_len m ids, List.take_length]
    simp only [ixOf, I.ho, hw, h1, h2, I.len]
    rfl
  simp only [normS, lendE, lendS, lendP, lk, if_true, hc, lendH, nodB, preK, Option.map_some, Bool.and_self]
theorem lk_sub : ∀ (env : List (Nat × SV)) (t : Nat), lk env t = one .dead ∨ ∃ p ∈ env, p.1 = t ∧ lk env t = p.2
  | [], t => .inl rfl
  | p :: r, t => by
    by_cases h : p.1 = t
    · exact .inr ⟨p, List.mem_cons_self .., h, by simp [lk, h]⟩
    · rcases lk_sub r t with h1 | ⟨q, hq, h1, h2⟩
      · left; simp [lk, h, h1]
      · exact .inr ⟨q, List.mem_cons_of_mem _ hq, h1, by simp [lk, h, h2]⟩
/-- Slots that are forgotten. -/
theorem weak_sub {k0 : Nat} {env env' : List (Nat × SV)} {H : List HS} (h : ∀ p ∈ env', lk env p.1 = p.2) : Weak k0 ⟨env, H⟩ ⟨env', H⟩ := fun C a w hk R => by
  obtain ⟨C', hr, ρ, R0⟩ := R
  refine ⟨C', hr, ρ, R0.defers, R0.nt, fun t => ?_, R0.hp, R0.init, R0.fr⟩
  show RSV w C'.Sh ρ (hOf H) (a.tmps.getD t undef) (lk env' t)
  rcases lk_sub env' t with h1 | ⟨p, hp, h1, h2⟩
  · rw [h1]; trivial
  · rw [h2, ← h p hp, h1]
    exact R0.env t
theorem bldC_id (cs : List CV) : bldC cs = cs := rfl
theorem bldN_id (n : Nat) : bldN n = n := rfl
theorem setH_end {l : List HS} {n : Nat} {h : HS} (hl : l.length = n) : (setH l n h).length = n + 1 := by rw [setH_len]; omega
theorem winId (m : Nat) (ids : List Nat) : winC 0 ids.length 1 (idC m ids) = idC m ids := by
  unfold winC
  rw [Nat.zero_mul, List.drop_zero, Nat.mul_one, ← idC_len m ids, List.take_length]
theorem winOne (c : CV) : winC 0 1 1 [c] = [c] := rfl
theorem mk_len {z : List Int} {n : Int} (h : mk (0 : Int) n = some z) : z.length = n.toNat := by
  obtain ⟨h1, _, _⟩ := mk_some h
  rw [h1, List.length_replicate]
theorem wrap_sm {x : Int} (h1 : 0 ≤ x) (h2 : x < 9223372036854775808) : IntKind.wrap .i64 x = x := by
  simp [IntKind.wrap, IntKind.bits, IntKind.signed]; omega
theorem TabInv.ne {H : List HS} {o : Nat} {ids : List Nat} {rs : List (List Int)} {m : Nat} (I : TabInv H o ids rs m) {i : Int} {r : List Int} (h : getI rs i = some r) : (IntKind.wrap .i64 (i + 1)).toNat ≠ i.toNat := by
  obtain ⟨h1, h2, _⟩ := getI_some h
  have hb := I.bd
  have hm : maxN = 4294967296 := rfl
  rw [I.len] at h2
  rw [wrap_sm (by omega) (by omega)]
  omega
/-! ### Orders of a draw where the blocks are not known: each is taken for the same -/
def flat1 : List Nat → List Nat
  | [] => []
  | _ :: _ => [0]
def footF (f : Feet) : Feet := f.map fun p => (flat1 p.1, flat1 p.2)
theorem anyIn_nil : ∀ a : List Nat, anyIn a [] = false
  | [] => rfl
  | x :: r => by simp only [anyIn, anyIn_nil r]; rfl
theorem anyIn_flat {a b : List Nat} (h : anyIn a b = true) : anyIn (flat1 a) (flat1 b) = true := by
  cases a with
  | nil => cases h
  | cons x r =>
    cases b with
    | nil => rw [anyIn_nil] at h; cases h
    | cons y s => rfl
theorem or6 {a b c d e f d' e' f' : Bool} (h1 : d = true → d' = true) (h2 : e = true → e' = true) (h3 : f = true → f' = true) (h : (a || b || c || d' || e' || f') = false) : (a || b || c || d || e || f) = false := by
  revert h1 h2 h3 h
  cases a <;> cases b <;> cases c <;> cases d <;> cases e <;> cases f <;> cases d' <;> cases e' <;> cases f' <;> decide
theorem conf_flat {ops : Array Oper} {o1 o2 : Oper} {f1 f2 : List Nat × List Nat} (h : conf ops o1 o2 (flat1 f1.1, flat1 f1.2) (flat1 f2.1, flat1 f2.2) = false) : conf ops o1 o2 f1 f2 = false := by
  unfold conf at h ⊢
  exact or6 anyIn_flat anyIn_flat anyIn_flat h
theorem rowOk_flat {ops : Array Oper} {m : Nat} {o2 : Oper} {f2 : List Nat × List Nat} : ∀ {os : List Oper} {fs : Feet} {k : Nat}, rowOk ops m o2 (flat1 f2.1, flat1 f2.2) os (footF fs) k = true → rowOk ops m o2 f2 os fs k = true
  | [], fs, k, _ => by cases fs <;> rfl
  | _ :: _, [], k, _ => rfl
  | o :: r, f :: fs, k, h => by
    simp only [footF, List.map_cons, rowOk, Bool.and_eq_true, Bool.or_eq_true, Bool.not_eq_true'] at h ⊢
    exact ⟨h.1.imp id conf_flat, rowOk_flat h.2⟩
theorem footF_take (n : Nat) (fa : Feet) : (footF fa).take n = footF (fa.take n) := by unfold footF; rw [List.map_take]
theorem rowsOk_flat {ops : Array Oper} {all : List Oper} {fa : Feet} : ∀ {os : List Oper} {fs : Feet} {ms : List Nat} {k : Nat}, rowsOk ops all (footF fa) os (footF fs) ms k = true → rowsOk ops all fa os fs ms k = true
  | [], fs, ms, k, _ => by cases fs <;> cases ms <;> rfl
  | _ :: _, [], ms, k, _ => by cases ms <;> rfl
  | _ :: _, _ :: _, [], k, _ => rfl
  | o :: r, f :: fs, m :: ms, k, h => by
    simp only [footF, List.map_cons, rowsOk, Bool.and_eq_true] at h ⊢
    refine ⟨?_, rowsOk_flat h.2⟩
    have := h.1
    rw [← footF, footF_take] at this
    exact rowOk_flat this
theorem draw_flat {all : List Oper} {f : Feet} (h : drawOk all (footF f) = true) : drawOk all f = true := by
  unfold drawOk at h ⊢
  rw [Bool.and_eq_true] at h ⊢
  exact ⟨h.1, rowsOk_flat h.2⟩
end Go.Fm

