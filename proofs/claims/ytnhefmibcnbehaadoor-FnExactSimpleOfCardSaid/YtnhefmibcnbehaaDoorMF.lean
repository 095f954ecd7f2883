import Derived.Test.YtnhefmibcnbehaaDoorME
set_option linter.all false
namespace Go.Fm
variable [Globs]
def idxS (l:List UInt8) (i:Int):Option Int:=if 0<=i/\i < l.length then some ((l.getD i.toNat 0).toNat:Int) else none
def subL {α:Type} (l:List α) (a b:Int):Option (List α):=if 0<=a/\a<=b/\b<=l.length then some ((l.drop a.toNat).take (b.toNat-a.toNat)) else none
def catS (a b:List UInt8):Option (List UInt8):=if a.length+b.length < 2 ^ 62 then some (a++b) else none
def rowAt (i:Int) (n sz:Nat) (cs:List CV):Option (List CV):=if 0<=i/\i < n then some (cs.drop (i.toNat*sz)) else none
def rowPtr (lo:Nat) (i:Int) (n sz:Nat):Option Nat:=if 0<=i/\i < n then some ((lo+i.toNat)*sz) else none
def subN (a b:Int) (n:Nat):Option (Nat×Nat):=if 0<=a/\a<=b/\b<=n then some (a.toNat,b.toNat-a.toNat) else none
def subC (a b:Int) (n sz:Nat) (cs:List CV):Option (Nat×List CV):=if 0<=a/\a<=b/\b<=n then some (b.toNat-a.toNat,(cs.drop (a.toNat*sz)).take ((b.toNat-a.toNat)*sz)) else none
def appN (lo n bn m:Nat):Option Nat:=if lo+n<=bn/\n+m<=maxN then some (n+m) else none
def mkN (n m:Int):Option Nat:=if m=n/\0<=n/\n<=maxN then some n.toNat else none
def mkC (n:Nat) (z:List CV):List CV:=(List.replicate n z).flatten
def bldN (n:Nat):Nat:=n
def bldC (cs:List CV):List CV:=cs
def s2bN (l:List UInt8):Option Nat:=if l.length<=maxN then some l.length else none
def okP (p:Prop) [Decidable p]:Option Unit:=if p then some () else none
def quoI (k:IntKind) (a b:Int):Option Int:=if b=0 then none else some (k.wrap (a.tdiv b))
def remI (k:IntKind) (a b:Int):Option Int:=if b=0 then none else some (a.tmod b)
def shlI (k:IntKind) (a b:Int):Option Int:=if 0<=b then some (k.wrap (a*2 ^ (min b.toNat k.bits))) else none
def shrI (k:IntKind) (a b:Int):Option Int:=if 0<=b then some (a / (2 ^ (min b.toNat k.bits))) else none
theorem fdiv_pow (a:Int) (n:Nat):a.fdiv (2 ^ n)=a / 2 ^ n:=Int.fdiv_eq_ediv_of_nonneg _ (Int.le_of_lt (Int.pow_pos (by decide)))
def andI (k:IntKind) (a b:Int):Int:=k.wrap (bytesB k a &&& bytesB k b).toNat
def orI (k:IntKind) (a b:Int):Int:=k.wrap (bytesB k a ||| bytesB k b).toNat
def xorI (k:IntKind) (a b:Int):Int:=k.wrap (bytesB k a ^^^ bytesB k b).toNat
def notI (k:IntKind) (a:Int):Int:=k.wrap (bytesB k (if k.signed then -1 else k.max) ^^^ bytesB k a).toNat
def maxI (a b:Int):Int:=if a < b then b else a
theorem kO_if {α:Type} {p:Prop} [Decidable p] {x:α} {K:α->Prop} (h:kO (if p then some x else none) K):p/\K x:=by
 by_cases hp:p
 ·rw[if_pos hp]at h;exact ⟨hp,h⟩
 ·rw[if_neg hp]at h;exact h.elim
theorem kO_ifn {α:Type} {p:Prop} [Decidable p] {x:α} {K:α->Prop} (h:kO (if p then none else some x) K):¬ p/\K x:=by
 by_cases hp:p
 ·rw[if_pos hp]at h;exact h.elim
 ·rw[if_neg hp]at h;exact ⟨hp,h⟩
theorem kO_idxS {l:List UInt8} {i:Int} {K:Int->Prop} (h:kO (idxS l i) K):(0<=i/\i < l.length)/\K ((l.getD i.toNat 0).toNat:Int):=kO_if h
theorem kO_subL {α:Type} {l:List α} {a b:Int} {K:List α->Prop} (h:kO (subL l a b) K):(0<=a/\a<=b/\b<=l.length)/\K ((l.drop a.toNat).take (b.toNat-a.toNat)):=kO_if h
theorem kO_rowAt {i:Int} {n sz:Nat} {cs:List CV} {K:List CV->Prop} (h:kO (rowAt i n sz cs) K):(0<=i/\i < n)/\K (cs.drop (i.toNat*sz)):=kO_if h
theorem kO_rowPtr {lo:Nat} {i:Int} {n sz:Nat} {K:Nat->Prop} (h:kO (rowPtr lo i n sz) K):(0<=i/\i < n)/\K ((lo+i.toNat)*sz):=kO_if h
theorem kO_subN {a b:Int} {n:Nat} {K:Nat×Nat->Prop} (h:kO (subN a b n) K):(0<=a/\a<=b/\b<=n)/\K (a.toNat,b.toNat-a.toNat):=kO_if h
theorem kO_subC {a b:Int} {n sz:Nat} {cs:List CV} {K:Nat×List CV->Prop} (h:kO (subC a b n sz cs) K):(0<=a/\a<=b/\b<=n)/\K (b.toNat-a.toNat,(cs.drop (a.toNat*sz)).take ((b.toNat-a.toNat)*sz)):=kO_if h
theorem kO_s2bN {l:List UInt8} {K:Nat->Prop} (h:kO (s2bN l) K):l.length<=maxN/\K l.length:=kO_if h
theorem kO_okP {p:Prop} [Decidable p] {K:Unit->Prop} (h:kO (okP p) K):p/\K ():=kO_if h
theorem kO_mkN {n m:Int} {K:Nat->Prop} (h:kO (mkN n m) K):(m=n/\0<=n/\n<=maxN)/\K n.toNat:=kO_if h
def binH (op:BinOp) (k:IntKind) (a b:Int) (K:CV->Prop):Prop :=
 match op with
 | .add=>K (.int k (k.wrap (a+b)))
 | .sub=>K (.int k (k.wrap (a-b)))
 | .mul=>K (.int k (k.wrap (a*b)))
 | .quo=>kO (quoI k a b) λ r=>K (.int k r)
 | .rem=>kO (remI k a b) λ r=>K (.int k r)
 | .and=>K (.int k (andI k a b))
 | .or=>K (.int k (orI k a b))
 | .xor=>K (.int k (xorI k a b))
 | .eql=>K (.bool (a==b))
 | .neq=>K (.bool (a != b))
 | .lss=>K (.bool (a < b))
 | .leq=>K (.bool (a<=b))
 | .gtr=>K (.bool (a > b))
 | .geq=>K (.bool (a ≥ b))
 | _=>False
theorem binH_ok {op:BinOp} {k:IntKind} {a b:Int} {K:CV->Prop} (h:binH op k a b K):binI op k a b K:=by
 cases op<;>try exact h
 ·have h2:=kO_ifn (show kO (if b=0 then none else some (k.wrap (a.tdiv b))) λ r=>K (.int k r) from h);exact h2
 ·have h2:=kO_ifn (show kO (if b=0 then none else some (a.tmod b)) λ r=>K (.int k r) from h);exact h2
def kBinH (T:TypeId->TyI) (op:BinOp) (t:TypeId):SV->SV->(CV->Prop)->Prop
 | .pv (.one (.int k a)), .pv (.one (.int k' b)),K =>
  (match op with
  | .shl=>kO (shlI k a b) λ r=>K (.int k r)
  | .shr=>kO (shrI k a b) λ r=>K (.int k r)
  | _=>k=k'/\binH op k a b K)
 | .pv (.one (.str a)), .pv (.one (.str b)),K =>
  (match op with
  | .add=>kO (catS a b) λ r=>K (.str r)
  | .eql=>K (.bool (a==b))
  | .neq=>K (.bool (a != b))
  | _=>False)
 | x,y,K=>kBinT T op t x y K
theorem kBinH_int {T:TypeId->TyI} {op:BinOp} {t:TypeId} {k k':IntKind} {a b:Int} {K:CV->Prop} (h:kBinH T op t (.pv (.one (.int k a))) (.pv (.one (.int k' b))) K):kBinT T op t (.pv (.one (.int k a))) (.pv (.one (.int k' b))) K:=by
 cases op<;>first|exact h|(exact ⟨h.1,binH_ok h.2⟩)|skip
 ·have h2:=kO_if (show kO (if 0<=b then some (k.wrap (a*2 ^ (min b.toNat k.bits))) else none) λ r=>K (.int k r) from h);exact h2
 ·have h2:=kO_if (show kO (if 0<=b then some (a / (2 ^ (min b.toNat k.bits))) else none) λ r=>K (.int k r) from h)
  rw[<-fdiv_pow]at h2;exact h2
theorem kBinH_str {T:TypeId->TyI} {op:BinOp} {t:TypeId} {a b:List UInt8} {K:CV->Prop} (h:kBinH T op t (.pv (.one (.str a))) (.pv (.one (.str b))) K):kBinT T op t (.pv (.one (.str a))) (.pv (.one (.str b))) K:=by
 cases op<;>first|exact h|skip
 have h2:=kO_if (show kO (if a.length+b.length < 2 ^ 62 then some (a++b) else none) λ r=>K (.str r) from h);exact h2
theorem kBinH_ok {T:TypeId->TyI} {op:BinOp} {t:TypeId} {x y:SV} {K:CV->Prop} (h:kBinH T op t x y K):kBinT T op t x y K:=by
 unfold kBinH at h
 split at h
 ·exact kBinH_int h
 ·exact kBinH_str h
 ·exact h
def kUnH (u:UnOp):SV->(CV->Prop)->Prop
 | .pv (.one (.bool b)),K=>(match u with | .not=>K (.bool (!b))|_=>False)
 | .pv (.one (.int k a)),K=>(match u with
  | .neg=>K (.int k (k.wrap (0-a)))
  | .xor=>K (.int k (notI k a))
  | _=>False)
 | _,_=>False
theorem kUnH_ok {u:UnOp} {x:SV} {K:CV->Prop} (h:kUnH u x K):kUn u x K:=by
 unfold kUnH at h
 split at h
 ·exact h
 ·exact h
 ·exact h.elim
def cellsH (φ:St) (size:Nat):SV->(List Nat->Nat->List CV->Prop)->Prop
 | .pv (.one (.arr id lo n)),K=>kLive (φ.heap id) λ b=>b.sz=size/\kO (okP (lo+n<=b.n)) λ _=>K [id] n (winC lo n size b.cs)
 | .pv (.one (.imm sz n cs)),K=>sz=size/\K [] n cs
 | .pv (.one .emp),K=>K [] 0 []
 | .pv (.one (.str l)),K=>size=1/\K [] l.length ((bsOf l).flatMap (eI .u8))
 | _,_=>False
theorem cellsH_ok {φ:St} {size:Nat} {x:SV} {K K':List Nat->Nat->List CV->Prop} (h:cellsH φ size x K) (hk:∀ a b c,K a b c->K' a b c):cellsG φ size x K':=by
 unfold cellsH at h
 unfold cellsG
 split at h
 ·exact kLive_mono h λ b h=>by obtain ⟨h1,h2⟩:=h;obtain ⟨h2,h3⟩:=kO_if h2;exact ⟨h1,h2,hk _ _ _ h3⟩
 ·exact ⟨h.1,hk _ _ _ h.2⟩
 ·exact hk _ _ _ h
 ·exact ⟨h.1,hk _ _ _ h.2⟩
 ·exact h.elim
def builtinH (T:TypeId->TyI) (b:Builtin) (ats:List TypeId) (xs:List SV) (φ:St) (nid:Nat) (K:Action->Prop):Prop :=
 match b,ats,xs with
 | .append,t::t2::_,[x,y] =>
  (match (T t).kind,(T t2).kind with
  | .slice e, .slice _ | .slice e, .str=>kO ((T e).size) λ size=>kO ((T e).bytes) λ by_=>kO ((T e).zero) λ z=>(Nat.ble by_ 1024&&Nat.beq z.length size)=true/\cellsH φ size y λ rd m ns =>
    (match x with
    | .pv (.one (.arr id lo n))=>kLive (φ.heap id) λ b=>b.sz=size/\kO (appN lo n b.n m) λ n' =>
      K ⟨id::rd,one (.arr nid 0 n'),[(id, .dead),(nid, .live ⟨size,n',winC lo n size b.cs++ns⟩)]⟩
    | .pv (.one .emp)=>kO (appN 0 0 0 m) λ n'=>K ⟨rd,one (.arr nid 0 n'),[(nid, .live ⟨size,n',winC 0 0 size []++ns⟩)]⟩
    | _=>False)
  | .slice e, .int _=>kO ((T e).size) λ size=>kO ((T e).bytes) λ by_=>kO ((T e).zero) λ z=>(Nat.ble by_ 1024&&Nat.beq z.length size)=true ∧
    (match x with
    | .pv (.one .emp)=>y.kI λ k n=>k=.i64/\kO (mkN n n) λ n'=>K ⟨[],one (.arr nid 0 n'),[(nid, .live ⟨size,n',mkC n' z⟩)]⟩
    | _=>False)
  | _,_=>False)
 | .max,_,[x,y]=>x.kI λ k a=>y.kI λ k' b=>k=k'/\K ⟨[],one (.int k (maxI a b)),[]⟩
 | b,ats,xs=>builtinG T b ats xs φ nid K
theorem builtinH_ok {T:TypeId->TyI} {b:Builtin} {ats:List TypeId} {xs:List SV} {φ:St} {nid:Nat} {K:Action->Prop} (h:builtinH T b ats xs φ nid K):builtinG T b ats xs φ nid K:=by
 have key:∀ {x y:SV} {size by_:Nat} {z:List CV},((Nat.ble by_ 1024&&Nat.beq z.length size)=true/\cellsH φ size y λ rd m ns =>
    (match x with
    | .pv (.one (.arr id lo n))=>kLive (φ.heap id) λ b=>b.sz=size/\kO (appN lo n b.n m) λ n' =>
      K ⟨id::rd,one (.arr nid 0 n'),[(id, .dead),(nid, .live ⟨size,n',winC lo n size b.cs++ns⟩)]⟩
    | .pv (.one .emp)=>kO (appN 0 0 0 m) λ n'=>K ⟨rd,one (.arr nid 0 n'),[(nid, .live ⟨size,n',winC 0 0 size []++ns⟩)]⟩
    | _=>False))->(by_<=1024/\z.length=size/\cellsG φ size y λ rd m ns =>
    (match x with
    | .pv (.one (.arr id lo n))=>kLive (φ.heap id) λ b=>b.sz=size/\lo+n<=b.n/\n+m<=maxN ∧
      K ⟨id::rd,one (.arr nid 0 (n+m)),[(id, .dead),(nid, .live ⟨size,n+m,winC lo n size b.cs++ns⟩)]⟩
    | .pv (.one .emp)=>m<=maxN/\K ⟨rd,one (.arr nid 0 m),[(nid, .live ⟨size,m,ns⟩)]⟩
    | _=>False)):=by
  intro x y size by_ z h
  obtain ⟨h1,h2⟩:=h
  simp only[Bool.and_eq_true]at h1
  refine ⟨Nat.le_of_ble_eq_true h1.1,Nat.eq_of_beq_eq_true h1.2,cellsH_ok h2 λ rd m ns h => ?_⟩
  split at h
  ·exact kLive_mono h λ b h=>by obtain ⟨e1,e2⟩:=h;obtain ⟨e2,e3⟩:=kO_if e2;exact ⟨e1,e2.1,e2.2,e3⟩
  ·obtain ⟨e2,e3⟩:=kO_if h
   simp only[winC,Nat.zero_mul,List.drop_nil,List.take_nil,List.nil_append,Nat.zero_add]at e3
   exact ⟨by omega,e3⟩
  ·exact h.elim
 unfold builtinH at h
 split at h
 ·unfold builtinG
  simp only
  split at h
  ·rename_i h1 h2
   rw[h1,h2]
   exact kO_mono h λ _ h=>kO_mono h λ _ h=>kO_mono h λ _ h=>key h
  ·rename_i h1 h2
   rw[h1,h2]
   exact kO_mono h λ _ h=>kO_mono h λ _ h=>kO_mono h λ _ h=>key h
  ·rename_i h1 h2
   rw[h1,h2]
   refine kO_mono h λ _ h=>kO_mono h λ _ h=>kO_mono h λ _ h => ?_
   obtain ⟨h1,h⟩:=h
   simp only[Bool.and_eq_true]at h1
   refine ⟨⟨Nat.le_of_ble_eq_true h1.1,Nat.eq_of_beq_eq_true h1.2⟩,?_⟩
   split at h
   ·obtain ⟨k,n,rfl,h⟩:=SV.kI_elim h
    obtain ⟨e1,h⟩:=h
    obtain ⟨e2,h⟩:=kO_mkN h
    exact ⟨⟨e1,e2.2⟩,h⟩
   ·exact h.elim
  ·exact h.elim
 ·exact h
 ·exact h
def bdL (φ:St) (x:Option Operand) (K:Int->Prop):Prop:=match x with|none=>K 0|some x=>(φ.ev x).kI λ _ i=>K i
theorem bdL_ok {φ:St} {x:Option Operand} {K:Int->Prop} (h:bdL φ x K):φ.bd x 0 K:=by cases x<;>exact h
def actH (T:TypeId->TyI) (op:Op) (φ:St) (nid:Nat) (K:Action->Prop):Prop :=
 match op with
 | .move x | .assign x=>K ⟨[],φ.ev x,[]⟩
 | .pick c a b=>(φ.ev c).kB λ t=>K ⟨[],cond t (φ.ev a) (φ.ev b),[]⟩
 | .extract x i=>(φ.ev x).kT λ ps=>kO ps[i]? λ p=>K ⟨[], .pv p,[]⟩
 | .unOp u _ x=>kUnH u (φ.ev x) λ c=>K ⟨[],one c,[]⟩
 | .binOp op t x y _=>kBinH T op t (φ.ev x) (φ.ev y) λ c=>K ⟨[],one c,[]⟩
 | .convert s d x=>(match (T s).kind,(T d).kind with
  | .int _, .int k=>(φ.ev x).kI λ _ n=>K ⟨[],one (.int k (k.wrap n)),[]⟩
  | .str, .str=>(φ.ev x).kS λ l=>K ⟨[],one (.str l),[]⟩
  | .str, .slice e=>isU8T T e=true/\(φ.ev x).kS λ l=>kO (s2bN l) λ n=>K ⟨[],one (.arr nid 0 n),[(nid, .live ⟨1,n,(bsOf l).flatMap (eI .u8)⟩)]⟩
  | .slice e, .str=>isU8T T e=true/\notStr (φ.ev x)=true/\cellsH φ 1 (φ.ev x) λ rd n cs=>kO (bytesCs cs) λ l=>K ⟨rd,one (.str l),[]⟩
  | _,_=>False)
 | .field t x f=>kO ((T t).fl[f]?) λ q=>kO ((T q.2).size) λ size=>kO ((T q.2).agg) λ b=>(φ.ev x).kA λ cs=>(b || Nat.beq size 1)=true/\kO (getC size (cs.drop q.1)) λ ns=>K ⟨[], .pv (pvOf b ns),[]⟩
 | .fieldAddr t x f=>kO ((T t).fl[f]?) λ q=>kO ((T q.2).size) λ size=>Nat.blt 0 size=true ∧
   @kPtrI (φ.ev x) ⟨(λ id off=>kLive (φ.heap id) λ _=>K ⟨[id],one (.ptr id (off+q.1)),[]⟩),(λ cs=>K ⟨[],one (.ip (cs.drop q.1)),[]⟩)⟩
 | .load t x=>kO ((T t).size) λ size=>kO ((T t).agg) λ b=>(b || Nat.beq size 1)=true ∧
   @kPtrI (φ.ev x) ⟨(λ id off=>kLive (φ.heap id) λ bl=>kO (getC size (bl.cs.drop off)) λ ns=>K ⟨[id], .pv (pvOf b ns),[]⟩),(λ cs=>kO (getC size cs) λ ns=>K ⟨[], .pv (pvOf b ns),[]⟩)⟩
 | .store t x v=>kO ((T t).size) λ size=>(φ.ev v).kC λ ns=>Nat.beq ns.length size=true ∧
   @kPtrI (φ.ev x) ⟨(λ id off=>kLive (φ.heap id) λ bl=>kO (putN off ns bl.cs) λ cs=>K ⟨[id],one .dead,[(id, .live ⟨bl.sz,bl.n,cs⟩)]⟩),(λ _=>False)⟩
 | .alloc t=>kO ((T t).zero) λ cs=>K ⟨[],one (.ptr nid 0),[(nid, .live ⟨1,cs.length,cs⟩)]⟩
 | .box t v=>(φ.ev v).kC λ cs=>K ⟨[],one (.ptr nid 0),[(nid, .live ⟨1,cs.length,cs⟩)]⟩
 | .build t ps=>(match (T t).kind with
  | .agg=>(T t).all=true/\kO ((T t).zero) λ z=>fillFT T φ t z ps.toList λ cs=>K ⟨[], .pv (.agg cs),[]⟩
  | _=>False)
 | .buildSlice t n ps=>(match (T t).kind with
  | .slice e=>kO ((T e).size) λ size=>(Nat.ble (n*size) 4096&&Nat.blt 0 size&&Nat.beq n ps.size)=true/\partsOf φ size 0 ps.toList λ cs=>((T e).zero).isSome=true/\K ⟨[],one (.arr nid 0 (bldN n)),[(nid, .live ⟨size,bldN n,bldC cs⟩)]⟩
  | _=>False)
 | .makeSlice t l c=>(match (T t).kind with
  | .slice e=>kO ((T e).size) λ size=>kO ((T e).zero) λ z=>kO ((T e).bytes) λ by_=>(Nat.ble by_ 1024&&Nat.beq z.length size)=true ∧
    (φ.ev l).kI λ k1 n=>(φ.ev c).kI λ k2 m=>k1=.i64/\k2=.i64/\kO (mkN n m) λ n' =>
     K ⟨[],one (.arr nid 0 n'),[(nid, .live ⟨size,n',mkC n' z⟩)]⟩
  | _=>False)
 | .index t x i=>(match (T t).kind with
  | .str=>(φ.ev x).kS λ l=>(φ.ev i).kI λ _ i=>kO (idxS l i) λ r=>K ⟨[],one (.int .u8 r),[]⟩
  | _=>False)
 | .indexAddr t x i=>(match (T t).kind with
  | .slice e=>kO ((T e).size) λ size=>(φ.ev i).kI λ _ i => @kSlI (φ.ev x) ⟨(λ id lo n=>kLive (φ.heap id) λ b=>b.sz=size/\kO (rowPtr lo i n size) λ off=>K ⟨[id],one (.ptr id off),[]⟩),(λ sz n cs=>sz=size/\kO (rowAt i n size cs) λ cs'=>K ⟨[],one (.ip cs'),[]⟩),False⟩
  | .tarr n e=>kO ((T e).size) λ size=>(φ.ev i).kI λ _ i => @kPtrI (φ.ev x) ⟨(λ id off=>kLive (φ.heap id) λ _=>kO (rowPtr 0 i n size) λ q=>K ⟨[id],one (.ptr id (off+q)),[]⟩),(λ cs=>kO (rowAt i n size cs) λ r=>K ⟨[],one (.ip r),[]⟩)⟩
  | _=>False)
 | .slice t x lo hi none=>(match (T t).kind with
  | .str=>(φ.ev x).kS λ l=>bdL φ lo λ a=>φ.bd hi l.length λ b=>kO (subL l a b) λ r=>K ⟨[],one (.str r),[]⟩
  | .slice e=>kO ((T e).size) λ size => @kSlI (φ.ev x) ⟨(λ id l n=>kLive (φ.heap id) λ bl=>bl.sz=size/\bdL φ lo λ a=>φ.bd hi n λ b=>kO (subN a b n) λ q=>K ⟨[id],one (.arr id (l+q.1) q.2),[]⟩),
    (λ sz n cs=>sz=size/\bdL φ lo λ a=>φ.bd hi n λ b=>kO (subC a b n size cs) λ q=>K ⟨[],one (.imm size q.1 q.2),[]⟩),
    (bdL φ lo λ a=>φ.bd hi 0 λ b=>kO (okP (a=0/\b=0)) λ _=>K ⟨[],one .emp,[]⟩)⟩
  | .tarr m e=>kO ((T e).size) λ size => @kPtrI (φ.ev x) ⟨(λ id off=>kLive (φ.heap id) λ bl=>(bl.sz=size/\bl.n=m/\off=0)/\bdL φ lo λ a=>φ.bd hi m λ b=>kO (subN a b m) λ q=>K ⟨[id],one (.arr id q.1 q.2),[]⟩),(λ _=>False)⟩
  | _=>False)
 | .makeFunc (.func f) first caps=>Nat.beq first.size 0=true/\capsOf φ caps.toList λ cs=>K ⟨[],one (.fn f cs),[]⟩
 | .nilCheck x => @kPtrI (φ.ev x) ⟨(λ id off=>kLive (φ.heap id) λ _=>K ⟨[id],one (.ptr id off),[]⟩),(λ cs=>K ⟨[],one (.ip cs),[]⟩)⟩
 | .call c=>(match c.callee with
  | .builtin b=>builtinH T b c.argTypes.toList (c.args.toList.map φ.ev) φ nid K
  | _=>False)
 | _=>False
theorem bd_mono {φ:St} {x:Option Operand} {d:Nat} {K K':Int->Prop} (h:φ.bd x d K) (hk:∀ i,K i->K' i):φ.bd x d K':=by
 obtain ⟨i,h1,h2⟩:=bd_elim h
 unfold St.bd
 rcases h2 with ⟨rfl,rfl⟩|⟨y,k,rfl,hy⟩
 ·exact hk _ h1
 ·simp only[hy];exact hk _ h1
theorem kI_mono {x:SV} {K K':IntKind->Int->Prop} (h:x.kI K) (hk:∀ k n,K k n->K' k n):x.kI K':=by
 obtain ⟨k,n,rfl,h⟩:=SV.kI_elim h
 exact hk _ _ h
theorem kS_mono {x:SV} {K K':List UInt8->Prop} (h:x.kS K) (hk:∀ l,K l->K' l):x.kS K':=by
 obtain ⟨l,rfl,h⟩:=SV.kS_elim h
 exact hk _ h
theorem kSl_mono {x:SV} {a a':Nat->Nat->Nat->Prop} {b b':Nat->Nat->List CV->Prop} {c c':Prop} (h:x.kSl a b c) (ha:∀ i l n,a i l n->a' i l n) (hb:∀ s n cs,b s n cs->b' s n cs) (hc:c->c'):x.kSl a' b' c':=by
 unfold SV.kSl at h ⊢
 split at h
 ·exact ha _ _ _ h
 ·exact hb _ _ _ h
 ·exact hc h
 ·exact h.elim
theorem bool_size {b:Bool} {size:Nat} (h:(b || Nat.beq size 1)=true):b=false->size=1:=λ hb=>by subst hb;exact Nat.eq_of_beq_eq_true (by simpa using h)
theorem parts_mono {φ:St} {size:Nat}:∀ {l:List (Nat×Operand)} {i:Nat} {K K':List CV->Prop},partsOf φ size i l K->(∀ c,K c->K' c)->partsOf φ size i l K'
 | [],i,K,K',h,hk=>hk _ h
 | (j,x)::r,i,K,K',h,hk=>⟨h.1,kC_mono h.2 λ cs h=>⟨h.1,parts_mono h.2 λ ds h=>hk _ h⟩⟩
theorem actH_ok {T:TypeId->TyI} {o:Oper} {φ:St} {nid:Nat} {K:Action->Prop} (h:actH T o.op φ nid K):actG T o φ nid K:=by
 unfold actH at h
 unfold actG actT
 generalize o.op=op at h ⊢
 cases op<;>try exact h
 all_goals try exact kUnH_ok h
 case binOp=>exact kBinH_ok h
 case convert s d x =>
  simp only at h ⊢
  split at h
  ·rename_i h1 h2;rw[h1,h2];exact h
  ·rename_i h1 h2;rw[h1,h2];exact h
  ·rename_i h1 h2
   rw[h1,h2]
   exact ⟨h.1,kS_mono h.2 λ l h=>kO_s2bN h⟩
  ·rename_i h1 h2
   rw[h1,h2]
   exact ⟨h.1,h.2.1,cellsH_ok h.2.2 λ _ _ _ h=>h⟩
  ·exact h.elim
 case field=>exact kO_mono h λ _ h=>kO_mono h λ _ h=>kO_mono h λ _ h=>kA_mono h λ _ h=>⟨bool_size h.1,h.2⟩
 case fieldAddr=>exact kO_mono h λ _ h=>kO_mono h λ _ h=>⟨by have h1:=h.1;rw[Nat.blt_eq]at h1;omega,h.2⟩
 case load=>exact kO_mono h λ _ h=>kO_mono h λ _ h=>⟨bool_size h.1,h.2⟩
 case store=>exact kO_mono h λ _ h=>kC_mono h λ _ h=>⟨Nat.eq_of_beq_eq_true h.1,h.2⟩
 case buildSlice t n ps =>
  simp only at h ⊢
  split at h
  ·rename_i h1
   rw[h1]
   exact kO_mono h λ size h=>by
    obtain ⟨h1,h2⟩:=h
    simp only[Bool.and_eq_true]at h1
    exact ⟨Nat.le_of_ble_eq_true h1.1.1,by have h3:=h1.1.2;rw[Nat.blt_eq]at h3;omega,Nat.eq_of_beq_eq_true h1.2,h2⟩
  ·exact h.elim
 case makeSlice t l c =>
  simp only at h ⊢
  split at h
  ·rename_i h1
   rw[h1]
   exact kO_mono h λ size h=>kO_mono h λ z h=>kO_mono h λ by_ h=>by
    obtain ⟨h1,h2⟩:=h
    simp only[Bool.and_eq_true]at h1
    refine ⟨Nat.le_of_ble_eq_true h1.1,Nat.eq_of_beq_eq_true h1.2,kI_mono h2 λ k n h=>kI_mono h λ k' m h => ?_⟩
    obtain ⟨e1,e2,e3⟩:=h
    obtain ⟨e3,e4⟩:=kO_mkN e3
    exact ⟨e1,e2,e3.1,e3.2.1,e3.2.2,e4⟩
  ·exact h.elim
 case index t x i =>
  simp only at h ⊢
  split at h
  ·rename_i h1;rw[h1];exact kS_mono h λ l h=>kI_mono h λ k i h=>kO_idxS h
  ·exact h.elim
 case indexAddr t x i =>
  simp only at h ⊢
  split at h
  ·rename_i h1
   rw[h1]
   exact kO_mono h λ size h=>kI_mono h λ k i h=>kSl_mono h (λ id lo n h=>kLive_mono h λ b h=>⟨h.1,kO_rowPtr h.2⟩) (λ s n cs h=>⟨h.1,kO_rowAt h.2⟩) (λ h=>h)
  ·rename_i h1
   rw[h1]
   exact kO_mono h λ size h=>kI_mono h λ k i h=>kPtr_mono h (λ id off h=>kLive_mono h λ b h=>by
    obtain ⟨h2,h3⟩:=kO_rowPtr h
    rw[Nat.zero_add]at h3
    exact ⟨h2,h3⟩) (λ cs h=>kO_rowAt h)
  ·exact h.elim
 case slice t x lo hi mx =>
  cases mx with
  | some _=>exact h.elim
  | none =>
   simp only at h ⊢
   split at h
   ·rename_i h1;rw[h1];exact kS_mono h λ l h=>bd_mono (bdL_ok h) λ a h=>bd_mono h λ b h=>kO_subL h
   ·rename_i h1
    rw[h1]
    exact kO_mono h λ size h=>kSl_mono h (λ id l n h=>kLive_mono h λ bl h=>⟨h.1,bd_mono (bdL_ok h.2) λ a h=>bd_mono h λ b h=>kO_subN h⟩)
     (λ s n cs h=>⟨h.1,by obtain ⟨rfl,h⟩:=h;exact bd_mono (bdL_ok h) λ a h=>bd_mono h λ b h=>kO_subC h⟩) (λ h=>bd_mono (bdL_ok h) λ a h=>bd_mono h λ b h=>kO_okP h)
   ·rename_i h1
    rw[h1]
    exact kO_mono h λ size h=>kPtr_mono h (λ id off h=>kLive_mono h λ bl h=>⟨h.1,bd_mono (bdL_ok h.2) λ a h=>bd_mono h λ b h=>kO_subN h⟩) (λ _ h=>h)
   ·exact h.elim
 case makeFunc fn a b =>
  cases fn with
  | func f=>exact ⟨Nat.eq_of_beq_eq_true h.1,h.2⟩
  | _=>exact h
 case call c =>
  simp only at h ⊢
  split at h
  ·rename_i b hb;rw[hb];exact builtinH_ok h
  ·exact h.elim
end Go.Fm
namespace Go.Fm
variable [Globs]
def opG (P:Unit->Program) (T:TypeId->TyI) (o:Oper) (s:S) (K:Action->Prop):Prop :=
 match o.op with
 | .call c=>(match c.callee with
  | .value x=>(match s.st.ev x with
   | .pv (.one (.fn f caps)) => @callT _ P f caps (c.args.toList.map s.st.ev) s ⟨K⟩
   | _=>False)
  | _=>actH T o.op s.st s.heap.length K)
 | _=>actH T o.op s.st s.heap.length K
theorem opG_opF {P:Unit->Program} {T:TypeId->TyI} {o:Oper} {s:S} {K:Action->Prop} (h:opG P T o s K):opF P T o s K:=by
 unfold opG at h
 unfold opF
 split at h
 ·rename_i c ho
  rw[ho]
  simp only
  split at h
  ·rename_i x hx
   rw[hx]
   simp only
   split at h
   ·rename_i hf;rw[hf];exact h
   ·exact h.elim
  ·rename_i hx
   have h:=actG_eq (actH_ok h)
   split
   ·rename_i x hx2;exact absurd hx2 (hx x)
   ·exact h
 ·rename_i hne
  have h:=actG_eq (actH_ok h)
  split
  ·rename_i c ho;exact absurd ho (hne c)
  ·exact h
def okOps (nt:Nat):List Oper->Bool
 | []=>true
 | o::r=>(match o.dst with|none=>true|some d=>Nat.blt d nt)&&okOps nt r
def wopsN (P:Unit->Program) (T:TypeId->TyI) (all:List Oper) [K:Kn S]:List Oper->S->Prop
 | [],s=>K.go s
 | o::os,s=>guardF all s o λ g=>match g with
   | true=>opG P T o s λ A=>wopsN P T all os (s.app o.dst A)
   | false=>wopsN P T all os (s.app o.dst skipA)
theorem okOps_dst {nt:Nat} {o:Oper} {r:List Oper} (h:okOps nt (o::r)=true):dstOk nt o/\okOps nt r=true:=by
 simp only[okOps,Bool.and_eq_true]at h
 refine ⟨?_,h.2⟩
 unfold dstOk
 cases hd:o.dst with
 | none=>trivial
 | some d =>
  have h1:=h.1
  rw[hd]at h1
  simpa [Nat.blt_eq] using h1
theorem opG_seq {P:Unit->Program} {T:TypeId->TyI} (hT:T=tiOf (P ())) (hm:(P ()).follows .mixedOrders=true) {o:Oper} {s:S} {K:Action->Prop} (h:opG P T o s K):∃ A,ActX (P ()) o s.st s.heap.length A/\K A:=opF_ok hT hm (opG_opF h)
theorem wopsN_seq {P:Unit->Program} {T:TypeId->TyI} (hT:T=tiOf (P ())) (hm:(P ()).follows .mixedOrders=true) {nt:Nat} {all:List Oper}:∀ {os:List Oper} {s:S} {K:S->Prop},okOps nt os=true → @wopsN _ P T all ⟨K⟩ os s →
  ∃ l s',Seq (P ()) nt all os s l s'/\K s'
 | [],s,K,_,h=>⟨[],s, .nil s,h⟩
 | o::os,s,K,hd,h=>by
  obtain ⟨hd1,hd2⟩:=okOps_dst hd
  obtain ⟨g,hg,h⟩:=guardF_ok h
  cases g with
  | true =>
   obtain ⟨A,hA,h⟩:=opG_seq hT hm h
   obtain ⟨l,s',hs,hK⟩:=wopsN_seq hT hm hd2 h
   exact ⟨_,s', .cons o os s s' A true l hd1 hg (.inl ⟨rfl,hA⟩) hs,hK⟩
  | false =>
   obtain ⟨l,s',hs,hK⟩:=wopsN_seq hT hm hd2 h
   exact ⟨_,s', .cons o os s s' skipA false l hd1 hg (.inr ⟨rfl,rfl⟩) hs,hK⟩
theorem W.regionN {P:Unit->Program} {T:TypeId->TyI} (hT:T=tiOf (P ())) {nt k0:Nat} {s:S} {Q:Ex->S->Prop} {id:Nat} {ops:Array Oper} (hd:okOps nt ops.toList=true) (h : @wopsN _ P T ops.toList ⟨λ s'=>Q .normal s'⟩ ops.toList s):W (P ()) nt k0 (.region id ops false) s Q:=λ hm=>by
 obtain ⟨l,s',hs,hq⟩:=wopsN_seq hT hm hd h
 refine ⟨.normal,s',λ C hP hn hk a w R => ?_,hq⟩
 refine wp_region ?_
 have:=hs.text 0 rfl C hP hn a w R (λ e' a' w'=>e'=.normal/\RelX C s'.st a' w') (λ a' w' R'=>⟨rfl,R'⟩)
 rw[List.range_eq_range']
 simpa [Ex.of] using this
def okC (nt:Nat):Code->Bool
 | .region _ ops _=>okOps nt ops.toList
 | .seq x y=>okC nt x&&okC nt y
 | .cond _ x y=>okC nt x&&okC nt y
 | .block _ c=>okC nt c
 | .loop c=>okC nt c
 | _=>true
def noG:List Oper->Bool
 | []=>true
 | o::r=>o.guard.isNone&&noG r
def inl:Code->Bool
 | .region _ ops _=>noG ops.toList
 | .skip=>true
 | .seq x y=>inl x&&inl y
 | _=>false
structure seqT (P:Unit->Program) (nt k0:Nat) (x y:Code) (s:S) [Q:Kx]:Prop where
 get:okC nt x=true->okC nt y=true->W (P ()) nt k0 (.seq x y) s Q.go
structure CutT (k0:Nat) {α:Type} (st:α->S) (G:α->Prop) (s:S):Prop where
 get:∃ v,G v/\Weak k0 s (st v)
end Go.Fm
namespace Go.Fm
variable [Globs]
section
variable {P:Unit->Program} {T:TypeId->TyI} {nt k0:Nat} {s:S} {Q:Ex->S->Prop} {all os:List Oper} {K:S->Prop} {KD:S->Feet->Prop} {acc:Feet} {d:Option Tmp} {op:Op} {ty:TypeId} {p:String} {es:Array Edge} {KA:Action->Prop} {g:Option (Nat×Bool)}
 {env:List (Nat×SV)} {heap:List HS}
end
@[congr] theorem builtinFT_congr {T:TypeId->TyI} {b:Builtin} {ts:List TypeId} {xs ys:List SV} {φ ψ:St} {n m:Nat} {K:Action->Prop} (h0:xs=ys) (h:φ=ψ) (h2:n=m):builtinFT T b ts xs φ n K=builtinFT T b ts ys ψ m K:=by rw[h0,h,h2]
section
variable {T:TypeId->TyI} {φ:St} {nid size:Nat} {K:CV->Prop} {t:TypeId} {k k':IntKind} {a b:Int} {KC:List Nat->Nat->List CV->Prop} {env:List (Nat×SV)} {heap:List HS}
@[congr] theorem kBinH_congr {op:BinOp} {x x' y y':SV} (h1:x=x') (h2:y=y'):kBinH T op t x y K=kBinH T op t x' y' K:=by rw[h1,h2]
@[congr] theorem kUnH_congr {u:UnOp} {x x':SV} (h1:x=x'):kUnH u x K=kUnH u x' K:=by rw[h1]
@[congr] theorem cellsH_congr {ψ:St} {m:Nat} {x y:SV} (h1:φ=ψ) (h2:size=m) (h:x=y):cellsH φ size x KC=cellsH ψ m y KC:=by rw[h1,h2,h]
theorem lk_nil {t:Nat}:lk [] t=one .dead:=rfl
theorem lk_cons {i t:Nat} {v:SV} {r:List (Nat×SV)}:lk ((i,v)::r) t=if i=t then v else lk r t:=rfl
theorem ho_nil {i:Nat}:hOf [] i=.no:=by simp[hOf]
theorem ho_zero {x:HS} {r:List HS}:hOf (x::r) 0=x:=rfl
theorem ho_succ {x:HS} {r:List HS} {i:Nat}:hOf (x::r) (i+1)=hOf r i:=rfl
theorem s1 {x:HS}:setH [] 0 x=[x]:=rfl
theorem s2 {x:HS} {n:Nat}:setH [] (n+1) x=.no::setH [] n x:=rfl
theorem s3 {x y:HS} {r:List HS}:setH (y::r) 0 x=x::r:=rfl
theorem s4 {x y:HS} {r:List HS} {n:Nat}:setH (y::r) (n+1) x=y::setH r n x:=rfl
end
abbrev an {a b:Prop} (x:a) (y:b):a/\b:=⟨x,y⟩
theorem nb_t {a b:Nat} (h:a=b):Nat.beq a b=true:=by subst h;simp
end Go.Fm
namespace Go.Fm
variable [Globs]
def bigK:Nat:=18446744073709551616
def getI {α:Type} (xs:List α) (i:Int):Option α:=if 0<=i then xs[i.toNat]? else none
def app {α:Type} (xs ys:List α):Option (List α):=if (xs++ys).length<=maxN then some (xs++ys) else none
def mk {α:Type} (z:α) (n:Int):Option (List α):=if 0<=n/\n<=maxN then some (List.replicate n.toNat z) else none
def s2b (s:List UInt8):Option (List Int):=if s.length<=maxN then some (bsOf s) else none
def strOf (b:List Int):List UInt8:=b.map λ n=>UInt8.ofNat n.toNat
structure EncOk {α:Type} (e:α->List CV) (k:Nat):Prop where
 len:∀ x,(e x).length=k
 ri:∀ x,riAll (e x)=true
theorem riAll_of_flat:∀ {cs:List CV},riAll cs=true->flatAll cs=true
 | [],_=>rfl
 | c::r,h=>by
  simp only[riAll,Bool.and_eq_true]at h
  simp only[flatAll,Bool.and_eq_true]
  exact ⟨by cases c<;>first|rfl|(simp[CV.ri]at h),riAll_of_flat h.2⟩
def eS (s:List UInt8):List CV:=[.str s]
def eB (b:Bool):List CV:=[.bool b]
def eL {α:Type} (e:α->List CV) (k:Nat) (xs:List α):List CV:=[.imm k xs.length (xs.flatMap e)]
theorem getI_some {α:Type} {xs:List α} {i:Int} {x:α} (h:getI xs i=some x):0<=i/\i < xs.length/\xs[i.toNat]? = some x:=by
 unfold getI at h
 split at h
 ·have:=(List.getElem?_eq_some_iff.1 h).1
  exact ⟨by assumption,by omega,h⟩
 ·cases h
theorem appSome {α:Type} {xs ys zs:List α} (h:app xs ys=some zs):zs=xs++ys/\zs.length<=maxN:=by
 unfold app at h
 split at h
 ·cases h;exact ⟨rfl,by assumption⟩
 ·cases h
theorem mk_some {α:Type} {z:α} {n:Int} {xs:List α} (h:mk z n=some xs):xs=List.replicate n.toNat z/\0<=n/\n<=maxN:=by
 unfold mk at h
 split at h
 ·rename_i h1;cases h;exact ⟨rfl,h1⟩
 ·cases h
theorem subL_some {α:Type} {xs ys:List α} {a b:Int} (h:subL xs a b=some ys):ys=(xs.drop a.toNat).take (b.toNat-a.toNat)/\0<=a/\a<=b/\b<=xs.length/\ys.length=b.toNat-a.toNat:=by
 unfold subL at h
 split at h
 ·rename_i h1
  cases h
  refine ⟨rfl,h1.1,h1.2.1,h1.2.2,?_⟩
  rw[List.length_take,List.length_drop]
  omega
 ·cases h
section
variable {α:Type} {e:α->List CV} {k n m lo q:Nat} {xs ys zs:List α} {x y z:α} {i a b:Int} {ns:List CV}
theorem fAt (ok:EncOk e k) (h:getI xs i=some x) (hn:n=xs.length):rowAt i n k (xs.flatMap e)=some (e x++(xs.drop (i.toNat+1)).flatMap e):=by
 subst hn
 obtain ⟨h1,h2,h3⟩:=getI_some h
 unfold rowAt
 rw[if_pos ⟨h1,h2⟩,flat_drop ok.len]
 obtain ⟨hi,he⟩:=List.getElem?_eq_some_iff.1 h3
 rw[List.drop_eq_getElem_cons hi,he,List.flatMap_cons]
theorem fPtr (h:getI xs i=some x) (hn:n=xs.length):rowPtr 0 i n k=some (i.toNat*k):=by
 subst hn
 obtain ⟨h1,h2,h3⟩:=getI_some h
 unfold rowPtr
 rw[if_pos ⟨h1,h2⟩,Nat.zero_add]
theorem getC_eq {l:List CV} (h:m<=l.length) (h0:0 < m):getC m l=some (l.take m):=by
 have key:∀ (m:Nat) (l:List CV),m<=l.length->takeN m l=some (l.take m):=by
  intro m
  induction m with
  | zero=>intro l _;rfl
  | succ m ih =>
   intro l hl
   cases l with
   | nil=>simp at hl
   | cons c r=>simp only[takeN,List.take_succ_cons,ih r (by simpa using hl),Option.map_some]
 cases m with
 | zero=>omega
 | succ m=>exact key _ _ h
theorem fGet (ok:EncOk e k) (h:getI xs i=some x) (hq:q+m<=k) (hm:0 < m):getC m ((xs.flatMap e).drop (i.toNat*k+q))=getC m ((e x).drop q):=by
 obtain ⟨h1,h2,h3⟩:=getI_some h
 obtain ⟨hi,he⟩:=List.getElem?_eq_some_iff.1 h3
 rw[<-List.drop_drop,flat_drop ok.len,List.drop_eq_getElem_cons hi,he,List.flatMap_cons,List.drop_append_of_le_length (by rw[ok.len];omega),
  getC_eq (by rw[List.length_append,List.length_drop,ok.len];omega) hm,getC_eq (by rw[List.length_drop,ok.len];omega) hm,List.take_append_of_le_length (by rw[List.length_drop,ok.len];omega)]
theorem putN_eq:∀ {off:Nat} {ns cs:List CV},off+ns.length<=cs.length->putN off ns cs=some (over cs off ns)
 | 0,[],cs,_=>by cases cs<;>simp[putN,over]
 | 0,n::ns,c::cs,h=>by
  simp only[putN,putN_eq (off:=0) (ns:=ns) (cs:=cs) (by simpa using h)]
  simp[over]
 | 0,n::ns,[],h=>by simp at h
 | off+1,ns,c::cs,h=>by
  have h':off+ns.length<=cs.length:=by simp only[List.length_cons]at h;omega
  have e1:putN (off+1) ns (c::cs)=(putN off ns cs).map (c::·):=by cases ns<;>rfl
  rw[e1,putN_eq h']
  simp only[Option.map_some,over,List.take_succ_cons,List.cons_append,show off+1+ns.length=(off+ns.length)+1 by omega,List.drop_succ_cons]
 | off+1,ns,[],h=>by simp at h
theorem over_split (A B C:List CV) (q:Nat) (h:q+ns.length<=B.length):over (A++B++C) (A.length+q) ns=A++over B q ns++C:=by
 unfold over
 rw[List.append_assoc A B C,List.take_append,List.take_of_length_le (l:=A) (by omega),show A.length+q-A.length=q by omega,List.take_append_of_le_length (by omega),
  Nat.add_assoc,List.drop_append,List.drop_eq_nil_of_le (by omega:A.length<=A.length+(q+ns.length)),List.nil_append,Nat.add_sub_cancel_left,List.drop_append_of_le_length (by omega)]
 simp only[List.append_assoc]
theorem fPut (ok:EncOk e k) (h:getI xs i=some x) (hx:putN q ns (e x)=some (e y)):putN (i.toNat*k+q) ns (xs.flatMap e)=some ((xs.set i.toNat y).flatMap e):=by
 obtain ⟨h1,h2,h3⟩:=getI_some h
 obtain ⟨hi,he⟩:=List.getElem?_eq_some_iff.1 h3
 obtain ⟨g1,g2⟩:=putN_some hx
 have hsp:xs.flatMap e=(xs.take i.toNat).flatMap e++e x++(xs.drop (i.toNat+1)).flatMap e:=by
  have:xs=xs.take i.toNat++(x::xs.drop (i.toNat+1)):=by rw[<-he,<-List.drop_eq_getElem_cons hi,List.take_append_drop]
  conv=>lhs;rw[this]
  rw[List.flatMap_append,List.flatMap_cons,List.append_assoc]
 have hl:((xs.take i.toNat).flatMap e).length=i.toNat*k:=by rw[flat_len ok.len,List.length_take,Nat.min_eq_left (by omega)]
 rw[putN_eq (by rw[hsp,List.length_append,List.length_append,hl];omega),hsp,<-hl,over_split _ _ _ _ g1,<-g2,List.set_eq_take_append_cons_drop,if_pos hi]
 simp only[List.flatMap_append,List.flatMap_cons,List.append_assoc]
theorem fApp (h:app xs ys=some zs) (hn:n=xs.length) (hm:m=ys.length):appN 0 n n m=some zs.length:=by
 subst hn hm
 obtain ⟨rfl,h2⟩:=appSome h
 unfold appN
 rw[List.length_append]at h2 ⊢
 rw[if_pos ⟨by omega,h2⟩]
theorem fCat (h:app xs ys=some zs) (hn:ns=ys.flatMap e):xs.flatMap e++ns=zs.flatMap e:=by
 subst hn
 obtain ⟨rfl,_⟩:=appSome h
 rw[List.flatMap_append]
theorem fWin (ok:EncOk e k) (hn:n=xs.length):winC 0 n k (xs.flatMap e)=xs.flatMap e:=by
 subst hn
 unfold winC
 rw[Nat.zero_mul,List.drop_zero,List.take_of_length_le (by rw[flat_len ok.len];exact Nat.le_refl _)]
theorem fMk (h:mk z i=some xs):mkN i i=some xs.length:=by
 obtain ⟨rfl,h1,h2⟩:=mk_some h
 unfold mkN
 rw[if_pos ⟨rfl,h1,h2⟩,List.length_replicate]
theorem fSubN (h:subL xs a b=some ys) (hn:n=xs.length):subN a b n=some (a.toNat,ys.length):=by
 subst hn
 obtain ⟨h1,h2,h3,h4,h5⟩:=subL_some h
 unfold subN
 rw[if_pos ⟨h2,h3,h4⟩,h5]
theorem fSubC (ok:EncOk e k) (h:subL xs a b=some ys) (hn:n=xs.length):subC a b n k (xs.flatMap e)=some (ys.length,ys.flatMap e):=by
 subst hn
 obtain ⟨h1,h2,h3,h4,h5⟩:=subL_some h
 unfold subC
 rw[if_pos ⟨h2,h3,h4⟩,h5,flat_drop ok.len,flat_take ok.len,<-h1]
theorem fWinW (ok:EncOk e k) (h:subL xs a b=some ys) (hl:lo=a.toNat):winC lo ys.length k (xs.flatMap e)=ys.flatMap e:=by
 subst hl
 obtain ⟨h1,h2,h3,h4,h5⟩:=subL_some h
 unfold winC
 rw[flat_drop ok.len,flat_take ok.len,h5,<-h1]
theorem fOkW (h:subL xs a b=some ys) (hl:lo=a.toNat) (hn:n=xs.length):okP (lo+ys.length<=n)=some ():=by
 subst hn hl
 obtain ⟨h1,h2,h3,h4,h5⟩:=subL_some h
 unfold okP
 rw[if_pos (by omega)]
theorem fLeW (h:subL xs a b=some ys) (hl:lo=a.toNat) (hn:n=xs.length):lo+ys.length<=n:=by
 subst hn hl
 obtain ⟨h1,h2,h3,h4,h5⟩:=subL_some h
 omega
theorem fAppW (h:subL xs a b=some ys) (hl:lo=a.toNat) (hn:n=xs.length) {us ws:List α} (hx:app ys us=some ws) (hm:m=us.length):appN lo ys.length n m=some ws.length:=by
 subst hn hm hl
 obtain ⟨h1,h2,h3,h4,h5⟩:=subL_some h
 obtain ⟨rfl,g2⟩:=appSome hx
 unfold appN
 rw[List.length_append]at g2 ⊢
 rw[if_pos ⟨by omega,g2⟩]
theorem sub_get (h:subL xs a b=some ys) (h2:getI ys i=some x):getI xs (a.toNat+i.toNat:Nat)=some x:=by
 obtain ⟨rfl,e2,e3,e4,h5⟩:=subL_some h
 obtain ⟨g1,g2,g3⟩:=getI_some h2
 unfold getI
 rw[if_pos (by omega),Int.toNat_natCast]
 rw[List.getElem?_take]at g3
 split at g3
 ·rw[List.getElem?_drop]at g3;exact g3
 ·cases g3
theorem fPtrW (h:subL xs a b=some ys) (hl:lo=a.toNat) (h2:getI ys i=some x):rowPtr lo i ys.length k=some (((a.toNat+i.toNat:Nat):Int).toNat*k):=by
 subst hl
 obtain ⟨g1,g2,g3⟩:=getI_some h2
 unfold rowPtr
 rw[if_pos ⟨g1,g2⟩,Int.toNat_natCast]
theorem fLend {h:Nat->HS} {π:List Nat} {f:Nat} (ok:EncOk e k) (xs:List α):lendAll (lendC h π f) (xs.flatMap e)=some ([],xs.flatMap e):=lendAll_flat (flatAll_flat (λ x=>riAll_of_flat (ok.ri x)) xs)
theorem fRi (ok:EncOk e k) (xs:List α):riAll (xs.flatMap e)=true:=riAll_flat ok.ri xs
end
theorem bytesCs_flat:∀ xs:List Int,bytesCs (xs.flatMap (eI .u8))=some (strOf xs)
 | []=>rfl
 | n::r=>by
  show (bytesCs (r.flatMap (eI .u8))).map _=_
  rw[bytesCs_flat r];rfl
theorem okP_refl {n:Nat}:okP (n<=n)=some ():=by unfold okP;rw[if_pos (Nat.le_refl _)]
theorem fS2b {s:List UInt8} {b:List Int} (h:s2b s=some b):s2bN s=some b.length/\bsOf s=b:=by
 unfold s2b at h
 split at h
 ·rename_i h1
  cases h
  refine ⟨?_,rfl⟩
  unfold s2bN
  rw[if_pos h1];simp[bsOf]
 ·cases h
theorem winE {α:Type} {e:α->List CV} {k:Nat} (ok:EncOk e k):winC 0 0 k []=List.flatMap e []:=by simp[winC]
theorem bsOf_len (s:List UInt8):s.length=(bsOf s).length:=by simp[bsOf]
theorem bS {α β:Type} {o:Option α} {f:α->Option β} {r:β} (h:o.bind f=some r):∃ y,o=some y/\f y=some r:=Option.bind_eq_some_iff.1 h
end Go.Fm
namespace Go.Fm
variable [Globs]
section
variable {h:Nat->HS} {c:CV}
theorem le_int {k:IntKind} {n:Int}:leC h (.int k n) c=(c=.int k n\/c=.dead):=rfl
theorem le_bool {b:Bool}:leC h (.bool b) c=(c=.bool b\/c=.dead):=rfl
theorem le_str {l:List UInt8}:leC h (.str l) c=(c=.str l\/c=.dead):=rfl
theorem le_imm {s n:Nat} {cs:List CV}:leC h (.imm s n cs) c=(c=.imm s n cs\/c=.dead):=rfl
theorem le_ip {cs:List CV}:leC h (.ip cs) c=(c=.ip cs\/c=.dead):=rfl
theorem le_arr {i l n:Nat}:leC h (.arr i l n) c=(c=.arr i l n\/c=.dead):=rfl
theorem le_ptr {i o:Nat}:leC h (.ptr i o) c=(c=.ptr i o\/c=.dead):=rfl
theorem le_opq:leC h .opq c=(c=.opq\/c=.dead):=rfl
theorem le_nilp:leC h .nilp c=(c=.nilp\/c=.dead):=rfl
theorem le_nili:leC h .nili c=(c=.nili\/c=.dead):=rfl
theorem le_dead:leC h .dead c=(c=.dead\/c=.dead):=rfl
theorem le_e1 {s n:Nat} {cs:List CV}:leC h .emp (.imm s n cs)=(n=0/\cs=[]):=rfl
theorem le_e2 {j lo n:Nat}:leC h .emp (.arr j lo n)=(n=0/\(match h j with | .no=>False | .dead=>True | .live b=>b.n<=lo | .deep _=>False)):=rfl
theorem le_e3:leC h .emp .emp=(CV.emp=.emp\/CV.emp=.dead):=rfl
end
def LEb:=an @leE.eq_1 <| an @leE.eq_2 <| an @leS.eq_1 <| an @leS.eq_2 <| an @leP.eq_1 <| an @leP.eq_2 <| an @lePs.eq_1 <| an @lePs.eq_2 <| an @leL.eq_1 <| an @leL.eq_2 <| an @leH.eq_1 <| an @leH.eq_2 <| an @leH.eq_3 <| an @leH.eq_4 <| an @leH.eq_5 <| an @leH.eq_6 <| an @leH.eq_7 <|
 an @le_int <| an @le_bool <| an @le_str <| an @le_imm <| an @le_ip <| an @le_arr <| an @le_ptr <| an @le_opq <| an @le_nilp <| an @le_nili <| an @le_dead <| an @le_e1 <| an @le_e2 <| an @le_e3 <|
 an @lk_nil <| an @lk_cons <| an @ho_nil <| an @ho_zero <| an @ho_succ <| an @eq_self.{1} <| an @true_and <| an @and_true <| an @true_or <| an @or_true <| an @if_true.{1} <| an @if_false.{1} <| an @List.length_nil.{0} <| an @List.flatMap_nil.{0,0} <| @Nat.le_refl
end Go.Fm
namespace Go.Fm
variable [Globs]
open Classical
def heapZ (h:Nat->HS) (fz:List Nat):Nat->HS:=heapOf h (fz.map λ j=>(j,HS.dead))
theorem heapZ_not {h:Nat->HS} {fz:List Nat} {id:Nat} (hn:id ∉ fz):heapZ h fz id=h id :=
 heapOf_not _ _ _ λ p hp he=>by
  obtain ⟨j,hj,rfl⟩:=List.mem_map.1 hp
  exact hn (he▸hj)
theorem heapZ_in {id:Nat}:∀ {fz:List Nat} {h:Nat->HS},id ∈ fz->heapZ h fz id=.dead
 | j::r,h,hm=>by
  show heapZ (upd h j .dead) r id=.dead
  by_cases hr:id ∈ r
  ·exact heapZ_in hr
  ·rw[heapZ_not hr]
   rcases List.mem_cons.1 hm with rfl|hm
   ·simp[upd]
   ·exact absurd hm hr
theorem close {C:Ctx} {ρ:Rho} {φ:St} {a:Act} {w:World} (R:RelAt C ρ φ a w) {D:Nat->Nat->Option Nat} (hD:DeepOk C.w0 C.Sh C.O ρ φ.heap w D) (fz:List Nat) :
  ∃ C':Ctx,Reb C C'/\(C'.Sh=λ k=>C.Sh k\/∃ id,id ∈ fz/\Lies ρ φ.heap D id k)/\RelAt C' ρ { φ with heap:=heapZ φ.heap fz } a w/\DeepOk C'.w0 C'.Sh C'.O ρ (heapZ φ.heap fz) w D:=by
 let Sh2:Nat->Prop:=λ k=>C.Sh k\/∃ id,id ∈ fz/\Lies ρ φ.heap D id k
 have hl:∀ id b,heapZ φ.heap fz id=.live b->φ.heap id=.live b/\id ∉ fz:=λ id b h=>by
  by_cases hm:id ∈ fz
  ·rw[heapZ_in hm]at h;cases h
  ·rw[heapZ_not hm]at h;exact ⟨h,hm⟩
 have hHLe:∀ id,HLe (φ.heap id) (ρ id) (heapZ φ.heap fz id) (ρ id):=λ id=>by
  by_cases hm:id ∈ fz
  ·rw[heapZ_in hm]
   cases φ.heap id<;>trivial
  ·rw[heapZ_not hm];exact HLe.refl _ _
 have hd:∀ id b,heapZ φ.heap fz id=.deep b->φ.heap id=.deep b:=λ id b h=>by
  by_cases hm:id ∈ fz
  ·rw[heapZ_in hm]at h;cases h
  ·rw[heapZ_not hm]at h;exact h
 let O3:Nat->Prop:=λ k=>(∃ id b L,heapZ φ.heap fz id=.live b/\ρ id=some L/\L.b=k)\/∃ id b,heapZ φ.heap fz id=.deep b/\Occ ρ D id k
 have hdn:∀ id b k,heapZ φ.heap fz id=.deep b->Occ ρ D id k->¬ Sh2 k/\(C.w0.heap.size<=k\/C.O k):=λ id b k hb ho=>by
  obtain ⟨g1,g2,g3⟩:=hD.own id b k (hd id b hb) ho
  refine ⟨λ h => ?_,g3⟩
  rcases h with h|⟨id',f1,f2⟩
  ·exact g2 h
  ·have:=f2.inj (.inr ⟨b,hd id b hb,ho⟩) R.hp hD
   subst this
   rw[heapZ_in f1]at hb;cases hb
 have hown:∀ id b L,heapZ φ.heap fz id=.live b->ρ id=some L->L.b < w.heap.size/\¬ Sh2 L.b/\(C.w0.heap.size<=L.b\/C.O L.b):=λ id b L hb hL=>by
  obtain ⟨e1,e2⟩:=hl id b hb
  obtain ⟨g1,g2,g3⟩:=R.hp.own id b L e1 hL
  refine ⟨g1,λ h => ?_,g3⟩
  rcases h with h|⟨id',f1,f2⟩
  ·exact g2 h
  ·exact e2 (f2.inj (.inl ⟨b,L,e1,hL,rfl⟩) R.hp hD▸f1)
 have hsh2:∀ k,Sh2 k->k < w.heap.size/\(C.Sh k\/C.w0.heap.size<=k\/C.O k):=λ k hk=>by
  rcases hk with hk|⟨id,e2,e3⟩
  ·exact ⟨R.sh_lt hk, .inl hk⟩
  ·obtain ⟨g1,g2,g3⟩:=e3.own R.hp hD
   exact ⟨g1, .inr g3⟩
 let C3:Ctx:={ P:=C.P,w0:=w,Sh:=Sh2,O:=O3,rho0:=C.rho0,k0:=C.k0,nt:=C.nt,old:=λ k hk=>⟨(hsh2 k hk).1,λ h=>h.elim (λ ⟨j,b,L,e1,e2,e3⟩=>(hown j b L e1 e2).2.1 (e3▸hk)) λ ⟨j,b,e1,e2⟩=>(hdn j b k e1 e2).1 hk⟩,gl:=λ g cs hg=>(C.gl g cs hg).mono λ k hk=>⟨.inl hk,R.fr.keep k (C.old k hk).1 (C.old k hk).2⟩ }
 refine ⟨C3,⟨rfl,rfl,rfl,rfl,R.fr,λ k h=>h.elim (λ ⟨j,b,L,e1,e2,e3⟩=>e3▸(hown j b L e1 e2).2.2) (λ ⟨j,b,e1,e2⟩=>(hdn j b k e1 e2).2),λ k hk=>.inl hk,λ k hk=>(hsh2 k hk).2⟩,rfl,?_⟩
 have hDk:DeepOk w Sh2 O3 ρ (heapZ φ.heap fz) w D:=hD.keep (λ id b hb=>⟨hd id b hb,rfl⟩) hHLe (λ _ _ _ _ _=>rfl) (Nat.le_refl _) (λ k h=>⟨.inl h,rfl⟩) (λ id b k hb ho=>⟨(hdn id b k hb ho).1, .inr (.inr ⟨id,b,hb,ho⟩)⟩)
   λ id b' L hb hL=>.inr ⟨id,b',L,(hl id b' hb).1,hL,rfl⟩
 refine ⟨?_,hDk⟩
 refine ⟨R.defers,R.nt,λ t=>((R.env t).mono (λ _ _=>rfl) hHLe).incl λ k hk=>.inl hk,⟨λ id b hb => ?_,λ id b L e1 e2=>⟨(hown id b L e1 e2).1,(hown id b L e1 e2).2.1, .inr (.inl ⟨id,b,L,e1,e2,rfl⟩)⟩,λ id id' b b' L L' hb hb' hL hL' he => ?_,D,hDk⟩,λ id hid => ?_, .refl _ _⟩
 ·have hB:=R.hp.blk id b (hl id b hb).1
  show RB w Sh2 ρ (heapZ φ.heap fz) id b
  unfold RB at hB ⊢
  cases hL:ρ id with
  | none=>rw[hL]at hB;exact hB
  | some L =>
   rw[hL]at hB
   refine ⟨hB.1,hB.2.1,hB.2.2.1,λ j c hc => ?_⟩
   obtain ⟨u,hu,hr⟩:=hB.2.2.2 j c hc
   exact ⟨u,hu,(hr.mono (λ _ _=>rfl) hHLe).incl λ k hk=>.inl hk⟩
 ·exact R.hp.inj id id' b b' L L' (hl id b hb).1 (hl id' b' hb').1 hL hL' he
 ·obtain ⟨g1,g2⟩:=R.init id hid
  refine ⟨?_,g2⟩
  show heapZ φ.heap fz id≠.no
  by_cases hm:id ∈ fz
  ·rw[heapZ_in hm];simp
  ·rw[heapZ_not hm];exact g1
def callZ (fz π:List Nat) (nid:Nat) (rd:List Nat) (k0:Nat) (r:SV) (h1:List HS):Action :=
 ⟨rd,backS (sig π k0 nid) true r,fz.map (λ j=>(j,HS.dead))++backHp (sig π k0 nid) true 0 h1⟩
theorem call_actz {P:Program} {o:Oper} {φ:St} {nid:Nat} {c:Call} {x:Operand} {f:FuncId} {caps:List CV} {ps1 ps:List PV} {π:List Nat} {fuel:Nat} {rd1 rd2:List Nat} {bs h1:List HS} {r:SV} {fz:List Nat}
  (hz1:allIn (π++fz) (rd1++rd2)=true) (hz2:fz.all (λ x=>(ixOf π x).isNone&&Nat.blt x nid)=true) (ho:o.op=.call c) (hc:c.callee=.value x) (hx:φ.ev x=one (.fn f caps)) (hps:argsP (c.args.toList.map φ.ev)=some ps1)
  (hl:lendPs (lendP φ.heap π fuel) (ps1++caps.map .one)=some (rd1,ps)) (hb:lendH φ.heap π fuel π=some (rd2,bs)) (hnd:nodB π=true) (hk:keepOk bs h1=true)
  (hm:Meets P f ps bs r h1):ActX P o φ nid (callZ fz π nid (rd1++rd2) bs.length r h1):=by
 intro C hP φ' a w hag hR hd K Q hK
 obtain ⟨C1,hreb,ρ,R⟩:=hR
 have hevx:φ'.ev x=φ.ev x:=hag.env x (by simp[ho,Op.operands,Call.operands,hc])
 have hevs:c.args.toList.map φ'.ev=c.args.toList.map φ.ev:=List.map_congr_left λ y hy=>hag.env y (by simp only[ho,Op.operands,Call.operands];exact Array.mem_append_right _ (by simpa using hy))
 have hag1:∀ y ∈ rd1++rd2,φ'.heap y=φ.heap y:=hag.hp
 have hl':=lendPs_congr hl (g':=lendP φ'.heap π fuel) (λ c c' r e1 e2=>lendP_congr e1 (λ y hy=>hag1 y (List.mem_append_left _ (e2 y hy))))
 have hb':=lendH_congr hb (h':=φ'.heap) (λ y hy=>hag1 y (List.mem_append_right _ hy))
 obtain ⟨hbl,hbm,hbg⟩:=lendH_some hb'
 have hlen1:bs.length=π.length:=hbl
 have hfzπ:∀ id,id ∈ π->id ∉ fz:=λ id h1 h2=>by
  have:=List.all_eq_true.1 hz2 id h2
  simp only[Bool.and_eq_true,Option.isNone_iff_eq_none]at this
  have h:=ixOf_mem h1
  rw[this.1]at h
  cases h
 have hfzn:∀ id,id ∈ fz->id < nid:=λ id h2=>by
  have:=List.all_eq_true.1 hz2 id h2
  simp only[Bool.and_eq_true]at this
  exact Nat.le_of_ble_eq_true this.2
 -- the callee's value and the arguments
 have hfx:=R.ev x
 rw[hevx,hx]at hfx
 obtain ⟨vsc,hvx,hvl,hvp⟩:=hfx
 have hpm:=argsP_some hps
 have hargs:∀ (i:Nat) (p:PV),(ps1++caps.map .one)[i]? = some p->∃ u:Value,(c.args.toList.map a.eval++vsc)[i]? = some u/\RPV w C1.Sh ρ φ'.heap u p:=by
  have hl1:ps1.length=c.args.toList.length:=by
   have:=congrArg List.length hpm
   simpa using this.symm
  intro i p hp
  by_cases hi:i < ps1.length
  ·rw[List.getElem?_append_left hi]at hp
   rw[List.getElem?_append_left (by simpa [<-hl1] using hi)]
   have hi2:i < c.args.toList.length:=by omega
   refine ⟨a.eval c.args.toList[i],by rw[List.getElem?_map,List.getElem?_eq_getElem hi2];rfl,?_⟩
   have h1:=R.ev c.args.toList[i]
   have h2:φ'.ev c.args.toList[i]=.pv p:=by
    have:(c.args.toList.map φ'.ev)[i]? = some (.pv p):=by rw[hevs,hpm,List.getElem?_map,hp];rfl
    rw[List.getElem?_map,List.getElem?_eq_getElem hi2]at this
    exact Option.some.inj this
   rw[h2]at h1
   exact h1
  ·have hi:=Nat.le_of_not_lt hi
   rw[List.getElem?_append_right hi]at hp
   rw[List.getElem?_append_right (by simpa [<-hl1] using hi)]
   rw[List.getElem?_map]at hp
   cases hci:caps[i-ps1.length]? with
   | none=>rw[hci]at hp;cases hp
   | some c0 =>
    rw[hci]at hp
    cases hp
    obtain ⟨u,hu,id,off,rfl,hr⟩:=hvp _ _ hci
    refine ⟨u,by simpa [<-hl1] using hu,?_⟩
    exact hr
 -- the callee's beginning
 let F:Nat->Prop:=λ id=>id ∈ rd1++rd2\/id ∈ fz
 obtain ⟨D,HD⟩:=R.hp.dp
 let Sh2:Nat->Prop:=λ k=>C1.Sh k\/∃ id,id ∉ π/\F id/\Lies ρ φ'.heap D id k
 let ρ2:Rho:=λ j=>(π[j]?).bind ρ
 let O2:Nat->Prop:=λ k=>∃ id,id ∈ π/\Lies ρ φ'.heap D id k
 have hbs:∀ j id,π[j]? = some id->∀ l,HLe (φ'.heap id) l (hOf bs j) l:=λ j id hj l=>by
  rcases hbg j id hj with ⟨e1,e2⟩|⟨b,cs,r,e1,e2,e3,e4⟩|⟨b,cs,r,e1,e2,e3,e4⟩
  ·rw[e1,hOf_get e2];trivial
  ·rw[e1,hOf_get e2];exact ⟨rfl,rfl,rfl⟩
  ·rw[e1,hOf_get e2];exact ⟨rfl,rfl,rfl⟩
 have hρ2:∀ j id,π[j]? = some id->ρ2 j=ρ id:=λ j id hj=>by simp only[ρ2,hj,Option.bind_some]
 have H:Lent w C1.Sh ρ φ'.heap π F Sh2 ρ2 (hOf bs) :=
  ⟨R.hp.blk,λ k hk=>.inl hk,λ id b L e1 e2 e3 e4=>.inr ⟨id,e2,e3, .inl ⟨b,L,e1,e4,rfl⟩⟩,λ id b e1 e2 e3=>⟨D id,HD.at_ id b e1,λ L hL=>.inr ⟨id,e2,e3, .inr ⟨b,e1, .inl ⟨L,hL,rfl⟩⟩⟩,λ p k hp=>.inr ⟨id,e2,e3, .inr ⟨b,e1, .inr ⟨p,hp⟩⟩⟩⟩,λ j id hj=>⟨hρ2 j id hj,λ _=>hbs j id hj _⟩⟩
 have hold:∀ k,Sh2 k->k < w.heap.size/\¬ O2 k:=λ k hk=>by
  rcases hk with hk|⟨id,e2,e3,e4⟩
  ·exact ⟨R.sh_lt hk,λ ⟨id,e0,e1⟩=>(e1.own R.hp HD).2.1 hk⟩
  ·exact ⟨(e4.own R.hp HD).1,λ ⟨id',g0,g1⟩=>e2 (g1.inj e4 R.hp HD▸g0)⟩
 let C2:Ctx:={ P:=C1.P,w0:=w,Sh:=Sh2,O:=O2,rho0:=ρ2,k0:=bs.length,nt:=0,old:=hold,gl:=λ g cs hg=>(C1.gl g cs hg).mono λ k hk=>⟨.inl hk,R.fr.keep k (C1.old k hk).1 (C1.old k hk).2⟩ }
 have hlive:∀ j b',hOf bs j=.live b'->∃ id b r,π[j]? = some id/\φ'.heap id=.live b/\b'.sz=b.sz/\b'.n=b.n/\lendAll (lendC φ'.heap π fuel) b.cs=some (r,b'.cs)/\∀ y ∈ r,y ∈ rd2:=λ j b' hj=>by
  have hjl:=hOf_ne (l:=bs) (j:=j) (by rw[hj];simp)
  have hjl':j < π.length:=by omega
  rcases hbg j _ (List.getElem?_eq_getElem hjl') with ⟨e1,e2⟩|⟨b,cs,r,e1,e2,e3,e4⟩|⟨b,cs,r,e1,e2,e3,e4⟩
  ·rw[hOf_get e2]at hj;cases hj
  ·rw[hOf_get e2]at hj;cases hj;exact ⟨_,b,r,List.getElem?_eq_getElem hjl',e1,rfl,rfl,e3,e4⟩
  ·rw[hOf_get e2]at hj;cases hj
 have hnd':=nodB_spec hnd
 have hHR:HeapRel w Sh2 O2 ρ2 (hOf bs) w:=by
  refine ⟨λ j b' hj => ?_,λ j b' L hj hL => ?_,λ j j' b b' L L' hj hj' hL hL' he => ?_,_,HD.lent H hb' hnd' (λ y hy=>.inl (List.mem_append_right _ hy)) λ id b k hm e1 e2=>⟨λ h=>(hold _ h).2 ⟨id,hm, .inr ⟨b,e1,e2⟩⟩, .inr ⟨id,hm, .inr ⟨b,e1,e2⟩⟩⟩⟩
  ·obtain ⟨id,b,r,e0,e1,e2,e3,e4,e5⟩:=hlive j b' hj
   have hB:=R.hp.blk id b e1
   unfold RB at hB ⊢
   rw[hρ2 j id e0]
   obtain ⟨g1,g2⟩:=lendAll_some e4
   cases hL:ρ id with
   | none =>
    rw[hL]at hB
    simp only at hB ⊢
    rw[hB.1]at g1
    exact ⟨List.eq_nil_of_length_eq_zero g1,by rw[e3];exact hB.2⟩
   | some L =>
    rw[hL]at hB
    simp only at hB ⊢
    refine ⟨by rw[g1,e2,e3];exact hB.1,by rw[g1];exact hB.2.1,by rw[e2];exact hB.2.2.1,λ i c' hc' => ?_⟩
    obtain ⟨c0,r0,f1,f2,f3⟩:=g2 i c' hc'
    obtain ⟨u,hu,hr⟩:=hB.2.2.2 i c0 f1
    exact ⟨u,hu,lendC_ok H fuel c0 c' r0 u f2 (λ y hy=>.inl (List.mem_append_right _ (e5 y (f3 y hy)))) hr⟩
  ·obtain ⟨id,b,r,e0,e1,_⟩:=hlive j b' hj
   rw[hρ2 j id e0]at hL
   obtain ⟨g1,g2,g3⟩:=R.hp.own id b L e1 hL
   have hO:O2 L.b:=⟨id,List.mem_of_getElem? e0, .inl ⟨b,L,e1,hL,rfl⟩⟩
   exact ⟨g1,λ h=>(hold _ h).2 hO, .inr hO⟩
  ·obtain ⟨id,b0,r,e0,e1,_⟩:=hlive j b hj
   obtain ⟨id',b0',r',e0',e1',_⟩:=hlive j' b' hj'
   rw[hρ2 j id e0]at hL
   rw[hρ2 j' id' e0']at hL'
   have:=R.hp.inj id id' b0 b0' L L' e1 e1' hL hL' he
   subst this
   exact hnd' j j' id e0 e0'
 have hbno:∀ id,id < bs.length->hOf bs id≠.no:=λ j hj=>by
  rcases hbg j _ (List.getElem?_eq_getElem (by omega)) with ⟨e1,e2⟩|⟨b,cs,r,e1,e2,e3,e4⟩|⟨b,cs,r,e1,e2,e3,e4⟩
  ·rw[hOf_get e2];simp
  ·rw[hOf_get e2];simp
  ·rw[hOf_get e2];simp
 obtain ⟨hpl,hpg⟩:=lendPs_some hl'
 have hvlen:(c.args.toList.map a.eval++vsc).length=ps.length:=by
  rw[hpl]
  have:=congrArg List.length hpm
  simp only[List.length_map]at this
  simp only[List.length_append,List.length_map,this,hvl]
 have hserve:=hm C2 (c.args.toList.map a.eval++vsc) (hreb.P.trans hP) rfl hvlen (λ i p hp=>by
  obtain ⟨p0,r0,e1,e2,e3⟩:=hpg i p hp
  obtain ⟨u,hu,hr⟩:=hargs i p0 e1
  exact ⟨u,hu,lendP_ok H e2 (λ y hy=>.inl (List.mem_append_left _ (e3 y hy))) hr⟩) hHR hbno
 -- the run
 have hrun:(execOp a.eval o).run P w=(callFunc f (c.args.toList.map a.eval++vsc).toArray).run P w:=by
  have:(c.args.toList.map a.eval++vsc).toArray=c.args.map a.eval++vsc.toArray:=by
   apply Array.ext'
   simp
  simp[execOp,ho,resolve,hc,hvx,Deferred.ofValue,invoke,this]
 have hfin:∀ (v:Value) (w':World),(∃ (ρ':Rho) (Sh':Nat->Prop),HeapRel w Sh' O2 ρ' (hOf h1) w'/\RSV w' Sh' ρ' (hOf h1) v r ∧
   (∀ id,id < bs.length->hOf h1 id≠.no/\ρ' id=ρ2 id)/\Fr w O2 w'/\(∀ k,Sh2 k->Sh' k) ∧
   (∀ k,Sh' k->k < w'.heap.size/\(Sh2 k\/w.heap.size<=k\/O2 k)))->K (a.put o.dst v) w':=by
  intro v w' ⟨ρ',Sh',g1,g2,g3,g4,g5,g6⟩
  have hkb:=keepOk_get hk
  obtain ⟨Cz,hrebz,hShz,Rz,HDz⟩:=close R HD fz
  obtain ⟨C3,ρ3,hreb3,R3,hv3⟩:=merge Rz HDz (π:=π) (nid:=nid) (Sh2:=Sh2) (O2:=O2) (Sh':=Sh') (bs:=bs) (h1:=h1) (keep:=true) (ρ2:=ρ2) (ρ':=ρ') (w':=w') hnd' hlen1
   (λ id hid=>by
    obtain ⟨j,hj⟩:=List.getElem?_of_mem hid
    show heapZ φ'.heap fz id≠.no
    rw[heapZ_not (hfzπ id hid)]
    rcases hbg j id hj with ⟨e1,_⟩|⟨b,cs,r,e1,_⟩|⟨b,cs,r,e1,_⟩<;>rw[e1]<;>simp)
   (λ i hi=>by
    have hg:(backHp (sig π bs.length nid) (true) 0 h1)[bs.length+i]? = some (nid+i,backH (sig π bs.length nid) (true) h1[bs.length+i]):=by
     rw[backHp_get,List.getElem?_eq_getElem hi]
     simp only[Option.map_some,Nat.zero_add,sig]
     rw[if_neg (by omega),Nat.add_sub_cancel_left]
    show heapZ φ'.heap fz (nid+i)=.no
    rw[heapZ_not (λ h=>absurd (hfzn _ h) (by omega))]
    exact hag.fresh _ (List.mem_append_right _ (List.mem_of_getElem? hg)) (Nat.le_add_right _ _))
   (λ k hk=>by
    rw[hShz]at hk
    rcases hk with hk|⟨id,e2,e3⟩
    ·exact .inl hk
    ·exact .inr ⟨id,λ h=>hfzπ id h e2, .inr e2,e3⟩)
   (λ _ k hk=>by
    rw[hShz]
    rcases hk with hk|⟨id,e2,e3,e4⟩
    ·exact .inl hk
    ·refine .inr ⟨id,?_,e4⟩
     rcases e3 with e3|e3
     ·rcases List.mem_append.1 (allIn_mem hz1 id e3) with h|h
      ·exact absurd h e2
      ·exact h
     ·exact e3)
   (λ k ⟨id,e0,e1⟩=>Lies.hO ⟨id,e0,by unfold Lies at e1 ⊢;rw[show (⟨φ'.env,heapZ φ'.heap fz⟩:St).heap id=φ'.heap id from heapZ_not (hfzπ id e0)];exact e1⟩) hρ2
   (λ j id hj l=>by
    have hj':j < bs.length:=by have:=(List.getElem?_eq_some_iff.1 hj).1;omega
    show HLe (heapZ φ'.heap fz id) l (hOf h1 j) l
    rw[heapZ_not (hfzπ id (List.mem_of_getElem? hj))]
    exact HLe.trans (hbs j id hj l) (hkb j hj' l))
   g1 g3 g4 g5 g6
  refine hK _ _ ⟨C3,(hreb.trans hrebz).trans hreb3,ρ3,?_⟩
  have e:heapOf (heapZ φ'.heap fz) (backHp (sig π bs.length nid) true 0 h1)=heapOf φ'.heap (fz.map (λ j=>(j,HS.dead))++backHp (sig π bs.length nid) true 0 h1):=by
   unfold heapZ heapOf;rw[List.foldl_append]
  have R4:=R3.put (λ t ht=>by rw[((hreb.trans hrebz).trans hreb3).nt];exact hd t ht) (hv3 v r g2)
  simp only[e]at R4
  exact R4
 unfold Oper.wp
 rw[hrun]
 unfold Serves at hserve
 generalize (callFunc f (c.args.toList.map a.eval++vsc).toArray).run P w=res at hserve ⊢
 cases res with
 | halt h w'=>exact hserve.elim
 | ok n w' =>
  cases n<;>try exact hserve.elim
  ·exact hfin _ _ hserve
  ·rename_i g as
   refine Calls.mono hserve λ e w'' he => ?_
   cases e with
   | returned v=>exact hfin v w'' he
   | panicked ch=>exact he.elim
   | outgrown=>exact he.elim
end Go.Fm
namespace Go.Fm
variable [Globs]
variable {P:Program} {o:Oper} {φ:St} {nid:Nat}
theorem nilGuard (op:BinOp) (t:TypeId) (x:Operand) (v:Value):eqGuard op t x (.const .nilIface) v .nilIface=pure ():=by
 cases op<;>cases v<;>first|rfl|(cases x<;>rfl)
theorem ok_nilE {op:BinOp} {t yt:TypeId} {x:Operand} {c:CV} {b:Bool} (ho:o.op=.binOp op t x (.const .nilIface) yt) (hx:φ.ev x=one c) (hk:kindF P t=.iface)
  (hc:c=.nili/\b=true\/(∃ tt n,c=.ifc tt n)/\b=false\/c=.opq/\b=false) {r:Bool} (hop:op=.eql/\r=b\/op=.neq/\r = !b):ActOk P o φ nid ⟨[],one (.bool r),[]⟩ :=
 .quiet λ C φ' ac w ρ hP hag R=>by
  have h1:=R.ev x
  rw[hag.env x (by simp[ho,Op.operands]),hx]at h1
  obtain ⟨ms,hms⟩:=kindF_iface hk
  have key:(Op.equal t (ac.eval x) .nilIface).run P w=.ok b w:=by
   unfold Op.equal Op.maxDepth
   rw[show (10000:Nat)=9999+1 from rfl]
   unfold Op.equalIn
   rcases hc with ⟨rfl,rfl⟩|⟨⟨tt,n,rfl⟩,rfl⟩|⟨rfl,rfl⟩
   ·have h2:RI w C.Sh (ac.eval x) .nili:=h1
    generalize ac.eval x=v at h2
    cases h2
    simp[run_underlying hms]
   ·have h2:RI w C.Sh (ac.eval x) (.ifc tt n):=h1
    generalize ac.eval x=v at h2
    cases h2
    simp[run_underlying hms]
   ·have h2:RI w C.Sh (ac.eval x) .opq:=h1
    generalize ac.eval x=v at h2
    cases h2
    simp[run_underlying hms]
  refine ⟨.bool r,?_, .of_RI (.bool _)⟩
  have hy:ac.eval (.const .nilIface)=.nilIface:=rfl
  have hev:ac.eval x=.nilIface\/∃ d u,ac.eval x=.iface d u:=by
   rcases hc with ⟨rfl,rfl⟩|⟨⟨tt,n,rfl⟩,rfl⟩|⟨rfl,rfl⟩
   ·have h2:RI w C.Sh (ac.eval x) .nili:=h1
    generalize ac.eval x=v at h2
    cases h2
    exact .inl rfl
   ·have h2:RI w C.Sh (ac.eval x) (.ifc tt n):=h1
    generalize ac.eval x=v at h2
    cases h2
    exact .inr ⟨_,_,rfl⟩
   ·have h2:RI w C.Sh (ac.eval x) .opq:=h1
    generalize ac.eval x=v at h2
    cases h2
    exact .inr ⟨_,_,rfl⟩
  rcases hev with e|⟨d,u,e⟩
  ·rw[e]at key
   rcases hop with ⟨rfl,rfl⟩|⟨rfl,rfl⟩
   ·simp only[execOp,ho,hy,e,Sem.run_bind,nilGuard,Sem.run_pure,Result.andThen_ok,binOp,key]
   ·simp only[execOp,ho,hy,e,Sem.run_bind,nilGuard,Sem.run_pure,Result.andThen_ok,binOp,key]
  ·rw[e]at key
   rcases hop with ⟨rfl,rfl⟩|⟨rfl,rfl⟩
   ·simp only[execOp,ho,hy,e,Sem.run_bind,nilGuard,Sem.run_pure,Result.andThen_ok,binOp,key]
   ·simp only[execOp,ho,hy,e,Sem.run_bind,nilGuard,Sem.run_pure,Result.andThen_ok,binOp,key]
theorem flat3 {t:TypeId} (h:flatF P t=some [3]):∃ i,P.info? t=some i/\i.comparable=true/\P.underlying t=some (.int .i64):=by
 unfold flatF at h
 split at h
 ·split at h
  ·rename_i fs hu hc
   generalize fs.toList=l at h
   cases l with
   | nil=>cases h
   | cons f r =>
    unfold flatL at h
    split at h
    ·split at h<;>first|(cases hq:flatL P 1 r<;>rw[hq]at h<;>cases h)|cases h
    ·cases h
  ·cases h
 ·rename_i hu
  split at h
  ·rename_i i hi
   split at h
   ·rename_i hc
    exact ⟨i,hi,hc,hu⟩
   ·cases h
  ·cases h
 ·cases h
theorem ok_ifc {op:BinOp} {t yt tt:TypeId} {x y:Operand} {c:CV} {m:Int} {b:Bool} (ho:o.op=.binOp op t x y yt) (hx:φ.ev x=one c) (hy:φ.ev y=one (.ifc tt m)) (hk:kindF P t=.iface) (hf:flatF P tt=some [3])
  (hc:c=.nili/\b=false\/∃ n,c=.ifc tt n/\b=(n==m)) {r:Bool} (hop:op=.eql/\r=b\/op=.neq/\r = !b):ActOk P o φ nid ⟨[],one (.bool r),[]⟩ :=
 .quiet λ C φ' ac w ρ hP hag R=>by
  have h1:=R.ev x
  have h2:=R.ev y
  rw[hag.env x (by simp[ho,Op.operands]),hx]at h1
  rw[hag.env y (by simp[ho,Op.operands]),hy]at h2
  obtain ⟨ms,hms⟩:=kindF_iface hk
  obtain ⟨i,hi,hcm,hu⟩:=flat3 hf
  have g2:RI w C.Sh (ac.eval y) (.ifc tt m):=h2
  have ey:ac.eval y=.iface tt (.int .i64 m):=by
   generalize ac.eval y=v at g2
   cases g2;rfl
  have key:(Op.equal t (ac.eval x) (.iface tt (.int .i64 m))).run P w=.ok b w/\(eqGuard op t x y (ac.eval x) (.iface tt (.int .i64 m))).run P w=.ok () w:=by
   rcases hc with ⟨rfl,rfl⟩|⟨n,rfl,rfl⟩
   ·have h3:RI w C.Sh (ac.eval x) .nili:=h1
    generalize ac.eval x=v at h3
    cases h3
    refine ⟨?_,?_⟩
    ·unfold Op.equal Op.maxDepth
     rw[show (10000:Nat)=9999+1 from rfl]
     unfold Op.equalIn
     simp[run_underlying hms]
    ·rw[eqGuard_nil_iface,Sem.run_pure]
   ·have h3:RI w C.Sh (ac.eval x) (.ifc tt n):=h1
    generalize ac.eval x=v at h3
    cases h3
    refine ⟨?_,?_⟩
    ·unfold Op.equal Op.maxDepth
     rw[show (10000:Nat)=9998+1+1 from rfl]
     unfold Op.equalIn
     simp only[Sem.run_bind,run_underlying hms,Result.andThen_ok,ne_eq,not_true_eq_false,if_false]
     unfold typeInfo
     simp only[Sem.run_bind,run_program,Result.andThen_ok,hi,Sem.run_pure,hcm,Bool.not_true,Bool.false_eq_true,if_false]
     unfold Op.equalIn
     simp[run_underlying hu]
    ·rw[eqGuard_at_iface,Sem.run_pure]
  refine ⟨.bool r,?_, .of_RI (.bool _)⟩
  have hev:ac.eval x=.nilIface\/∃ d u,ac.eval x=.iface d u:=by
   rcases hc with ⟨rfl,rfl⟩|⟨n,rfl,rfl⟩
   ·have h2:RI w C.Sh (ac.eval x) .nili:=h1
    generalize ac.eval x=v at h2
    cases h2
    exact .inl rfl
   ·have h2:RI w C.Sh (ac.eval x) (.ifc tt n):=h1
    generalize ac.eval x=v at h2
    cases h2
    exact .inr ⟨_,_,rfl⟩
  rcases hev with e|⟨d,u,e⟩
  ·rw[e]at key
   rcases hop with ⟨rfl,rfl⟩|⟨rfl,rfl⟩
   ·simp only[execOp,ho,ey,e,Sem.run_bind,key.2,Sem.run_pure,Result.andThen_ok,binOp,key.1]
   ·simp only[execOp,ho,ey,e,Sem.run_bind,key.2,Sem.run_pure,Result.andThen_ok,binOp,key.1]
  ·rw[e]at key
   rcases hop with ⟨rfl,rfl⟩|⟨rfl,rfl⟩
   ·simp only[execOp,ho,ey,e,Sem.run_bind,key.2,Sem.run_pure,Result.andThen_ok,binOp,key.1]
   ·simp only[execOp,ho,ey,e,Sem.run_bind,key.2,Sem.run_pure,Result.andThen_ok,binOp,key.1]
theorem ok_mkI {tt:TypeId} {x:Operand} {n:Int} (ho:o.op=.makeInterface tt x) (hx:φ.ev x=one (.int .i64 n)) (hf:flatF P tt=some [3]):ActOk P o φ nid ⟨[],one (.ifc tt n),[]⟩ :=
 .quiet λ C φ' ac w ρ hP hag R=>by
  have h1:=R.ev x
  rw[hag.env x (by simp[ho,Op.operands]),hx]at h1
  obtain ⟨i,hi,hcm,hu⟩:=flat3 hf
  have g1:RI w C.Sh (ac.eval x) (.int .i64 n):=h1
  have ex:ac.eval x=.int .i64 n:=by
   generalize ac.eval x=v at g1
   cases g1;rfl
  refine ⟨.iface tt (.int .i64 n),?_, .of_RI (.ifc _ _)⟩
  simp only[execOp,ho,ex,Instr.makeInterface,Sem.run_bind,run_underlying hu,Result.andThen_ok,Sem.run_pure]
end Go.Fm
namespace Go.Fm
variable [Globs]
def CV.men (id:Nat):CV->Prop
 | .arr i _ _=>i=id
 | .ptr i _=>i=id
 | .fn _ caps=>∃ o,CV.ptr id o ∈ caps
 | _=>False
def PV.men (id:Nat):PV->Prop
 | .one c=>c.men id
 | .agg cs=>∃ c ∈ cs,c.men id
def SV.men (id:Nat):SV->Prop
 | .pv p=>p.men id
 | .tup ps=>∃ p ∈ ps,p.men id
section
variable {w:World} {Sh:Nat->Prop} {ρ:Rho} {h h2:Nat->HS} {v:Value}
theorem RPtr.men {id off:Nat} (hr:RPtr ρ h v id off):h id≠.no:=λ e=>by
 unfold RPtr at hr
 rw[e]at hr
 exact hr
theorem RV.men {c:CV} (hr:RV w Sh ρ h v c) {id:Nat} (hm:c.men id):h id≠.no:=by
 cases c with
 | arr i lo n =>
  cases hm
  intro e
  simp only[RV,e]at hr
 | ptr i off=>cases hm;exact RPtr.men hr
 | fn f caps =>
  obtain ⟨vs,_,_,hp⟩:=hr
  obtain ⟨o,hm⟩:=hm
  obtain ⟨i,hi⟩:=List.getElem?_of_mem hm
  obtain ⟨u,_,id',off,he,hq⟩:=hp i _ hi
  cases he
  exact hq.men
 | _=>exact hm.elim
theorem RPV.to_one {c:CV} (hr:RPV w Sh ρ h v (.one c)) (hc:c≠.dead):RV w Sh ρ h v c:=by
 cases c<;>first|exact hr|exact absurd rfl hc
theorem RPV.men {p:PV} (hr:RPV w Sh ρ h v p) {id:Nat} (hm:p.men id):h id≠.no:=by
 cases p with
 | one c =>
  exact (RPV.to_one hr λ e=>by rw[e]at hm;exact hm).men hm
 | agg cs =>
  obtain ⟨vs,_,_,hp⟩:=hr
  obtain ⟨c,hc,hm⟩:=hm
  obtain ⟨i,hi⟩:=List.getElem?_of_mem hc
  obtain ⟨u,_,hq⟩:=hp i c hi
  exact hq.men hm
theorem RSV.men {p:SV} (hr:RSV w Sh ρ h v p) {id:Nat} (hm:p.men id):h id≠.no:=by
 cases p with
 | pv p=>exact RPV.men hr hm
 | tup ps =>
  obtain ⟨vs,_,_,hp⟩:=hr
  obtain ⟨c,hc,hm⟩:=hm
  obtain ⟨i,hi⟩:=List.getElem?_of_mem hc
  obtain ⟨u,_,hq⟩:=hp i c hi
  exact hq.men hm
theorem RPtr.swap {id off:Nat} (hr:RPtr ρ h v id off) (hm:h2 id=h id):RPtr ρ h2 v id off:=by
 unfold RPtr at hr ⊢
 rw[hm]
 exact hr
theorem RV.swap {c:CV} (hr:RV w Sh ρ h v c) (hm:∀ id,c.men id->h2 id=h id):RV w Sh ρ h2 v c:=by
 cases c<;>first|exact hr|skip
 case arr i lo n=>simp only[RV]at hr ⊢;rw[hm i rfl];exact hr
 case ptr i off=>exact RPtr.swap hr (hm i rfl)
 case fn f caps =>
  obtain ⟨vs,h1,h2',hp⟩:=hr
  refine ⟨vs,h1,h2',λ i c hc => ?_⟩
  obtain ⟨u,hu,id,off,he,hq⟩:=hp i c hc
  exact ⟨u,hu,id,off,he,hq.swap (hm id ⟨off,he▸List.mem_of_getElem? hc⟩)⟩
theorem RPV.swap {p:PV} (hr:RPV w Sh ρ h v p) (hm:∀ id,p.men id->h2 id=h id):RPV w Sh ρ h2 v p:=by
 cases p with
 | one c =>
  by_cases e:c=.dead
  ·rw[e];trivial
  ·exact RPV.of_one ((RPV.to_one hr e).swap hm)
 | agg cs =>
  obtain ⟨vs,h1,h2',hp⟩:=hr
  refine ⟨vs,h1,h2',λ i c hc => ?_⟩
  obtain ⟨u,hu,hq⟩:=hp i c hc
  exact ⟨u,hu,hq.swap λ id h=>hm id ⟨c,List.mem_of_getElem? hc,h⟩⟩
theorem RSV.swap {p:SV} (hr:RSV w Sh ρ h v p) (hm:∀ id,p.men id->h2 id=h id):RSV w Sh ρ h2 v p:=by
 cases p with
 | pv p=>exact RPV.swap hr hm
 | tup ps =>
  obtain ⟨vs,h1,h2',hp⟩:=hr
  refine ⟨vs,h1,h2',λ i c hc => ?_⟩
  obtain ⟨u,hu,hq⟩:=hp i c hc
  exact ⟨u,hu,hq.swap λ id h=>hm id ⟨c,List.mem_of_getElem? hc,h⟩⟩
theorem DC.swap {d:Option Nat} {c:CV} (hr:DC w Sh ρ h d v c) (hm:∀ id,c.men id->h2 id=h id):DC w Sh ρ h2 d v c:=by
 cases c<;>first|exact ⟨hr.1,RV.swap hr.2 hm⟩|exact hr
theorem DC.men {d:Option Nat} {c:CV} (hr:DC w Sh ρ h d v c) {id:Nat} (hm:c.men id):h id≠.no:=by
 cases c<;>first|exact RV.men hr.2 hm|exact hm.elim
end
def Cells (h:Nat->HS) (id:Nat) (b:Blk):Prop:=h id=.live b\/h id=.deep b
theorem RelAt.blk_men {C:Ctx} {ρ:Rho} {φ:St} {a:Act} {w:World} (R:RelAt C ρ φ a w) {j:Nat} {b:Blk} (hj:Cells φ.heap j b) {c:CV} (hc:c ∈ b.cs) {id:Nat} (hm:c.men id):φ.heap id≠.no:=by
 obtain ⟨i,hi⟩:=List.getElem?_of_mem hc
 rcases hj with hj|hj
 ·have hb:=R.hp.blk j b hj
  unfold RB at hb
  cases hL:ρ j with
  | none=>rw[hL]at hb;rw[hb.1]at hc;cases hc
  | some L =>
   rw[hL]at hb
   obtain ⟨u,_,hr⟩:=hb.2.2.2 i c hi
   exact hr.men hm
 ·obtain ⟨D,H⟩:=R.hp.dp
  have hb:=H.at_ j b hj
  unfold DeepAt at hb
  cases hL:ρ j with
  | none=>rw[hL]at hb;rw[hb.1]at hc;cases hc
  | some L =>
   rw[hL]at hb
   obtain ⟨u,_,hr⟩:=hb.2.2.2.2 i c hi
   exact hr.men hm
theorem RelAt.forget {C:Ctx} {ρ:Rho} {env:Nat->SV} {h h2:Nat->HS} {a:Act} {w:World} (R:RelAt C ρ ⟨env,h⟩ a w)
  (hs:∀ id,h2 id=h id\/(h id=.dead/\h2 id=.no/\C.k0<=id)) (he:∀ t id,(env t).men id->h2 id=h id)
  (hb:∀ j b c id,Cells h j b->c ∈ b.cs->c.men id->h2 id=h id):RelAt C ρ ⟨env,h2⟩ a w:=by
 have hl:∀ {j:Nat} {b:Blk},h2 j=.live b->h j=.live b:=λ {j b} e=>by
  rcases hs j with e2|⟨_,e2,_⟩
  ·rw[<-e2];exact e
  ·rw[e2]at e;cases e
 have hd:∀ {j:Nat} {b:Blk},h2 j=.deep b->h j=.deep b:=λ {j b} e=>by
  rcases hs j with e2|⟨_,e2,_⟩
  ·rw[<-e2];exact e
  ·rw[e2]at e;cases e
 refine ⟨R.defers,R.nt,λ t=>(R.env t).swap (he t),⟨λ id b h1 => ?_,λ id b L h1=>R.hp.own id b L (hl h1),λ id id' b b' L L' h1 h1'=>R.hp.inj id id' b b' L L' (hl h1) (hl h1'),?_⟩,λ id hid=>⟨?_,(R.init id hid).2⟩,R.fr⟩
 ·have hB:=R.hp.blk id b (hl h1)
  unfold RB at hB ⊢
  cases hL:ρ id with
  | none=>rw[hL]at hB;exact hB
  | some L =>
   rw[hL]at hB
   obtain ⟨q1,q2,q3,q4⟩:=hB
   refine ⟨q1,q2,q3,λ j c hc => ?_⟩
   obtain ⟨u,hu,hr⟩:=q4 j c hc
   exact ⟨u,hu,hr.swap λ i hi=>hb id b c i (.inl (hl h1)) (List.mem_of_getElem? hc) hi⟩
 ·obtain ⟨D,H⟩:=R.hp.dp
  refine ⟨D,⟨λ id b h1 => ?_,λ id b k h1=>H.own id b k (hd h1),λ id b id' b' L k h1 ho h1'=>H.apart id b id' b' L k (hd h1) ho (hl h1'),λ id id' b b' k h1 h1'=>H.inj id id' b b' k (hd h1) (hd h1'),
   λ id b p p' k h1=>H.one id b p p' k (hd h1),λ id b p L h1=>H.out id b p L (hd h1)⟩⟩
  have hB:=H.at_ id b (hd h1)
  unfold DeepAt at hB ⊢
  cases hL:ρ id with
  | none=>rw[hL]at hB;exact hB
  | some L =>
   rw[hL]at hB
   obtain ⟨q1,q2,q3,q4,q5⟩:=hB
   refine ⟨q1,q2,q3,q4,λ j c hc => ?_⟩
   obtain ⟨u,hu,hr⟩:=q5 j c hc
   exact ⟨u,hu,hr.swap λ i hi=>hb id b c i (.inr (hd h1)) (List.mem_of_getElem? hc) hi⟩
 ·have h1:=(R.init id hid).1
  rcases hs id with e|⟨_,_,e⟩
  ·exact λ e2=>h1 (e.symm.trans e2)
  ·omega
def CV.isOwn:CV->Bool
 | .own ..=>true
 | _=>false
theorem DC.oth {w:World} {Sh:Nat->Prop} {ρ:Rho} {h:Nat->HS} {d:Option Nat} {u:Value} {c:CV} (hc:c.isOwn=false):DC w Sh ρ h d u c ↔ d=none/\RV w Sh ρ h u c:=by
 cases c<;>first|exact Iff.rfl|cases hc
theorem RV.to_bare {w:World} {Sh:Nat->Prop} {ρ:Rho} {h:Nat->HS} {u:Value} {c:CV} (hr:RV w Sh ρ h u c) (hc:c.bare=true):RI w (λ _=>False) u c:=by
 cases c<;>first|cases hc|skip
 all_goals
  cases hr
  constructor
theorem RI.to_RV {w:World} {Sh:Nat->Prop} {ρ:Rho} {h:Nat->HS} {u:Value} {c:CV} (hr:RI w (λ _=>False) u c):RV w Sh ρ h u c :=
 RV.of_RI (hr.mono λ k hk=>hk.elim)
structure Exp (b:Blk) (id:Nat) (f:Nat->Nat) (cs':List CV) (h h':Nat->HS):Prop where
 dp:h id=.deep b
 lv:h' id=.live ⟨b.sz,b.n,cs'⟩
 len:cs'.length=b.cs.length
 own:∀ (p sz n:Nat) (l:List CV),b.cs[p]? = some (.own sz n l)->cs'[p]? = some (.arr (f p) 0 n)/\h' (f p)=.live ⟨sz,n,l⟩/\h (f p)=.no
 oth:∀ (p:Nat) (c:CV),b.cs[p]? = some c->c.isOwn=false->cs'[p]? = some c
 inj:∀ (p q:Nat) (c d:CV),b.cs[p]? = some c->b.cs[q]? = some d->c.isOwn=true->d.isOwn=true->f p=f q->p=q
 rest:∀ j,j≠id->(∀ (p:Nat) (c:CV),b.cs[p]? = some c->c.isOwn=true->f p≠j)->h' j=h j
theorem CV.own_of {c:CV} (h:c.isOwn=true):∃ sz n l,c=.own sz n l:=by
 cases c<;>first|exact ⟨_,_,_,rfl⟩|cases h
theorem RelAt.expand {C:Ctx} {ρ:Rho} {env:Nat->SV} {h h':Nat->HS} {a:Act} {w:World} (R:RelAt C ρ ⟨env,h⟩ a w) {b:Blk} {id:Nat} {f:Nat->Nat} {cs':List CV} (E:Exp b id f cs' h h') :
  ∃ ρ',RelAt C ρ' ⟨env,h'⟩ a w:=by
 obtain ⟨D,H⟩:=R.hp.dp
 have hA:=H.at_ id b E.dp
 -- the hidden lists' places
 have hloc:∀ p,∃ l:Option Loc,∀ sz n cs,b.cs[p]? = some (.own sz n cs)->∃ L u,ρ id=some L/\w.cell? ⟨L.b,L.o+p,none⟩=some u/\(∀ c,c ∈ cs->CV.bare c=true)/\cs.length=n*sz ∧
   ((l=none/\n=0/\∃ a,u=.slice a 0 0)\/∃ k o cap,l=some ⟨k,o,cap*sz⟩/\D id p=some k/\u=.slice (some ⟨k,o,none⟩) n cap/\n<=cap ∧
   (∀ j,j < cap*sz->(w.cell? ⟨k,o+j,none⟩).isSome=true/\w.frozen? ⟨k,o+j,none⟩=false/\(sz≠1->∀ i,w.frozen? ⟨k,i,none⟩=false)) ∧
   ∀ (j:Nat) (c:CV),cs[j]? = some c->∃ v:Value,w.cell? ⟨k,o+j,none⟩=some v/\RI w (λ _=>False) v c):=by
  intro p
  cases hp:b.cs[p]? with
  | none=>exact ⟨none,λ sz n cs h=>by cases h⟩
  | some c =>
   cases ho:c.isOwn with
   | false=>exact ⟨none,λ sz n cs h=>by cases h;cases ho⟩
   | true =>
    obtain ⟨sz,n,l,rfl⟩:=CV.own_of ho
    unfold DeepAt at hA
    cases hL:ρ id with
    | none=>rw[hL]at hA;rw[hA.1]at hp;cases hp
    | some L =>
     rw[hL]at hA
     obtain ⟨u,hu,g1,g2,g3⟩:=hA.2.2.2.2 p _ hp
     rcases g3 with ⟨_,g4,g5⟩|⟨k,o,cap,e,g4,g5,g6,g7⟩
     ·exact ⟨none,λ sz' n' l' he=>by cases he;exact ⟨L,u,rfl,hu,g1,g2, .inl ⟨rfl,g4,g5⟩⟩⟩
     ·exact ⟨some ⟨k,o,cap*sz⟩,λ sz' n' l' he=>by cases he;exact ⟨L,u,rfl,hu,g1,g2, .inr ⟨k,o,cap,rfl,e,g4,g5,g6,g7⟩⟩⟩
 obtain ⟨hl,hl'⟩:=Classical.axiomOfChoice hloc
 let Own (p:Nat):Prop:=∃ sz n l,b.cs[p]? = some (.own sz n l)
 have hrho:∃ ρ':Rho,(∀ p,Own p->ρ' (f p)=hl p)/\∀ j,(∀ p,Own p->f p≠j)->ρ' j=ρ j:=by
  have:∀ j,∃ l:Option Loc,(∀ p,Own p->f p=j->l=hl p)/\((∀ p,Own p->f p≠j)->l=ρ j):=by
   intro j
   by_cases hj:∃ p,Own p/\f p=j
   ·obtain ⟨p,hp,e⟩:=hj
    refine ⟨hl p,λ q hq e2 => ?_,λ hn=>absurd e (hn p hp)⟩
    obtain ⟨s1,n1,l1,hp⟩:=hp
    obtain ⟨s2,n2,l2,hq⟩:=hq
    rw[E.inj p q _ _ hp hq rfl rfl (e.trans e2.symm)]
   ·exact ⟨ρ j,λ p hp e=>absurd ⟨p,hp,e⟩ hj,λ _=>rfl⟩
  obtain ⟨ρ',hρ⟩:=Classical.axiomOfChoice this
  exact ⟨ρ',λ p hp=>(hρ (f p)).1 p hp rfl,λ j hj=>(hρ j).2 hj⟩
 obtain ⟨ρ',hρ1,hρ2⟩:=hrho
 have hno:∀ p,Own p->h (f p)=.no:=λ p ⟨sz,n,l,hp⟩=>(E.own p sz n l hp).2.2
 have hfid:∀ p,Own p->f p≠id:=λ p hp e=>by have:=hno p hp;rw[e,E.dp]at this;cases this
 have hrest:∀ j,j≠id->(∀ p,Own p->f p≠j)->h' j=h j:=λ j hj hn=>E.rest j hj λ p c hp hc=>by
  obtain ⟨sz,n,l,rfl⟩:=CV.own_of hc
  exact hn p ⟨sz,n,l,hp⟩
 have hle:∀ j,HLe (h j) (ρ j) (h' j) (ρ' j):=by
  intro j
  by_cases e:j=id
  ·subst e
   rw[E.dp,E.lv,hρ2 _ hfid]
   exact ⟨rfl,rfl,rfl⟩
  ·by_cases hj:∃ p,Own p/\f p=j
   ·obtain ⟨p,hp,rfl⟩:=hj
    rw[hno p hp];trivial
   ·have hj':∀ p,Own p->f p≠j:=λ p hp e=>hj ⟨p,hp,e⟩
    rw[hrest j e hj',hρ2 j hj']
    exact HLe.refl _ _
 -- what a live block is
 have hcase:∀ j b',h' j=.live b'->(j=id/\b'=⟨b.sz,b.n,cs'⟩/\ρ' id=ρ id)\/(∃ p sz n l,b.cs[p]? = some (.own sz n l)/\j=f p/\b'=⟨sz,n,l⟩/\ρ' j=hl p)\/(j≠id/\h j=.live b'/\ρ' j=ρ j):=by
  intro j b' hj
  by_cases e:j=id
  ·subst e
   rw[E.lv]at hj
   cases hj
   exact .inl ⟨rfl,rfl,hρ2 _ hfid⟩
  ·by_cases hx:∃ p,Own p/\f p=j
   ·obtain ⟨p,hp,rfl⟩:=hx
    have hq:=hp
    obtain ⟨sz,n,l,hq⟩:=hq
    rw[(E.own p sz n l hq).2.1]at hj
    cases hj
    exact .inr (.inl ⟨p,sz,n,l,hq,rfl,rfl,hρ1 p hp⟩)
   ·have hj':∀ p,Own p->f p≠j:=λ p hp e=>hx ⟨p,hp,e⟩
    rw[hrest j e hj']at hj
    exact .inr (.inr ⟨e,hj,hρ2 j hj'⟩)
 have hdeep:∀ j b',h' j=.deep b'->j≠id/\h j=.deep b'/\ρ' j=ρ j:=by
  intro j b' hj
  by_cases e:j=id
  ·subst e;rw[E.lv]at hj;cases hj
  ·by_cases hx:∃ p,Own p/\f p=j
   ·obtain ⟨p,⟨sz,n,l,hq⟩,rfl⟩:=hx
    rw[(E.own p sz n l hq).2.1]at hj
    cases hj
   ·have hj':∀ p,Own p->f p≠j:=λ p hp e=>hx ⟨p,hp,e⟩
    rw[hrest j e hj']at hj
    exact ⟨e,hj,hρ2 j hj'⟩
 -- the world's block of a live block: one that the deep one has,or that of another
 have hocc:∀ j b' L,h' j=.live b'->ρ' j=some L->(Occ ρ D id L.b/\((j=id/\ρ id=some L)\/∃ p,j=f p/\D id p=some L.b/\Own p))\/(j≠id/\h j=.live b'/\ρ j=some L):=by
  intro j b' L hj hL
  rcases hcase j b' hj with ⟨e,_,e2⟩|⟨p,sz,n,l,hp,e,_,e2⟩|⟨e,hj',e2⟩
  ·subst e;rw[e2]at hL;exact .inl ⟨.inl ⟨L,hL,rfl⟩, .inl ⟨rfl,hL⟩⟩
  ·rw[e2]at hL
   obtain ⟨L0,u,_,_,_,_,g⟩:=hl' p sz n l hp
   rcases g with ⟨g,_⟩|⟨k,o,cap,g,gd,_⟩
   ·rw[g]at hL;cases hL
   ·rw[g]at hL;cases hL;exact .inl ⟨.inr ⟨p,gd⟩, .inr ⟨p,e,gd,sz,n,l,hp⟩⟩
  ·rw[e2]at hL;exact .inr ⟨e,hj',hL⟩
 refine ⟨ρ',R.turn (h':=h') (λ _ _=>rfl) hle ⟨λ j b' hj => ?_,λ j b' L hj hL => ?_,λ j j' b1 b2 L L' hj hj' hL hL' he => ?_,?_⟩ (λ j hj=>hρ2 j λ p hp e => ?_) R.fr⟩
 ·rcases hcase j b' hj with ⟨rfl,rfl,e2⟩|⟨p,sz,n,l,hp,rfl,rfl,e2⟩|⟨e,hj',e2⟩
  ·unfold DeepAt at hA
   unfold RB
   rw[e2]
   cases hL:ρ j with
   | none =>
    rw[hL]at hA
    refine ⟨?_,hA.2.1⟩
    have:=E.len
    rw[hA.1]at this
    exact List.length_eq_zero_iff.1 this
   | some L =>
    rw[hL]at hA
    obtain ⟨q1,q2,q3,q4,q5⟩:=hA
    refine ⟨E.len.trans q1,E.len▸q2,q4,λ i c hc => ?_⟩
    have hi:i < b.cs.length:=by rw[<-E.len];exact (List.getElem?_eq_some_iff.1 hc).1
    obtain ⟨u,hu,hd⟩:=q5 i _ (List.getElem?_eq_getElem hi)
    refine ⟨u,hu,?_⟩
    cases ho:(b.cs[i]).isOwn with
    | false =>
     rw[E.oth i _ (List.getElem?_eq_getElem hi) ho]at hc
     cases hc
     exact (((DC.oth ho).1 hd).2).mono (λ _ _=>rfl) hle
    | true =>
     obtain ⟨sz,n,l,hoq⟩:=CV.own_of ho
     have hq:b.cs[i]? = some (.own sz n l):=by rw[List.getElem?_eq_getElem hi,hoq]
     obtain ⟨g1,g2,g3⟩:=E.own i sz n l hq
     rw[g1]at hc
     cases hc
     obtain ⟨L0,u0,k1,k2,k3,k4,k5⟩:=hl' i sz n l hq
     rw[hL]at k1
     cases k1
     rw[hu]at k2
     cases k2
     simp only[RV,g2]
     rw[hρ1 i ⟨sz,n,l,hq⟩]
     rcases k5 with ⟨e,e0,ea⟩|⟨k,o,cap,e,_,eu,e3,_⟩
     ·rw[e];exact ⟨e0,ea⟩
     ·rw[e]
      refine .inl ⟨cap,by simpa using eu,e3,?_,by omega,by omega⟩
      simp
  ·unfold RB
   rw[e2]
   obtain ⟨L0,u0,k1,k2,k3,k4,k5⟩:=hl' p sz n l hp
   rcases k5 with ⟨e,e0,ea⟩|⟨k,o,cap,e,_,eu,e3,e4,e5⟩
   ·rw[e]
    refine ⟨List.length_eq_zero_iff.1 (by rw[k4,e0];simp),e0⟩
   ·rw[e]
    refine ⟨k4,by rw[k4];exact Nat.mul_le_mul_right _ e3,e4,λ i c hc => ?_⟩
    obtain ⟨v,hv,hr⟩:=e5 i c hc
    exact ⟨v,hv,hr.to_RV⟩
  ·have hB:=R.hp.blk j b' hj'
   unfold RB at hB ⊢
   rw[e2]
   cases hL:ρ j with
   | none=>rw[hL]at hB;exact hB
   | some L =>
    rw[hL]at hB
    obtain ⟨q1,q2,q3,q4⟩:=hB
    refine ⟨q1,q2,q3,λ i c hc => ?_⟩
    obtain ⟨u,hu,hr⟩:=q4 i c hc
    exact ⟨u,hu,hr.mono (λ _ _=>rfl) hle⟩
 ·rcases hocc j b' L hj hL with ⟨ho,_⟩|⟨_,hj',hL'⟩
  ·exact H.own id b L.b E.dp ho
  ·exact R.hp.own j b' L hj' hL'
 ·rcases hocc j b1 L hj hL with ⟨ho,hx⟩|⟨e,h1,h2⟩
  ·rcases hocc j' b2 L' hj' hL' with ⟨ho',hx'⟩|⟨e',h1',h2'⟩
   ·rcases hx with ⟨rfl,hx⟩|⟨p,rfl,hx,hp⟩
    ·rcases hx' with ⟨rfl,_⟩|⟨p',rfl,hx',_⟩
     ·rfl
     ·exact absurd (he▸hx') (H.out j b p' L E.dp hx)
    ·rcases hx' with ⟨rfl,hx'⟩|⟨p',rfl,hx',_⟩
     ·exact absurd (he▸hx) (H.out j' b p L' E.dp hx')
     ·rw[H.one id b p p' L.b E.dp hx (he▸hx')]
   ·exact absurd he (H.apart id b j' b2 L' L.b E.dp ho h1' h2')
  ·rcases hocc j' b2 L' hj' hL' with ⟨ho',_⟩|⟨e',h1',h2'⟩
   ·exact absurd he.symm (H.apart id b j b1 L L'.b E.dp ho' h1 h2)
   ·exact R.hp.inj j j' b1 b2 L L' h1 h1' h2 h2' he
 ·have occ:∀ {j:Nat} {b':Blk} {k:Nat},h' j=.deep b'->Occ ρ' D j k->Occ ρ D j k:=λ hb ho=>by
   rcases ho with ⟨L,hL,e⟩|ho
   ·rw[(hdeep _ _ hb).2.2]at hL;exact .inl ⟨L,hL,e⟩
   ·exact .inr ho
  refine ⟨D,⟨λ j b' hj => ?_,λ j b' k hj ho=>H.own j b' k (hdeep j b' hj).2.1 (occ hj ho),λ j b1 j' b2 L k hj ho hj' hL => ?_,λ j j' b1 b2 k hj hj' ho ho'=>H.inj j j' b1 b2 k (hdeep j b1 hj).2.1 (hdeep j' b2 hj').2.1 (occ hj ho) (occ hj' ho'),
   λ j b' p p' k hj=>H.one j b' p p' k (hdeep j b' hj).2.1,λ j b' p L hj hL=>H.out j b' p L (hdeep j b' hj).2.1 ((hdeep j b' hj).2.2▸hL)⟩⟩
  ·obtain ⟨_,h1,h2⟩:=hdeep j b' hj
   have hB:=H.at_ j b' h1
   unfold DeepAt at hB ⊢
   rw[h2]
   cases hL:ρ j with
   | none=>rw[hL]at hB;exact hB
   | some L =>
    rw[hL]at hB
    obtain ⟨q1,q2,q3,q4,q5⟩:=hB
    refine ⟨q1,q2,q3,q4,λ i c hc => ?_⟩
    obtain ⟨u,hu,hd⟩:=q5 i c hc
    exact ⟨u,hu,hd.mono (λ _ _=>rfl) (λ k hk=>⟨hk,rfl⟩) hle⟩
  ·obtain ⟨e,h1,h2⟩:=hdeep j b1 hj
   have ho':=occ hj ho
   rcases hocc j' b2 L hj' hL with ⟨hq,_⟩|⟨_,hq,hq2⟩
   ·intro he
    exact e (H.inj j id b1 b L.b h1 E.dp (he▸ho') hq)
   ·exact H.apart j b1 j' b2 L k h1 ho' hq hq2
 ·have:=(R.init j hj).1
  rw[<-e]at this
  exact this (hno p hp)
structure Ctr (b:Blk) (id:Nat) (f:Nat->Nat) (cs':List CV) (h h':Nat->HS):Prop where
 dp:h id=.deep b
 lv:h' id=.live ⟨b.sz,b.n,cs'⟩
 len:cs'.length=b.cs.length
 own:∀ (p sz n:Nat) (l:List CV),b.cs[p]? = some (.own sz n l)->(∀ c,c ∈ l->CV.bare c=true)/\l.length=n*sz ∧
  ((cs'[p]? = some (.arr (f p) 0 n)/\h' (f p)=.live ⟨sz,n,l⟩/\h (f p)=.dead)\/(cs'[p]? = some .emp/\n=0))
 oth:∀ (p:Nat) (c:CV),b.cs[p]? = some c->c.isOwn=false->cs'[p]? = some c
 inj:∀ (p q:Nat) (c d:CV) (n m:Nat),b.cs[p]? = some c->b.cs[q]? = some d->c.isOwn=true->d.isOwn=true->cs'[p]? = some (.arr (f p) 0 n)->cs'[q]? = some (.arr (f q) 0 m)->f p=f q->p=q
 rest:∀ j,j≠id->(∀ (p:Nat) (c:CV) (n:Nat),b.cs[p]? = some c->c.isOwn=true->cs'[p]? = some (.arr (f p) 0 n)->f p≠j)->h j=h' j
theorem RelAt.contract {C:Ctx} {ρ:Rho} {env:Nat->SV} {h h':Nat->HS} {a:Act} {w:World} (R:RelAt C ρ ⟨env,h'⟩ a w) {b:Blk} {id:Nat} {f:Nat->Nat} {cs':List CV} (E:Ctr b id f cs' h h') :
  RelAt C ρ ⟨env,h⟩ a w:=by
 obtain ⟨D,H⟩:=R.hp.dp
 let Own (p:Nat):Prop:=∃ sz n l,b.cs[p]? = some (.own sz n l)/\cs'[p]? = some (.arr (f p) 0 n)/\h' (f p)=.live ⟨sz,n,l⟩
 have hdead:∀ p,Own p->h (f p)=.dead:=λ p ⟨sz,n,l,hp,h1,h2⟩=>by
  obtain ⟨_,_,g⟩:=E.own p sz n l hp
  rcases g with ⟨_,_,g⟩|⟨g,_⟩
  ·exact g
  ·rw[h1]at g;cases g
 have hfid:∀ p,Own p->f p≠id:=λ p hp e=>by have:=hdead p hp;rw[e,E.dp]at this;cases this
 have hrest:∀ j,j≠id->(∀ p,Own p->f p≠j)->h j=h' j:=λ j hj hn=>E.rest j hj λ p c n hp hc hq=>by
  obtain ⟨sz,m,l,rfl⟩:=CV.own_of hc
  obtain ⟨_,_,g⟩:=E.own p sz m l hp
  rcases g with ⟨g1,g2,_⟩|⟨g,_⟩
  ·exact hn p ⟨sz,m,l,hp,g1,g2⟩
  ·rw[hq]at g;cases g
 have hle:∀ j,HLe (h' j) (ρ j) (h j) (ρ j):=by
  intro j
  by_cases e:j=id
  ·subst e
   rw[E.dp,E.lv]
   exact ⟨rfl,rfl,rfl⟩
  ·by_cases hj:∃ p,Own p/\f p=j
   ·obtain ⟨p,hp,rfl⟩:=hj
    have hq:=hp
    obtain ⟨sz,n,l,_,_,h2⟩:=hq
    rw[hdead p hp,h2];trivial
   ·rw[hrest j e λ p hp e=>hj ⟨p,hp,e⟩]
    exact HLe.refl _ _
 have hcase:∀ j,h j≠.dead->j≠id->h' j=h j:=λ j hj e=>by
  by_cases hx:∃ p,Own p/\f p=j
  ·obtain ⟨p,hp,rfl⟩:=hx
   exact absurd (hdead p hp) hj
  ·exact (hrest j e λ p hp e=>hx ⟨p,hp,e⟩).symm
 have hlive:∀ {j b'},h j=.live b'->j≠id/\h' j=.live b':=λ {j b'} hj=>by
  have e:j≠id:=λ e=>by rw[e,E.dp]at hj;cases hj
  exact ⟨e,by rw[hcase j (by rw[hj];nofun) e];exact hj⟩
 have hdp:∀ {j b'},h j=.deep b'->j≠id->h' j=.deep b':=λ {j b'} hj e=>by
  rw[hcase j (by rw[hj];nofun) e];exact hj
 have hB:=R.hp.blk id _ E.lv
 -- the lists' blocks
 have hd:∀ p,∃ d:Option Nat,(∀ sz n l L u,b.cs[p]? = some (.own sz n l)->ρ id=some L->w.cell? ⟨L.b,L.o+p,none⟩=some u->DC w C.Sh ρ h d u (.own sz n l)) ∧
   (∀ k,d=some k->Own p/\∃ L,ρ (f p)=some L/\L.b=k)/\((∀ sz n l,b.cs[p]? ≠ some (.own sz n l))->d=none):=by
  intro p
  cases hp:b.cs[p]? with
  | none=>exact ⟨none,λ sz n l L u h=>(by cases h),λ k h=>(by cases h),λ _=>rfl⟩
  | some c =>
   cases ho:c.isOwn with
   | false=>exact ⟨none,λ sz n l L u h=>(by cases h;cases ho),λ k h=>(by cases h),λ _=>rfl⟩
   | true =>
    obtain ⟨sz,n,l,rfl⟩:=CV.own_of ho
    obtain ⟨g1,g2,g3⟩:=E.own p sz n l hp
    unfold RB at hB
    cases hL:ρ id with
    | none=>exact ⟨none,λ sz n l L u _ h=>(by cases h),λ k h=>(by cases h),λ h=>absurd rfl (h _ _ _)⟩
    | some L =>
     rw[hL]at hB
     rcases g3 with ⟨g3,g4,g5⟩|⟨g3,g4⟩
     ·obtain ⟨u,hu,hr⟩:=hB.2.2.2 p _ g3
      simp only[RV,g4]at hr
      have hB2:=R.hp.blk (f p) _ g4
      unfold RB at hB2
      cases hL2:ρ (f p) with
      | none =>
       rw[hL2]at hr
       exact ⟨none,λ sz' n' l' L' u' he hL' hu'=>(by
        cases he;cases hL';rw[hu]at hu';cases hu'
        exact ⟨g1,g2, .inl ⟨rfl,hr.1,hr.2⟩⟩),λ k h=>(by cases h),λ h=>absurd rfl (h _ _ _)⟩
      | some L2 =>
       rw[hL2]at hr hB2
       rcases hr with ⟨cap,e1,e2,e3,_,_⟩|⟨e1,_,e2⟩
       ·refine ⟨some L2.b,λ sz' n' l' L' u' he hL' hu' => ?_,λ k h=>by cases h;exact ⟨⟨sz,n,l,hp,g3,g4⟩,L2,rfl,rfl⟩,λ h=>absurd rfl (h _ _ _)⟩
        cases he;cases hL';rw[hu]at hu';cases hu'
        refine ⟨g1,g2, .inr ⟨L2.b,L2.o,cap,rfl,by simpa using e1,e2,λ j hj => ?_,λ j c hc => ?_⟩⟩
        ·simp only[Nat.zero_add]at e3
         exact hB2.2.2.1 j (Nat.lt_of_lt_of_le hj e3)
        ·obtain ⟨v,hv,hr⟩:=hB2.2.2.2 j c hc
         exact ⟨v,hv,hr.to_bare (g1 c (List.mem_of_getElem? hc))⟩
       ·exact ⟨none,λ sz' n' l' L' u' he hL' hu'=>(by
         cases he;cases hL';rw[hu]at hu';cases hu'
         exact ⟨g1,g2, .inl ⟨rfl,e1,e2⟩⟩),λ k h=>(by cases h),λ h=>absurd rfl (h _ _ _)⟩
     ·obtain ⟨u,hu,hr⟩:=hB.2.2.2 p _ g3
      refine ⟨none,λ sz' n' l' L' u' he hL' hu' => ?_,λ k h=>(by cases h),λ h=>absurd rfl (h _ _ _)⟩
      cases he;cases hL';rw[hu]at hu';cases hu'
      cases hr
      exact ⟨g1,g2, .inl ⟨rfl,g4,_,rfl⟩⟩
 obtain ⟨Dn,hDn⟩:=Classical.axiomOfChoice hd
 have key:∀ k,(∃ L,ρ id=some L/\k=L.b)\/(∃ p,Dn p=some k)->∃ j b' L,h' j=.live b'/\ρ j=some L/\L.b=k/\((j=id)\/∃ p,Own p/\j=f p):=by
  intro k ho
  rcases ho with ⟨L,hL,e⟩|⟨p,ho⟩
  ·exact ⟨id,_,L,E.lv,hL,e.symm, .inl rfl⟩
  ·obtain ⟨hp,L,h1,h2⟩:=(hDn p).2.1 k ho
   have hq:=hp
   obtain ⟨sz,n,l,_,_,h3⟩:=hq
   exact ⟨f p,_,L,h3,h1,h2, .inr ⟨p,hp,rfl⟩⟩
 have hnot:∀ {j b'},h j=.live b'->¬ (j=id\/∃ p,Own p/\j=f p):=λ {j b'} hj hx=>by
  rcases hx with e|⟨p,hp,e⟩
  ·exact (hlive hj).1 e
  ·rw[e,hdead p hp]at hj;cases hj
 refine R.turn (h':=h) (λ _ _=>rfl) hle ⟨λ j b' hj => ?_,λ j b' L hj hL=>R.hp.own j b' L (hlive hj).2 hL,λ j j' b1 b2 L L' hj hj' hL hL' he=>R.hp.inj j j' b1 b2 L L' (hlive hj).2 (hlive hj').2 hL hL' he,?_⟩ (λ j hj=>rfl) R.fr
 ·have hB:=R.hp.blk j b' (hlive hj).2
  unfold RB at hB ⊢
  cases hL:ρ j with
  | none=>rw[hL]at hB;exact hB
  | some L =>
   rw[hL]at hB
   obtain ⟨q1,q2,q3,q4⟩:=hB
   refine ⟨q1,q2,q3,λ i c hc => ?_⟩
   obtain ⟨u,hu,hr⟩:=q4 i c hc
   exact ⟨u,hu,hr.mono (λ _ _=>rfl) hle⟩
 ·refine ⟨λ j=>if j=id then Dn else D j,⟨λ j b' hj => ?_,λ j b' k hj ho => ?_,λ j b1 j' b2 L k hj ho hj' hL he => ?_,λ j j' b1 b2 k hj hj' ho ho' => ?_,λ j b' p p' k hj h1 h2 => ?_,λ j b' p L hj hL hx => ?_⟩⟩
  ·by_cases e:j=id
   ·subst e
    rw[E.dp]at hj
    cases hj
    unfold RB at hB
    unfold DeepAt
    simp only[↓reduceIte]
    cases hL:ρ j with
    | none =>
     rw[hL]at hB
     have hcs:b.cs=[]:=List.length_eq_zero_iff.1 (by rw[<-E.len];exact congrArg List.length hB.1)
     exact ⟨hcs,hB.2,λ p=>(hDn p).2.2 λ sz n l h=>by rw[hcs]at h;cases h⟩
    | some L =>
     rw[hL]at hB
     obtain ⟨q1,q2,q3,q4⟩:=hB
     refine ⟨E.len.symm.trans q1,E.len▸q2,λ p hp=>(hDn p).2.2 λ sz n l h=>(by rw[List.getElem?_eq_none hp]at h;cases h),q3,λ i c hc => ?_⟩
     have hi:i < cs'.length:=by rw[E.len];exact (List.getElem?_eq_some_iff.1 hc).1
     obtain ⟨u,hu,hr⟩:=q4 i _ (List.getElem?_eq_getElem hi)
     refine ⟨u,hu,?_⟩
     cases ho:c.isOwn with
     | false =>
      have:=E.oth i c hc ho
      rw[List.getElem?_eq_getElem hi]at this
      rw[Option.some.inj this]at hr
      exact (DC.oth ho).2 ⟨(hDn i).2.2 λ sz n l h=>(by rw[hc]at h;cases h;cases ho),hr.mono (λ _ _=>rfl) hle⟩
     | true =>
      obtain ⟨sz,n,l,rfl⟩:=CV.own_of ho
      exact (hDn i).1 sz n l L u hc hL hu
   ·have hB:=H.at_ j b' (hdp hj e)
    unfold DeepAt at hB ⊢
    simp only[if_neg e]
    cases hL:ρ j with
    | none=>rw[hL]at hB;exact hB
    | some L =>
     rw[hL]at hB
     obtain ⟨q1,q2,q3,q4,q5⟩:=hB
     refine ⟨q1,q2,q3,q4,λ i c hc => ?_⟩
     obtain ⟨u,hu,hd⟩:=q5 i c hc
     exact ⟨u,hu,hd.mono (λ _ _=>rfl) (λ k hk=>⟨hk,rfl⟩) hle⟩
  ·by_cases e:j=id
   ·subst e
    obtain ⟨j1,b1,L,h1,h2,h3,_⟩:=key k (by simpa [Occ] using ho)
    rw[<-h3]
    exact R.hp.own j1 b1 L h1 h2
   ·exact H.own j b' k (hdp hj e) (by simpa [Occ,if_neg e] using ho)
  ·by_cases e:j=id
   ·subst e
    obtain ⟨j1,b3,L1,h1,h2,h3,h4⟩:=key k (by simpa [Occ] using ho)
    have:=R.hp.inj j1 j' b3 b2 L1 L h1 (hlive hj').2 h2 hL (h3.trans he)
    exact hnot hj' (this▸h4)
   ·exact H.apart j b1 j' b2 L k (hdp hj e) (by simpa [Occ,if_neg e] using ho) (hlive hj').2 hL he
  ·by_cases e:j=id
   ·by_cases e':j'=id
    ·rw[e,e']
    ·subst e
     obtain ⟨j1,b3,L1,h1,h2,h3,h4⟩:=key k (by simpa [Occ] using ho)
     exact absurd h3.symm (H.apart j' b2 j1 b3 L1 k (hdp hj' e') (by simpa [Occ,if_neg e'] using ho') h1 h2)
   ·by_cases e':j'=id
    ·subst e'
     obtain ⟨j1,b3,L1,h1,h2,h3,h4⟩:=key k (by simpa [Occ] using ho')
     exact absurd h3.symm (H.apart j b1 j1 b3 L1 k (hdp hj e) (by simpa [Occ,if_neg e] using ho) h1 h2)
    ·exact H.inj j j' b1 b2 k (hdp hj e) (hdp hj' e') (by simpa [Occ,if_neg e] using ho) (by simpa [Occ,if_neg e'] using ho')
  ·by_cases e:j=id
   ·subst e
    simp only[↓reduceIte]at h1 h2
    obtain ⟨⟨sz,n,l,a1,a2,a3⟩,L,a4,a5⟩:=(hDn p).2.1 k h1
    obtain ⟨⟨sz',n',l',c1,c2,c3⟩,L',c4,c5⟩:=(hDn p').2.1 k h2
    exact E.inj p p' _ _ n n' a1 c1 rfl rfl a2 c2 (R.hp.inj (f p) (f p') _ _ L L' a3 c3 a4 c4 (a5.trans c5.symm))
   ·simp only[if_neg e]at h1 h2
    exact H.one j b' p p' k (hdp hj e) h1 h2
  ·by_cases e:j=id
   ·subst e
    simp only[↓reduceIte]at hx
    obtain ⟨hp,L',a4,a5⟩:=(hDn p).2.1 L.b hx
    have hq:=hp
    obtain ⟨sz,n,l,a1,a2,a3⟩:=hq
    exact hfid p hp (R.hp.inj (f p) j _ _ L' L a3 E.lv a4 hL a5)
   ·simp only[if_neg e]at hx
    exact H.out j b' p L (hdp hj e) hL hx
end Go.Fm
namespace Go.Fm
variable [Globs]
def Typed {α:Type} (es:List Sh1) (e:α->List CV) (good:α->Prop):Prop :=
 ∀ row:List CV,row.length=es.length->(∀ (j:Nat) (s:Sh1) (c:CV),es[j]? = some s->row[j]? = some c->CTy s c)->∃ x,row=e x/\good x
theorem typed_int (k:IntKind):Typed [.int k] (eI k) (λ n=>(Lit.int k n).wf=true):=λ row hl h=>by
 match row,hl with
 | [c],_ =>
  cases h 0 _ c rfl rfl with
  | int _ n hn=>exact ⟨n,rfl,hn⟩
theorem typed_bool:Typed [.bool] eB (λ _=>True):=λ row hl h=>by
 match row,hl with
 | [c],_ =>
  cases h 0 _ c rfl rfl with
  | bool b=>exact ⟨b,rfl,trivial⟩
theorem typed_str:Typed [.str] eS (λ l=>l.length<=maxLen):=λ row hl h=>by
 match row,hl with
 | [c],_ =>
  cases h 0 _ c rfl rfl with
  | str l hl=>exact ⟨l,rfl,hl⟩
theorem typed_rows {α:Type} {es:List Sh1} {e:α->List CV} {good:α->Prop} (R:Typed es e good) (hp:0 < es.length):∀ (n:Nat) (cs:List CV),cs.length=n*es.length →
  (∀ i j s c,i < n->es[j]? = some s->cs[i*es.length+j]? = some c->CTy s c)->∃ xs:List α,xs.length=n/\cs=xs.flatMap e/\∀ x ∈ xs,good x
 | 0,cs,hl,_=>⟨[],rfl,by simpa using hl,by simp⟩
 | n+1,cs,hl,h=>by
  have hle:es.length<=cs.length:=by rw[hl,Nat.succ_mul];omega
  obtain ⟨x,hx,gx⟩:=R (cs.take es.length) (by rw[List.length_take];omega) λ j s c hj hc=>by
   have hlt:=(List.getElem?_eq_some_iff.1 hj).1
   rw[List.getElem?_take_of_lt hlt]at hc
   exact h 0 j s c (Nat.succ_pos _) hj (by simpa using hc)
  obtain ⟨xs,h1,h2,h3⟩:=typed_rows R hp n (cs.drop es.length) (by rw[List.length_drop,hl,Nat.succ_mul];omega) λ i j s c hi hj hc=>by
   rw[List.getElem?_drop]at hc
   exact h (i+1) j s c (Nat.succ_lt_succ hi) hj (by rw[Nat.succ_mul];rw[<-hc];congr 1;omega)
  refine ⟨x::xs,by rw[List.length_cons,h1],by rw[List.flatMap_cons,<-hx,<-h2,List.take_append_drop],λ y hy => ?_⟩
  rcases List.mem_cons.1 hy with rfl|hy
  ·exact gx
  ·exact h3 y hy
theorem typed_sl {α:Type} {es:List Sh1} {e:α->List CV} {good:α->Prop} {k:Nat} (R:Typed es e good) (hk:es.length=k) (hp:0 < k) :
  Typed [.sl es] (eL e k) (λ xs=>xs.length<=maxLen/\∀ x ∈ xs,good x):=λ row hl h=>by
 subst hk
 match row,hl with
 | [c],_ =>
  cases h 0 _ c rfl rfl with
  | sl _ n cs hl hn hc =>
   obtain ⟨xs,h1,h2,h3⟩:=typed_rows R hp n cs hl hc
   subst h1 h2
   exact ⟨xs,rfl,hn,h3⟩
theorem open_row {α:Type} {W:World} {vs:List Value} {es:List Sh1} {e:α->List CV} {good:α->Prop} (R:Typed es e good) (h:Opens W vs es) :
  ∃ x,good x/\vs.length=(e x).length/\∀ (i:Nat) (u:Value) (c:CV),vs[i]? = some u->(e x)[i]? = some c->RI W (λ k=>k < W.heap.size) u c:=by
 obtain ⟨hl,cs,hcl,hc⟩:=h
 obtain ⟨x,hx,gx⟩:=R cs hcl λ j s c hj hcj=>by
  have hlt:j < vs.length:=by rw[hl];exact (List.getElem?_eq_some_iff.1 hj).1
  obtain ⟨c',s',h1,h2,h3,h4⟩:=hc j _ (List.getElem?_eq_getElem hlt)
  rw[hcj]at h1
  rw[hj]at h2
  cases h1
  cases h2
  exact h4
 subst hx
 refine ⟨x,gx,by rw[hl,hcl],λ i u c hu hcx => ?_⟩
 obtain ⟨c',s',h1,h2,h3,h4⟩:=hc i u hu
 rw[hcx]at h1
 cases h1
 exact h3
theorem slice_of {P:Program} {w:World} {r:Reach} {b:Nat} {t e:TypeId} {v:Value} (ht:P.underlying t=some (.slice e)) (h:Value.okWide P w r b t v):v.cells.toList=[v]:=by
 simp only[Value.okWide,ht,Cell.okWide]at h
 cases v<;>simp_all [Cell.ok,Value.cells]
end Go.Fm
namespace Go.Fm
variable [Globs]
def idxB (l:List UInt8) (c:Int):Int:=match l.findIdx? (λ b=>(b.toNat:Int)==c) with|some i=>(i:Int)|none => -1
def gIdxB (l:List UInt8) (c:Int):Option Int:=if 0<=c/\c < 256 then some (idxB l c) else none
theorem idxB_find (l:List UInt8) (c:UInt8):(match (List.range (⟨l.toArray⟩:ByteArray).size).find? λ i=>(⟨l.toArray⟩:ByteArray)[i]! == c with|some i=>(i:Int)|none => -1)=idxB l c.toNat:=by
 have hsz:(⟨l.toArray⟩:ByteArray).size=l.length:=by simp[ByteArray.size]
 have hget:∀ i,(h:i < l.length)->(⟨l.toArray⟩:ByteArray)[i]! = l[i]:=λ i h=>by
  rw[getElem!_pos _ _ (by rw[hsz];exact h)]
  rfl
 have hbe:∀ b:UInt8,(((b.toNat:Int)==(c.toNat:Int))=true ↔ b=c):=λ b=>by
  rw[beq_iff_eq,Int.natCast_inj,UInt8.toNat_inj]
 unfold idxB
 cases hf:(List.range (⟨l.toArray⟩:ByteArray).size).find? λ i=>(⟨l.toArray⟩:ByteArray)[i]! == c with
 | none =>
  have:l.findIdx? (λ b=>(b.toNat:Int)==(c.toNat:Int))=none:=by
   rw[List.findIdx?_eq_none_iff]
   intro b hb
   obtain ⟨i,hi,he⟩:=List.getElem_of_mem hb
   have h1:=List.find?_range_eq_none.1 hf i (by rw[hsz];exact hi)
   rw[hget i hi,he]at h1
   rw[Bool.eq_false_iff]
   intro h2
   rw[hbe]at h2
   subst h2
   simp at h1
  rw[this]
 | some i =>
  obtain ⟨h1,h2,h3⟩:=List.find?_range_eq_some.1 hf
  have hi:i < l.length:=by have:=List.mem_range.1 h2;omega
  rw[hget i hi]at h1
  have:l.findIdx? (λ b=>(b.toNat:Int)==(c.toNat:Int))=some i:=by
   rw[List.findIdx?_eq_some_iff_getElem]
   refine ⟨hi,(hbe _).2 (by simpa using h1),λ j hj => ?_⟩
   have h4:=h3 j hj
   rw[hget j (by omega)]at h4
   rw[hbe]
   simpa using h4
  rw[this]
theorem ext_indexByte {P:Program} {f:FuncId} {fn:Func} (hf:P.funcs[f]? = some fn) (hname:(fn.name == "runtime.NumGoroutine")=false)
  (hb:fn.body.isNone=true) (hn:Extern.findNext fn=none) (he:Extern.find fn=some Extern.BytealgIndexByte.indexByte) {l:List UInt8} {c r:Int} (h:gIdxB l c=some r) :
  Ans P f [.one (.str l), .one (.int .u8 c)] [] λ v h1=>v=.pv (.one (.int .i64 r))/\h1=[]:=by
 unfold gIdxB at h
 split at h
 case isFalse=>cases h
 rename_i hc
 cases h
 obtain ⟨c,rfl⟩:∃ d:UInt8,c=(d.toNat:Int):=⟨UInt8.ofNat c.toNat,by simp;omega⟩
 refine Ans.mono (ans_extern (r:=one (.int .i64 (match (List.range (⟨l.toArray⟩:ByteArray).size).find? λ i=>(⟨l.toArray⟩:ByteArray)[i]! == c with|some i=>(i:Int)|none => -1))) hf hname hb hn he λ C vs hl h => ?_) λ r h ⟨h1,h2⟩=>⟨by rw[h1,idxB_find],h2⟩
 obtain ⟨u0,h0,r0⟩:=h 0 _ rfl
 obtain ⟨u1,h1,r1⟩:=h 1 _ rfl
 obtain rfl:vs=[u0,u1]:=by
  match vs,hl,h0,h1 with
  | [a,b],_,h0,h1=>simp at h0 h1;rw[h0,h1]
 obtain ⟨s,rfl,hs⟩:=RSV.str (ρ:=C.rho0) (h:=hOf []) r0
 obtain rfl:=RSV.int (ρ:=C.rho0) (h:=hOf []) r1
 have hsl:s=⟨l.toArray⟩:=by
  cases s
  simp only at hs
  subst hs
  simp
 subst hsl
 have hc:Int.toNat (c.toNat:Int)=c.toNat:=rfl
 have hc2:c.toNat.toUInt8=c:=by simp
 have hrun:∀ (P:Program) (w:World),(Extern.BytealgIndexByte.indexByte [Value.string ⟨l.toArray⟩,Value.int .u8 c.toNat].toArray).run P w=.ok (.int .i64 (match (List.range (⟨l.toArray⟩:ByteArray).size).find? λ i=>(⟨l.toArray⟩:ByteArray)[i]! == (Int.toNat (c.toNat:Int)).toUInt8 with|some i=>(i:Int)|none => -1)) w:=λ P w=>by
  change (match (List.range (⟨l.toArray⟩:ByteArray).size).find? λ i=>(⟨l.toArray⟩:ByteArray)[i]! == (Int.toNat (c.toNat:Int)).toUInt8 with|some i=>(pure (goInt i):Sem Value)|none=>pure (goInt (-1))).run P w=_
  cases (List.range (⟨l.toArray⟩:ByteArray).size).find? λ i=>(⟨l.toArray⟩:ByteArray)[i]! == (Int.toNat (c.toNat:Int)).toUInt8<;>rfl
 rw[hc,hc2]at hrun
 exact ⟨_,hrun _ _,RI.int _ _⟩
end Go.Fm
namespace Go.Fm
variable [Globs]
section
variable {P:Program} {o:Oper} {φ:St} {nid:Nat}
theorem kindF_slice {t e:TypeId} (h:kindF P t=.slice e):P.underlying t=some (.slice e):=by
 unfold kindF at h;split at h<;>first|(cases h;done)|(rename_i h';cases h;exact h')
theorem ok_nil {t yt e:TypeId} {x:Operand} {sz n:Nat} {cs:List CV} (ho:o.op=.binOp .eql t x (.const (.slice none 0 0)) yt) (hx:φ.ev x=one (.imm sz n cs)) (he:P.underlying t=some (.slice e)) :
  ActOk P o φ nid ⟨[],one (.anyb n),[]⟩:=.quiet λ C φ' ac w ρ hP hag R=>by
 have h1:=R.ev x
 rw[hag.env x (by simp[ho,Op.operands]),hx]at h1
 have h1':RI w C.Sh (ac.eval x) (.imm sz n cs):=h1
 have hy:ac.eval (.const (.slice none 0 0))=.slice none 0 0:=rfl
 have hrun:∀ (a:Option Addr) (n cap:Nat),(execOp ac.eval o).run P w=.ok (.value (.bool a.isNone)) w\/ac.eval x≠.slice a n cap:=λ a n cap=>by
  by_cases hv:ac.eval x=.slice a n cap
  ·left
   have hq:(Op.equal t (.slice a n cap) (.slice none 0 0)).run P w=.ok a.isNone w:=by
    unfold Op.equal Op.maxDepth
    rw[show (10000:Nat)=9999+1 from rfl]
    unfold Op.equalIn
    cases a<;>simp[run_underlying he]
   have hg:(eqGuard .eql t x (.const (.slice none 0 0)) (.slice a n cap) (.slice none 0 0)).run P w=.ok () w:=by
    unfold eqGuard
    first|rfl|simp[run_underlying he]|skip
   simp only[execOp,ho,hv,hy,Sem.run_bind,hg,Sem.run_pure,Result.andThen_ok,binOp,hq]
  ·exact .inr hv
 generalize hv1:ac.eval x=v1 at h1' hrun
 cases h1' with
 | imm0 a cap sz =>
  exact ⟨.bool a.isNone,(hrun a 0 cap).resolve_right (λ h=>h rfl), .of_RI (.anyb _ _ (λ _=>rfl))⟩
 | imm b off n cap sz cs vals a1 a2 a3 a4 a5 =>
  exact ⟨.bool false,(hrun _ n cap).resolve_right (λ h=>h rfl), .of_RI (.anyb _ _ (λ h=>by cases h))⟩
end
theorem relX_any {C:Ctx} {s:S} {d n:Nat} {a:Act} {w:World} (hd:lk s.env d=one (.anyb n)) (R:RelX C s.st a w) :
  ∃ b,(b=true->n=0)/\a.eval (.tmp d)=.bool b:=by
 obtain ⟨C',hr,ρ,R0⟩:=R
 have h:RSV w C'.Sh ρ (hOf s.heap) (a.tmps.getD d undef) (lk s.env d):=R0.env d
 rw[hd]at h
 have h':RI w C'.Sh (a.tmps.getD d undef) (.anyb n):=h
 generalize hv:a.tmps.getD d undef=v at h'
 cases h' with
 | anyb b n h=>exact ⟨b,h,hv⟩
theorem W.runs {P:Program} {nt k0:Nat} {c:Code} {s:S} {e0:Ex} {s0:S} (hm:P.follows .mixedOrders=true) (h:W P nt k0 c s λ e s'=>e=e0/\Weak k0 s' s0):Runs P nt k0 c s e0 s0:=by
 obtain ⟨e,s',hr,rfl,hw⟩:=h hm
 exact λ C hP hn hk a w R=>wp_mono (hr C hP hn hk a w R) λ e' a' w' ⟨he,R'⟩=>⟨he,hw C a' w' hk R'⟩
end Go.Fm
namespace Go.Fm
variable [Globs]
section
variable {P:Program} {w:World} {r:Reach} {b:Nat} {t:TypeId} {v:Value}
theorem arg_one {α:Type} {W:World} {es:List Sh1} {e:α->List CV} {c:α->CV} {good:α->Prop} (R:Typed es e good) (he:∀ x,e x=[c x]) (hv:v.cells.toList=[v]) (h:Opens W v.cells.toList es) (ρ:Rho) (hh:Nat->HS) :
  ∃ x,good x/\RPV W (λ k=>k < W.heap.size) ρ hh v (.one (c x)):=by
 rw[hv]at h
 obtain ⟨x,gx,_,h2⟩:=open_row R h
 exact ⟨x,gx,RPV.of_one (RV.of_RI (h2 0 v (c x) rfl (by rw[he];rfl)))⟩
end
theorem one_cell {s:Sh1} {c:CV} (h:CTy s c):∀ (j:Nat) (s':Sh1) (c':CV),[s][j]? = some s'->[c][j]? = some c'->CTy s' c':=λ j s' c' h1 h2=>by
 cases j with
 | zero=>simp at h1 h2;subst h1 h2;exact h
 | succ j=>simp at h1
end Go.Fm
namespace Go.Fm
variable [Globs]
def putL {α:Type}:List α->Nat->List α->List α
 | [],_,_=>[]
 | x::r,a+1,ys=>x::putL r a ys
 | x::r,0,[]=>x::r
 | x::r,0,y::ys=>y::putL r 0 ys
@[simp] theorem putL_len {α:Type}:∀ (xs:List α) (a:Nat) (ys:List α),(putL xs a ys).length=xs.length
 | [],_,_=>rfl
 | x::r,a+1,ys=>by rw[putL,List.length_cons,putL_len r,List.length_cons]
 | x::r,0,[]=>rfl
 | x::r,0,y::ys=>by rw[putL,List.length_cons,putL_len r,List.length_cons]
theorem putL_eq {α:Type}:∀ (xs:List α) (a:Nat) (ys:List α),a+ys.length<=xs.length->putL xs a ys=xs.take a++ys++xs.drop (a+ys.length)
 | [],a,ys,h=>by
  have h1:a=0:=by simp only[List.length_nil]at h;omega
  have h2:ys=[]:=List.eq_nil_of_length_eq_zero (by simp only[List.length_nil]at h;omega)
  subst h1 h2
  rfl
 | x::r,a+1,ys,h=>by
  rw[putL,putL_eq r a ys (by simp at h;omega),show a+1+ys.length=(a+ys.length)+1 by omega,List.drop_succ_cons,List.take_succ_cons,List.cons_append,List.cons_append]
 | x::r,0,[],h=>by simp[putL]
 | x::r,0,y::ys,h=>by
  rw[putL,putL_eq r 0 ys (by simp at h ⊢;omega)]
  simp
section
variable {α:Type} {e:α->List CV} {k:Nat} {xs ys v:List α} {lo hi:Int} {a n:Nat}
theorem fOver (ok:EncOk e k) (h:a+ys.length<=xs.length):over (xs.flatMap e) (a*k) (ys.flatMap e)=(putL xs a ys).flatMap e:=by
 rw[putL_eq _ _ _ h,List.flatMap_append,List.flatMap_append]
 unfold over
 have h1:(xs.flatMap e).take (a*k)=(xs.take a).flatMap e:=by
  have:xs.flatMap e=(xs.take a).flatMap e++(xs.drop a).flatMap e:=by rw[<-List.flatMap_append,List.take_append_drop]
  rw[this,List.take_left' (by rw[flat_len ok.len,List.length_take,Nat.min_eq_left (by omega)])]
 rw[h1,flat_len ok.len,<-Nat.add_mul,flat_drop ok.len]
theorem fCopy (ok:EncOk e k) (h:a+n<=xs.length) {m:Nat} (hm:m=ys.length):(xs.flatMap e).take (a*k)++(ys.flatMap e).take (min m n*k)++(xs.flatMap e).drop (a*k+((ys.flatMap e).take (min m n*k)).length)=(putL xs a (ys.take n)).flatMap e:=by
 subst hm
 show over (xs.flatMap e) (a*k) ((ys.flatMap e).take (min ys.length n*k))=_
 have h1:(ys.flatMap e).take (min ys.length n*k)=(ys.take n).flatMap e:=by
  have h2:ys.take n=ys.take (min ys.length n):=by
   rcases Nat.le_total ys.length n with h|h
   ·rw[Nat.min_eq_left h,List.take_length,List.take_of_length_le h]
   ·rw[Nat.min_eq_right h]
  rw[h2]
  have:ys.flatMap e=(ys.take (min ys.length n)).flatMap e++(ys.drop (min ys.length n)).flatMap e:=by rw[<-List.flatMap_append,List.take_append_drop]
  conv=>lhs;rw[this]
  rw[List.take_left' (by rw[flat_len ok.len,List.length_take,Nat.min_eq_left (Nat.min_le_left _ _)])]
 rw[h1,fOver ok (by rw[List.length_take];omega)]
end
end Go.Fm
namespace Go.Fm
variable [Globs]
theorem RelAt.kills {C:Ctx} {ρ:Rho} {env:Nat->SV} {h h2:Nat->HS} {a:Act} {w:World} (R:RelAt C ρ ⟨env,h⟩ a w)
  (hs:∀ j,h2 j=h j\/(h j≠.no/\h2 j=.dead)):RelAt C ρ ⟨env,h2⟩ a w:=by
 have hle:∀ i,HLe (h i) (ρ i) (h2 i) (ρ i):=λ i=>by
  rcases hs i with e|⟨e1,e2⟩
  ·rw[e];exact HLe.refl _ _
  ·rw[e2];cases hx:h i<;>trivial
 have hlv:∀ {i b},h2 i=.live b->h i=.live b:=λ {i b} e=>by
  rcases hs i with e1|⟨_,e2⟩
  ·rw[<-e1];exact e
  ·rw[e2]at e;cases e
 have hd:∀ i b,h2 i=.deep b->h i=.deep b/\ρ i=ρ i:=λ i b e=>by
  rcases hs i with e1|⟨_,e2⟩
  ·rw[<-e1];exact ⟨e,rfl⟩
  ·rw[e2]at e;cases e
 refine R.turn (h':=h2) (λ _ _=>rfl) hle ⟨λ i b e => ?_,λ i b L e hL=>R.hp.own i b L (hlv e) hL,λ i i' b b' L L' e e'=>R.hp.inj i i' b b' L L' (hlv e) (hlv e'),?_⟩ (λ _ _=>rfl) R.fr
 rotate_left
 ·obtain ⟨D,H⟩:=R.hp.dp
  exact ⟨D,H.keep hd hle (λ _ _ _ _ _=>rfl) (Nat.le_refl _) (λ _ h=>⟨h,rfl⟩) (λ i b k hb ho=>(H.own i b k (hd i b hb).1 ho).2) λ i b' L hb hL=>.inr ⟨i,b',L,hlv hb,hL,rfl⟩⟩
 have hrb:=R.hp.blk i b (hlv e)
 unfold RB at hrb ⊢
 cases hL:ρ i with
 | none=>rw[hL]at hrb;exact hrb
 | some L =>
  rw[hL]at hrb
  obtain ⟨q1,q2,q3,q4⟩:=hrb
  exact ⟨q1,q2,q3,λ j c hc=>by obtain ⟨u,hu,hr⟩:=q4 j c hc;exact ⟨u,hu,hr.mono (λ _ _=>rfl) hle⟩⟩
theorem RelAt.settle {C:Ctx} {ρ:Rho} {env:Nat->SV} {h' hD hF:Nat->HS} {a:Act} {w:World} (R:RelAt C ρ ⟨env,h'⟩ a w) {N:Nat} {b:Blk} {id:Nat} {f:Nat->Nat} {cs':List CV}
  (E:Ctr b id f cs' hD h') (hlt:∀ j,j < N->hF j=hD j) (hge:∀ j,N<=j->hF j=.no) (hk:C.k0<=N) (henv:∀ t j,(env t).men j->j < N)
  (hblk:∀ j b c i,j < N->Cells hD j b->c ∈ b.cs->c.men i->i < N):RelAt C ρ ⟨env,hF⟩ a w:=by
 have R1:=R.contract E
 have R2:=R1.kills (h2:=λ j=>if j < N then hD j else match hD j with | .no=>.no|_=>.dead) (λ j=>by
  by_cases hj:j < N
  ·exact .inl (if_pos hj)
  ·rw[if_neg hj]
   cases hx:hD j with
   | no=>exact .inl rfl
   | _=>exact .inr ⟨nofun,rfl⟩)
 refine R2.forget (h2:=hF) (λ j => ?_) (λ t j hm => ?_) (λ j b' c i hj hc hm => ?_)
 ·by_cases hj:j < N
  ·exact .inl (by rw[if_pos hj];exact hlt j hj)
  ·rw[if_neg hj]
   cases hx:hD j with
   | no=>exact .inl (hge j (by omega))
   | _=>exact .inr ⟨rfl,hge j (by omega),by omega⟩
 ·have:=henv t j hm
  rw[if_pos this];exact hlt j this
 ·have hjN:j < N:=by
   apply Classical.byContradiction
   intro hn
   rcases hj with hj|hj<;>simp only[if_neg hn]at hj<;>split at hj<;>cases hj
  have:i < N:=hblk j b' c i hjN (by unfold Cells at hj ⊢;simpa only[if_pos hjN] using hj) hc hm
  rw[if_pos this];exact hlt i this
def expL (f:Nat->Nat) (cs:List CV):List CV:=cs.mapIdx λ p c=>match c with | .own _ n _=>.arr (f p) 0 n|c=>c
theorem expL_len (f:Nat->Nat) (cs:List CV):(expL f cs).length=cs.length:=by simp[expL]
theorem expL_own {f:Nat->Nat} {cs:List CV} {p sz n:Nat} {l:List CV} (h:cs[p]? = some (.own sz n l)):(expL f cs)[p]? = some (.arr (f p) 0 n):=by
 simp[expL,List.getElem?_mapIdx,h]
theorem expL_oth {f:Nat->Nat} {cs:List CV} {p:Nat} {c:CV} (h:cs[p]? = some c) (hc:c.isOwn=false):(expL f cs)[p]? = some c:=by
 simp only[expL,List.getElem?_mapIdx,h,Option.map_some]
 cases c<;>first|rfl|cases hc
theorem exp_ex {h:Nat->HS} {id:Nat} {b:Blk} (hd:h id=.deep b) (f:Nat->Nat) (hno:∀ p sz n l,b.cs[p]? = some (.own sz n l)->h (f p)=.no)
  (hinj:∀ (p q:Nat) (c d:CV),b.cs[p]? = some c->b.cs[q]? = some d->c.isOwn=true->d.isOwn=true->f p=f q->p=q):∃ h',Exp b id f (expL f b.cs) h h':=by
 have:∀ j,∃ s:HS,(j=id->s=.live ⟨b.sz,b.n,expL f b.cs⟩)/\(∀ p sz n l,b.cs[p]? = some (.own sz n l)->f p=j->s=.live ⟨sz,n,l⟩) ∧
   (j≠id->(∀ p sz n l,b.cs[p]? = some (.own sz n l)->f p≠j)->s=h j):=by
  intro j
  by_cases e:j=id
  ·exact ⟨_,λ _=>rfl,λ p sz n l hp he=>(by have:=hno p sz n l hp;rw[he,e,hd]at this;cases this),λ hn=>absurd e hn⟩
  ·by_cases hx:∃ p sz n l,b.cs[p]? = some (.own sz n l)/\f p=j
   ·obtain ⟨p,sz,n,l,hp,hj⟩:=hx
    refine ⟨.live ⟨sz,n,l⟩,λ h=>absurd h e,λ q sz' n' l' hq hj' => ?_,λ _ hn=>absurd hj (hn p sz n l hp)⟩
    have:=hinj p q _ _ hp hq rfl rfl (hj.trans hj'.symm)
    subst this
    rw[hp]at hq
    cases hq
    rfl
   ·exact ⟨h j,λ h=>absurd h e,λ q sz' n' l' hq hj'=>absurd ⟨q,sz',n',l',hq,hj'⟩ hx,λ _ _=>rfl⟩
 obtain ⟨h',hh⟩:=Classical.axiomOfChoice this
 refine ⟨h',hd,(hh id).1 rfl,expL_len _ _,λ p sz n l hp=>⟨expL_own hp,(hh (f p)).2.1 p sz n l hp rfl,hno p sz n l hp⟩,λ p c hp hc=>expL_oth hp hc,hinj,λ j hj hn=>(hh j).2.2 hj λ p sz n l hp=>hn p _ hp rfl⟩
theorem RelAt.own_ok {C:Ctx} {ρ:Rho} {φ:St} {a:Act} {w:World} (R:RelAt C ρ φ a w) {id:Nat} {b:Blk} (hd:φ.heap id=.deep b) {p sz n:Nat} {l:List CV} (hp:b.cs[p]? = some (.own sz n l)) :
  (∀ c,c ∈ l->CV.bare c=true)/\l.length=n*sz:=by
 obtain ⟨D,H⟩:=R.hp.dp
 have hA:=H.at_ id b hd
 unfold DeepAt at hA
 cases hL:ρ id with
 | none=>rw[hL]at hA;rw[hA.1]at hp;cases hp
 | some L =>
  rw[hL]at hA
  obtain ⟨u,_,g1,g2,_⟩:=hA.2.2.2.2 p _ hp
  exact ⟨g1,g2⟩
theorem ActOk.via {P:Program} {o:Oper} {φ:St} {nid:Nat} {A:Action}
  (h:∀ (C:Ctx) (φ':St) (a:Act) (w:World) (ρ:Rho) (N:Nat),C.P=P->Agree φ φ' o nid A->RelAt C ρ φ' a w->(∀ j,N<=j->φ'.heap j=.no)->nid < N →
   ∃ (h2:Nat->HS) (A2:Action) (ρ2:Rho),RelAt C ρ2 ⟨φ'.env,h2⟩ a w/\ActOk P o ⟨φ'.env,h2⟩ nid A2/\Agree ⟨φ'.env,h2⟩ ⟨φ'.env,h2⟩ o nid A2 ∧
    ∀ a' w' ρ',RelAt C ρ' (St.app ⟨φ'.env,h2⟩ o.dst A2) a' w'->∃ ρ'',RelAt C ρ'' (φ'.app o.dst A) a' w'):ActOk P o φ nid A:=by
 intro C hP φ' a w hag hR hd K Q hK
 obtain ⟨ρ,R⟩:=hR
 obtain ⟨N,hN⟩:=hag.fin
 obtain ⟨h2,A2,ρ2,R2,hA,hag2,hback⟩:=h C φ' a w ρ (max N (nid+1)) hP hag R (λ j hj=>hN j (by omega)) (by omega)
 exact hA C hP _ a w hag2 ⟨ρ2,R2⟩ hd K Q λ a' w' ⟨ρ',R'⟩=>hK a' w' (hback a' w' ρ' R')
theorem RelAt.men_lt {C:Ctx} {ρ:Rho} {φ:St} {a:Act} {w:World} (R:RelAt C ρ φ a w) {N:Nat} (hN:∀ j,N<=j->φ.heap j=.no) :
  (∀ t j,(φ.env t).men j->j < N)/\(∀ j b c i,Cells φ.heap j b->c ∈ b.cs->c.men i->i < N)/\C.k0<=N:=by
 refine ⟨λ t j hm => ?_,λ j b c i hj hc hm => ?_,?_⟩
 ·have:=RSV.men (R.env t) hm
  apply Classical.byContradiction
  intro hn
  exact this (hN j (by omega))
 ·have:=R.blk_men hj hc hm
  apply Classical.byContradiction
  intro hn
  exact this (hN i (by omega))
 ·apply Classical.byContradiction
  intro hn
  exact (R.init N (by omega)).1 (hN N (Nat.le_refl _))
theorem app_env {env:Nat->SV} {h:Nat->HS} {d:Option Nat} {A:Action}:St.app ⟨env,h⟩ d A=⟨(St.put ⟨env,h⟩ d A.val).env,heapOf h A.hp⟩:=by
 unfold St.app St.put
 cases d<;>rfl
theorem put_men {env:Nat->SV} {h:Nat->HS} {d:Option Nat} {v:SV} {N:Nat} (he:∀ t j,(env t).men j->j < N) (hv:∀ j,v.men j->j < N):∀ t j,((St.put ⟨env,h⟩ d v).env t).men j->j < N:=by
 intro t j hm
 unfold St.put at hm
 cases d with
 | none=>exact he t j hm
 | some d =>
  simp only[upd]at hm
  split at hm
  ·exact hv j hm
  ·exact he t j hm
theorem RelAt.settle2 {C:Ctx} {ρ:Rho} {env:Nat->SV} {h' hF:Nat->HS} {a:Act} {w:World} (R:RelAt C ρ ⟨env,h'⟩ a w) {N:Nat} {b:Blk} {id:Nat} {f:Nat->Nat} {cs':List CV}
  (lv:h' id=.live ⟨b.sz,b.n,cs'⟩) (len:cs'.length=b.cs.length)
  (own:∀ (p sz n:Nat) (l:List CV),b.cs[p]? = some (.own sz n l)->(∀ c,c ∈ l->CV.bare c=true)/\l.length=n*sz ∧
   ((cs'[p]? = some (.arr (f p) 0 n)/\h' (f p)=.live ⟨sz,n,l⟩/\f p≠id)\/(cs'[p]? = some .emp/\n=0)))
  (oth:∀ (p:Nat) (c:CV),b.cs[p]? = some c->c.isOwn=false->cs'[p]? = some c)
  (inj:∀ (p q:Nat) (c d:CV) (n m:Nat),b.cs[p]? = some c->b.cs[q]? = some d->c.isOwn=true->d.isOwn=true->cs'[p]? = some (.arr (f p) 0 n)->cs'[q]? = some (.arr (f q) 0 m)->f p=f q->p=q)
  (hid:hF id=.deep b) (hidN:id < N)
  (hdead:∀ (p sz n:Nat) (l:List CV),b.cs[p]? = some (.own sz n l)->cs'[p]? = some (.arr (f p) 0 n)->f p < N->hF (f p)=.dead)
  (hrest:∀ j,j < N->j≠id->(∀ (p sz n:Nat) (l:List CV),b.cs[p]? = some (.own sz n l)->cs'[p]? = some (.arr (f p) 0 n)->f p≠j)->hF j=h' j)
  (hge:∀ j,N<=j->hF j=.no) (hk:C.k0<=N) (henv:∀ t j,(env t).men j->j < N)
  (hblk:∀ j b c i,j < N->Cells hF j b->c ∈ b.cs->c.men i->i < N):RelAt C ρ ⟨env,hF⟩ a w:=by
 have:∀ j,∃ s:HS,(j=id->s=.deep b)/\(∀ (p sz n:Nat) (l:List CV),b.cs[p]? = some (.own sz n l)->cs'[p]? = some (.arr (f p) 0 n)->f p=j->s=.dead) ∧
   (j≠id->(∀ (p sz n:Nat) (l:List CV),b.cs[p]? = some (.own sz n l)->cs'[p]? = some (.arr (f p) 0 n)->f p≠j)->s=h' j):=by
  intro j
  by_cases e:j=id
  ·refine ⟨.deep b,λ _=>rfl,λ p sz n l hp hq he => ?_,λ h=>absurd e h⟩
   obtain ⟨_,_,g⟩:=own p sz n l hp
   rcases g with ⟨_,_,g⟩|⟨g,_⟩
   ·exact absurd (he.trans e) g
   ·rw[hq]at g;cases g
  ·by_cases hx:∃ p sz n l,b.cs[p]? = some (.own sz n l)/\cs'[p]? = some (.arr (f p) 0 n)/\f p=j
   ·obtain ⟨p,sz,n,l,h1,h2,h3⟩:=hx
    exact ⟨.dead,λ h=>absurd h e,λ _ _ _ _ _ _ _=>rfl,λ _ hn=>absurd h3 (hn p sz n l h1 h2)⟩
   ·exact ⟨h' j,λ h=>absurd h e,λ p sz n l h1 h2 h3=>absurd ⟨p,sz,n,l,h1,h2,h3⟩ hx,λ _ _=>rfl⟩
 obtain ⟨hD,hh⟩:=Classical.axiomOfChoice this
 have hlt:∀ j,j < N->hF j=hD j:=λ j hj=>by
  by_cases e:j=id
  ·rw[(hh j).1 e,e,hid]
  ·by_cases hx:∃ p sz n l,b.cs[p]? = some (.own sz n l)/\cs'[p]? = some (.arr (f p) 0 n)/\f p=j
   ·obtain ⟨p,sz,n,l,h1,h2,h3⟩:=hx
    rw[(hh j).2.1 p sz n l h1 h2 h3,<-h3]
    exact hdead p sz n l h1 h2 (by omega)
   ·have hn:∀ (p sz n:Nat) (l:List CV),b.cs[p]? = some (.own sz n l)->cs'[p]? = some (.arr (f p) 0 n)->f p≠j:=λ p sz n l h1 h2 h3=>hx ⟨p,sz,n,l,h1,h2,h3⟩
    rw[(hh j).2.2 e hn]
    exact hrest j hj e hn
 refine R.settle (hD:=hD) (hF:=hF) (N:=N) (b:=b) (id:=id) (f:=f) (cs':=cs') ⟨(hh id).1 rfl,lv,len,λ p sz n l hp => ?_,oth,inj,λ j hj hn=>(hh j).2.2 hj λ p sz n l h1 h2=>hn p _ n h1 rfl h2⟩ hlt hge hk henv
  (λ j b' c i hj hc=>hblk j b' c i hj (by unfold Cells at hc ⊢;rwa [hlt j hj]))
 obtain ⟨g1,g2,g3⟩:=own p sz n l hp
 refine ⟨g1,g2,?_⟩
 rcases g3 with ⟨g3,g4,g5⟩|g3
 ·exact .inl ⟨g3,g4,(hh (f p)).2.1 p sz n l hp g3 rfl⟩
 ·exact .inr g3
theorem RelAt.unfold {C:Ctx} {ρ:Rho} {φ:St} {a:Act} {w:World} (R:RelAt C ρ φ a w) {N id:Nat} {b:Blk} (hN:∀ j,N<=j->φ.heap j=.no) (hd:φ.heap id=.deep b) :
  ∃ h2 ρ2,RelAt C ρ2 ⟨φ.env,h2⟩ a w/\Exp b id (λ p=>N+p) (expL (λ p=>N+p) b.cs) φ.heap h2/\(∀ j,j < N->j≠id->h2 j=φ.heap j)/\∃ M,∀ j,M<=j->h2 j=.no:=by
 obtain ⟨h2,E⟩:=exp_ex hd (λ p=>N+p) (λ p _ _ _ _=>hN _ (by omega)) (λ p q _ _ _ _ _ _ e=>by simpa using e)
 obtain ⟨ρ2,R2⟩:=RelAt.expand (env:=φ.env) (h:=φ.heap) R E
 have hidN:id < N:=by
  apply Classical.byContradiction
  intro hn
  rw[hN id (by omega)]at hd;cases hd
 refine ⟨h2,ρ2,R2,E,λ j hj hne=>E.rest j hne λ p c _ _=>by show N+p≠j;omega,N+b.cs.length,λ j hj => ?_⟩
 rw[E.rest j (by omega) λ p c hp _=>by have:=(List.getElem?_eq_some_iff.1 hp).1;show N+p≠j;omega]
 exact hN j (by omega)
theorem ok_deep_quiet {P:Program} {o:Oper} {φ:St} {nid:Nat} {rd:List Nat} {v:SV} {id:Nat} {b:Blk} (hd:φ.heap id=.deep b) (hid:id ∈ rd) (hrd:∀ j ∈ rd,φ.heap j≠.no) (hv:∀ j,v.men j->j ∈ rd)
  (h:∀ φ2:St,(∀ x ∈ o.op.operands,φ2.ev x=φ.ev x)->(∃ cs,φ2.heap id=.live ⟨b.sz,b.n,cs⟩/\cs.length=b.cs.length/\∀ (p:Nat) (c:CV),b.cs[p]? = some c->c.isOwn=false->cs[p]? = some c) →
   (∀ j ∈ rd,j≠id->φ2.heap j=φ.heap j)->ActOk P o φ2 nid ⟨rd,v,[]⟩):ActOk P o φ nid ⟨rd,v,[]⟩:=by
 refine .via λ C φ' a w ρ N hP hag R hN hnid => ?_
 have hd':φ'.heap id=.deep b:=(hag.hp id hid).trans hd
 obtain ⟨m1,m2,m3⟩:=R.men_lt hN
 obtain ⟨h2,ρ2,R2,E,hlt,hfin⟩:=R.unfold hN hd'
 have hrdN:∀ j ∈ rd,j < N:=λ j hj=>by
  apply Classical.byContradiction
  intro hn
  exact hrd j hj ((hag.hp j hj).symm.trans (hN j (by omega)))
 refine ⟨h2,⟨rd,v,[]⟩,ρ2,R2,h ⟨φ'.env,h2⟩ (λ x hx=>by rw[<-hag.env x hx];cases x<;>rfl) ⟨_,E.lv,E.len,E.oth⟩ (λ j hj hne => ?_),⟨λ _ _=>rfl,λ _ _=>rfl,λ p hp=>by simp at hp,hfin⟩,λ a' w' ρ' R'=>⟨ρ',?_⟩⟩
 ·exact (hlt j (hrdN j hj) hne).trans (hag.hp j hj)
 ·rw[app_env]at R'
  have:φ'.app o.dst ⟨rd,v,[]⟩=⟨(St.put ⟨φ'.env,h2⟩ o.dst v).env,φ'.heap⟩:=by
   unfold St.app St.put
   cases o.dst<;>rfl
  rw[this]
  refine RelAt.settle2 (hF:=φ'.heap) (N:=N) R' E.lv E.len (λ p sz n l hp => ?_) E.oth (λ p q c d n m h1 h2 h3 h4 _ _=>E.inj p q c d h1 h2 h3 h4) hd' (hrdN id hid) (λ p sz n l _ _ hlt => ?_) (λ j hj hne _=>(hlt j hj hne).symm) hN m3
   (put_men m1 λ j hj=>hrdN j (hv j hj)) (λ j b c i _=>m2 j b c i)
  ·obtain ⟨g1,g2⟩:=R.own_ok hd' hp
   obtain ⟨g3,g4,g5⟩:=E.own p sz n l hp
   exact ⟨g1,g2, .inl ⟨g3,g4,λ (e:N+p=id)=>by rw[e,hd']at g5;cases g5⟩⟩
  ·have hlt:N+p < N:=hlt
   omega
structure Mvs (h:Nat->HS) (ns ns':List CV) (g:Nat->Nat) (ids:List Nat):Prop where
 len:ns'.length=ns.length
 at_:∀ (k:Nat) (c c':CV),ns[k]? = some c->ns'[k]? = some c' →
  (∃ sz n l,c=.arr (g k) 0 n/\c'=.own sz n l/\h (g k)=.live ⟨sz,n,l⟩/\(∀ c,c ∈ l->CV.bare c=true)/\l.length=n*sz/\g k ∈ ids)\/(c=.emp/\∃ sz,c'=.own sz 0 [])\/(c'=c/\c.bare=true)
 inj:∀ k k' n n',ns[k]? = some (.arr (g k) 0 n)->ns[k']? = some (.arr (g k') 0 n')->g k=g k'->k=k'
 ids:∀ x ∈ ids,∃ k n,ns[k]? = some (.arr (g k) 0 n)/\g k=x
theorem bare_men {c:CV} (h:c.bare=true) (i:Nat):¬ c.men i:=by
 cases c<;>first|exact id|cases h
theorem bare_own {c:CV} (h:c.bare=true):c.isOwn=false:=by
 cases c<;>first|rfl|cases h
def deadAll (ids:List Nat):List (Nat×HS):=ids.map λ j=>(j,HS.dead)
theorem heapOf_dead:∀ (ids:List Nat) (h:Nat->HS) (j:Nat),heapOf h (deadAll ids) j=if j ∈ ids then .dead else h j
 | [],h,j=>by simp[deadAll,heapOf]
 | i::r,h,j=>by
  show heapOf (upd h i .dead) (deadAll r) j=_
  rw[heapOf_dead r]
  by_cases e:j ∈ r
  ·rw[if_pos e,if_pos (List.mem_cons_of_mem _ e)]
  ·rw[if_neg e]
   by_cases e2:j=i
   ·subst e2;rw[upd_same,if_pos (List.mem_cons_self ..)]
   ·rw[upd_ne _ _ e2,if_neg (by simp[e,e2])]
theorem RelAt.finish {C:Ctx} {ρ':Rho} {env:Nat->SV} {h h2 h'' hF:Nat->HS} {a:Act} {w:World} (R':RelAt C ρ' ⟨env,h''⟩ a w) {N id id2:Nat} {b b2:Blk} {cs' cs2 ns ns':List CV} {g:Nat->Nat} {ids:List Nat} {src:Nat->Nat ⊕ Nat}
  (E:Exp b id (λ p=>N+p) cs' h h2) (hbare:∀ (p sz n:Nat) (l:List CV),b.cs[p]? = some (.own sz n l)->(∀ c,c ∈ l->CV.bare c=true)/\l.length=n*sz) (hm:Mvs h ns ns' g ids)
  (lv:h'' id2=.live ⟨b2.sz,b2.n,cs2⟩) (len:cs2.length=b2.cs.length)
  (hsrc:∀ p,p < b2.cs.length->(∃ q,src p=.inl q/\b2.cs[p]? = b.cs[q]? ∧ cs2[p]? = cs'[q]?)\/(∃ k,src p=.inr k/\b2.cs[p]? = ns'[k]? ∧ cs2[p]? = ns[k]?))
  (hinj:∀ p q,p < b2.cs.length->q < b2.cs.length->src p=src q->p=q) (hsur:∀ k,k < ns.length->∃ p,p < b2.cs.length/\src p=.inr k)
  (hh:∀ j,j ∈ ids\/N<=j->h'' j=h2 j) (hlt2:∀ j,j < N->j≠id->h2 j=h j) (hgid:id ∉ ids) (hgid2:id2 ∉ ids) (hidN:id < N)
  (hid:hF id2=.deep b2) (hid2N:id2 < N) (hdead:∀ j ∈ ids,hF j=.dead) (hidsN:∀ j ∈ ids,j < N) (hrest:∀ j,j < N->j≠id2->j ∉ ids->hF j=h'' j)
  (hge:∀ j,N<=j->hF j=.no) (hk:C.k0<=N) (henv:∀ t j,(env t).men j->j < N)
  (hblk:∀ j b c i,j < N->j≠id2->Cells hF j b->c ∈ b.cs->c.men i->i < N) (hb:∀ c i,c ∈ b.cs->c.men i->i < N):RelAt C ρ' ⟨env,hF⟩ a w:=by
 let f2:Nat->Nat:=λ p=>match src p with | .inl q=>N+q | .inr k=>g k
 have hgl:∀ {k:Nat} {sz n:Nat} {l:List CV},ns'[k]? = some (.own sz n l)->(∃ n0,ns[k]? = some (.arr (g k) 0 n0)/\n0=n/\(∀ c,c ∈ l->CV.bare c=true)/\l.length=n*sz/\g k ∈ ids/\h (g k)=.live ⟨sz,n,l⟩)\/(ns[k]? = some .emp/\n=0/\l=[]):=λ {k sz n l} hk=>by
  have hkl:k < ns.length:=by rw[<-hm.len];exact (List.getElem?_eq_some_iff.1 hk).1
  have hx:=List.getElem?_eq_getElem hkl
  rcases hm.at_ k _ _ hx hk with ⟨sz',n',l',e1,e2,e3,e4,e5,e6⟩|⟨e,sz',e2⟩|⟨e,e2⟩
  ·cases e2;rw[e1]at hx;exact .inl ⟨_,hx,rfl,e4,e5,e6,e3⟩
  ·cases e2;rw[e]at hx;exact .inr ⟨hx,rfl,rfl⟩
  ·rw[<-e]at e2;cases e2
 have hgk:∀ j ∈ ids,h'' j=h j:=λ j hj=>(hh j (.inl hj)).trans (hlt2 j (hidsN j hj) λ e=>hgid (e▸hj))
 have plt:∀ {p:Nat} {c:CV},b2.cs[p]? = some c->p < b2.cs.length:=λ hp=>(List.getElem?_eq_some_iff.1 hp).1
 have fl:∀ {p q:Nat},src p=.inl q->f2 p=N+q:=λ {p q} e=>by show (match src p with | .inl q=>N+q | .inr k=>g k)=_;rw[e]
 have fr:∀ {p k:Nat},src p=.inr k->f2 p=g k:=λ {p k} e=>by show (match src p with | .inl q=>N+q | .inr k=>g k)=_;rw[e]
 refine RelAt.settle2 (hF:=hF) (N:=N) (b:=b2) (id:=id2) (f:=f2) (cs':=cs2) R' lv len (λ p sz n l hp => ?_) (λ p c hp hc => ?_) (λ p q c d n m hp hq hc hd hp' hq' e => ?_) hid hid2N (λ p sz n l hp hp' hlt => ?_) (λ j hj hne hn => ?_) hge hk henv (λ j b' c i hj hc hcb hm' => ?_)
 ·rcases hsrc p (plt hp) with ⟨q,e1,e2,e3⟩|⟨k,e1,e2,e3⟩
  ·rw[e2]at hp
   obtain ⟨g1,g2⟩:=hbare q sz n l hp
   obtain ⟨g3,g4,g5⟩:=E.own q sz n l hp
   refine ⟨g1,g2, .inl ⟨by rw[e3,fl e1];exact g3,by rw[fl e1,hh _ (.inr (by omega))];exact g4,by rw[fl e1];omega⟩⟩
  ·rw[e2]at hp
   rcases hgl hp with ⟨n0,h1,rfl,h3,h4,h5,h6⟩|⟨h1,rfl,rfl⟩
   ·exact ⟨h3,h4, .inl ⟨by rw[e3,fr e1];exact h1,by rw[fr e1,hgk _ h5];exact h6,by rw[fr e1];exact λ e=>hgid2 (e▸h5)⟩⟩
   ·exact ⟨(λ c hc=>nomatch hc),(Nat.zero_mul _).symm, .inr ⟨by rw[e3];exact h1,rfl⟩⟩
 ·rcases hsrc p (plt hp) with ⟨q,e1,e2,e3⟩|⟨k,e1,e2,e3⟩
  ·rw[e3];rw[e2]at hp;exact E.oth q c hp hc
  ·rw[e2]at hp
   have hkl:k < ns.length:=by rw[<-hm.len];exact (List.getElem?_eq_some_iff.1 hp).1
   have hx:=List.getElem?_eq_getElem hkl
   rcases hm.at_ k _ _ hx hp with ⟨sz',n',l',e1,e2,_⟩|⟨e,sz',e2⟩|⟨e,e2⟩
   ·rw[e2]at hc;cases hc
   ·rw[e2]at hc;cases hc
   ·rw[e3,hx,e]
 ·have hpl:=plt hp
  have hql:=plt hq
  rcases hsrc p hpl with ⟨i,e1,e2,e3⟩|⟨k,e1,e2,e3⟩
  ·rcases hsrc q hql with ⟨i',e1',e2',e3'⟩|⟨k',e1',e2',e3'⟩
   ·rw[fl e1,fl e1']at e
    exact hinj p q hpl hql (by rw[e1,e1',show i=i' by omega])
   ·rw[fl e1,fr e1']at e
    rw[e2']at hq
    obtain ⟨sz,n1,l,rfl⟩:=CV.own_of hd
    rcases hgl hq with ⟨n0,h1,_,_,_,h5,_⟩|⟨h1,_⟩
    ·have:=hidsN _ h5;omega
    ·rw[e3',h1]at hq';cases hq'
  ·rcases hsrc q hql with ⟨i',e1',e2',e3'⟩|⟨k',e1',e2',e3'⟩
   ·rw[fr e1,fl e1']at e
    rw[e2]at hp
    obtain ⟨sz,n1,l,rfl⟩:=CV.own_of hc
    rcases hgl hp with ⟨n0,h1,_,_,_,h5,_⟩|⟨h1,_⟩
    ·have:=hidsN _ h5;omega
    ·rw[e3,h1]at hp';cases hp'
   ·rw[fr e1,fr e1']at e
    rw[e3,fr e1]at hp'
    rw[e3',fr e1']at hq'
    have:=hm.inj k k' n m hp' hq' e
    exact hinj p q hpl hql (by rw[e1,e1',this])
 ·rcases hsrc p (plt hp) with ⟨q,e1,e2,e3⟩|⟨k,e1,e2,e3⟩
  ·rw[fl e1]at hlt;omega
  ·rw[e2]at hp
   rw[fr e1]
   rcases hgl hp with ⟨n0,h1,_,_,_,h5,_⟩|⟨h1,_⟩
   ·exact hdead _ h5
   ·rw[e3,h1]at hp';cases hp'
 ·by_cases hx:j ∈ ids
  ·obtain ⟨k,n,hk',e⟩:=hm.ids j hx
   have hkl:=(List.getElem?_eq_some_iff.1 hk').1
   obtain ⟨p,hp,hs⟩:=hsur k hkl
   rcases hsrc p hp with ⟨q,e1,_⟩|⟨k2,e1,e2,e3⟩
   ·rw[hs]at e1;cases e1
   ·rw[hs]at e1;cases e1
    have hkl':k < ns'.length:=by rw[hm.len];exact hkl
    have hx':=List.getElem?_eq_getElem hkl'
    rcases hm.at_ k _ _ hk' hx' with ⟨sz',n',l',e1,e4,_⟩|⟨e1,_⟩|⟨_,e1⟩
    ·rw[hx',e4]at e2
     cases e1
     exact absurd (by rw[fr hs];exact e) (hn p sz' n l' e2 (by rw[e3,fr hs];exact hk'))
    ·cases e1
    ·cases e1
  ·exact hrest j hj hne hx
 ·by_cases e:j=id2
  ·subst e
   have:b'=b2:=by
    rcases hc with hc|hc<;>rw[hid]at hc<;>cases hc
    rfl
   subst this
   obtain ⟨p,hp⟩:=List.getElem?_of_mem hcb
   rcases hsrc p (plt hp) with ⟨q,e1,e2,e3⟩|⟨k,e1,e2,e3⟩
   ·rw[e2]at hp;exact hb c i (List.mem_of_getElem? hp) hm'
   ·rw[e2]at hp
    have hkl:k < ns.length:=by rw[<-hm.len];exact (List.getElem?_eq_some_iff.1 hp).1
    rcases hm.at_ k _ _ (List.getElem?_eq_getElem hkl) hp with ⟨sz',n',l',e1,e2,_⟩|⟨e,sz',e2⟩|⟨e,e2⟩
    ·rw[e2]at hm';exact hm'.elim
    ·rw[e2]at hm';exact hm'.elim
    ·rw[<-e]at e2;exact absurd hm' (bare_men e2 i)
  ·exact hblk j b' c i hj e hc hcb hm'
theorem ok_deep_store {P:Program} {o:Oper} {φ:St} {nid:Nat} {t:TypeId} {x v:Operand} {size id off:Nat} {b:Blk} {ns ns':List CV} {g:Nat->Nat} {ids:List Nat} (ho:o.op=.store t x v) (hs:sizeF P t=some size)
  (hv:(φ.ev v).kC λ m=>m=ns) (hsz:ns.length=size) (hx:φ.ev x=one (.ptr id off)) (hd:φ.heap id=.deep b) (hoff:off+ns.length<=b.cs.length) (hm:Mvs φ.heap ns ns' g ids) (hidn:id ∉ ids) :
  ActOk P o φ nid ⟨id::ids,one .dead,(id, .deep ⟨b.sz,b.n,over b.cs off ns'⟩)::deadAll ids⟩:=by
 refine .via λ C φ' a w ρ N hP hag R hN hnid => ?_
 have hd':φ'.heap id=.deep b:=(hag.hp id (by simp)).trans hd
 obtain ⟨m1,m2,m3⟩:=R.men_lt hN
 obtain ⟨h2,ρ2,R2,E,hlt,hfin⟩:=R.unfold hN hd'
 have hidN:id < N:=by
  apply Classical.byContradiction
  intro hn
  rw[hN id (by omega)]at hd';cases hd'
 have hids:∀ j ∈ ids,φ'.heap j=φ.heap j:=λ j hj=>hag.hp j (List.mem_cons_of_mem _ hj)
 have hoff':off+ns'.length<=b.cs.length:=by rw[hm.len];exact hoff
 have hgl:∀ k sz n l,ns[k]? = some (.arr (g k) 0 n)->ns'[k]? = some (.own sz n l)->(∀ c,c ∈ l->CV.bare c=true)/\l.length=n*sz/\g k ∈ ids/\φ'.heap (g k)=.live ⟨sz,n,l⟩:=λ k sz n l h1 h2=>by
  rcases hm.at_ k _ _ h1 h2 with ⟨sz',n',l',e1,e2,e3,e4,e5,e6⟩|⟨e,_⟩|⟨e,_⟩
  ·cases e1;cases e2;exact ⟨e4,e5,e6,(hids _ e6).trans e3⟩
  ·cases e
  ·cases e
 have hidlt:∀ j ∈ ids,j < N:=λ j hj=>by
  obtain ⟨k,n,hk,rfl⟩:=hm.ids j hj
  have hkl:k < ns'.length:=by rw[hm.len];exact (List.getElem?_eq_some_iff.1 hk).1
  rcases hm.at_ k _ _ hk (List.getElem?_eq_getElem hkl) with ⟨sz',n',l',e1,e2,e3,e4,e5,e6⟩|⟨e,_⟩|⟨_,e⟩
  ·apply Classical.byContradiction
   intro hn
   rw[<-hids _ e6,hN _ (by omega)]at e3
   cases e3
  ·cases e
  ·cases e
 have hev:∀ y:Operand,(St.mk φ'.env h2).ev y=φ'.ev y:=λ y=>by cases y<;>rfl
 have hxm:x ∈ o.op.operands:=by rw[ho];simp[Op.operands]
 have hvm:v ∈ o.op.operands:=by rw[ho];simp[Op.operands]
 have hact:act P o ⟨φ'.env,h2⟩ nid λ A=>A=⟨[id],one .dead,[(id, .live ⟨b.sz,b.n,over (expL (λ p=>N+p) b.cs) off ns⟩)]⟩:=by
  unfold act
  rw[ho]
  simp only
  rw[hs]
  show (SV.kC _ _)
  rw[hev v,hag.env v hvm]
  refine kC_mono hv λ m e => ?_
  subst e
  refine ⟨hsz,?_⟩
  rw[hev x,hag.env x hxm,hx]
  show kLive (h2 id) _
  rw[E.lv]
  exact ⟨by rw[expL_len];exact hoff,rfl⟩
 obtain ⟨A,hA,rfl⟩:=act_ok hact
 refine ⟨h2,_,ρ2,R2,hA,⟨λ _ _=>rfl,λ _ _=>rfl,λ p hp hn => ?_,hfin⟩,λ a' w' ρ' R'=>⟨ρ',?_⟩⟩
 ·cases List.mem_singleton.1 hp
  have:=hag.fresh (id,_) (List.mem_cons_self ..) hn
  rw[hd']at this;cases this
 ·rw[app_env]at R'
  have e0:φ'.app o.dst ⟨id::ids,one .dead,(id, .deep ⟨b.sz,b.n,over b.cs off ns'⟩)::deadAll ids⟩=⟨(St.put ⟨φ'.env,h2⟩ o.dst (one .dead)).env,heapOf (upd φ'.heap id (.deep ⟨b.sz,b.n,over b.cs off ns'⟩)) (deadAll ids)⟩:=by
   unfold St.app St.put
   cases o.dst<;>rfl
  rw[e0]
  have R'':RelAt C ρ' ⟨(St.put ⟨φ'.env,h2⟩ o.dst (one .dead)).env,upd h2 id (.live ⟨b.sz,b.n,over (expL (λ p=>N+p) b.cs) off ns⟩)⟩ a' w':=R'
  have hF:∀ j,heapOf (upd φ'.heap id (.deep ⟨b.sz,b.n,over b.cs off ns'⟩)) (deadAll ids) j=if j ∈ ids then .dead else upd φ'.heap id (.deep ⟨b.sz,b.n,over b.cs off ns'⟩) j:=λ j=>heapOf_dead _ _ _
  have hm':Mvs φ'.heap ns ns' g ids:=⟨hm.len,λ k c c' h1 h2=>by
   rcases hm.at_ k c c' h1 h2 with ⟨sz',n',l',e1,e2,e3,e4,e5,e6⟩|e|e
   ·exact .inl ⟨sz',n',l',e1,e2,(hids _ e6).trans e3,e4,e5,e6⟩
   ·exact .inr (.inl e)
   ·exact .inr (.inr e),hm.inj,hm.ids⟩
  have hol:(over b.cs off ns').length=b.cs.length:=over_length hoff'
  have hol':(over (expL (λ p=>N+p) b.cs) off ns).length=b.cs.length:=by rw[over_length (by rw[expL_len];exact hoff),expL_len]
  refine RelAt.finish (N:=N) (id:=id) (id2:=id) (b2:=⟨b.sz,b.n,over b.cs off ns'⟩) (src:=λ p=>if off<=p/\p < off+ns.length then .inr (p-off) else .inl p) R'' E (λ p sz n l hp=>R.own_ok hd' hp) hm' (upd_same _ _ _) (hol'.trans hol.symm) (λ p hp => ?_) (λ p q hp hq e => ?_) (λ k hk=>⟨off+k,?_,?_⟩)
   (λ j hj=>upd_ne _ _ ?_) hlt hidn hidn hidN (by rw[hF,if_neg hidn,upd_same]) hidN (λ j hj=>by rw[hF,if_pos hj]) hidlt (λ j hj hne hn=>by rw[hF,if_neg hn,upd_ne _ _ hne,upd_ne _ _ hne];exact (hlt j hj hne).symm) (λ j hj => ?_) m3 (put_men m1 λ j hj=>hj.elim) (λ j b' c i hj hne hc => ?_)
   (λ c i hc=>m2 id b c i (.inr hd') hc)
  ·have hoe:off+ns.length<=(expL (λ p=>N+p) b.cs).length:=by rw[expL_len];exact hoff
   by_cases hin:off<=p/\p < off+ns.length
   ·refine .inr ⟨p-off,if_pos hin,?_,?_⟩
    ·show (over b.cs off ns')[p]? = _
     rw[over_get hoff',hm.len,if_pos hin]
    ·rw[over_get hoe,if_pos hin]
   ·refine .inl ⟨p,if_neg hin,?_,?_⟩
    ·show (over b.cs off ns')[p]? = _
     rw[over_get hoff',hm.len,if_neg hin]
    ·rw[over_get hoe,if_neg hin]
  ·split at e<;>split at e
   ·have:=Sum.inr.inj e;omega
   ·cases e
   ·cases e
   ·exact Sum.inl.inj e
  ·show off+k < (over b.cs off ns').length
   rw[hol];omega
  ·rw[if_pos (by omega)]
   congr 1
   omega
  ·rintro rfl
   rcases hj with hj|hj
   ·exact hidn hj
   ·omega
  ·rw[hF,if_neg λ h=>by have:=hidlt j h;omega,upd_ne _ _ (by omega)]
   exact hN j hj
  ·have hj':j ∉ ids:=λ h=>by
    rcases hc with hc|hc<;>rw[hF,if_pos h]at hc<;>cases hc
   unfold Cells at hc
   rw[hF,if_neg hj',upd_ne _ _ hne]at hc
   exact m2 j b' c i hc
end Go.Fm
namespace Go.Fm
variable [Globs]
theorem RelAt.deep_len {C:Ctx} {ρ:Rho} {φ:St} {a:Act} {w:World} (R:RelAt C ρ φ a w) {id:Nat} {b:Blk} (hd:φ.heap id=.deep b):b.cs.length=b.n*b.sz:=by
 obtain ⟨D,H⟩:=R.hp.dp
 have hA:=H.at_ id b hd
 unfold DeepAt at hA
 cases hL:ρ id with
 | none=>rw[hL]at hA;rw[hA.1,hA.2.1];simp
 | some L=>rw[hL]at hA;exact hA.1
theorem Mvs.re {h h':Nat->HS} {ns ns':List CV} {g:Nat->Nat} {ids:List Nat} (hm:Mvs h ns ns' g ids) (hi:∀ j ∈ ids,h' j=h j):Mvs h' ns ns' g ids :=
 ⟨hm.len,λ k c c' h1 h2=>by
  rcases hm.at_ k c c' h1 h2 with ⟨sz',n',l',e1,e2,e3,e4,e5,e6⟩|e|e
  ·exact .inl ⟨sz',n',l',e1,e2,(hi _ e6).trans e3,e4,e5,e6⟩
  ·exact .inr (.inl e)
  ·exact .inr (.inr e),hm.inj,hm.ids⟩
theorem Mvs.ne {h:Nat->HS} {ns ns':List CV} {g:Nat->Nat} {ids:List Nat} (hm:Mvs h ns ns' g ids):∀ j ∈ ids,∃ b,h j=.live b:=λ j hj=>by
 obtain ⟨k,n,hk,rfl⟩:=hm.ids j hj
 have hkl:k < ns'.length:=by rw[hm.len];exact (List.getElem?_eq_some_iff.1 hk).1
 rcases hm.at_ k _ _ hk (List.getElem?_eq_getElem hkl) with ⟨sz',n',l',e1,e2,e3,e4,e5,e6⟩|⟨e,_⟩|⟨_,e⟩
 ·exact ⟨_,e3⟩
 ·cases e
 ·cases e
theorem ok_deep_append {P:Program} {o:Oper} {φ:St} {nid:Nat} {c:Call} {t t2 e e2:TypeId} {r:List TypeId} {x y:Operand} {size by_ id rid m:Nat} {b:Blk} {z ns ns':List CV} {g:Nat->Nat} {ids:List Nat}
  (ho:o.op=.call c) (hc:c.callee=.builtin .append) (hat:c.argTypes.toList=t::t2::r) (hl:c.args.toList=[x,y]) (ht:kindF P t=.slice e) (ht2:kindF P t2=.slice e2)
  (hs:sizeF P e=some size) (hb:bytesF P e=some by_) (hz:zeroF P e=some z) (hby:by_<=1024) (hzl:z.length=size) (hbz:b.sz=size)
  (hx:φ.ev x=one (.arr id 0 b.n)) (hd:φ.heap id=.deep b) (hy:φ.ev y=one (.arr rid 0 m)) (hr:φ.heap rid=.live ⟨size,m,ns⟩) (hns:ns.length=m*size) (hn:b.n+m<=maxN)
  (hm:Mvs φ.heap ns ns' g ids) :
  ActOk P o φ nid ⟨id::rid::ids,one (.arr nid 0 (b.n+m)),(id, .dead)::(nid, .deep ⟨size,b.n+m,b.cs++ns'⟩)::deadAll ids⟩:=by
 refine .via λ C φ' a w ρ N hP hag R hN hnid => ?_
 have hd':φ'.heap id=.deep b:=(hag.hp id (by simp)).trans hd
 have hr':φ'.heap rid=.live ⟨size,m,ns⟩:=(hag.hp rid (by simp)).trans hr
 have hno:φ'.heap nid=.no:=hag.fresh (nid,_) (List.mem_cons_of_mem _ (List.mem_cons_self ..)) (Nat.le_refl _)
 obtain ⟨m1,m2,m3⟩:=R.men_lt hN
 obtain ⟨h2,ρ2,R2,E,hlt,hfin⟩:=R.unfold hN hd'
 have ltN:∀ {j:Nat},φ'.heap j≠.no->j < N:=λ {j} h=>by
  apply Classical.byContradiction
  intro hn
  exact h (hN j (by omega))
 have hidN:id < N:=ltN (by rw[hd'];nofun)
 have hridN:rid < N:=ltN (by rw[hr'];nofun)
 have hne:rid≠id:=λ e=>by rw[e,hd']at hr';cases hr'
 have hni:nid≠id:=λ e=>by rw[e,hd']at hno;cases hno
 have hids:∀ j ∈ ids,φ'.heap j=φ.heap j:=λ j hj=>hag.hp j (by simp[hj])
 have hm':Mvs φ'.heap ns ns' g ids:=hm.re hids
 have hlv:=hm'.ne
 have hidlt:∀ j ∈ ids,j < N:=λ j hj=>ltN (by obtain ⟨b,e⟩:=hlv j hj;rw[e];nofun)
 have hidn:id ∉ ids:=λ hj=>by obtain ⟨b',e⟩:=hlv id hj;rw[hd']at e;cases e
 have hnidn:nid ∉ ids:=λ hj=>by obtain ⟨b',e⟩:=hlv nid hj;rw[hno]at e;cases e
 have hbl:=R.deep_len hd'
 have hel:(expL (λ p=>N+p) b.cs).length=b.n*size:=by rw[expL_len,hbl,hbz]
 have hev:∀ y:Operand,(St.mk φ'.env h2).ev y=φ'.ev y:=λ y=>by cases y<;>rfl
 have hxm:x ∈ o.op.operands:=call_mem ho hc hl (by simp)
 have hym:y ∈ o.op.operands:=call_mem ho hc hl (by simp)
 have hact:act P o ⟨φ'.env,h2⟩ nid λ A=>A=⟨[id,rid],one (.arr nid 0 (b.n+m)),[(id, .dead),(nid, .live ⟨size,b.n+m,expL (λ p=>N+p) b.cs++ns⟩)]⟩:=by
  unfold act
  rw[ho]
  simp only[hc,hat,hl,List.map_cons,List.map_nil]
  unfold builtinF
  simp only[ht,ht2]
  rw[hs,hb,hz]
  refine ⟨hby,hzl,?_⟩
  rw[hev x,hev y,hag.env x hxm,hag.env y hym,hx,hy]
  show kLive (h2 rid) _
  rw[hlt rid hridN hne,hr']
  refine ⟨rfl,by simp,?_⟩
  show kLive (h2 id) _
  rw[E.lv]
  refine ⟨hbz,by simp,hn,?_⟩
  have e1:((expL (λ p=>N+p) b.cs).drop (0*size)).take (b.n*size)=expL (λ p=>N+p) b.cs:=by
   rw[Nat.zero_mul,List.drop_zero,<-hel,List.take_length]
  have e2:(ns.drop (0*size)).take (m*size)=ns:=by
   rw[Nat.zero_mul,List.drop_zero,<-hns,List.take_length]
  rw[e1,e2]
 obtain ⟨A,hA,rfl⟩:=act_ok hact
 refine ⟨h2,_,ρ2,R2,hA,⟨λ _ _=>rfl,λ _ _=>rfl,λ p hp hn => ?_,hfin⟩,λ a' w' ρ' R'=>⟨ρ',?_⟩⟩
 ·rcases List.mem_cons.1 hp with rfl|hp
  ·have:=hag.fresh (id,_) (List.mem_cons_self ..) hn
   rw[hd']at this;cases this
  ·cases List.mem_singleton.1 hp
   show h2 nid=_
   rw[hlt nid hnid hni,hno]
 ·rw[app_env]at R'
  have e0:φ'.app o.dst ⟨id::rid::ids,one (.arr nid 0 (b.n+m)),(id, .dead)::(nid, .deep ⟨size,b.n+m,b.cs++ns'⟩)::deadAll ids⟩=⟨(St.put ⟨φ'.env,h2⟩ o.dst (one (.arr nid 0 (b.n+m)))).env,heapOf (upd (upd φ'.heap id .dead) nid (.deep ⟨size,b.n+m,b.cs++ns'⟩)) (deadAll ids)⟩:=by
   unfold St.app St.put
   cases o.dst<;>rfl
  rw[e0]
  have R'':RelAt C ρ' ⟨(St.put ⟨φ'.env,h2⟩ o.dst (one (.arr nid 0 (b.n+m)))).env,upd (upd h2 id .dead) nid (.live ⟨size,b.n+m,expL (λ p=>N+p) b.cs++ns⟩)⟩ a' w':=R'
  have hF:∀ j,heapOf (upd (upd φ'.heap id .dead) nid (.deep ⟨size,b.n+m,b.cs++ns'⟩)) (deadAll ids) j=if j ∈ ids then .dead else upd (upd φ'.heap id .dead) nid (.deep ⟨size,b.n+m,b.cs++ns'⟩) j:=λ j=>heapOf_dead _ _ _
  refine RelAt.finish (N:=N) (id:=id) (id2:=nid) (b2:=⟨size,b.n+m,b.cs++ns'⟩) (src:=λ p=>if p < b.cs.length then .inl p else .inr (p-b.cs.length)) R'' E (λ p sz n l hp=>R.own_ok hd' hp) hm' (upd_same _ _ _)
   (by simp only[List.length_append,expL_len,hm.len]) (λ p hp => ?_) (λ p q hp hq e => ?_) (λ k hk=>⟨b.cs.length+k,?_,?_⟩)
   (λ j hj => ?_) hlt hidn hnidn hidN (by rw[hF,if_neg hnidn,upd_same]) hnid (λ j hj=>by rw[hF,if_pos hj]) hidlt (λ j hj hne hn => ?_) (λ j hj => ?_) m3 (put_men m1 λ j hj=>by cases hj;exact hnid) (λ j b' c i hj hne hc => ?_)
   (λ c i hc=>m2 id b c i (.inr hd') hc)
  ·by_cases hin:p < b.cs.length
   ·exact .inl ⟨p,if_pos hin,List.getElem?_append_left hin,List.getElem?_append_left (by rw[expL_len];exact hin)⟩
   ·refine .inr ⟨p-b.cs.length,if_neg hin,List.getElem?_append_right (by omega),?_⟩
    rw[List.getElem?_append_right (by rw[expL_len];omega),expL_len]
  ·split at e<;>split at e
   ·exact Sum.inl.inj e
   ·cases e
   ·cases e
   ·have:=Sum.inr.inj e;omega
  ·show b.cs.length+k < (b.cs++ns').length
   rw[List.length_append,hm.len];omega
  ·rw[if_neg (by omega)]
   congr 1
   omega
  ·have h1:j≠nid:=by
    rintro rfl
    rcases hj with hj|hj
    ·exact hnidn hj
    ·omega
   have h2:j≠id:=by
    rintro rfl
    rcases hj with hj|hj
    ·exact hidn hj
    ·omega
   rw[upd_ne _ _ h1,upd_ne _ _ h2]
  ·rw[hF,if_neg hn,upd_ne _ _ hne,upd_ne _ _ hne]
   by_cases e:j=id
   ·subst e;rw[upd_same,upd_same]
   ·rw[upd_ne _ _ e,upd_ne _ _ e];exact (hlt j hj e).symm
  ·rw[hF,if_neg λ h=>by have:=hidlt j h;omega,upd_ne _ _ (by omega),upd_ne _ _ (by omega)]
   exact hN j hj
  ·have hj':j ∉ ids:=λ h=>by
    rcases hc with hc|hc<;>rw[hF,if_pos h]at hc<;>cases hc
   unfold Cells at hc
   rw[hF,if_neg hj',upd_ne _ _ hne]at hc
   by_cases e:j=id
   ·subst e;rw[upd_same]at hc;rcases hc with hc|hc<;>cases hc
   ·rw[upd_ne _ _ e]at hc
    exact m2 j b' c i hc
def EmpOwn (cs cs':List CV):Prop:=cs'.length=cs.length/\∀ (k:Nat) (c c':CV),cs[k]? = some c->cs'[k]? = some c'->(c=.emp/\∃ sz,c'=.own sz 0 [])\/(c'=c/\c.bare=true)
theorem RelAt.to_deep {C:Ctx} {ρ:Rho} {env:Nat->SV} {h:Nat->HS} {a:Act} {w:World} {id sz n:Nat} {cs cs':List CV} (R:RelAt C ρ ⟨env,upd h id (.live ⟨sz,n,cs⟩)⟩ a w) (he:EmpOwn cs cs') :
  RelAt C ρ ⟨env,upd h id (.deep ⟨sz,n,cs'⟩)⟩ a w:=by
 have hget:∀ {p:Nat} {c':CV},cs'[p]? = some c'->∃ c,cs[p]? = some c/\((c=.emp/\∃ sz,c'=.own sz 0 [])\/(c'=c/\c.bare=true)):=λ {p c'} hp=>by
  have hkl:p < cs.length:=by rw[<-he.1];exact (List.getElem?_eq_some_iff.1 hp).1
  exact ⟨_,List.getElem?_eq_getElem hkl,he.2 p _ _ (List.getElem?_eq_getElem hkl) hp⟩
 refine R.contract (b:=⟨sz,n,cs'⟩) (id:=id) (f:=λ _=>0) (cs':=cs) ⟨upd_same _ _ _,upd_same _ _ _,he.1.symm,λ p s m l hp => ?_,λ p c hp hc => ?_,λ p q c d n m hp hq hc hd hp' hq' _ => ?_,λ j hj _=>by rw[upd_ne _ _ hj,upd_ne _ _ hj]⟩
 ·obtain ⟨c,h1,⟨rfl,sz',e⟩|⟨e,e2⟩⟩:=hget hp
  ·cases e;exact ⟨(λ c hc=>nomatch hc),(Nat.zero_mul _).symm, .inr ⟨h1,rfl⟩⟩
  ·rw[<-e]at e2;cases e2
 ·obtain ⟨c0,h1,⟨rfl,sz',e⟩|⟨e,e2⟩⟩:=hget hp
  ·rw[e]at hc;cases hc
  ·rw[e];exact h1
 ·obtain ⟨c0,h1,⟨rfl,sz',e⟩|⟨e,e2⟩⟩:=hget hp
  ·rw[h1]at hp';cases hp'
  ·rw[e,bare_own e2]at hc;cases hc
theorem ok_deep_new {P:Program} {o:Oper} {φ:St} {nid:Nat} {rd:List Nat} {v:SV} {sz n:Nat} {cs cs':List CV} (h:ActOk P o φ nid ⟨rd,v,[(nid, .live ⟨sz,n,cs⟩)]⟩) (he:EmpOwn cs cs') :
  ActOk P o φ nid ⟨rd,v,[(nid, .deep ⟨sz,n,cs'⟩)]⟩:=by
 intro C hP φ' a w hag hR hd K Q hK
 refine h C hP φ' a w ⟨hag.env,hag.hp,λ p hp hn => ?_,hag.fin⟩ hR hd K Q λ a' w' ⟨ρ,R⟩=>hK a' w' ⟨ρ,?_⟩
 ·cases List.mem_singleton.1 hp
  exact hag.fresh (nid,HS.deep ⟨sz,n,cs'⟩) (List.mem_singleton.2 rfl) hn
 ·rw[app_env]at R ⊢
  have e:(St.put ⟨φ'.env,φ'.heap⟩ o.dst v).env=(φ'.put o.dst v).env:=rfl
  exact RelAt.to_deep R he
theorem ok_deep_open {P:Program} {o:Oper} {φ:St} {nid:Nat} {t:TypeId} {x:Operand} {id off sz n:Nat} {b:Blk} {l:List CV} (ho:o.op=.load t x) (hs:sizeF P t=some 1) (hag':aggF P t=some false)
  (hx:φ.ev x=one (.ptr id off)) (hd:φ.heap id=.deep b) (hoff:b.cs[off]? = some (.own sz n l)) :
  ActOk P o φ nid ⟨[id],one (.arr nid 0 n),[(id, .deep ⟨b.sz,b.n,b.cs.set off (.arr nid 0 n)⟩),(nid, .live ⟨sz,n,l⟩)]⟩:=by
 refine .via λ C φ' a w ρ N hP hag R hN hnid => ?_
 have hd':φ'.heap id=.deep b:=(hag.hp id (by simp)).trans hd
 have hno:φ'.heap nid=.no:=hag.fresh (nid,_) (List.mem_cons_of_mem _ (List.mem_cons_self ..)) (Nat.le_refl _)
 obtain ⟨m1,m2,m3⟩:=R.men_lt hN
 have hni:nid≠id:=λ e=>by rw[e,hd']at hno;cases hno
 let f:Nat->Nat:=λ p=>if p=off then nid else N+p
 have hf0:f off=nid:=if_pos rfl
 have hf1:∀ {p},p≠off->f p=N+p:=λ h=>if_neg h
 obtain ⟨h2,E⟩:=exp_ex hd' f (λ p _ _ _ _=>by
  by_cases e:p=off
  ·rw[e,hf0];exact hno
  ·rw[hf1 e];exact hN _ (by omega)) (λ p q _ _ _ _ _ _ e=>by
  by_cases e1:p=off
  ·by_cases e2:q=off
   ·rw[e1,e2]
   ·rw[e1,hf0,hf1 e2]at e;omega
  ·by_cases e2:q=off
   ·rw[e2,hf0,hf1 e1]at e;omega
   ·rw[hf1 e1,hf1 e2]at e;omega)
 obtain ⟨ρ2,R2⟩:=RelAt.expand (env:=φ'.env) (h:=φ'.heap) R E
 have ltN:∀ {j:Nat},φ'.heap j≠.no->j < N:=λ {j} h=>by
  apply Classical.byContradiction
  intro hn
  exact h (hN j (by omega))
 have hidN:id < N:=ltN (by rw[hd'];nofun)
 have hlt:∀ j,j < N->j≠id->j≠nid->h2 j=φ'.heap j:=λ j hj h1 hh=>E.rest j h1 λ p c hp hc e=>by
  by_cases e1:p=off
  ·rw[e1,hf0]at e;exact hh e.symm
  ·rw[hf1 e1]at e;omega
 have hfin:∃ M,∀ j,M<=j->h2 j=.no:=⟨N+b.cs.length,λ j hj=>by
  rw[E.rest j (by omega) λ p c hp _ e=>by
   have:=(List.getElem?_eq_some_iff.1 hp).1
   by_cases e1:p=off
   ·rw[e1,hf0]at e;omega
   ·rw[hf1 e1]at e;omega]
  exact hN j (by omega)⟩
 have hev:∀ y:Operand,(St.mk φ'.env h2).ev y=φ'.ev y:=λ y=>by cases y<;>rfl
 have hxm:x ∈ o.op.operands:=by rw[ho];simp[Op.operands]
 obtain ⟨g1,g2,g3⟩:=E.own off sz n l hoff
 rw[hf0]at g1 g2 g3
 have hol:off < b.cs.length:=(List.getElem?_eq_some_iff.1 hoff).1
 have hact:act P o ⟨φ'.env,h2⟩ nid λ A=>A=⟨[id],one (.arr nid 0 n),[]⟩:=by
  unfold act
  rw[ho]
  simp only
  rw[hs,hag']
  refine ⟨λ _=>rfl,?_⟩
  rw[hev x,hag.env x hxm,hx]
  show kLive (h2 id) _
  rw[E.lv]
  refine ⟨by rw[expL_len];exact hol,?_⟩
  have hol':off < (expL f b.cs).length:=by rw[expL_len];exact hol
  have:((expL f b.cs).drop off).take 1=[.arr nid 0 n]:=by
   rw[List.drop_eq_getElem_cons hol',List.take_succ_cons,List.take_zero]
   rw[List.getElem?_eq_getElem hol']at g1
   rw[Option.some.inj g1]
  rw[this]
  rfl
 obtain ⟨A,hA,rfl⟩:=act_ok hact
 refine ⟨h2,_,ρ2,R2,hA,⟨λ _ _=>rfl,λ _ _=>rfl,λ p hp hn=>by simp at hp,hfin⟩,λ a' w' ρ' R'=>⟨ρ',?_⟩⟩
 rw[app_env]at R'
 have e0:φ'.app o.dst ⟨[id],one (.arr nid 0 n),[(id, .deep ⟨b.sz,b.n,b.cs.set off (.arr nid 0 n)⟩),(nid, .live ⟨sz,n,l⟩)]⟩=⟨(St.put ⟨φ'.env,h2⟩ o.dst (one (.arr nid 0 n))).env,upd (upd φ'.heap id (.deep ⟨b.sz,b.n,b.cs.set off (.arr nid 0 n)⟩)) nid (.live ⟨sz,n,l⟩)⟩:=by
  unfold St.app St.put
  cases o.dst<;>rfl
 rw[e0]
 have hset:∀ (p:Nat) (c:CV),(b.cs.set off (.arr nid 0 n))[p]? = some c->(p=off/\c=.arr nid 0 n)\/(p≠off/\b.cs[p]? = some c):=λ p c hp=>by
  rw[List.getElem?_set]at hp
  split at hp
  ·rename_i e
   exact .inl ⟨e.symm,by
    first
     | (cases hp;rfl)
     | (split at hp<;>cases hp;rfl)⟩
  ·rename_i e;exact .inr ⟨λ h=>e h.symm,hp⟩
 refine RelAt.settle2 (N:=N) (b:=⟨b.sz,b.n,b.cs.set off (.arr nid 0 n)⟩) (id:=id) (f:=λ p=>N+p) (cs':=expL f b.cs) R' E.lv (by rw[expL_len];simp) (λ p s m l' hp => ?_) (λ p c hp hc => ?_) (λ p q _ _ _ _ _ _ _ _ _ _ e=>by simpa using e)
  (by rw[upd_ne _ _ (Ne.symm hni),upd_same]) hidN (λ p s m l' _ _ h=>by have h:N+p < N:=h;omega) (λ j hj hne _ => ?_) (λ j hj=>by rw[upd_ne _ _ (by omega),upd_ne _ _ (by omega)];exact hN j hj) m3 (put_men m1 λ j hj=>by cases hj;exact hnid) (λ j b' c i hj hc hcb hm => ?_)
 ·rcases hset p _ hp with ⟨_,e⟩|⟨hne,hp⟩
  ·cases e
  ·obtain ⟨k1,k2⟩:=R.own_ok hd' hp
   obtain ⟨k3,k4,k5⟩:=E.own p s m l' hp
   rw[hf1 hne]at k3 k4 k5
   exact ⟨k1,k2, .inl ⟨k3,k4,by show N+p≠id;omega⟩⟩
 ·rcases hset p _ hp with ⟨rfl,rfl⟩|⟨hne,hp⟩
  ·exact g1
  ·exact E.oth p c hp hc
 ·by_cases e:j=nid
  ·subst e;rw[upd_same];exact g2.symm
  ·rw[upd_ne _ _ e,upd_ne _ _ hne];exact (hlt j hj hne e).symm
 ·unfold Cells at hc
  by_cases e:j=nid
  ·subst e
   rw[upd_same]at hc
   rcases hc with hc|hc<;>cases hc
   exact absurd hm (bare_men ((R.own_ok hd' hoff).1 c hcb) i)
  ·rw[upd_ne _ _ e]at hc
   by_cases e2:j=id
   ·subst e2
    rw[upd_same]at hc
    rcases hc with hc|hc<;>cases hc
    obtain ⟨p,hp⟩:=List.getElem?_of_mem hcb
    rcases hset p _ hp with ⟨_,rfl⟩|⟨_,hp⟩
    ·cases hm;exact hnid
    ·exact m2 j b c i (.inr hd') (List.mem_of_getElem? hp) hm
   ·rw[upd_ne _ _ e2]at hc
    exact m2 j b' c i hc hcb hm
theorem RelAt.shutOwn {C:Ctx} {ρ:Rho} {φ:St} {a:Act} {w:World} (R:RelAt C ρ φ a w) {N id j off sz n:Nat} {b:Blk} {l:List CV} (hN:∀ j,N<=j->φ.heap j=.no) (hd:φ.heap id=.deep b) (hoff:b.cs[off]? = some (.arr j 0 n))
  (hj:φ.heap j=.live ⟨sz,n,l⟩) (hl:∀ c,c ∈ l->CV.bare c=true) (hlen:l.length=n*sz):∃ ρ',RelAt C ρ' ⟨φ.env,upd (upd φ.heap id (.deep ⟨b.sz,b.n,b.cs.set off (.own sz n l)⟩)) j .dead⟩ a w:=by
 obtain ⟨m1,m2,m3⟩:=R.men_lt hN
 obtain ⟨h2,ρ2,R2,E,hlt,hfin⟩:=R.unfold hN hd
 have ltN:∀ {j:Nat},φ.heap j≠.no->j < N:=λ {j} h=>by
  apply Classical.byContradiction
  intro hn
  exact h (hN j (by omega))
 have hidN:id < N:=ltN (by rw[hd];nofun)
 have hjN:j < N:=ltN (by rw[hj];nofun)
 have hne:j≠id:=λ e=>by rw[e,hd]at hj;cases hj
 have hol:off < b.cs.length:=(List.getElem?_eq_some_iff.1 hoff).1
 refine ⟨ρ2,?_⟩
 refine RelAt.finish (N:=N) (id:=id) (id2:=id) (b2:=⟨b.sz,b.n,b.cs.set off (.own sz n l)⟩) (cs2:=expL (λ p=>N+p) b.cs) (ns:=[.arr j 0 n]) (ns':=[.own sz n l]) (g:=λ _=>j) (ids:=[j]) (src:=λ p=>if p=off then .inr 0 else .inl p) R2 E
  (λ p s m l' hp=>R.own_ok hd hp) ⟨rfl,λ k c c' h1 h2 => ?_,λ k k' _ _ h1 h1' _ => ?_,λ x hx=>⟨0,n,rfl,(List.mem_singleton.1 hx).symm⟩⟩ E.lv (by rw[expL_len];simp) (λ p hp => ?_) (λ p q hp hq e => ?_) (λ k hk=>⟨off,?_,?_⟩)
  (λ _ _=>rfl) hlt (λ h=>hne (List.mem_singleton.1 h).symm) (λ h=>hne (List.mem_singleton.1 h).symm) hidN (by rw[upd_ne _ _ (Ne.symm hne),upd_same]) hidN (λ i hi=>by rw[List.mem_singleton.1 hi,upd_same]) (λ i hi=>by rw[List.mem_singleton.1 hi];exact hjN)
  (λ i hi h1 hh => ?_) (λ i hi=>by rw[upd_ne _ _ (by omega),upd_ne _ _ (by omega)];exact hN i hi) m3 m1 (λ i b' c k hi h1 hc hcb hm => ?_) (λ c i hc=>m2 id b c i (.inr hd) hc)
 ·have hk:k=0:=by
   have:=(List.getElem?_eq_some_iff.1 h1).1
   simp at this;exact this
  subst hk
  cases h1;cases h2
  exact .inl ⟨sz,n,l,rfl,rfl,hj,hl,hlen,List.mem_singleton.2 rfl⟩
 ·have h3:=(List.getElem?_eq_some_iff.1 h1).1
  have h4:=(List.getElem?_eq_some_iff.1 h1').1
  simp at h3 h4
  omega
 ·by_cases e:p=off
  ·subst e
   refine .inr ⟨0,if_pos rfl,?_,?_⟩
   ·show (b.cs.set p _)[p]? = _
    rw[List.getElem?_set_self hol];rfl
   ·rw[expL_oth hoff rfl];rfl
  ·refine .inl ⟨p,if_neg e,?_,rfl⟩
   show (b.cs.set off _)[p]? = _
   rw[List.getElem?_set_ne (Ne.symm e)]
 ·split at e<;>split at e
  ·omega
  ·cases e
  ·cases e
  ·exact Sum.inl.inj e
 ·show off < (b.cs.set off _).length
  rw[List.length_set];exact hol
 ·rw[if_pos rfl]
  have:k=0:=by simp at hk;exact hk
  rw[this]
 ·rw[upd_ne _ _ λ e=>hh (List.mem_singleton.2 e),upd_ne _ _ h1]
  exact (hlt i hi h1).symm
 ·unfold Cells at hc
  by_cases e:i=j
  ·subst e;rw[upd_same]at hc;rcases hc with hc|hc<;>cases hc
  ·rw[upd_ne _ _ e,upd_ne _ _ h1]at hc
   exact m2 i b' c k hc hcb hm
end Go.Fm
