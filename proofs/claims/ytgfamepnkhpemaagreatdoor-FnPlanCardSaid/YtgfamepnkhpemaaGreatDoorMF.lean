import Derived.Test.YtgfamepnkhpemaaGreatDoorME
set_option linter.all false
namespace Go.Fm
variable [Globs]
def idxS (l:List UInt8) (i:Int):Option Int:=if 0<=i/\i < l.length then some ((l.getD i.toNat 0).toNat:Int) else none
def subL {α:Type} (l:List α) (a b:Int):Option (List α):=if 0<=a/\a<=b/\b<=l.length then some ((l.drop a.toNat).take (b.toNat-a.toNat)) else none
def catS (a b:List UInt8):Option (List UInt8):=if a.length+b.length < 2 ^ 62 then some (a++b) else none
def rowAt (i:Int) (n sz:Nat) (cs:List CV):Option (List CV):=if 0<=i/\i < n then some (cs.drop (i.toNat*sz)) else none
def rowPtr (lo:Nat) (i:Int) (n sz:Nat):Option Nat:=if 0<=i/\i < n then some ((lo+i.toNat)*sz) else none
def subN (a b:Int) (n:Nat):Option (Nat×Nat):=if 0<=a/\a<=b/\b<=n then some (a.toNat,b.toNat-a.toNat) else none
def subC (a b:Int) (n sz:Nat) (cs:List CV):Option (Nat×List CV):=if 0<=a/\a<=b/\b<=n then some (b.toNat-a.toNat,(cs.drop (a.toNat*sz)).take ((b.toNat-a.toNat)*sz)) else none
def appN (lo n bn m:Nat):Option Nat:=if lo+n<=bn/\n+m<=maxN then some (n+m) else none
def mkN (n m:Int):Option Nat:=if m=n/\0<=n/\n<=maxN then some n.toNat else none
def mkC (n:Nat) (z:List CV):List CV:=(List.replicate n z).flatten
def bldN (n:Nat):Nat:=n
def bldC (cs:List CV):List CV:=cs
def s2bN (l:List UInt8):Option Nat:=if l.length<=maxN then some l.length else none
def okP (p:Prop) [Decidable p]:Option Unit:=if p then some () else none
def quoI (k:IntKind) (a b:Int):Option Int:=if b=0 then none else some (k.wrap (a.tdiv b))
def remI (k:IntKind) (a b:Int):Option Int:=if b=0 then none else some (a.tmod b)
def shlI (k:IntKind) (a b:Int):Option Int:=if 0<=b then some (k.wrap (a*2 ^ (min b.toNat k.bits))) else none
def shrI (k:IntKind) (a b:Int):Option Int:=if 0<=b then some (a / (2 ^ (min b.toNat k.bits))) else none
theorem fdiv_pow (a:Int) (n:Nat):a.fdiv (2 ^ n)=a / 2 ^ n:=Int.fdiv_eq_ediv_of_nonneg _ (Int.le_of_lt (Int.pow_pos (by decide)))
def andI (k:IntKind) (a b:Int):Int:=k.wrap (bytesB k a &&& bytesB k b).toNat
def orI (k:IntKind) (a b:Int):Int:=k.wrap (bytesB k a ||| bytesB k b).toNat
def xorI (k:IntKind) (a b:Int):Int:=k.wrap (bytesB k a ^^^ bytesB k b).toNat
def notI (k:IntKind) (a:Int):Int:=k.wrap (bytesB k (if k.signed then -1 else k.max) ^^^ bytesB k a).toNat
def maxI (a b:Int):Int:=if a < b then b else a
theorem kO_if {α:Type} {p:Prop} [Decidable p] {x:α} {K:α->Prop} (h:kO (if p then some x else none) K):p/\K x:=by
 by_cases hp:p
 ·rw[if_pos hp]at h;exact ⟨hp,h⟩
 ·rw[if_neg hp]at h;exact h.elim
theorem kO_ifn {α:Type} {p:Prop} [Decidable p] {x:α} {K:α->Prop} (h:kO (if p then none else some x) K):¬ p/\K x:=by
 by_cases hp:p
 ·rw[if_pos hp]at h;exact h.elim
 ·rw[if_neg hp]at h;exact ⟨hp,h⟩
theorem kO_idxS {l:List UInt8} {i:Int} {K:Int->Prop} (h:kO (idxS l i) K):(0<=i/\i < l.length)/\K ((l.getD i.toNat 0).toNat:Int):=kO_if h
theorem kO_subL {α:Type} {l:List α} {a b:Int} {K:List α->Prop} (h:kO (subL l a b) K):(0<=a/\a<=b/\b<=l.length)/\K ((l.drop a.toNat).take (b.toNat-a.toNat)):=kO_if h
theorem kO_rowAt {i:Int} {n sz:Nat} {cs:List CV} {K:List CV->Prop} (h:kO (rowAt i n sz cs) K):(0<=i/\i < n)/\K (cs.drop (i.toNat*sz)):=kO_if h
theorem kO_rowPtr {lo:Nat} {i:Int} {n sz:Nat} {K:Nat->Prop} (h:kO (rowPtr lo i n sz) K):(0<=i/\i < n)/\K ((lo+i.toNat)*sz):=kO_if h
theorem kO_subN {a b:Int} {n:Nat} {K:Nat×Nat->Prop} (h:kO (subN a b n) K):(0<=a/\a<=b/\b<=n)/\K (a.toNat,b.toNat-a.toNat):=kO_if h
theorem kO_subC {a b:Int} {n sz:Nat} {cs:List CV} {K:Nat×List CV->Prop} (h:kO (subC a b n sz cs) K):(0<=a/\a<=b/\b<=n)/\K (b.toNat-a.toNat,(cs.drop (a.toNat*sz)).take ((b.toNat-a.toNat)*sz)):=kO_if h
theorem kO_s2bN {l:List UInt8} {K:Nat->Prop} (h:kO (s2bN l) K):l.length<=maxN/\K l.length:=kO_if h
theorem kO_okP {p:Prop} [Decidable p] {K:Unit->Prop} (h:kO (okP p) K):p/\K ():=kO_if h
theorem kO_mkN {n m:Int} {K:Nat->Prop} (h:kO (mkN n m) K):(m=n/\0<=n/\n<=maxN)/\K n.toNat:=kO_if h
def binH (op:BinOp) (k:IntKind) (a b:Int) (K:CV->Prop):Prop :=
 match op with
 | .add=>K (.int k (k.wrap (a+b)))
 | .sub=>K (.int k (k.wrap (a-b)))
 | .mul=>K (.int k (k.wrap (a*b)))
 | .quo=>kO (quoI k a b) λ r=>K (.int k r)
 | .rem=>kO (remI k a b) λ r=>K (.int k r)
 | .and=>K (.int k (andI k a b))
 | .or=>K (.int k (orI k a b))
 | .xor=>K (.int k (xorI k a b))
 | .eql=>K (.bool (a==b))
 | .neq=>K (.bool (a != b))
 | .lss=>K (.bool (a < b))
 | .leq=>K (.bool (a<=b))
 | .gtr=>K (.bool (a > b))
 | .geq=>K (.bool (a ≥ b))
 | _=>False
theorem binH_ok {op:BinOp} {k:IntKind} {a b:Int} {K:CV->Prop} (h:binH op k a b K):binI op k a b K:=by
 cases op<;>try exact h
 ·have h2:=kO_ifn (show kO (if b=0 then none else some (k.wrap (a.tdiv b))) λ r=>K (.int k r) from h);exact h2
 ·have h2:=kO_ifn (show kO (if b=0 then none else some (a.tmod b)) λ r=>K (.int k r) from h);exact h2
def kBinH (T:TypeId->TyI) (op:BinOp) (t:TypeId):SV->SV->(CV->Prop)->Prop
 | .pv (.one (.int k a)), .pv (.one (.int k' b)),K =>
  (match op with
  | .shl=>kO (shlI k a b) λ r=>K (.int k r)
  | .shr=>kO (shrI k a b) λ r=>K (.int k r)
  | _=>k=k'/\binH op k a b K)
 | .pv (.one (.str a)), .pv (.one (.str b)),K =>
  (match op with
  | .add=>kO (catS a b) λ r=>K (.str r)
  | .eql=>K (.bool (a==b))
  | .neq=>K (.bool (a != b))
  | _=>False)
 | x,y,K=>kBinT T op t x y K
theorem kBinH_int {T:TypeId->TyI} {op:BinOp} {t:TypeId} {k k':IntKind} {a b:Int} {K:CV->Prop} (h:kBinH T op t (.pv (.one (.int k a))) (.pv (.one (.int k' b))) K):kBinT T op t (.pv (.one (.int k a))) (.pv (.one (.int k' b))) K:=by
 cases op<;>first|exact h|(exact ⟨h.1,binH_ok h.2⟩)|skip
 ·have h2:=kO_if (show kO (if 0<=b then some (k.wrap (a*2 ^ (min b.toNat k.bits))) else none) λ r=>K (.int k r) from h);exact h2
 ·have h2:=kO_if (show kO (if 0<=b then some (a / (2 ^ (min b.toNat k.bits))) else none) λ r=>K (.int k r) from h)
  rw[<-fdiv_pow]at h2;exact h2
theorem kBinH_str {T:TypeId->TyI} {op:BinOp} {t:TypeId} {a b:List UInt8} {K:CV->Prop} (h:kBinH T op t (.pv (.one (.str a))) (.pv (.one (.str b))) K):kBinT T op t (.pv (.one (.str a))) (.pv (.one (.str b))) K:=by
 cases op<;>first|exact h|skip
 have h2:=kO_if (show kO (if a.length+b.length < 2 ^ 62 then some (a++b) else none) λ r=>K (.str r) from h);exact h2
theorem kBinH_ok {T:TypeId->TyI} {op:BinOp} {t:TypeId} {x y:SV} {K:CV->Prop} (h:kBinH T op t x y K):kBinT T op t x y K:=by
 unfold kBinH at h
 split at h
 ·exact kBinH_int h
 ·exact kBinH_str h
 ·exact h
def kUnH (u:UnOp):SV->(CV->Prop)->Prop
 | .pv (.one (.bool b)),K=>(match u with | .not=>K (.bool (!b))|_=>False)
 | .pv (.one (.int k a)),K=>(match u with
  | .neg=>K (.int k (k.wrap (0-a)))
  | .xor=>K (.int k (notI k a))
  | _=>False)
 | _,_=>False
theorem kUnH_ok {u:UnOp} {x:SV} {K:CV->Prop} (h:kUnH u x K):kUn u x K:=by
 unfold kUnH at h
 split at h
 ·exact h
 ·exact h
 ·exact h.elim
def cellsH (φ:St) (size:Nat):SV->(List Nat->Nat->List CV->Prop)->Prop
 | .pv (.one (.arr id lo n)),K=>kLive (φ.heap id) λ b=>b.sz=size/\kO (okP (lo+n<=b.n)) λ _=>K [id] n (winC lo n size b.cs)
 | .pv (.one (.imm sz n cs)),K=>sz=size/\K [] n cs
 | .pv (.one .emp),K=>K [] 0 []
 | .pv (.one (.str l)),K=>size=1/\K [] l.length ((bsOf l).flatMap (eI .u8))
 | _,_=>False
theorem cellsH_ok {φ:St} {size:Nat} {x:SV} {K K':List Nat->Nat->List CV->Prop} (h:cellsH φ size x K) (hk:∀ a b c,K a b c->K' a b c):cellsG φ size x K':=by
 unfold cellsH at h
 unfold cellsG
 split at h
 ·exact kLive_mono h λ b h=>by obtain ⟨h1,h2⟩:=h;obtain ⟨h2,h3⟩:=kO_if h2;exact ⟨h1,h2,hk _ _ _ h3⟩
 ·exact ⟨h.1,hk _ _ _ h.2⟩
 ·exact hk _ _ _ h
 ·exact ⟨h.1,hk _ _ _ h.2⟩
 ·exact h.elim
def builtinH (T:TypeId->TyI) (b:Builtin) (ats:List TypeId) (xs:List SV) (φ:St) (nid:Nat) (K:Action->Prop):Prop :=
 match b,ats,xs with
 | .append,t::t2::_,[x,y] =>
  (match (T t).kind,(T t2).kind with
  | .slice e, .slice _ | .slice e, .str=>kO ((T e).size) λ size=>kO ((T e).bytes) λ by_=>kO ((T e).zero) λ z=>(Nat.ble by_ 1024&&Nat.beq z.length size)=true/\cellsH φ size y λ rd m ns =>
    (match x with
    | .pv (.one (.arr id lo n))=>kLive (φ.heap id) λ b=>b.sz=size/\kO (appN lo n b.n m) λ n' =>
      K ⟨id::rd,one (.arr nid 0 n'),[(id, .dead),(nid, .live ⟨size,n',winC lo n size b.cs++ns⟩)]⟩
    | .pv (.one .emp)=>kO (appN 0 0 0 m) λ n'=>K ⟨rd,one (.arr nid 0 n'),[(nid, .live ⟨size,n',winC 0 0 size []++ns⟩)]⟩
    | _=>False)
  | .slice e, .int _=>kO ((T e).size) λ size=>kO ((T e).bytes) λ by_=>kO ((T e).zero) λ z=>(Nat.ble by_ 1024&&Nat.beq z.length size)=true ∧
    (match x with
    | .pv (.one .emp)=>y.kI λ k n=>k=.i64/\kO (mkN n n) λ n'=>K ⟨[],one (.arr nid 0 n'),[(nid, .live ⟨size,n',mkC n' z⟩)]⟩
    | _=>False)
  | _,_=>False)
 | .max,_,[x,y]=>x.kI λ k a=>y.kI λ k' b=>k=k'/\K ⟨[],one (.int k (maxI a b)),[]⟩
 | b,ats,xs=>builtinG T b ats xs φ nid K
theorem builtinH_ok {T:TypeId->TyI} {b:Builtin} {ats:List TypeId} {xs:List SV} {φ:St} {nid:Nat} {K:Action->Prop} (h:builtinH T b ats xs φ nid K):builtinG T b ats xs φ nid K:=by
 have key:∀ {x y:SV} {size by_:Nat} {z:List CV},((Nat.ble by_ 1024&&Nat.beq z.length size)=true/\cellsH φ size y λ rd m ns =>
    (match x with
    | .pv (.one (.arr id lo n))=>kLive (φ.heap id) λ b=>b.sz=size/\kO (appN lo n b.n m) λ n' =>
      K ⟨id::rd,one (.arr nid 0 n'),[(id, .dead),(nid, .live ⟨size,n',winC lo n size b.cs++ns⟩)]⟩
    | .pv (.one .emp)=>kO (appN 0 0 0 m) λ n'=>K ⟨rd,one (.arr nid 0 n'),[(nid, .live ⟨size,n',winC 0 0 size []++ns⟩)]⟩
    | _=>False))->(by_<=1024/\z.length=size/\cellsG φ size y λ rd m ns =>
    (match x with
    | .pv (.one (.arr id lo n))=>kLive (φ.heap id) λ b=>b.sz=size/\lo+n<=b.n/\n+m<=maxN ∧
      K ⟨id::rd,one (.arr nid 0 (n+m)),[(id, .dead),(nid, .live ⟨size,n+m,winC lo n size b.cs++ns⟩)]⟩
    | .pv (.one .emp)=>m<=maxN/\K ⟨rd,one (.arr nid 0 m),[(nid, .live ⟨size,m,ns⟩)]⟩
    | _=>False)):=by
  intro x y size by_ z h
  obtain ⟨h1,h2⟩:=h
  simp only[Bool.and_eq_true]at h1
  refine ⟨Nat.le_of_ble_eq_true h1.1,Nat.eq_of_beq_eq_true h1.2,cellsH_ok h2 λ rd m ns h => ?_⟩
  split at h
  ·exact kLive_mono h λ b h=>by obtain ⟨e1,e2⟩:=h;obtain ⟨e2,e3⟩:=kO_if e2;exact ⟨e1,e2.1,e2.2,e3⟩
  ·obtain ⟨e2,e3⟩:=kO_if h
   simp only[winC,Nat.zero_mul,List.drop_nil,List.take_nil,List.nil_append,Nat.zero_add]at e3
   exact ⟨by omega,e3⟩
  ·exact h.elim
 unfold builtinH at h
 split at h
 ·unfold builtinG
  simp only
  split at h
  ·rename_i h1 h2
   rw[h1,h2]
   exact kO_mono h λ _ h=>kO_mono h λ _ h=>kO_mono h λ _ h=>key h
  ·rename_i h1 h2
   rw[h1,h2]
   exact kO_mono h λ _ h=>kO_mono h λ _ h=>kO_mono h λ _ h=>key h
  ·rename_i h1 h2
   rw[h1,h2]
   refine kO_mono h λ _ h=>kO_mono h λ _ h=>kO_mono h λ _ h => ?_
   obtain ⟨h1,h⟩:=h
   simp only[Bool.and_eq_true]at h1
   refine ⟨⟨Nat.le_of_ble_eq_true h1.1,Nat.eq_of_beq_eq_true h1.2⟩,?_⟩
   split at h
   ·obtain ⟨k,n,rfl,h⟩:=SV.kI_elim h
    obtain ⟨e1,h⟩:=h
    obtain ⟨e2,h⟩:=kO_mkN h
    exact ⟨⟨e1,e2.2⟩,h⟩
   ·exact h.elim
  ·exact h.elim
 ·exact h
 ·exact h
def bdL (φ:St) (x:Option Operand) (K:Int->Prop):Prop:=match x with|none=>K 0|some x=>(φ.ev x).kI λ _ i=>K i
theorem bdL_ok {φ:St} {x:Option Operand} {K:Int->Prop} (h:bdL φ x K):φ.bd x 0 K:=by cases x<;>exact h
def actH (T:TypeId->TyI) (op:Op) (φ:St) (nid:Nat) (K:Action->Prop):Prop :=
 match op with
 | .move x | .assign x=>K ⟨[],φ.ev x,[]⟩
 | .pick c a b=>(φ.ev c).kB λ t=>K ⟨[],cond t (φ.ev a) (φ.ev b),[]⟩
 | .extract x i=>(φ.ev x).kT λ ps=>kO ps[i]? λ p=>K ⟨[], .pv p,[]⟩
 | .unOp u _ x=>kUnH u (φ.ev x) λ c=>K ⟨[],one c,[]⟩
 | .binOp op t x y _=>kBinH T op t (φ.ev x) (φ.ev y) λ c=>K ⟨[],one c,[]⟩
 | .convert s d x=>(match (T s).kind,(T d).kind with
  | .int _, .int k=>(φ.ev x).kI λ _ n=>K ⟨[],one (.int k (k.wrap n)),[]⟩
  | .str, .str=>(φ.ev x).kS λ l=>K ⟨[],one (.str l),[]⟩
  | .str, .slice e=>isU8T T e=true/\(φ.ev x).kS λ l=>kO (s2bN l) λ n=>K ⟨[],one (.arr nid 0 n),[(nid, .live ⟨1,n,(bsOf l).flatMap (eI .u8)⟩)]⟩
  | .slice e, .str=>isU8T T e=true/\notStr (φ.ev x)=true/\cellsH φ 1 (φ.ev x) λ rd n cs=>kO (bytesCs cs) λ l=>K ⟨rd,one (.str l),[]⟩
  | _,_=>False)
 | .field t x f=>kO ((T t).fl[f]?) λ q=>kO ((T q.2).size) λ size=>kO ((T q.2).agg) λ b=>(φ.ev x).kA λ cs=>(b || Nat.beq size 1)=true/\kO (getC size (cs.drop q.1)) λ ns=>K ⟨[], .pv (pvOf b ns),[]⟩
 | .fieldAddr t x f=>kO ((T t).fl[f]?) λ q=>kO ((T q.2).size) λ size=>Nat.blt 0 size=true ∧
   @kPtrI (φ.ev x) ⟨(λ id off=>kLive (φ.heap id) λ _=>K ⟨[id],one (.ptr id (off+q.1)),[]⟩),(λ cs=>K ⟨[],one (.ip (cs.drop q.1)),[]⟩)⟩
 | .load t x=>kO ((T t).size) λ size=>kO ((T t).agg) λ b=>(b || Nat.beq size 1)=true ∧
   @kPtrI (φ.ev x) ⟨(λ id off=>kLive (φ.heap id) λ bl=>kO (getC size (bl.cs.drop off)) λ ns=>K ⟨[id], .pv (pvOf b ns),[]⟩),(λ cs=>kO (getC size cs) λ ns=>K ⟨[], .pv (pvOf b ns),[]⟩)⟩
 | .store t x v=>kO ((T t).size) λ size=>(φ.ev v).kC λ ns=>Nat.beq ns.length size=true ∧
   @kPtrI (φ.ev x) ⟨(λ id off=>kLive (φ.heap id) λ bl=>kO (putN off ns bl.cs) λ cs=>K ⟨[id],one .dead,[(id, .live ⟨bl.sz,bl.n,cs⟩)]⟩),(λ _=>False)⟩
 | .alloc t=>kO ((T t).zero) λ cs=>K ⟨[],one (.ptr nid 0),[(nid, .live ⟨1,cs.length,cs⟩)]⟩
 | .box t v=>(φ.ev v).kC λ cs=>K ⟨[],one (.ptr nid 0),[(nid, .live ⟨1,cs.length,cs⟩)]⟩
 | .build t ps=>(match (T t).kind with
  | .agg=>(T t).all=true/\kO ((T t).zero) λ z=>fillFT T φ t z ps.toList λ cs=>K ⟨[], .pv (.agg cs),[]⟩
  | _=>False)
 | .buildSlice t n ps=>(match (T t).kind with
  | .slice e=>kO ((T e).size) λ size=>(Nat.ble (n*size) 4096&&Nat.blt 0 size&&Nat.beq n ps.size)=true/\partsOf φ size 0 ps.toList λ cs=>((T e).zero).isSome=true/\K ⟨[],one (.arr nid 0 (bldN n)),[(nid, .live ⟨size,bldN n,bldC cs⟩)]⟩
  | _=>False)
 | .makeSlice t l c=>(match (T t).kind with
  | .slice e=>kO ((T e).size) λ size=>kO ((T e).zero) λ z=>kO ((T e).bytes) λ by_=>(Nat.ble by_ 1024&&Nat.beq z.length size)=true ∧
    (φ.ev l).kI λ k1 n=>(φ.ev c).kI λ k2 m=>k1=.i64/\k2=.i64/\kO (mkN n m) λ n' =>
     K ⟨[],one (.arr nid 0 n'),[(nid, .live ⟨size,n',mkC n' z⟩)]⟩
  | _=>False)
 | .index t x i=>(match (T t).kind with
  | .str=>(φ.ev x).kS λ l=>(φ.ev i).kI λ _ i=>kO (idxS l i) λ r=>K ⟨[],one (.int .u8 r),[]⟩
  | _=>False)
 | .indexAddr t x i=>(match (T t).kind with
  | .slice e=>kO ((T e).size) λ size=>(φ.ev i).kI λ _ i => @kSlI (φ.ev x) ⟨(λ id lo n=>kLive (φ.heap id) λ b=>b.sz=size/\kO (rowPtr lo i n size) λ off=>K ⟨[id],one (.ptr id off),[]⟩),(λ sz n cs=>sz=size/\kO (rowAt i n size cs) λ cs'=>K ⟨[],one (.ip cs'),[]⟩),False⟩
  | .tarr n e=>kO ((T e).size) λ size=>(φ.ev i).kI λ _ i => @kPtrI (φ.ev x) ⟨(λ id off=>kLive (φ.heap id) λ _=>kO (rowPtr 0 i n size) λ q=>K ⟨[id],one (.ptr id (off+q)),[]⟩),(λ cs=>kO (rowAt i n size cs) λ r=>K ⟨[],one (.ip r),[]⟩)⟩
  | _=>False)
 | .slice t x lo hi none=>(match (T t).kind with
  | .str=>(φ.ev x).kS λ l=>bdL φ lo λ a=>φ.bd hi l.length λ b=>kO (subL l a b) λ r=>K ⟨[],one (.str r),[]⟩
  | .slice e=>kO ((T e).size) λ size => @kSlI (φ.ev x) ⟨(λ id l n=>kLive (φ.heap id) λ bl=>bl.sz=size/\bdL φ lo λ a=>φ.bd hi n λ b=>kO (subN a b n) λ q=>K ⟨[id],one (.arr id (l+q.1) q.2),[]⟩),
    (λ sz n cs=>sz=size/\bdL φ lo λ a=>φ.bd hi n λ b=>kO (subC a b n size cs) λ q=>K ⟨[],one (.imm size q.1 q.2),[]⟩),
    (bdL φ lo λ a=>φ.bd hi 0 λ b=>kO (okP (a=0/\b=0)) λ _=>K ⟨[],one .emp,[]⟩)⟩
  | .tarr m e=>kO ((T e).size) λ size => @kPtrI (φ.ev x) ⟨(λ id off=>kLive (φ.heap id) λ bl=>(bl.sz=size/\bl.n=m/\off=0)/\bdL φ lo λ a=>φ.bd hi m λ b=>kO (subN a b m) λ q=>K ⟨[id],one (.arr id q.1 q.2),[]⟩),(λ _=>False)⟩
  | _=>False)
 | .makeFunc (.func f) first caps=>Nat.beq first.size 0=true/\capsOf φ caps.toList λ cs=>K ⟨[],one (.fn f cs),[]⟩
 | .nilCheck x => @kPtrI (φ.ev x) ⟨(λ id off=>kLive (φ.heap id) λ _=>K ⟨[id],one (.ptr id off),[]⟩),(λ cs=>K ⟨[],one (.ip cs),[]⟩)⟩
 | .call c=>(match c.callee with
  | .builtin b=>builtinH T b c.argTypes.toList (c.args.toList.map φ.ev) φ nid K
  | _=>False)
 | _=>False
theorem bd_mono {φ:St} {x:Option Operand} {d:Nat} {K K':Int->Prop} (h:φ.bd x d K) (hk:∀ i,K i->K' i):φ.bd x d K':=by
 obtain ⟨i,h1,h2⟩:=bd_elim h
 unfold St.bd
 rcases h2 with ⟨rfl,rfl⟩|⟨y,k,rfl,hy⟩
 ·exact hk _ h1
 ·simp only[hy];exact hk _ h1
theorem kI_mono {x:SV} {K K':IntKind->Int->Prop} (h:x.kI K) (hk:∀ k n,K k n->K' k n):x.kI K':=by
 obtain ⟨k,n,rfl,h⟩:=SV.kI_elim h
 exact hk _ _ h
theorem kS_mono {x:SV} {K K':List UInt8->Prop} (h:x.kS K) (hk:∀ l,K l->K' l):x.kS K':=by
 obtain ⟨l,rfl,h⟩:=SV.kS_elim h
 exact hk _ h
theorem kSl_mono {x:SV} {a a':Nat->Nat->Nat->Prop} {b b':Nat->Nat->List CV->Prop} {c c':Prop} (h:x.kSl a b c) (ha:∀ i l n,a i l n->a' i l n) (hb:∀ s n cs,b s n cs->b' s n cs) (hc:c->c'):x.kSl a' b' c':=by
 unfold SV.kSl at h ⊢
 split at h
 ·exact ha _ _ _ h
 ·exact hb _ _ _ h
 ·exact hc h
 ·exact h.elim
theorem bool_size {b:Bool} {size:Nat} (h:(b || Nat.beq size 1)=true):b=false->size=1:=λ hb=>by subst hb;exact Nat.eq_of_beq_eq_true (by simpa using h)
theorem parts_mono {φ:St} {size:Nat}:∀ {l:List (Nat×Operand)} {i:Nat} {K K':List CV->Prop},partsOf φ size i l K->(∀ c,K c->K' c)->partsOf φ size i l K'
 | [],i,K,K',h,hk=>hk _ h
 | (j,x)::r,i,K,K',h,hk=>⟨h.1,kC_mono h.2 λ cs h=>⟨h.1,parts_mono h.2 λ ds h=>hk _ h⟩⟩
theorem actH_ok {T:TypeId->TyI} {o:Oper} {φ:St} {nid:Nat} {K:Action->Prop} (h:actH T o.op φ nid K):actG T o φ nid K:=by
 unfold actH at h
 unfold actG actT
 generalize o.op=op at h ⊢
 cases op<;>try exact h
 all_goals try exact kUnH_ok h
 case binOp=>exact kBinH_ok h
 case convert s d x =>
  simp only at h ⊢
  split at h
  ·rename_i h1 h2;rw[h1,h2];exact h
  ·rename_i h1 h2;rw[h1,h2];exact h
  ·rename_i h1 h2
   rw[h1,h2]
   exact ⟨h.1,kS_mono h.2 λ l h=>kO_s2bN h⟩
  ·rename_i h1 h2
   rw[h1,h2]
   exact ⟨h.1,h.2.1,cellsH_ok h.2.2 λ _ _ _ h=>h⟩
  ·exact h.elim
 case field=>exact kO_mono h λ _ h=>kO_mono h λ _ h=>kO_mono h λ _ h=>kA_mono h λ _ h=>⟨bool_size h.1,h.2⟩
 case fieldAddr=>exact kO_mono h λ _ h=>kO_mono h λ _ h=>⟨by have h1:=h.1;rw[Nat.blt_eq]at h1;omega,h.2⟩
 case load=>exact kO_mono h λ _ h=>kO_mono h λ _ h=>⟨bool_size h.1,h.2⟩
 case store=>exact kO_mono h λ _ h=>kC_mono h λ _ h=>⟨Nat.eq_of_beq_eq_true h.1,h.2⟩
 case buildSlice t n ps =>
  simp only at h ⊢
  split at h
  ·rename_i h1
   rw[h1]
   exact kO_mono h λ size h=>by
    obtain ⟨h1,h2⟩:=h
    simp only[Bool.and_eq_true]at h1
    exact ⟨Nat.le_of_ble_eq_true h1.1.1,by have h3:=h1.1.2;rw[Nat.blt_eq]at h3;omega,Nat.eq_of_beq_eq_true h1.2,h2⟩
  ·exact h.elim
 case makeSlice t l c =>
  simp only at h ⊢
  split at h
  ·rename_i h1
   rw[h1]
   exact kO_mono h λ size h=>kO_mono h λ z h=>kO_mono h λ by_ h=>by
    obtain ⟨h1,h2⟩:=h
    simp only[Bool.and_eq_true]at h1
    refine ⟨Nat.le_of_ble_eq_true h1.1,Nat.eq_of_beq_eq_true h1.2,kI_mono h2 λ k n h=>kI_mono h λ k' m h => ?_⟩
    obtain ⟨e1,e2,e3⟩:=h
    obtain ⟨e3,e4⟩:=kO_mkN e3
    exact ⟨e1,e2,e3.1,e3.2.1,e3.2.2,e4⟩
  ·exact h.elim
 case index t x i =>
  simp only at h ⊢
  split at h
  ·rename_i h1;rw[h1];exact kS_mono h λ l h=>kI_mono h λ k i h=>kO_idxS h
  ·exact h.elim
 case indexAddr t x i =>
  simp only at h ⊢
  split at h
  ·rename_i h1
   rw[h1]
   exact kO_mono h λ size h=>kI_mono h λ k i h=>kSl_mono h (λ id lo n h=>kLive_mono h λ b h=>⟨h.1,kO_rowPtr h.2⟩) (λ s n cs h=>⟨h.1,kO_rowAt h.2⟩) (λ h=>h)
  ·rename_i h1
   rw[h1]
   exact kO_mono h λ size h=>kI_mono h λ k i h=>kPtr_mono h (λ id off h=>kLive_mono h λ b h=>by
    obtain ⟨h2,h3⟩:=kO_rowPtr h
    rw[Nat.zero_add]at h3
    exact ⟨h2,h3⟩) (λ cs h=>kO_rowAt h)
  ·exact h.elim
 case slice t x lo hi mx =>
  cases mx with
  | some _=>exact h.elim
  | none =>
   simp only at h ⊢
   split at h
   ·rename_i h1;rw[h1];exact kS_mono h λ l h=>bd_mono (bdL_ok h) λ a h=>bd_mono h λ b h=>kO_subL h
   ·rename_i h1
    rw[h1]
    exact kO_mono h λ size h=>kSl_mono h (λ id l n h=>kLive_mono h λ bl h=>⟨h.1,bd_mono (bdL_ok h.2) λ a h=>bd_mono h λ b h=>kO_subN h⟩)
     (λ s n cs h=>⟨h.1,by obtain ⟨rfl,h⟩:=h;exact bd_mono (bdL_ok h) λ a h=>bd_mono h λ b h=>kO_subC h⟩) (λ h=>bd_mono (bdL_ok h) λ a h=>bd_mono h λ b h=>kO_okP h)
   ·rename_i h1
    rw[h1]
    exact kO_mono h λ size h=>kPtr_mono h (λ id off h=>kLive_mono h λ bl h=>⟨h.1,bd_mono (bdL_ok h.2) λ a h=>bd_mono h λ b h=>kO_subN h⟩) (λ _ h=>h)
   ·exact h.elim
 case makeFunc fn a b =>
  cases fn with
  | func f=>exact ⟨Nat.eq_of_beq_eq_true h.1,h.2⟩
  | _=>exact h
 case call c =>
  simp only at h ⊢
  split at h
  ·rename_i b hb;rw[hb];exact builtinH_ok h
  ·exact h.elim
end Go.Fm
namespace Go.Fm
variable [Globs]
def opG (P:Unit->Program) (T:TypeId->TyI) (o:Oper) (s:S) (K:Action->Prop):Prop :=
 match o.op with
 | .call c=>(match c.callee with
  | .value x=>(match s.st.ev x with
   | .pv (.one (.fn f caps)) => @callT _ P f caps (c.args.toList.map s.st.ev) s ⟨K⟩
   | _=>False)
  | _=>actH T o.op s.st s.heap.length K)
 | _=>actH T o.op s.st s.heap.length K
theorem opG_opF {P:Unit->Program} {T:TypeId->TyI} {o:Oper} {s:S} {K:Action->Prop} (h:opG P T o s K):opF P T o s K:=by
 unfold opG at h
 unfold opF
 split at h
 ·rename_i c ho
  rw[ho]
  simp only
  split at h
  ·rename_i x hx
   rw[hx]
   simp only
   split at h
   ·rename_i hf;rw[hf];exact h
   ·exact h.elim
  ·rename_i hx
   have h:=actG_eq (actH_ok h)
   split
   ·rename_i x hx2;exact absurd hx2 (hx x)
   ·exact h
 ·rename_i hne
  have h:=actG_eq (actH_ok h)
  split
  ·rename_i c ho;exact absurd ho (hne c)
  ·exact h
def okOps (nt:Nat):List Oper->Bool
 | []=>true
 | o::r=>(match o.dst with|none=>true|some d=>Nat.blt d nt)&&okOps nt r
def wopsN (P:Unit->Program) (T:TypeId->TyI) (all:List Oper) [K:Kn S]:List Oper->S->Prop
 | [],s=>K.go s
 | o::os,s=>guardF all s o λ g=>match g with
   | true=>opG P T o s λ A=>wopsN P T all os (s.app o.dst A)
   | false=>wopsN P T all os (s.app o.dst skipA)
def wopsD (P:Unit->Program) (T:TypeId->TyI) (all:List Oper) [K:Kw]:List Oper->S->Feet->Prop
 | [],s,acc=>K.go s acc
 | o::os,s,acc=>guardF all s o λ g=>match g with
   | true=>opG P T o s λ A=>wopsD P T all os (s.app o.dst A) ((A.rd,A.hp.map (·.1))::acc)
   | false=>wopsD P T all os (s.app o.dst skipA) (([],[])::acc)
theorem okOps_dst {nt:Nat} {o:Oper} {r:List Oper} (h:okOps nt (o::r)=true):dstOk nt o/\okOps nt r=true:=by
 simp only[okOps,Bool.and_eq_true]at h
 refine ⟨?_,h.2⟩
 unfold dstOk
 cases hd:o.dst with
 | none=>trivial
 | some d =>
  have h1:=h.1
  rw[hd]at h1
  simpa [Nat.blt_eq] using h1
theorem opG_seq {P:Unit->Program} {T:TypeId->TyI} (hT:T=tiOf (P ())) (hm:(P ()).follows .mixedOrders=true) {o:Oper} {s:S} {K:Action->Prop} (h:opG P T o s K):∃ A,ActX (P ()) o s.st s.heap.length A/\K A:=opF_ok hT hm (opG_opF h)
theorem wopsN_seq {P:Unit->Program} {T:TypeId->TyI} (hT:T=tiOf (P ())) (hm:(P ()).follows .mixedOrders=true) {nt:Nat} {all:List Oper}:∀ {os:List Oper} {s:S} {K:S->Prop},okOps nt os=true → @wopsN _ P T all ⟨K⟩ os s →
  ∃ l s',Seq (P ()) nt all os s l s'/\K s'
 | [],s,K,_,h=>⟨[],s, .nil s,h⟩
 | o::os,s,K,hd,h=>by
  obtain ⟨hd1,hd2⟩:=okOps_dst hd
  obtain ⟨g,hg,h⟩:=guardF_ok h
  cases g with
  | true =>
   obtain ⟨A,hA,h⟩:=opG_seq hT hm h
   obtain ⟨l,s',hs,hK⟩:=wopsN_seq hT hm hd2 h
   exact ⟨_,s', .cons o os s s' A true l hd1 hg (.inl ⟨rfl,hA⟩) hs,hK⟩
  | false =>
   obtain ⟨l,s',hs,hK⟩:=wopsN_seq hT hm hd2 h
   exact ⟨_,s', .cons o os s s' skipA false l hd1 hg (.inr ⟨rfl,rfl⟩) hs,hK⟩
theorem wopsD_seq {P:Unit->Program} {T:TypeId->TyI} (hT:T=tiOf (P ())) (hm:(P ()).follows .mixedOrders=true) {nt:Nat} {all:List Oper}:∀ {os:List Oper} {s:S} {acc:Feet} {K:S->Feet->Prop},okOps nt os=true → @wopsD _ P T all ⟨K⟩ os s acc →
  ∃ l s',Seq (P ()) nt all os s l s'/\K s' ((feetOf l).reverse++acc)
 | [],s,acc,K,_,h=>⟨[],s, .nil s,h⟩
 | o::os,s,acc,K,hd,h=>by
  obtain ⟨hd1,hd2⟩:=okOps_dst hd
  obtain ⟨g,hg,h⟩:=guardF_ok h
  cases g with
  | true =>
   obtain ⟨A,hA,h⟩:=opG_seq hT hm h
   obtain ⟨l,s',hs,hK⟩:=wopsD_seq hT hm hd2 h
   exact ⟨_,s', .cons o os s s' A true l hd1 hg (.inl ⟨rfl,hA⟩) hs,by simpa [feetOf] using hK⟩
  | false =>
   obtain ⟨l,s',hs,hK⟩:=wopsD_seq hT hm hd2 h
   exact ⟨_,s', .cons o os s s' skipA false l hd1 hg (.inr ⟨rfl,rfl⟩) hs,by simpa [feetOf,skipA] using hK⟩
theorem W.regionN {P:Unit->Program} {T:TypeId->TyI} (hT:T=tiOf (P ())) {nt k0:Nat} {s:S} {Q:Ex->S->Prop} {id:Nat} {ops:Array Oper} (hd:okOps nt ops.toList=true) (h : @wopsN _ P T ops.toList ⟨λ s'=>Q .normal s'⟩ ops.toList s):W (P ()) nt k0 (.region id ops false) s Q:=λ hm=>by
 obtain ⟨l,s',hs,hq⟩:=wopsN_seq hT hm hd h
 refine ⟨.normal,s',λ C hP hn hk a w R => ?_,hq⟩
 refine wp_region ?_
 have:=hs.text 0 rfl C hP hn a w R (λ e' a' w'=>e'=.normal/\RelX C s'.st a' w') (λ a' w' R'=>⟨rfl,R'⟩)
 rw[List.range_eq_range']
 simpa [Ex.of] using this
theorem W.regionD {P:Unit->Program} {T:TypeId->TyI} (hT:T=tiOf (P ())) {nt k0:Nat} {s:S} {Q:Ex->S->Prop} {id:Nat} {ops:Array Oper} (hd:okOps nt ops.toList=true)
  (h : @wopsD _ P T ops.toList ⟨λ s' f=>drawOk ops.toList f.reverse=true/\Q .normal s'⟩ ops.toList s []):W (P ()) nt k0 (.region id ops true) s Q:=λ hm=>by
 obtain ⟨l,s',hs,hd,hq⟩:=wopsD_seq hT hm hd h
 refine ⟨.normal,s',λ C hP hn hk a w R => ?_,hq⟩
 refine wp_region_any hm ?_
 have hok:=hd
 simp only[List.append_nil,List.reverse_reverse]at hok
 refine hs.drawn hok hP hn (λ a' w' R'=>⟨rfl,R'⟩) _ _ _ _ (by simp) ?_ (λ j o ho hp => ?_) ?_
 ·suffices ∀ (p:Nat->Bool) n,unl p n<=n from this _ _
  intro p n
  induction n with
  | zero=>exact Nat.le_refl _
  | succ n ih=>simp only[unl];split<;>omega
 ·exfalso
  by_cases hj:j < ops.size
  ·simp[hj]at hp
  ·rw[List.getElem?_eq_none (by simpa using hj)]at ho;cases ho
 ·have hdr:RelX C s.st a { w with drawn:=w.drawn+1 }:=by
   obtain ⟨C',hC,ρ,R0⟩:=R
   exact ⟨C',hC,ρ,R0.drew⟩
  have hph:phiS ops.toList l s (λ i=>(Array.replicate ops.size false).getD i false) ops.size=s.st:=by
   have hf:∀ j,(Array.replicate ops.size false).getD j false=false:=λ j=>by
    by_cases hj:j < ops.size<;>simp[hj]
   simp only[phiS]
   show St.mk _ _=s.st
   congr 1
   ·funext t;exact vAt_past (i:=0) (Nat.zero_le _) (λ j _ _ _=>hf j)
   ·funext id;exact vAt_past (i:=0) (Nat.zero_le _) (λ j _ _ _=>hf j)
  rw[hph]
  exact hdr
def okC (nt:Nat):Code->Bool
 | .region _ ops _=>okOps nt ops.toList
 | .seq x y=>okC nt x&&okC nt y
 | .cond _ x y=>okC nt x&&okC nt y
 | .block _ c=>okC nt c
 | .loop c=>okC nt c
 | _=>true
def noG:List Oper->Bool
 | []=>true
 | o::r=>o.guard.isNone&&noG r
def inl:Code->Bool
 | .region _ ops _=>noG ops.toList
 | .skip=>true
 | .seq x y=>inl x&&inl y
 | _=>false
structure seqT (P:Unit->Program) (nt k0:Nat) (x y:Code) (s:S) [Q:Kx]:Prop where
 get:okC nt x=true->okC nt y=true->W (P ()) nt k0 (.seq x y) s Q.go
def VC2 (P:Unit->Program) (T:TypeId->TyI) (nt k0:Nat):(c:Code)->(s:S)->[Q:Kx]->Prop
 | .skip,s,Q=>Q.go .normal s
 | .region _ ops draw,s,Q=>(match draw with
  | false => @wopsN _ P T ops.toList ⟨λ s'=>Q.go .normal s'⟩ ops.toList s
  | true => @wopsD _ P T ops.toList ⟨λ s' f=>drawOk ops.toList f.reverse=true/\Q.go .normal s'⟩ ops.toList s [])
 | .seq x y,s,Q=>(match inl x with
  | true => @VC2 P T nt k0 x s ⟨λ e s1=>kSeq e (λ _ => @VC2 P T nt k0 y s1 Q) (λ _=>Q.go e s1)⟩
  | false => @seqT _ P nt k0 x y s Q)
 | .cond c x y,s,Q=>(s.st.ev c).kB λ b => @kIf b ⟨λ _ => @VC2 P T nt k0 x s Q⟩ ⟨λ _ => @VC2 P T nt k0 y s Q⟩
 | .block id c,s,Q => @VC2 P T nt k0 c s ⟨λ e s1=>kBlock id e (λ _=>Q.go .normal s1) (λ _=>Q.go e s1)⟩
 | .exit id,s,Q=>Q.go (.exit id) s
 | .ret,s,Q=>Q.go .ret s
 | .loop c,s,Q => @loopT _ P nt k0 c s Q
 | _,_,_=>False
theorem VC2.w {P:Unit->Program} {T:TypeId->TyI} (hT:T=tiOf (P ())) {nt k0:Nat}:∀ (c:Code) {s:S} {Q:Ex->S->Prop},okC nt c=true → @VC2 _ P T nt k0 c s ⟨Q⟩->W (P ()) nt k0 c s Q
 | .skip,s,Q,_,h=>.skip h
 | .region _ ops draw,s,Q,hd,h=>by
  cases draw with
  | false=>exact .regionN hT hd h
  | true=>exact .regionD hT hd h
 | .seq x y,s,Q,hd,h=>by
  simp only[okC,Bool.and_eq_true]at hd
  have h:(match inl x with
   | true => @VC2 _ P T nt k0 x s ⟨λ e s1=>kSeq e (λ _ => @VC2 _ P T nt k0 y s1 ⟨Q⟩) (λ _=>Q e s1)⟩
   | false => @seqT _ P nt k0 x y s ⟨Q⟩):=h
  cases hx:inl x with
  | true =>
   rw[hx]at h
   exact .seq ((VC2.w hT x hd.1 h).mono λ e s1 h1=>by
    cases e with
    | normal=>exact VC2.w hT y hd.2 h1
    | exit id=>exact h1
    | ret=>exact h1)
  | false =>
   rw[hx]at h
   exact @seqT.get _ P nt k0 x y s ⟨Q⟩ h hd.1 hd.2
 | .cond c x y,s,Q,hd,h=>by
  simp only[okC,Bool.and_eq_true]at hd
  obtain ⟨b,hb,h⟩:=SV.kB_elim h
  obtain ⟨h1,h2⟩:=h
  refine .cond hb ?_
  cases b with
  | true=>exact VC2.w hT x hd.1 (h1 rfl)
  | false=>exact VC2.w hT y hd.2 (h2 rfl)
 | .block id c,s,Q,hd,h=>.block (VC2.w hT c hd h)
 | .exit id,s,Q,_,h=>.exit h
 | .ret,s,Q,_,h=>.ret h
 | .loop c,s,Q,_,h=>by obtain ⟨g⟩:=h;exact g
 | .rangeFunc ..,s,Q,_,h=>h.elim
 | .scope _,s,Q,_,h=>h.elim
 | .label _,s,Q,_,h=>h.elim
 | .goto _,s,Q,_,h=>h.elim
 | .refuse _,s,Q,_,h=>h.elim
theorem seqN {P:Unit->Program} {T:TypeId->TyI} (hT:T=tiOf (P ())) {nt k0:Nat} {x y:Code} {s:S} {Q:Ex->S->Prop} (hx:inl x=false)
  (h : @VC2 _ P T nt k0 x s ⟨λ e s1=>kSeq e (λ _ => @VC2 _ P T nt k0 y s1 ⟨Q⟩) (λ _=>Q e s1)⟩) : @VC2 _ P T nt k0 (.seq x y) s ⟨Q⟩:=by
 show (match inl x with
   | true => @VC2 _ P T nt k0 x s ⟨λ e s1=>kSeq e (λ _ => @VC2 _ P T nt k0 y s1 ⟨Q⟩) (λ _=>Q e s1)⟩
   | false => @seqT _ P nt k0 x y s ⟨Q⟩)
 rw[hx]
 exact @seqT.mk _ P nt k0 x y s ⟨Q⟩ λ h1 h2=>.seq ((VC2.w hT x h1 h).mono λ e s1 h3=>by
  cases e with
  | normal=>exact VC2.w hT y h2 h3
  | exit id=>exact h3
  | ret=>exact h3)
structure CutT (k0:Nat) {α:Type} (st:α->S) (G:α->Prop) (s:S):Prop where
 get:∃ v,G v/\Weak k0 s (st v)
theorem seqK {P:Unit->Program} {T:TypeId->TyI} (hT:T=tiOf (P ())) {nt k0:Nat} {x y:Code} {s:S} {Q:Ex->S->Prop} {α:Type} (st:α->S) (G:α->Prop) (hx:inl x=false)
  (h : @VC2 _ P T nt k0 x s ⟨λ e s1=>kSeq e (λ _=>CutT k0 st G s1) (λ _=>Q e s1)⟩) (h2:∀ v,G v → @VC2 _ P T nt k0 y (st v) ⟨Q⟩) : @VC2 _ P T nt k0 (.seq x y) s ⟨Q⟩:=by
 show (match inl x with
   | true => @VC2 _ P T nt k0 x s ⟨λ e s1=>kSeq e (λ _ => @VC2 _ P T nt k0 y s1 ⟨Q⟩) (λ _=>Q e s1)⟩
   | false => @seqT _ P nt k0 x y s ⟨Q⟩)
 rw[hx]
 exact @seqT.mk _ P nt k0 x y s ⟨Q⟩ λ d1 d2=>.seq ((VC2.w hT x d1 h).mono λ e s1 h3=>by
  cases e with
  | normal =>
   obtain ⟨v,g1,g2⟩:=h3.get
   exact (VC2.w hT y d2 (h2 v g1)).weak g2
  | exit id=>exact h3
  | ret=>exact h3)
theorem cutT_mk {k0:Nat} {α:Type} {st:α->S} {G:α->Prop} {s:S} (v:α) (hg:G v) (hw:Weak k0 s (st v)):CutT k0 st G s:=⟨v,hg,hw⟩
theorem loopK {P:Unit->Program} {T:TypeId->TyI} (hT:T=tiOf (P ())) {nt k0:Nat} {s:S} {Q:Ex->S->Prop} {α:Type} (st:α->S) (Inv:Nat->α->Prop) {c:Code} (hd:okC nt c=true) (k:Nat) (x0:α) (hw:Weak k0 s (st x0)) (h0:Inv k x0)
  (zero:∀ x,¬ Inv 0 x) (step:∀ k x,Inv (k+1) x → @VC2 _ P T nt k0 c (st x) ⟨λ e s'=>kSeq e (λ _=>∃ x',Inv k x'/\Weak k0 s' (st x')) (λ _=>Q e s')⟩) : @loopT _ P nt k0 c s ⟨Q⟩ :=
 @loopT.mk _ P nt k0 c s ⟨Q⟩ <| (.loop (λ p:Nat×α=>st p.2) (λ p=>Inv p.1 p.2) (λ p=>p.1) (k,x0) hw h0 λ p hp=>by
  obtain ⟨k,x⟩:=p
  cases k with
  | zero=>exact absurd hp (zero x)
  | succ k =>
   refine (VC2.w hT c hd (step k x hp)).mono λ e s' h => ?_
   cases e with
   | normal =>
    obtain ⟨x',h1,h2⟩:=h
    exact ⟨(k,x'),h1,Nat.lt_succ_self _,h2⟩
   | exit id=>exact h
   | ret=>exact h)
theorem ansK {P:Unit->Program} {T:TypeId->TyI} (hT:T=tiOf (P ())) {f:FuncId} {fn:Func} {c:Code} {ps:List PV} {bs:List HS} {K:SV->List HS->Prop} (hf:(P ()).funcs[f]? = some fn) (hb:fn.body=some c)
  (hc:(fn.name == "runtime.NumGoroutine")=false/\Nat.ble ps.length fn.ntmps=true/\Nat.blt 0 fn.ntmps=true/\okC fn.ntmps c=true) (hbs:∀ s ∈ bs,s≠.no) {s0:S} (hw0:Weak bs.length ⟨zipE 0 ps,bs⟩ s0)
  (h : @VC2 _ P T fn.ntmps bs.length c s0 ⟨λ e s'=>(match e with | .exit _=>False|_=>True)/\kO (resF T (hOf s'.heap) s'.env fn.results.toList) λ r0 => @EndT _ bs.length r0 s'.heap ⟨K⟩⟩) :
  Ans (P ()) f ps bs K :=
 ans_ofW hT hf hb hc.1 (Nat.le_of_ble_eq_true hc.2.1) (by simpa [Nat.blt_eq] using hc.2.2.1) hbs hw0 (VC2.w hT c hc.2.2.2 h)
end Go.Fm
namespace Go.Fm
variable [Globs]
def evL (env:List (Nat×SV)):Operand->SV
 | .tmp t=>lk env t
 | .const v=>constSV v
 | .func f=>one (.fn f [])
 | .global g=>match Globs.tab g with|some cs=>one (.ip cs)|none=>one .dead
theorem ev_evL {env:List (Nat×SV)} {heap:List HS} {x:Operand}:St.ev (S.st ⟨env,heap⟩) x=evL env x:=by cases x<;>rfl
theorem ev_map {env:List (Nat×SV)} {heap:List HS} (as:List Operand):as.map (evL env)=as.map (S.st ⟨env,heap⟩).ev:=List.map_congr_left λ x _=>ev_evL.symm
theorem heap_st {env:List (Nat×SV)} {heap:List HS} {i:Nat}:(S.st ⟨env,heap⟩).heap i=hOf heap i:=rfl
def kG (x:SV) (b:Bool) (K:Bool->Prop):Prop:=match x with
 | .pv (.one (.bool t))=>(match b with|true => @kIf t ⟨λ _=>K true⟩ ⟨λ _=>K false⟩|false => @kIf t ⟨λ _=>K false⟩ ⟨λ _=>K true⟩)
 | .tup _=>K false
 | _=>False
theorem kG_t {t:Bool} {K:Bool->Prop}:kG (.pv (.one (.bool t))) true K = @kIf t ⟨λ _=>K true⟩ ⟨λ _=>K false⟩:=rfl
theorem kG_f {t:Bool} {K:Bool->Prop}:kG (.pv (.one (.bool t))) false K = @kIf t ⟨λ _=>K false⟩ ⟨λ _=>K true⟩:=rfl
theorem kG_u {l:List PV} {b:Bool} {K:Bool->Prop}:kG (.tup l) b K=K false:=rfl
def kD (d:Option Nat) (env:List (Nat×SV)) (b:Bool) (K:Bool->Prop):Prop:=match d with|none=>K false|some d=>kG (lk env d) b K
theorem kD_s {d:Nat} {env:List (Nat×SV)} {b:Bool} {K:Bool->Prop}:kD (some d) env b K=kG (lk env d) b K:=rfl
theorem kD_n {env:List (Nat×SV)} {b:Bool} {K:Bool->Prop}:kD none env b K=K false:=rfl
def dstAt:List Oper->Nat->Option Nat
 | [],_=>none
 | o::_,0=>o.dst
 | _::r,n+1=>dstAt r n
theorem dstAt_eq:∀ (l:List Oper) (j:Nat),dstAt l j=(l[j]?).bind (·.dst)
 | [],j=>by simp[dstAt]
 | o::r,0=>rfl
 | o::r,j+1=>by simp only[dstAt,List.getElem?_cons_succ];exact dstAt_eq r j
def kFn (x:SV) (K:FuncId->List CV->Prop):Prop:=match x with | .pv (.one (.fn f caps))=>K f caps|_=>False
theorem kFn_fn {f:FuncId} {caps:List CV} {K:FuncId->List CV->Prop}:kFn (.pv (.one (.fn f caps))) K=K f caps:=rfl
@[congr] theorem kFn_congr {x y:SV} {K:FuncId->List CV->Prop} (h:x=y):kFn x K=kFn y K:=by rw[h]
section
variable {P:Unit->Program} {T:TypeId->TyI} {nt k0:Nat} {s:S} {Q:Ex->S->Prop} {all os:List Oper} {K:S->Prop} {KD:S->Feet->Prop} {acc:Feet} {d:Option Tmp} {op:Op} {ty:TypeId} {p:String} {es:Array Edge} {KA:Action->Prop} {g:Option (Nat×Bool)}
 {env:List (Nat×SV)} {heap:List HS}
theorem v_skip : @VC2 _ P T nt k0 .skip s ⟨Q⟩=Q .normal s:=rfl
theorem v_regN {id:Nat} {l:List Oper} : @VC2 _ P T nt k0 (.region id l.toArray false) s ⟨Q⟩ = @wopsN _ P T l ⟨λ s'=>Q .normal s'⟩ l s:=rfl
theorem v_regD {id:Nat} {l:List Oper} : @VC2 _ P T nt k0 (.region id l.toArray true) s ⟨Q⟩ = @wopsD _ P T l ⟨λ s' f=>drawOk l f.reverse=true/\Q .normal s'⟩ l s []:=rfl
theorem n_reg {id:Nat} {l:List Oper} {b:Bool}:inl (.region id l.toArray b)=noG l:=rfl
theorem n_skip:inl .skip=true:=rfl
theorem n_seq {x y:Code}:inl (.seq x y)=(inl x&&inl y):=rfl
theorem n_tt {b:Bool}:(true&&b)=b:=rfl
theorem v_seqA {x y z:Code} (h1:inl x=true) (h2:inl y=true) : @VC2 _ P T nt k0 (.seq (.seq x y) z) s ⟨Q⟩ = @VC2 _ P T nt k0 (.seq x y) s ⟨λ e s1=>kSeq e (λ _ => @VC2 _ P T nt k0 z s1 ⟨Q⟩) (λ _=>Q e s1)⟩:=by
 have h:inl (.seq x y)=true:=by rw[n_seq,h1,h2];rfl
 show (match inl (.seq x y) with|true=>_|false=>_)=_
 rw[h]
theorem v_seqS {y:Code} : @VC2 _ P T nt k0 (.seq .skip y) s ⟨Q⟩ = @VC2 _ P T nt k0 y s ⟨Q⟩:=rfl
theorem ng_nil:noG []=true:=rfl
theorem ng_cons:noG (⟨d,op,ty,p,es,none⟩::os)=noG os:=rfl
theorem v_seqR {id:Nat} {l:List Oper} {y:Code} (h:noG l=true) : @VC2 _ P T nt k0 (.seq (.region id l.toArray false) y) s ⟨Q⟩ = @wopsN _ P T l ⟨λ s' => @VC2 _ P T nt k0 y s' ⟨Q⟩⟩ l s:=by
 show (match noG l with|true=>_|false=>_)=_
 rw[h];rfl
theorem v_seqRD {id:Nat} {l:List Oper} {y:Code} (h:noG l=true) : @VC2 _ P T nt k0 (.seq (.region id l.toArray true) y) s ⟨Q⟩ = @wopsD _ P T l ⟨λ s' f=>drawOk l f.reverse=true ∧ @VC2 _ P T nt k0 y s' ⟨Q⟩⟩ l s []:=by
 show (match noG l with|true=>_|false=>_)=_
 rw[h];rfl
theorem v_cond {c:Operand} {x y:Code} : @VC2 _ P T nt k0 (.cond c x y) ⟨env,heap⟩ ⟨Q⟩=(evL env c).kB λ b => @kIf b ⟨λ _ => @VC2 _ P T nt k0 x ⟨env,heap⟩ ⟨Q⟩⟩ ⟨λ _ => @VC2 _ P T nt k0 y ⟨env,heap⟩ ⟨Q⟩⟩:=by
 rw[<-ev_evL];rfl
theorem v_block {id:Nat} {c:Code} : @VC2 _ P T nt k0 (.block id c) s ⟨Q⟩ = @VC2 _ P T nt k0 c s ⟨λ e s1=>kBlock id e (λ _=>Q .normal s1) (λ _=>Q e s1)⟩:=rfl
theorem v_exit {id:Nat} : @VC2 _ P T nt k0 (.exit id) s ⟨Q⟩=Q (.exit id) s:=rfl
theorem v_ret : @VC2 _ P T nt k0 .ret s ⟨Q⟩=Q .ret s:=rfl
theorem v_loop {c:Code} : @VC2 _ P T nt k0 (.loop c) s ⟨Q⟩ = @loopT _ P nt k0 c s ⟨Q⟩:=rfl
theorem w_nil : @wopsN _ P T all ⟨K⟩ [] s=K s:=rfl
theorem w_cons : @wopsN _ P T all ⟨K⟩ (⟨d,op,ty,p,es,none⟩::os) s=opG P T ⟨d,op,ty,p,es,none⟩ s λ A => @wopsN _ P T all ⟨K⟩ os (s.app d A):=rfl
theorem w_consG {j:Nat} {b:Bool} : @wopsN _ P T all ⟨K⟩ (⟨d,op,ty,p,es,some (j,b)⟩::os) ⟨env,heap⟩=kD (dstAt all j) env b λ g=>match g with
  | true=>opG P T ⟨d,op,ty,p,es,none⟩ ⟨env,heap⟩ λ A => @wopsN _ P T all ⟨K⟩ os (S.app ⟨env,heap⟩ d A)
  | false => @wopsN _ P T all ⟨K⟩ os (S.app ⟨env,heap⟩ d skipA):=by
 rw[dstAt_eq]
 rfl
theorem wD_nil : @wopsD _ P T all ⟨KD⟩ [] s acc=KD s acc:=rfl
theorem wD_cons : @wopsD _ P T all ⟨KD⟩ (⟨d,op,ty,p,es,none⟩::os) s acc=opG P T ⟨d,op,ty,p,es,none⟩ s λ A => @wopsD _ P T all ⟨KD⟩ os (s.app d A) ((A.rd,A.hp.map (·.1))::acc):=rfl
theorem wD_consG {j:Nat} {b:Bool} : @wopsD _ P T all ⟨KD⟩ (⟨d,op,ty,p,es,some (j,b)⟩::os) ⟨env,heap⟩ acc=kD (dstAt all j) env b λ g=>match g with
  | true=>opG P T ⟨d,op,ty,p,es,none⟩ ⟨env,heap⟩ λ A => @wopsD _ P T all ⟨KD⟩ os (S.app ⟨env,heap⟩ d A) ((A.rd,A.hp.map (·.1))::acc)
  | false => @wopsD _ P T all ⟨KD⟩ os (S.app ⟨env,heap⟩ d skipA) (([],[])::acc):=by
 rw[dstAt_eq]
 rfl
theorem o_call {x:Operand} {as:List Operand} {ts:Array TypeId}:opG P T ⟨d, .call ⟨.value x,as.toArray,ts⟩,ty,p,es,g⟩ ⟨env,heap⟩ KA=kFn (evL env x) λ f caps => @callT _ P f caps (as.map (evL env)) ⟨env,heap⟩ ⟨KA⟩:=by
 have:as.map (evL env)=as.map (S.st ⟨env,heap⟩).ev:=ev_map as
 rw[this,<-ev_evL (heap:=heap)]
 try rfl
theorem o_bi {b:Builtin} {as:List Operand} {ts:List TypeId}:opG P T ⟨d, .call ⟨.builtin b,as.toArray,ts.toArray⟩,ty,p,es,g⟩ ⟨env,heap⟩ KA=builtinH T b ts (as.map (evL env)) (S.st ⟨env,heap⟩) heap.length KA:=by
 have:as.map (evL env)=as.map (S.st ⟨env,heap⟩).ev:=ev_map as
 rw[this]
 try rfl
theorem o_move {x:Operand}:opG P T ⟨d, .move x,ty,p,es,g⟩ ⟨env,heap⟩ KA=KA ⟨[],evL env x,[]⟩:=by rw[<-ev_evL (heap:=heap)];rfl
theorem o_assign {x:Operand}:opG P T ⟨d, .assign x,ty,p,es,g⟩ ⟨env,heap⟩ KA=KA ⟨[],evL env x,[]⟩:=by rw[<-ev_evL (heap:=heap)];rfl
theorem o_pick {c a b:Operand}:opG P T ⟨d, .pick c a b,ty,p,es,g⟩ ⟨env,heap⟩ KA=(evL env c).kB λ t=>KA ⟨[],cond t (evL env a) (evL env b),[]⟩:=by rw[<-ev_evL (heap:=heap),<-ev_evL (heap:=heap),<-ev_evL (heap:=heap)];rfl
theorem o_extract {x:Operand} {i:Nat}:opG P T ⟨d, .extract x i,ty,p,es,g⟩ ⟨env,heap⟩ KA=(evL env x).kT λ ps=>kO ps[i]? λ p=>KA ⟨[], .pv p,[]⟩:=by rw[<-ev_evL (heap:=heap)];rfl
theorem o_un {u:UnOp} {t:TypeId} {x:Operand}:opG P T ⟨d, .unOp u t x,ty,p,es,g⟩ ⟨env,heap⟩ KA=kUnH u (evL env x) λ c=>KA ⟨[],one c,[]⟩:=by rw[<-ev_evL (heap:=heap)];rfl
theorem o_bin {bo:BinOp} {t t2:TypeId} {x y:Operand}:opG P T ⟨d, .binOp bo t x y t2,ty,p,es,g⟩ ⟨env,heap⟩ KA=kBinH T bo t (evL env x) (evL env y) λ c=>KA ⟨[],one c,[]⟩:=by rw[<-ev_evL (heap:=heap),<-ev_evL (heap:=heap)];rfl
theorem o_conv {a b:TypeId} {x:Operand}:opG P T ⟨d, .convert a b x,ty,p,es,g⟩ s KA=actH T (.convert a b x) s.st s.heap.length KA:=rfl
theorem o_field {a:TypeId} {x:Operand} {f:Nat}:opG P T ⟨d, .field a x f,ty,p,es,g⟩ s KA=actH T (.field a x f) s.st s.heap.length KA:=rfl
theorem o_fa {a:TypeId} {x:Operand} {f:Nat}:opG P T ⟨d, .fieldAddr a x f,ty,p,es,g⟩ s KA=actH T (.fieldAddr a x f) s.st s.heap.length KA:=rfl
theorem o_load {a:TypeId} {x:Operand}:opG P T ⟨d, .load a x,ty,p,es,g⟩ s KA=actH T (.load a x) s.st s.heap.length KA:=rfl
theorem o_store {a:TypeId} {x v:Operand}:opG P T ⟨d, .store a x v,ty,p,es,g⟩ s KA=actH T (.store a x v) s.st s.heap.length KA:=rfl
theorem o_alloc {a:TypeId}:opG P T ⟨d, .alloc a,ty,p,es,g⟩ s KA=actH T (.alloc a) s.st s.heap.length KA:=rfl
theorem o_box {a:TypeId} {x:Operand}:opG P T ⟨d, .box a x,ty,p,es,g⟩ s KA=actH T (.box a x) s.st s.heap.length KA:=rfl
theorem o_build {a:TypeId} {ps:Array (Nat×Operand)}:opG P T ⟨d, .build a ps,ty,p,es,g⟩ s KA=actH T (.build a ps) s.st s.heap.length KA:=rfl
theorem o_bs {a:TypeId} {n:Nat} {ps:Array (Nat×Operand)}:opG P T ⟨d, .buildSlice a n ps,ty,p,es,g⟩ s KA=actH T (.buildSlice a n ps) s.st s.heap.length KA:=rfl
theorem o_ms {a:TypeId} {x y:Operand}:opG P T ⟨d, .makeSlice a x y,ty,p,es,g⟩ s KA=actH T (.makeSlice a x y) s.st s.heap.length KA:=rfl
theorem o_idx {a:TypeId} {x y:Operand}:opG P T ⟨d, .index a x y,ty,p,es,g⟩ s KA=actH T (.index a x y) s.st s.heap.length KA:=rfl
theorem o_ia {a:TypeId} {x y:Operand}:opG P T ⟨d, .indexAddr a x y,ty,p,es,g⟩ s KA=actH T (.indexAddr a x y) s.st s.heap.length KA:=rfl
theorem o_sl {a:TypeId} {x:Operand} {l h:Option Operand}:opG P T ⟨d, .slice a x l h none,ty,p,es,g⟩ s KA=actH T (.slice a x l h none) s.st s.heap.length KA:=rfl
theorem o_mf {f:FuncId} {a b:Array Operand}:opG P T ⟨d, .makeFunc (.func f) a b,ty,p,es,g⟩ s KA=actH T (.makeFunc (.func f) a b) s.st s.heap.length KA:=rfl
theorem o_nc {x:Operand}:opG P T ⟨d, .nilCheck x,ty,p,es,g⟩ s KA=actH T (.nilCheck x) s.st s.heap.length KA:=rfl
end
@[congr] theorem opG_congr {P:Unit->Program} {T:TypeId->TyI} {o:Oper} {s s':S} {K:Action->Prop} (h:s=s'):opG P T o s K=opG P T o s' K:=by rw[h]
@[congr] theorem VC2_congr {P:Unit->Program} {T:TypeId->TyI} {nt k0:Nat} {c:Code} {s s':S} {Q:Kx} (h:s=s') : @VC2 _ P T nt k0 c s Q = @VC2 _ P T nt k0 c s' Q:=by rw[h]
@[congr] theorem loopT_congr {P:Unit->Program} {nt k0:Nat} {c:Code} {s s':S} {Q:Kx} (h:s=s') : @loopT _ P nt k0 c s Q = @loopT _ P nt k0 c s' Q:=by rw[h]
@[congr] theorem callT_congr {P:Unit->Program} {f:FuncId} {caps caps':List CV} {args args':List SV} {s s':S} {K:Kn Action} (h1:caps=caps') (h2:args=args') (h:s=s') : @callT _ P f caps args s K = @callT _ P f caps' args' s' K:=by rw[h1,h2,h]
@[congr] theorem builtinH_congr {T:TypeId->TyI} {b:Builtin} {ts:List TypeId} {xs ys:List SV} {φ ψ:St} {n m:Nat} {K:Action->Prop} (h0:xs=ys) (h:φ=ψ) (h2:n=m):builtinH T b ts xs φ n K=builtinH T b ts ys ψ m K:=by rw[h0,h,h2]
@[congr] theorem builtinFT_congr {T:TypeId->TyI} {b:Builtin} {ts:List TypeId} {xs ys:List SV} {φ ψ:St} {n m:Nat} {K:Action->Prop} (h0:xs=ys) (h:φ=ψ) (h2:n=m):builtinFT T b ts xs φ n K=builtinFT T b ts ys ψ m K:=by rw[h0,h,h2]
section
variable {T:TypeId->TyI} {φ:St} {nid size:Nat} {K:CV->Prop} {t:TypeId} {k k':IntKind} {a b:Int} {KC:List Nat->Nat->List CV->Prop} {env:List (Nat×SV)} {heap:List HS}
@[congr] theorem kBinH_congr {op:BinOp} {x x' y y':SV} (h1:x=x') (h2:y=y'):kBinH T op t x y K=kBinH T op t x' y' K:=by rw[h1,h2]
@[congr] theorem kUnH_congr {u:UnOp} {x x':SV} (h1:x=x'):kUnH u x K=kUnH u x' K:=by rw[h1]
@[congr] theorem cellsH_congr {ψ:St} {m:Nat} {x y:SV} (h1:φ=ψ) (h2:size=m) (h:x=y):cellsH φ size x KC=cellsH ψ m y KC:=by rw[h1,h2,h]
theorem b_add:kBinH T .add t (.pv (.one (.int k a))) (.pv (.one (.int k' b))) K=(k=k'/\K (.int k (k.wrap (a+b)))):=rfl
theorem b_sub:kBinH T .sub t (.pv (.one (.int k a))) (.pv (.one (.int k' b))) K=(k=k'/\K (.int k (k.wrap (a-b)))):=rfl
theorem b_mul:kBinH T .mul t (.pv (.one (.int k a))) (.pv (.one (.int k' b))) K=(k=k'/\K (.int k (k.wrap (a*b)))):=rfl
theorem b_quo:kBinH T .quo t (.pv (.one (.int k a))) (.pv (.one (.int k' b))) K=(k=k'/\kO (quoI k a b) λ r=>K (.int k r)):=rfl
theorem b_rem:kBinH T .rem t (.pv (.one (.int k a))) (.pv (.one (.int k' b))) K=(k=k'/\kO (remI k a b) λ r=>K (.int k r)):=rfl
theorem b_and:kBinH T .and t (.pv (.one (.int k a))) (.pv (.one (.int k' b))) K=(k=k'/\K (.int k (andI k a b))):=rfl
theorem b_or:kBinH T .or t (.pv (.one (.int k a))) (.pv (.one (.int k' b))) K=(k=k'/\K (.int k (orI k a b))):=rfl
theorem b_xor:kBinH T .xor t (.pv (.one (.int k a))) (.pv (.one (.int k' b))) K=(k=k'/\K (.int k (xorI k a b))):=rfl
theorem b_shl:kBinH T .shl t (.pv (.one (.int k a))) (.pv (.one (.int k' b))) K=kO (shlI k a b) λ r=>K (.int k r):=rfl
theorem b_shr:kBinH T .shr t (.pv (.one (.int k a))) (.pv (.one (.int k' b))) K=kO (shrI k a b) λ r=>K (.int k r):=rfl
theorem b_eql:kBinH T .eql t (.pv (.one (.int k a))) (.pv (.one (.int k' b))) K=(k=k'/\K (.bool (a==b))):=rfl
theorem b_neq:kBinH T .neq t (.pv (.one (.int k a))) (.pv (.one (.int k' b))) K=(k=k'/\K (.bool (a != b))):=rfl
theorem b_lss:kBinH T .lss t (.pv (.one (.int k a))) (.pv (.one (.int k' b))) K=(k=k'/\K (.bool (a < b))):=rfl
theorem b_leq:kBinH T .leq t (.pv (.one (.int k a))) (.pv (.one (.int k' b))) K=(k=k'/\K (.bool (a<=b))):=rfl
theorem b_gtr:kBinH T .gtr t (.pv (.one (.int k a))) (.pv (.one (.int k' b))) K=(k=k'/\K (.bool (a > b))):=rfl
theorem b_geq:kBinH T .geq t (.pv (.one (.int k a))) (.pv (.one (.int k' b))) K=(k=k'/\K (.bool (a ≥ b))):=rfl
theorem b_sadd {x y:List UInt8}:kBinH T .add t (.pv (.one (.str x))) (.pv (.one (.str y))) K=kO (catS x y) λ r=>K (.str r):=rfl
theorem b_seql {x y:List UInt8}:kBinH T .eql t (.pv (.one (.str x))) (.pv (.one (.str y))) K=K (.bool (x==y)):=rfl
theorem b_sneq {x y:List UInt8}:kBinH T .neq t (.pv (.one (.str x))) (.pv (.one (.str y))) K=K (.bool (x != y)):=rfl
def kKind (x:TK) (A B C:Prop):Prop:=match x with | .bool=>A | .iface=>B|_=>C
theorem kK_b {A B C:Prop}:kKind .bool A B C=A:=rfl
theorem kK_i {A B C:Prop}:kKind .iface A B C=B:=rfl
theorem b_beql {x y:Bool}:kBinH T .eql t (.pv (.one (.bool x))) (.pv (.one (.bool y))) K=kKind (T t).kind (K (.bool (x==y))) False False:=by
 show (match BinOp.eql,(T t).kind with | .eql, .bool=>K (.bool (x==y)) | .neq, .bool=>K (.bool (x != y))|_,_=>False)=_
 cases (T t).kind<;>rfl
theorem b_bneq {x y:Bool}:kBinH T .neq t (.pv (.one (.bool x))) (.pv (.one (.bool y))) K=kKind (T t).kind (K (.bool (x != y))) False False:=by
 show (match BinOp.neq,(T t).kind with | .eql, .bool=>K (.bool (x==y)) | .neq, .bool=>K (.bool (x != y))|_,_=>False)=_
 cases (T t).kind<;>rfl
theorem b_oeql:kBinH T .eql t (.pv (.one .opq)) (.pv (.one .nili)) K=kKind (T t).kind False (K (.bool false)) False:=by
 show (match BinOp.eql,(T t).kind with | .eql, .iface=>K (.bool false) | .neq, .iface=>K (.bool true)|_,_=>False)=_
 cases (T t).kind<;>rfl
theorem b_oneq:kBinH T .neq t (.pv (.one .opq)) (.pv (.one .nili)) K=kKind (T t).kind False (K (.bool true)) False:=by
 show (match BinOp.neq,(T t).kind with | .eql, .iface=>K (.bool false) | .neq, .iface=>K (.bool true)|_,_=>False)=_
 cases (T t).kind<;>rfl
theorem b_aeql {x y:List CV}:kBinH T .eql t (.pv (.agg x)) (.pv (.agg y)) K=kO (T t).flat λ ks=>kO (eqCs ks x y) λ r=>K (.bool r):=rfl
theorem b_aneq {x y:List CV}:kBinH T .neq t (.pv (.agg x)) (.pv (.agg y)) K=kO (T t).flat λ ks=>kO (eqCs ks x y) λ r=>K (.bool (!r)):=rfl
theorem u_not {x:Bool}:kUnH .not (.pv (.one (.bool x))) K=K (.bool (!x)):=rfl
theorem u_neg:kUnH .neg (.pv (.one (.int k a))) K=K (.int k (k.wrap (0-a))):=rfl
theorem u_xor:kUnH .xor (.pv (.one (.int k a))) K=K (.int k (notI k a)):=rfl
theorem ch_arr {i lo n:Nat}:cellsH φ size (.pv (.one (.arr i lo n))) KC=kLive (φ.heap i) λ b=>b.sz=size/\kO (okP (lo+n<=b.n)) λ _=>KC [i] n (winC lo n size b.cs):=rfl
theorem ch_imm {sz n:Nat} {cs:List CV}:cellsH φ size (.pv (.one (.imm sz n cs))) KC=(sz=size/\KC [] n cs):=rfl
theorem ch_emp:cellsH φ size (.pv (.one .emp)) KC=KC [] 0 []:=rfl
theorem ch_str {l:List UInt8}:cellsH φ size (.pv (.one (.str l))) KC=(size=1/\KC [] l.length ((bsOf l).flatMap (eI .u8))):=rfl
theorem bdL_n {K:Int->Prop}:bdL φ none K=K 0:=rfl
theorem bdL_s {x:Operand} {K:Int->Prop}:bdL φ (some x) K=(φ.ev x).kI λ _ i=>K i:=rfl
theorem lk_nil {t:Nat}:lk [] t=one .dead:=rfl
theorem lk_cons {i t:Nat} {v:SV} {r:List (Nat×SV)}:lk ((i,v)::r) t=if i=t then v else lk r t:=rfl
theorem ho_nil {i:Nat}:hOf [] i=.no:=by simp[hOf]
theorem ho_zero {x:HS} {r:List HS}:hOf (x::r) 0=x:=rfl
theorem ho_succ {x:HS} {r:List HS} {i:Nat}:hOf (x::r) (i+1)=hOf r i:=rfl
theorem ev_t {i:Nat}:evL env (.tmp i)=lk env i:=rfl
theorem ev_c {v:Value}:evL env (.const v)=constSV v:=rfl
theorem ev_f {f:FuncId}:evL env (.func f)=one (.fn f []):=rfl
theorem ev_g {g:Nat}:evL env (.global g)=(match Globs.tab g with|some cs=>one (.ip cs)|none=>one .dead):=rfl
theorem app_some {t:Nat} {A:Action}:S.app ⟨env,heap⟩ (some t) A=⟨(t,A.val)::env,setHs heap A.hp⟩:=rfl
theorem app_none {A:Action}:S.app ⟨env,heap⟩ none A=⟨env,setHs heap A.hp⟩:=rfl
theorem sh_nil {l:List HS}:setHs l []=l:=rfl
theorem sh_cons {l:List HS} {i:Nat} {x:HS} {r:List (Nat×HS)}:setHs l ((i,x)::r)=setHs (setH l i x) r:=rfl
theorem s1 {x:HS}:setH [] 0 x=[x]:=rfl
theorem s2 {x:HS} {n:Nat}:setH [] (n+1) x=.no::setH [] n x:=rfl
theorem s3 {x y:HS} {r:List HS}:setH (y::r) 0 x=x::r:=rfl
theorem s4 {x y:HS} {r:List HS} {n:Nat}:setH (y::r) (n+1) x=y::setH r n x:=rfl
theorem c_int {k:IntKind} {n:Int}:constSV (.int k n)=one (.int k n):=rfl
theorem c_bool {b:Bool}:constSV (.bool b)=one (.bool b):=rfl
theorem c_str {x:ByteArray}:constSV (.string x)=one (.str x.data.toList):=rfl
theorem c_sl {a:Option Addr}:constSV (.slice a 0 0)=one .emp:=rfl
theorem c_np:constSV (.pointer none)=one .nilp:=rfl
theorem c_ni:constSV .nilIface=one .nili:=rfl
end
abbrev an {a b:Prop} (x:a) (y:b):a/\b:=⟨x,y⟩
def MD:=an @n_reg <| an @n_skip <| an @n_seq <| an @n_tt <| an @v_skip <| an @v_regN <| an @v_regD <| an @v_seqA <| an @v_seqS <| an @v_seqR <| an @v_seqRD <| an @v_cond <| an @v_block <| an @v_exit <| an @v_ret <| an @v_loop <|
 an @w_nil <| an @w_cons <| an @w_consG <| an @wD_nil <| an @wD_cons <| an @wD_consG <| an @o_call <| an @o_bi <| an @o_move <| an @o_assign <| an @o_pick <|
 an @o_extract <| an @o_un <| an @o_bin <| an @o_conv <| an @o_field <| an @o_fa <| an @o_load <| an @o_store <| an @o_alloc <| an @o_box <| an @o_build <|
 an @o_bs <| an @o_ms <| an @o_idx <| an @o_ia <| an @o_sl <| an @o_mf <| an @o_nc <|
 an @kD_s <| an @kD_n <| an @kG_t <| an @kG_f <| an @kG_u <| an @kFn_fn <| an @kIf_true <| an @kIf_false <|
 an @b_add <| an @b_sub <| an @b_mul <| an @b_quo <| an @b_rem <| an @b_and <| an @b_or <| an @b_xor <| an @b_shl <| an @b_shr <| an @b_eql <| an @b_neq <|
 an @b_lss <| an @b_leq <| an @b_gtr <| an @b_geq <| an @b_sadd <| an @b_seql <| an @b_sneq <| an @b_beql <| an @b_bneq <| an @b_oeql <| an @b_oneq <|
 an @b_aeql <| an @b_aneq <| an @u_not <| an @u_neg <| an @u_xor <| an @kK_b <| an @kK_i <|
 an @ch_arr <| an @ch_imm <| an @ch_emp <| an @ch_str <|
 an @kI_int <| an @kB_bool <| an @kS_str <| an @kA_agg <| an @kT_tup <| an @kC_agg <| an @kC_int <| an @kC_bool <| an @kC_str <| an @kC_imm <| an @kC_ip <| an @kC_arr <|
 an @kC_emp <| an @kC_ptr <| an @kC_fn <| an @kC_opq <| an @kC_nilp <| an @kC_nili <| an @kO_some <| an @kLive_live <| an @kPtrI_ptr <| an @kPtrI_ip <|
 an @kSlI_arr <| an @kSlI_imm <| an @kSlI_emp <| an @kLen_arr <| an @kLen_imm <| an @kLen_emp <| an @bd_none <| an @bdL_n <| an @bdL_s <| an @bd_some <|
 an @kSeq_n <| an @kSeq_e <| an @kSeq_r <| an @kBlock_n <| an @kBlock_r @kBlock_e
theorem nb_t {a b:Nat} (h:a=b):Nat.beq a b=true:=by subst h;simp
theorem nb1:Nat.beq 0 0=true:=rfl
theorem nb2 {n m:Nat}:Nat.beq (n+1) (m+1)=Nat.beq n m:=rfl
theorem nb3 {n:Nat}:Nat.beq (n+1) 0=false:=rfl
theorem nb4 {n:Nat}:Nat.beq 0 (n+1)=false:=rfl
theorem nl1 {n:Nat}:Nat.ble 0 n=true:=by cases n<;>rfl
theorem nl2 {n m:Nat}:Nat.ble (n+1) (m+1)=Nat.ble n m:=rfl
theorem nl3 {n:Nat}:Nat.ble (n+1) 0=false:=rfl
theorem nl4 {n m:Nat}:Nat.blt n m=Nat.ble (n+1) m:=rfl
def MU:=an @ng_nil <| an @ng_cons <| an @nb1 <| an @nb2 <| an @nb3 <| an @nb4 <| an @nl1 <| an @nl2 <| an @nl3 <| an @nl4 <| an @ev_t <| an @ev_c <| an @ev_f <| an @ev_g <| an @ev_evL <| an @heap_st <| an @lk_nil <| an @lk_cons <| an @ho_nil <| an @ho_zero <| an @ho_succ <|
 an @app_some <| an @app_none <| an @sh_nil <| an @sh_cons <| an @s1 <| an @s2 <| an @s3 <| an @s4 <|
 an @c_int <| an @c_bool <| an @c_str <| an @c_sl <| an @c_np <| an @c_ni <|
 an @List.getElem?_cons_zero.{0} <| an @List.getElem?_cons_succ.{0} <| an @List.getElem?_nil.{0} <| an @List.map_cons.{0,0} <| an @List.map_nil.{0,0} <| an @List.length_cons.{0} <| an @List.length_nil.{0} <|
 an @List.drop_succ_cons.{0} <| an @List.drop_zero.{0} <| an @List.drop_nil.{0} <| an @List.take_succ_cons.{0} <| an @List.take_zero.{0} <| an @List.take_nil.{0} <|
 an @List.cons_append.{0} <| an @List.nil_append.{0} <| an @List.append_nil.{0} <| an @List.headD_cons.{0} <| an @cond_true.{1} <| an @cond_false.{1} <|
 an @Option.map_some.{0,0} <| an @Option.map_none.{0,0} <| an @Option.bind_some.{0,0} <| an @Option.bind_none.{0,0} <| an @Option.isSome_some.{0} <|
 an @Nat.zero_add <| an @Nat.add_zero <| an @Bool.or_true <| an @Bool.true_or <| an @Bool.false_or <| an @Bool.or_false <| an @Bool.and_self <| an @Bool.not_true <| an @Bool.not_false <|
 an @if_true.{1} <| an @if_false.{1} <| an @eq_self.{1} <| an @true_and <| an @and_true <| an @ne_eq.{1} <| an @not_true_eq_false <| an @not_false_eq_true <| an @List.size_toArray.{0} <| @Nat.beq_eq_true_eq
end Go.Fm
namespace Go.Fm
variable [Globs]
def bigK:Nat:=18446744073709551616
def getI {α:Type} (xs:List α) (i:Int):Option α:=if 0<=i then xs[i.toNat]? else none
def app {α:Type} (xs ys:List α):Option (List α):=if (xs++ys).length<=maxN then some (xs++ys) else none
def mk {α:Type} (z:α) (n:Int):Option (List α):=if 0<=n/\n<=maxN then some (List.replicate n.toNat z) else none
def s2b (s:List UInt8):Option (List Int):=if s.length<=maxN then some (bsOf s) else none
def strOf (b:List Int):List UInt8:=b.map λ n=>UInt8.ofNat n.toNat
structure EncOk {α:Type} (e:α->List CV) (k:Nat):Prop where
 len:∀ x,(e x).length=k
 ri:∀ x,riAll (e x)=true
theorem riAll_of_flat:∀ {cs:List CV},riAll cs=true->flatAll cs=true
 | [],_=>rfl
 | c::r,h=>by
  simp only[riAll,Bool.and_eq_true]at h
  simp only[flatAll,Bool.and_eq_true]
  exact ⟨by cases c<;>first|rfl|(simp[CV.ri]at h),riAll_of_flat h.2⟩
theorem eI_ok (k:IntKind):EncOk (eI k) 1:=⟨λ _=>rfl,λ _=>rfl⟩
def eS (s:List UInt8):List CV:=[.str s]
def eB (b:Bool):List CV:=[.bool b]
def eL {α:Type} (e:α->List CV) (k:Nat) (xs:List α):List CV:=[.imm k xs.length (xs.flatMap e)]
theorem eL_ok {α:Type} (e:α->List CV) (k:Nat):EncOk (eL e k) 1:=⟨λ _=>rfl,λ _=>rfl⟩
theorem getI_some {α:Type} {xs:List α} {i:Int} {x:α} (h:getI xs i=some x):0<=i/\i < xs.length/\xs[i.toNat]? = some x:=by
 unfold getI at h
 split at h
 ·have:=(List.getElem?_eq_some_iff.1 h).1
  exact ⟨by assumption,by omega,h⟩
 ·cases h
theorem appSome {α:Type} {xs ys zs:List α} (h:app xs ys=some zs):zs=xs++ys/\zs.length<=maxN:=by
 unfold app at h
 split at h
 ·cases h;exact ⟨rfl,by assumption⟩
 ·cases h
theorem mk_some {α:Type} {z:α} {n:Int} {xs:List α} (h:mk z n=some xs):xs=List.replicate n.toNat z/\0<=n/\n<=maxN:=by
 unfold mk at h
 split at h
 ·rename_i h1;cases h;exact ⟨rfl,h1⟩
 ·cases h
theorem subL_some {α:Type} {xs ys:List α} {a b:Int} (h:subL xs a b=some ys):ys=(xs.drop a.toNat).take (b.toNat-a.toNat)/\0<=a/\a<=b/\b<=xs.length/\ys.length=b.toNat-a.toNat:=by
 unfold subL at h
 split at h
 ·rename_i h1
  cases h
  refine ⟨rfl,h1.1,h1.2.1,h1.2.2,?_⟩
  rw[List.length_take,List.length_drop]
  omega
 ·cases h
section
variable {α:Type} {e:α->List CV} {k n m lo q:Nat} {xs ys zs:List α} {x y z:α} {i a b:Int} {ns:List CV}
theorem fAt (ok:EncOk e k) (h:getI xs i=some x) (hn:n=xs.length):rowAt i n k (xs.flatMap e)=some (e x++(xs.drop (i.toNat+1)).flatMap e):=by
 subst hn
 obtain ⟨h1,h2,h3⟩:=getI_some h
 unfold rowAt
 rw[if_pos ⟨h1,h2⟩,flat_drop ok.len]
 obtain ⟨hi,he⟩:=List.getElem?_eq_some_iff.1 h3
 rw[List.drop_eq_getElem_cons hi,he,List.flatMap_cons]
theorem fPtr (h:getI xs i=some x) (hn:n=xs.length):rowPtr 0 i n k=some (i.toNat*k):=by
 subst hn
 obtain ⟨h1,h2,h3⟩:=getI_some h
 unfold rowPtr
 rw[if_pos ⟨h1,h2⟩,Nat.zero_add]
theorem getC_eq {l:List CV} (h:m<=l.length) (h0:0 < m):getC m l=some (l.take m):=by
 have key:∀ (m:Nat) (l:List CV),m<=l.length->takeN m l=some (l.take m):=by
  intro m
  induction m with
  | zero=>intro l _;rfl
  | succ m ih =>
   intro l hl
   cases l with
   | nil=>simp at hl
   | cons c r=>simp only[takeN,List.take_succ_cons,ih r (by simpa using hl),Option.map_some]
 cases m with
 | zero=>omega
 | succ m=>exact key _ _ h
theorem fGet (ok:EncOk e k) (h:getI xs i=some x) (hq:q+m<=k) (hm:0 < m):getC m ((xs.flatMap e).drop (i.toNat*k+q))=getC m ((e x).drop q):=by
 obtain ⟨h1,h2,h3⟩:=getI_some h
 obtain ⟨hi,he⟩:=List.getElem?_eq_some_iff.1 h3
 rw[<-List.drop_drop,flat_drop ok.len,List.drop_eq_getElem_cons hi,he,List.flatMap_cons,List.drop_append_of_le_length (by rw[ok.len];omega),
  getC_eq (by rw[List.length_append,List.length_drop,ok.len];omega) hm,getC_eq (by rw[List.length_drop,ok.len];omega) hm,List.take_append_of_le_length (by rw[List.length_drop,ok.len];omega)]
theorem fGet0 (ok:EncOk e k) (h:getI xs i=some x) (hq:m<=k) (hm:0 < m):getC m ((xs.flatMap e).drop (i.toNat*k))=getC m (e x):=by
 have:=fGet (q:=0) ok h (by omega) hm
 simpa using this
theorem putN_eq:∀ {off:Nat} {ns cs:List CV},off+ns.length<=cs.length->putN off ns cs=some (over cs off ns)
 | 0,[],cs,_=>by cases cs<;>simp[putN,over]
 | 0,n::ns,c::cs,h=>by
  simp only[putN,putN_eq (off:=0) (ns:=ns) (cs:=cs) (by simpa using h)]
  simp[over]
 | 0,n::ns,[],h=>by simp at h
 | off+1,ns,c::cs,h=>by
  have h':off+ns.length<=cs.length:=by simp only[List.length_cons]at h;omega
  have e1:putN (off+1) ns (c::cs)=(putN off ns cs).map (c::·):=by cases ns<;>rfl
  rw[e1,putN_eq h']
  simp only[Option.map_some,over,List.take_succ_cons,List.cons_append,show off+1+ns.length=(off+ns.length)+1 by omega,List.drop_succ_cons]
 | off+1,ns,[],h=>by simp at h
theorem over_split (A B C:List CV) (q:Nat) (h:q+ns.length<=B.length):over (A++B++C) (A.length+q) ns=A++over B q ns++C:=by
 unfold over
 rw[List.append_assoc A B C,List.take_append,List.take_of_length_le (l:=A) (by omega),show A.length+q-A.length=q by omega,List.take_append_of_le_length (by omega),
  Nat.add_assoc,List.drop_append,List.drop_eq_nil_of_le (by omega:A.length<=A.length+(q+ns.length)),List.nil_append,Nat.add_sub_cancel_left,List.drop_append_of_le_length (by omega)]
 simp only[List.append_assoc]
theorem fPut (ok:EncOk e k) (h:getI xs i=some x) (hx:putN q ns (e x)=some (e y)):putN (i.toNat*k+q) ns (xs.flatMap e)=some ((xs.set i.toNat y).flatMap e):=by
 obtain ⟨h1,h2,h3⟩:=getI_some h
 obtain ⟨hi,he⟩:=List.getElem?_eq_some_iff.1 h3
 obtain ⟨g1,g2⟩:=putN_some hx
 have hsp:xs.flatMap e=(xs.take i.toNat).flatMap e++e x++(xs.drop (i.toNat+1)).flatMap e:=by
  have:xs=xs.take i.toNat++(x::xs.drop (i.toNat+1)):=by rw[<-he,<-List.drop_eq_getElem_cons hi,List.take_append_drop]
  conv=>lhs;rw[this]
  rw[List.flatMap_append,List.flatMap_cons,List.append_assoc]
 have hl:((xs.take i.toNat).flatMap e).length=i.toNat*k:=by rw[flat_len ok.len,List.length_take,Nat.min_eq_left (by omega)]
 rw[putN_eq (by rw[hsp,List.length_append,List.length_append,hl];omega),hsp,<-hl,over_split _ _ _ _ g1,<-g2,List.set_eq_take_append_cons_drop,if_pos hi]
 simp only[List.flatMap_append,List.flatMap_cons,List.append_assoc]
theorem fPut0 (ok:EncOk e k) (h:getI xs i=some x) (hx:putN 0 ns (e x)=some (e y)):putN (i.toNat*k) ns (xs.flatMap e)=some ((xs.set i.toNat y).flatMap e):=by
 have:=fPut (q:=0) ok h hx
 simpa using this
theorem fApp (h:app xs ys=some zs) (hn:n=xs.length) (hm:m=ys.length):appN 0 n n m=some zs.length:=by
 subst hn hm
 obtain ⟨rfl,h2⟩:=appSome h
 unfold appN
 rw[List.length_append]at h2 ⊢
 rw[if_pos ⟨by omega,h2⟩]
theorem fCat (h:app xs ys=some zs) (hn:ns=ys.flatMap e):xs.flatMap e++ns=zs.flatMap e:=by
 subst hn
 obtain ⟨rfl,_⟩:=appSome h
 rw[List.flatMap_append]
theorem fWin (ok:EncOk e k) (hn:n=xs.length):winC 0 n k (xs.flatMap e)=xs.flatMap e:=by
 subst hn
 unfold winC
 rw[Nat.zero_mul,List.drop_zero,List.take_of_length_le (by rw[flat_len ok.len];exact Nat.le_refl _)]
theorem fMk (h:mk z i=some xs):mkN i i=some xs.length:=by
 obtain ⟨rfl,h1,h2⟩:=mk_some h
 unfold mkN
 rw[if_pos ⟨rfl,h1,h2⟩,List.length_replicate]
theorem fMkC (h:mk z i=some xs) (hz:ns=e z):mkC xs.length ns=xs.flatMap e:=by
 obtain ⟨rfl,h1,h2⟩:=mk_some h
 subst hz
 unfold mkC
 rw[List.length_replicate,List.flatMap_replicate]
theorem fSubN (h:subL xs a b=some ys) (hn:n=xs.length):subN a b n=some (a.toNat,ys.length):=by
 subst hn
 obtain ⟨h1,h2,h3,h4,h5⟩:=subL_some h
 unfold subN
 rw[if_pos ⟨h2,h3,h4⟩,h5]
theorem fSubC (ok:EncOk e k) (h:subL xs a b=some ys) (hn:n=xs.length):subC a b n k (xs.flatMap e)=some (ys.length,ys.flatMap e):=by
 subst hn
 obtain ⟨h1,h2,h3,h4,h5⟩:=subL_some h
 unfold subC
 rw[if_pos ⟨h2,h3,h4⟩,h5,flat_drop ok.len,flat_take ok.len,<-h1]
theorem fWinW (ok:EncOk e k) (h:subL xs a b=some ys) (hl:lo=a.toNat):winC lo ys.length k (xs.flatMap e)=ys.flatMap e:=by
 subst hl
 obtain ⟨h1,h2,h3,h4,h5⟩:=subL_some h
 unfold winC
 rw[flat_drop ok.len,flat_take ok.len,h5,<-h1]
theorem fOkW (h:subL xs a b=some ys) (hl:lo=a.toNat) (hn:n=xs.length):okP (lo+ys.length<=n)=some ():=by
 subst hn hl
 obtain ⟨h1,h2,h3,h4,h5⟩:=subL_some h
 unfold okP
 rw[if_pos (by omega)]
theorem fLeW (h:subL xs a b=some ys) (hl:lo=a.toNat) (hn:n=xs.length):lo+ys.length<=n:=by
 subst hn hl
 obtain ⟨h1,h2,h3,h4,h5⟩:=subL_some h
 omega
theorem fAppW (h:subL xs a b=some ys) (hl:lo=a.toNat) (hn:n=xs.length) {us ws:List α} (hx:app ys us=some ws) (hm:m=us.length):appN lo ys.length n m=some ws.length:=by
 subst hn hm hl
 obtain ⟨h1,h2,h3,h4,h5⟩:=subL_some h
 obtain ⟨rfl,g2⟩:=appSome hx
 unfold appN
 rw[List.length_append]at g2 ⊢
 rw[if_pos ⟨by omega,g2⟩]
theorem sub_get (h:subL xs a b=some ys) (h2:getI ys i=some x):getI xs (a.toNat+i.toNat:Nat)=some x:=by
 obtain ⟨rfl,e2,e3,e4,h5⟩:=subL_some h
 obtain ⟨g1,g2,g3⟩:=getI_some h2
 unfold getI
 rw[if_pos (by omega),Int.toNat_natCast]
 rw[List.getElem?_take]at g3
 split at g3
 ·rw[List.getElem?_drop]at g3;exact g3
 ·cases g3
theorem fPtrW (h:subL xs a b=some ys) (hl:lo=a.toNat) (h2:getI ys i=some x):rowPtr lo i ys.length k=some (((a.toNat+i.toNat:Nat):Int).toNat*k):=by
 subst hl
 obtain ⟨g1,g2,g3⟩:=getI_some h2
 unfold rowPtr
 rw[if_pos ⟨g1,g2⟩,Int.toNat_natCast]
theorem fLend {h:Nat->HS} {π:List Nat} {f:Nat} (ok:EncOk e k) (xs:List α):lendAll (lendC h π f) (xs.flatMap e)=some ([],xs.flatMap e):=lendAll_flat (flatAll_flat (λ x=>riAll_of_flat (ok.ri x)) xs)
theorem fRi (ok:EncOk e k) (xs:List α):riAll (xs.flatMap e)=true:=riAll_flat ok.ri xs
theorem backC_flat {σ:Nat->Nat}:∀ {cs:List CV},riAll cs=true->cs.map (backC σ true)=cs
 | [],_=>rfl
 | c::r,h=>by
  simp only[riAll,Bool.and_eq_true]at h
  rw[List.map_cons,backC_flat h.2]
  cases c<;>first|rfl|(simp[CV.ri]at h)
theorem fBack {σ:Nat->Nat} (ok:EncOk e k) (xs:List α):(xs.flatMap e).map (backC σ true)=xs.flatMap e:=backC_flat (fRi ok xs)
end
theorem bytesCs_flat:∀ xs:List Int,bytesCs (xs.flatMap (eI .u8))=some (strOf xs)
 | []=>rfl
 | n::r=>by
  show (bytesCs (r.flatMap (eI .u8))).map _=_
  rw[bytesCs_flat r];rfl
theorem okP_true {i:Decidable True} : @okP True i=some ():=by unfold okP;exact if_pos trivial
theorem okP_refl {n:Nat}:okP (n<=n)=some ():=by unfold okP;rw[if_pos (Nat.le_refl _)]
theorem fS2b {s:List UInt8} {b:List Int} (h:s2b s=some b):s2bN s=some b.length/\bsOf s=b:=by
 unfold s2b at h
 split at h
 ·rename_i h1
  cases h
  refine ⟨?_,rfl⟩
  unfold s2bN
  rw[if_pos h1];simp[bsOf]
 ·cases h
theorem winE {α:Type} {e:α->List CV} {k:Nat} (ok:EncOk e k):winC 0 0 k []=List.flatMap e []:=by simp[winC]
theorem bsOf_len (s:List UInt8):s.length=(bsOf s).length:=by simp[bsOf]
theorem bS {α β:Type} {o:Option α} {f:α->Option β} {r:β} (h:o.bind f=some r):∃ y,o=some y/\f y=some r:=Option.bind_eq_some_iff.1 h
theorem stIf {α:Type} {c:Bool} {A B:Option α} {r:α} {X Y:Unit->Prop} (h:cond c A B=some r) (hx:c=true->A=some r->X ()) (hy:c=false->B=some r->Y ()) : @kIf c ⟨X⟩ ⟨Y⟩ :=
 kIf_mk (λ e=>hx e (by subst e;exact h)) (λ e=>hy e (by subst e;exact h))
theorem callE {P:Unit->Program} {f:FuncId} {caps:List CV} {args:List SV} {s:S} {K:Action->Prop} (π:List Nat) (fuel:Nat) {ps1 ps:List PV} {rd1 rd2:List Nat} {bs H:List HS} {R:SV}
  (hps:argsP args=some ps1) (hl:lendPs (lendP s.st.heap π fuel) (ps1++caps.map .one)=some (rd1,ps)) (hb:lendH s.st.heap π fuel π=some (rd2,bs)) (hnd:nodB π=true)
  (hc:Ans (P ()) f ps bs λ r h=>r=R/\h=H) (hk:keepOk bs H=true) (hK:K (callA π s.heap.length (rd1++rd2) bs.length R H)) : @callT _ P f caps args s ⟨K⟩ :=
 callT_of π fuel hps hl hb hnd hc λ r h1 ⟨e1,e2⟩=>by subst e1 e2;exact ⟨hk,hK⟩
end Go.Fm
namespace Go.Fm
variable [Globs]
theorem lendC_arrW {h:Nat->HS} {π:List Nat} {f id lo n:Nat}:lendC h π (f+1) (.arr id lo n)=(match ixOf π id with
  | some j=>some ([], .arr j lo n)
  | none=>match h id with
   | .live b=>(match lendAll (lendC h π f) (winC lo n b.sz b.cs) with
    | some (rd,cs)=>if riAll cs then some (id::rd, .imm b.sz n cs) else none
    | none=>none)
   | _=>some ([id], .dead)):=lendC_arr
theorem lendC_fn0 {h:Nat->HS} {π:List Nat} {f:Nat} {q:FuncId}:lendC h π f (.fn q [])=some ([], .fn q []):=by cases f<;>rfl
theorem kk1 {b b':Blk} {r s:List HS}:keepOk (.live b::r) (.live b'::s)=(b.sz==b'.sz&&b.n==b'.n&&keepOk r s):=rfl
theorem kk2 {b:Blk} {r s:List HS}:keepOk (.live b::r) (.dead::s)=keepOk r s:=rfl
theorem kk3 {r s:List HS}:keepOk (.dead::r) (.dead::s)=keepOk r s:=rfl
theorem kk4 {s:List HS}:keepOk [] s=true:=by cases s<;>rfl
theorem bc_arr {σ:Nat->Nat} {b:Bool} {i l n:Nat}:backC σ b (.arr i l n)=.arr (σ i) l n:=rfl
theorem bc_ptr {σ:Nat->Nat} {b:Bool} {i l:Nat}:backC σ b (.ptr i l)=.ptr (σ i) l:=rfl
theorem bc_int {σ:Nat->Nat} {b:Bool} {k:IntKind} {n:Int}:backC σ b (.int k n)=.int k n:=rfl
theorem bc_bool {σ:Nat->Nat} {b x:Bool}:backC σ b (.bool x)=.bool x:=rfl
theorem bc_str {σ:Nat->Nat} {b:Bool} {l:List UInt8}:backC σ b (.str l)=.str l:=rfl
theorem bc_emp {σ:Nat->Nat} {b:Bool}:backC σ b .emp=.emp:=rfl
theorem bc_opq {σ:Nat->Nat} {b:Bool}:backC σ b .opq=.opq:=rfl
theorem bc_nilp {σ:Nat->Nat} {b:Bool}:backC σ b .nilp=.nilp:=rfl
theorem bc_nili {σ:Nat->Nat} {b:Bool}:backC σ b .nili=.nili:=rfl
theorem bc_dead {σ:Nat->Nat} {b:Bool}:backC σ b .dead=.dead:=rfl
theorem bc_imm {σ:Nat->Nat} {s n:Nat} {cs:List CV}:backC σ true (.imm s n cs)=.imm s n cs:=rfl
theorem bc_ip {σ:Nat->Nat} {cs:List CV}:backC σ true (.ip cs)=.ip cs:=rfl
theorem fBackB {α:Type} {e:α->List CV} {σ:Nat->Nat} {b:Bool} (h:∀ x,(e x).map (backC σ b)=e x):∀ xs:List α,(xs.flatMap e).map (backC σ b)=xs.flatMap e
 | []=>rfl
 | x::r=>by rw[List.flatMap_cons,List.map_append,h,fBackB h r]
theorem backH_live' {σ:Nat->Nat} {b:Bool} {sz n:Nat} {cs:List CV}:backH σ b (.live ⟨sz,n,cs⟩)=.live ⟨sz,n,cs.map (backC σ b)⟩:=rfl
theorem backH_dead {σ:Nat->Nat} {b:Bool}:backH σ b .dead=.dead:=rfl
theorem eI_eq {k:IntKind} {n:Int}:eI k n=[.int k n]:=rfl
theorem eS_eq {x:List UInt8}:eS x=[.str x]:=rfl
theorem eB_eq {x:Bool}:eB x=[.bool x]:=rfl
theorem eL_eq {α:Type} {e:α->List CV} {k:Nat} {xs:List α}:eL e k xs=[.imm k xs.length (xs.flatMap e)]:=rfl
theorem sig_eq {π:List Nat} {k0 nid j:Nat}:sig π k0 nid j=if j < k0 then π.getD j 0 else nid+(j-k0):=rfl
theorem getC_s {n:Nat} {c:CV} {r:List CV}:getC (n+1) (c::r)=(takeN n r).map (c::·):=rfl
theorem takeN_z {l:List CV}:takeN 0 l=some []:=by cases l<;>rfl
theorem takeN_s {n:Nat} {c:CV} {r:List CV}:takeN (n+1) (c::r)=(takeN n r).map (c::·):=rfl
theorem putN_a {cs:List CV}:putN 0 [] cs=some cs:=by cases cs<;>rfl
theorem putN_b {n:CV} {ns:List CV} {c:CV} {cs:List CV}:putN 0 (n::ns) (c::cs)=(putN 0 ns cs).map (n::·):=rfl
theorem putN_c {off:Nat} {ns:List CV} {c:CV} {cs:List CV}:putN (off+1) ns (c::cs)=(putN off ns cs).map (c::·):=by cases ns<;>rfl
theorem pvOf_t {cs:List CV}:pvOf true cs=.agg cs:=rfl
theorem pvOf_f {c:CV} {cs:List CV}:pvOf false (c::cs)=.one c:=rfl
theorem resF_1 {T:TypeId->TyI} {h:Nat->HS} {env:List (Nat×SV)} {l:List ResultVar}:resF T h env l=(match resL T h env l with|some [p]=>some (.pv p)|some ps=>some (.tup ps)|none=>none):=rfl
section
variable {h:Nat->HS} {c:CV}
theorem le_int {k:IntKind} {n:Int}:leC h (.int k n) c=(c=.int k n\/c=.dead):=rfl
theorem le_bool {b:Bool}:leC h (.bool b) c=(c=.bool b\/c=.dead):=rfl
theorem le_str {l:List UInt8}:leC h (.str l) c=(c=.str l\/c=.dead):=rfl
theorem le_imm {s n:Nat} {cs:List CV}:leC h (.imm s n cs) c=(c=.imm s n cs\/c=.dead):=rfl
theorem le_ip {cs:List CV}:leC h (.ip cs) c=(c=.ip cs\/c=.dead):=rfl
theorem le_arr {i l n:Nat}:leC h (.arr i l n) c=(c=.arr i l n\/c=.dead):=rfl
theorem le_ptr {i o:Nat}:leC h (.ptr i o) c=(c=.ptr i o\/c=.dead):=rfl
theorem le_opq:leC h .opq c=(c=.opq\/c=.dead):=rfl
theorem le_nilp:leC h .nilp c=(c=.nilp\/c=.dead):=rfl
theorem le_nili:leC h .nili c=(c=.nili\/c=.dead):=rfl
theorem le_dead:leC h .dead c=(c=.dead\/c=.dead):=rfl
theorem le_e1 {s n:Nat} {cs:List CV}:leC h .emp (.imm s n cs)=(n=0/\cs=[]):=rfl
theorem le_e2 {j lo n:Nat}:leC h .emp (.arr j lo n)=(n=0/\(match h j with | .no=>False | .dead=>True | .live b=>b.n<=lo)):=rfl
theorem le_e3:leC h .emp .emp=(CV.emp=.emp\/CV.emp=.dead):=rfl
end
def LEb:=an @leE.eq_1 <| an @leE.eq_2 <| an @leS.eq_1 <| an @leS.eq_2 <| an @leP.eq_1 <| an @leP.eq_2 <| an @lePs.eq_1 <| an @lePs.eq_2 <| an @leL.eq_1 <| an @leL.eq_2 <| an @leH.eq_1 <| an @leH.eq_2 <| an @leH.eq_3 <| an @leH.eq_4 <| an @leH.eq_5 <|
 an @le_int <| an @le_bool <| an @le_str <| an @le_imm <| an @le_ip <| an @le_arr <| an @le_ptr <| an @le_opq <| an @le_nilp <| an @le_nili <| an @le_dead <| an @le_e1 <| an @le_e2 <| an @le_e3 <|
 an @lk_nil <| an @lk_cons <| an @ho_nil <| an @ho_zero <| an @ho_succ <| an @eq_self.{1} <| an @true_and <| an @and_true <| an @true_or <| an @or_true <| an @if_true.{1} <| an @if_false.{1} <| an @List.length_nil.{0} <| an @List.flatMap_nil.{0,0} <| @Nat.le_refl
def ML:=an @List.length_set.{0} <| an @lendPs.eq_1 <| an @lendPs.eq_2 <| an @lendP.eq_1 <| an @lendP.eq_2 <| an @lendAll.eq_1 <| an @lendAll.eq_2 <| an @lendC_int <| an @lendC_bool <| an @lendC_str <| an @lendC_imm <| an @lendC_ip <| an @lendC_emp <|
 an @lendC_dead <| an @lendC_opq <| an @lendC_nilp <| an @lendC_nili <| an @lendC_arrW <| an @lendC_ptr <| an @lendC_fn0 <| an @ixOf.eq_1 <| an @ixOf.eq_2 <| an @lendH.eq_1 <| an @lendH.eq_2 <| an @heap_st <| an @ho_nil <| an @ho_zero <| an @ho_succ <|
 an @List.map_nil.{0,0} <| an @List.map_cons.{0,0} <| an @List.append_nil.{0} <| an @List.nil_append.{0} <| an @List.cons_append.{0} <| an @Option.map_some.{0,0} <| an @Option.map_none.{0,0} <| an @riAll.eq_1 <| an @riAll.eq_2 <| an @CV.ri.eq_def <| an @Bool.and_self <| an @Bool.and_true <| an @Bool.true_and <| an @if_true.{1} <|
 an @if_false.{1} <| an @Nat.zero_add <| an @List.drop_zero.{0} <| an @List.drop_succ_cons.{0} <| an @eq_self.{1} <| an @normS.eq_1 <| an @lendE.eq_1 <| an @lendE.eq_2 <| an @lendS.eq_1 <| an @lendS.eq_2 <| an @lk_nil <| an @lk_cons <| an @nodB.eq_1 <| an @nodB.eq_2 <|
 an @preK.eq_1 <| an @preK.eq_2 <| an @Option.isNone_none.{0} <| an @Option.isNone_some.{0} <| an @beq_self_eq_true.{0} <| an @kk1 <| an @kk2 <| an @kk3 <| an @kk4 <| an @List.length_cons.{0} <| @List.length_nil.{0}
theorem int_n0:((0:Nat):Int)=0:=rfl
def MB:=an @int_n0 <| an @true_and <| an @backS.eq_1 <| an @backS.eq_2 <| an @backP.eq_1 <| an @backP.eq_2 <| an @backHp.eq_1 <| an @backHp.eq_2 <| an @backH_live' <| an @backH_dead <| an @bc_arr <| an @bc_ptr <| an @bc_int <| an @bc_bool <| an @bc_str <| an @bc_emp <| an @bc_opq <| an @bc_nilp <|
 an @bc_nili <| an @bc_dead <| an @bc_imm <| an @bc_ip <| an @sig_eq <| an @List.getD_cons_zero.{0} <| an @List.getD_cons_succ.{0} <| an @List.getD_nil.{0} <| an @eI_eq <| an @eS_eq <| an @eB_eq <| an @eL_eq <| an @callA.eq_1 <| an @allIn.eq_1 <| an @allIn.eq_2 <| an @ixOf.eq_1 <| an @ixOf.eq_2 <|
 an @resF_1 <| an @resL.eq_1 <| an @resL.eq_2 <| an @resL.eq_3 <| an @getC_s <| an @takeN_z <| an @takeN_s <| an @putN_a <| an @putN_b <| an @putN_c <| an @pvOf_t <| an @pvOf_f <| an @skipA.eq_1 <| an @okP_refl <| an @okP_true <| an @bytesCs_flat <|
 an @mvI.eq_1 <| an @mvI.eq_2 <| an @mvS.eq_1 <| an @mvL.eq_1 <| an @mvL.eq_2 <| an @backE.eq_1 <| an @backE.eq_2 <| an @zipE.eq_1 <| an @zipE.eq_2 <| an @dstAt.eq_2 <| an @dstAt.eq_3 <| an @eqCs.eq_1 <| an @eqCs.eq_2 <| an @eqCs.eq_3 <| an @eqCs.eq_4 <|
 an @fillFT.eq_1 <| an @fillFT.eq_2 <| an @partsOf.eq_1 <| an @partsOf.eq_2 <| an @capsOf.eq_1 <| an @capsOf.eq_2 <| an @over.eq_1 <| an @notStr.eq_1 <| an @notStr.eq_2 <| an @isU8T.eq_1 <| @forall_const.{0}
end Go.Fm
namespace Go.Fm
variable [Globs]
open Classical
def heapZ (h:Nat->HS) (fz:List Nat):Nat->HS:=heapOf h (fz.map λ j=>(j,HS.dead))
theorem heapZ_not {h:Nat->HS} {fz:List Nat} {id:Nat} (hn:id ∉ fz):heapZ h fz id=h id :=
 heapOf_not _ _ _ λ p hp he=>by
  obtain ⟨j,hj,rfl⟩:=List.mem_map.1 hp
  exact hn (he▸hj)
theorem heapZ_in {id:Nat}:∀ {fz:List Nat} {h:Nat->HS},id ∈ fz->heapZ h fz id=.dead
 | j::r,h,hm=>by
  show heapZ (upd h j .dead) r id=.dead
  by_cases hr:id ∈ r
  ·exact heapZ_in hr
  ·rw[heapZ_not hr]
   rcases List.mem_cons.1 hm with rfl|hm
   ·simp[upd]
   ·exact absurd hm hr
theorem close {C:Ctx} {ρ:Rho} {φ:St} {a:Act} {w:World} (R:RelAt C ρ φ a w) (fz:List Nat) :
  ∃ C':Ctx,Reb C C'/\(C'.Sh=λ k=>C.Sh k\/∃ id b L,φ.heap id=.live b/\id ∈ fz/\ρ id=some L/\L.b=k)/\RelAt C' ρ { φ with heap:=heapZ φ.heap fz } a w:=by
 let Sh2:Nat->Prop:=λ k=>C.Sh k\/∃ id b L,φ.heap id=.live b/\id ∈ fz/\ρ id=some L/\L.b=k
 have hl:∀ id b,heapZ φ.heap fz id=.live b->φ.heap id=.live b/\id ∉ fz:=λ id b h=>by
  by_cases hm:id ∈ fz
  ·rw[heapZ_in hm]at h;cases h
  ·rw[heapZ_not hm]at h;exact ⟨h,hm⟩
 have hHLe:∀ id,HLe (φ.heap id) (ρ id) (heapZ φ.heap fz id) (ρ id):=λ id=>by
  by_cases hm:id ∈ fz
  ·rw[heapZ_in hm]
   cases φ.heap id<;>trivial
  ·rw[heapZ_not hm];exact HLe.refl _ _
 let O3:Nat->Prop:=λ k=>∃ id b L,heapZ φ.heap fz id=.live b/\ρ id=some L/\L.b=k
 have hown:∀ id b L,heapZ φ.heap fz id=.live b->ρ id=some L->L.b < w.heap.size/\¬ Sh2 L.b/\(C.w0.heap.size<=L.b\/C.O L.b):=λ id b L hb hL=>by
  obtain ⟨e1,e2⟩:=hl id b hb
  obtain ⟨g1,g2,g3⟩:=R.hp.own id b L e1 hL
  refine ⟨g1,λ h => ?_,g3⟩
  rcases h with h|⟨id',b',L',f1,f2,f3,f4⟩
  ·exact g2 h
  ·exact e2 (R.hp.inj id' id b' b L' L f1 e1 f3 hL f4▸f2)
 have hsh2:∀ k,Sh2 k->k < w.heap.size/\(C.Sh k\/C.w0.heap.size<=k\/C.O k):=λ k hk=>by
  rcases hk with hk|⟨id,b,L,e1,e2,e3,rfl⟩
  ·exact ⟨R.sh_lt hk, .inl hk⟩
  ·obtain ⟨g1,g2,g3⟩:=R.hp.own id b L e1 e3
   exact ⟨g1, .inr g3⟩
 let C3:Ctx:={ P:=C.P,w0:=w,Sh:=Sh2,O:=O3,rho0:=C.rho0,k0:=C.k0,nt:=C.nt,old:=λ k hk=>⟨(hsh2 k hk).1,λ ⟨j,b,L,e1,e2,e3⟩=>(hown j b L e1 e2).2.1 (e3▸hk)⟩,gl:=λ g cs hg=>(C.gl g cs hg).mono λ k hk=>⟨.inl hk,R.fr.keep k (C.old k hk).1 (C.old k hk).2⟩ }
 refine ⟨C3,⟨rfl,rfl,rfl,rfl,R.fr,λ k ⟨j,b,L,e1,e2,e3⟩=>e3▸(hown j b L e1 e2).2.2,λ k hk=>.inl hk,λ k hk=>(hsh2 k hk).2⟩,rfl,?_⟩
 refine ⟨R.defers,R.nt,λ t=>((R.env t).mono (λ _ _=>rfl) hHLe).incl λ k hk=>.inl hk,⟨λ id b hb => ?_,λ id b L e1 e2=>⟨(hown id b L e1 e2).1,(hown id b L e1 e2).2.1, .inr ⟨id,b,L,e1,e2,rfl⟩⟩,λ id id' b b' L L' hb hb' hL hL' he => ?_⟩,λ id hid => ?_, .refl _ _⟩
 ·have hB:=R.hp.blk id b (hl id b hb).1
  show RB w Sh2 ρ (heapZ φ.heap fz) id b
  unfold RB at hB ⊢
  cases hL:ρ id with
  | none=>rw[hL]at hB;exact hB
  | some L =>
   rw[hL]at hB
   refine ⟨hB.1,hB.2.1,hB.2.2.1,λ j c hc => ?_⟩
   obtain ⟨u,hu,hr⟩:=hB.2.2.2 j c hc
   exact ⟨u,hu,(hr.mono (λ _ _=>rfl) hHLe).incl λ k hk=>.inl hk⟩
 ·exact R.hp.inj id id' b b' L L' (hl id b hb).1 (hl id' b' hb').1 hL hL' he
 ·obtain ⟨g1,g2⟩:=R.init id hid
  refine ⟨?_,g2⟩
  show heapZ φ.heap fz id≠.no
  by_cases hm:id ∈ fz
  ·rw[heapZ_in hm];simp
  ·rw[heapZ_not hm];exact g1
def callZ (fz π:List Nat) (nid:Nat) (rd:List Nat) (k0:Nat) (r:SV) (h1:List HS):Action :=
 ⟨rd,backS (sig π k0 nid) true r,fz.map (λ j=>(j,HS.dead))++backHp (sig π k0 nid) true 0 h1⟩
theorem call_actz {P:Program} {o:Oper} {φ:St} {nid:Nat} {c:Call} {x:Operand} {f:FuncId} {caps:List CV} {ps1 ps:List PV} {π:List Nat} {fuel:Nat} {rd1 rd2:List Nat} {bs h1:List HS} {r:SV} {fz:List Nat}
  (hz1:allIn (π++fz) (rd1++rd2)=true) (hz2:fz.all (λ x=>(ixOf π x).isNone&&Nat.blt x nid)=true) (ho:o.op=.call c) (hc:c.callee=.value x) (hx:φ.ev x=one (.fn f caps)) (hps:argsP (c.args.toList.map φ.ev)=some ps1)
  (hl:lendPs (lendP φ.heap π fuel) (ps1++caps.map .one)=some (rd1,ps)) (hb:lendH φ.heap π fuel π=some (rd2,bs)) (hnd:nodB π=true) (hk:keepOk bs h1=true)
  (hm:Meets P f ps bs r h1):ActX P o φ nid (callZ fz π nid (rd1++rd2) bs.length r h1):=by
 intro C hP φ' a w hag hR hd K Q hK
 obtain ⟨C1,hreb,ρ,R⟩:=hR
 have hevx:φ'.ev x=φ.ev x:=hag.env x (by simp[ho,Op.operands,Call.operands,hc])
 have hevs:c.args.toList.map φ'.ev=c.args.toList.map φ.ev:=List.map_congr_left λ y hy=>hag.env y (by simp only[ho,Op.operands,Call.operands];exact Array.mem_append_right _ (by simpa using hy))
 have hag1:∀ y ∈ rd1++rd2,φ'.heap y=φ.heap y:=hag.hp
 have hl':=lendPs_congr hl (g':=lendP φ'.heap π fuel) (λ c c' r e1 e2=>lendP_congr e1 (λ y hy=>hag1 y (List.mem_append_left _ (e2 y hy))))
 have hb':=lendH_congr hb (h':=φ'.heap) (λ y hy=>hag1 y (List.mem_append_right _ hy))
 obtain ⟨hbl,hbm,hbg⟩:=lendH_some hb'
 have hlen1:bs.length=π.length:=hbl
 have hfzπ:∀ id,id ∈ π->id ∉ fz:=λ id h1 h2=>by
  have:=List.all_eq_true.1 hz2 id h2
  simp only[Bool.and_eq_true,Option.isNone_iff_eq_none]at this
  have h:=ixOf_mem h1
  rw[this.1]at h
  cases h
 have hfzn:∀ id,id ∈ fz->id < nid:=λ id h2=>by
  have:=List.all_eq_true.1 hz2 id h2
  simp only[Bool.and_eq_true]at this
  exact Nat.le_of_ble_eq_true this.2
 -- the callee's value and the arguments
 have hfx:=R.ev x
 rw[hevx,hx]at hfx
 obtain ⟨vsc,hvx,hvl,hvp⟩:=hfx
 have hpm:=argsP_some hps
 have hargs:∀ (i:Nat) (p:PV),(ps1++caps.map .one)[i]? = some p->∃ u:Value,(c.args.toList.map a.eval++vsc)[i]? = some u/\RPV w C1.Sh ρ φ'.heap u p:=by
  have hl1:ps1.length=c.args.toList.length:=by
   have:=congrArg List.length hpm
   simpa using this.symm
  intro i p hp
  by_cases hi:i < ps1.length
  ·rw[List.getElem?_append_left hi]at hp
   rw[List.getElem?_append_left (by simpa [<-hl1] using hi)]
   have hi2:i < c.args.toList.length:=by omega
   refine ⟨a.eval c.args.toList[i],by rw[List.getElem?_map,List.getElem?_eq_getElem hi2];rfl,?_⟩
   have h1:=R.ev c.args.toList[i]
   have h2:φ'.ev c.args.toList[i]=.pv p:=by
    have:(c.args.toList.map φ'.ev)[i]? = some (.pv p):=by rw[hevs,hpm,List.getElem?_map,hp];rfl
    rw[List.getElem?_map,List.getElem?_eq_getElem hi2]at this
    exact Option.some.inj this
   rw[h2]at h1
   exact h1
  ·have hi:=Nat.le_of_not_lt hi
   rw[List.getElem?_append_right hi]at hp
   rw[List.getElem?_append_right (by simpa [<-hl1] using hi)]
   rw[List.getElem?_map]at hp
   cases hci:caps[i-ps1.length]? with
   | none=>rw[hci]at hp;cases hp
   | some c0 =>
    rw[hci]at hp
    cases hp
    obtain ⟨u,hu,id,off,rfl,hr⟩:=hvp _ _ hci
    refine ⟨u,by simpa [<-hl1] using hu,?_⟩
    exact hr
 -- the callee's beginning
 let F:Nat->Prop:=λ id=>id ∈ rd1++rd2\/id ∈ fz
 let Sh2:Nat->Prop:=λ k=>C1.Sh k\/∃ id b L,φ'.heap id=.live b/\id ∉ π/\F id/\ρ id=some L/\L.b=k
 let ρ2:Rho:=λ j=>(π[j]?).bind ρ
 let O2:Nat->Prop:=λ k=>∃ id b L,id ∈ π/\φ'.heap id=.live b/\ρ id=some L/\L.b=k
 have hbs:∀ j id,π[j]? = some id->∀ l,HLe (φ'.heap id) l (hOf bs j) l:=λ j id hj l=>by
  rcases hbg j id hj with ⟨e1,e2⟩|⟨b,cs,r,e1,e2,e3,e4⟩
  ·rw[e1,hOf_get e2];trivial
  ·rw[e1,hOf_get e2];exact ⟨rfl,rfl,rfl⟩
 have hρ2:∀ j id,π[j]? = some id->ρ2 j=ρ id:=λ j id hj=>by simp only[ρ2,hj,Option.bind_some]
 have H:Lent w C1.Sh ρ φ'.heap π F Sh2 ρ2 (hOf bs) :=
  ⟨R.hp.blk,λ k hk=>.inl hk,λ id b L e1 e2 e3 e4=>.inr ⟨id,b,L,e1,e2,e3,e4,rfl⟩,λ j id hj=>⟨hρ2 j id hj,λ _=>hbs j id hj _⟩⟩
 have hold:∀ k,Sh2 k->k < w.heap.size/\¬ O2 k:=λ k hk=>by
  rcases hk with hk|⟨id,b,L,e1,e2,e3,e4,rfl⟩
  ·exact ⟨R.sh_lt hk,λ ⟨id,b,L,e0,e1,e2,e3⟩=>(R.hp.own id b L e1 e2).2.1 (e3▸hk)⟩
  ·refine ⟨(R.hp.own id b L e1 e4).1,λ ⟨id',b',L',g0,g1,g2,g3⟩ => ?_⟩
   have:=R.hp.inj id' id b' b L' L g1 e1 g2 e4 g3
   exact e2 (this▸g0)
 let C2:Ctx:={ P:=C1.P,w0:=w,Sh:=Sh2,O:=O2,rho0:=ρ2,k0:=bs.length,nt:=0,old:=hold,gl:=λ g cs hg=>(C1.gl g cs hg).mono λ k hk=>⟨.inl hk,R.fr.keep k (C1.old k hk).1 (C1.old k hk).2⟩ }
 have hlive:∀ j b',hOf bs j=.live b'->∃ id b r,π[j]? = some id/\φ'.heap id=.live b/\b'.sz=b.sz/\b'.n=b.n/\lendAll (lendC φ'.heap π fuel) b.cs=some (r,b'.cs)/\∀ y ∈ r,y ∈ rd2:=λ j b' hj=>by
  have hjl:=hOf_ne (l:=bs) (j:=j) (by rw[hj];simp)
  have hjl':j < π.length:=by omega
  rcases hbg j _ (List.getElem?_eq_getElem hjl') with ⟨e1,e2⟩|⟨b,cs,r,e1,e2,e3,e4⟩
  ·rw[hOf_get e2]at hj;cases hj
  ·rw[hOf_get e2]at hj;cases hj;exact ⟨_,b,r,List.getElem?_eq_getElem hjl',e1,rfl,rfl,e3,e4⟩
 have hnd':=nodB_spec hnd
 have hHR:HeapRel w Sh2 O2 ρ2 (hOf bs) w:=by
  refine ⟨λ j b' hj => ?_,λ j b' L hj hL => ?_,λ j j' b b' L L' hj hj' hL hL' he => ?_⟩
  ·obtain ⟨id,b,r,e0,e1,e2,e3,e4,e5⟩:=hlive j b' hj
   have hB:=R.hp.blk id b e1
   unfold RB at hB ⊢
   rw[hρ2 j id e0]
   obtain ⟨g1,g2⟩:=lendAll_some e4
   cases hL:ρ id with
   | none =>
    rw[hL]at hB
    simp only at hB ⊢
    rw[hB.1]at g1
    exact ⟨List.eq_nil_of_length_eq_zero g1,by rw[e3];exact hB.2⟩
   | some L =>
    rw[hL]at hB
    simp only at hB ⊢
    refine ⟨by rw[g1,e2,e3];exact hB.1,by rw[g1];exact hB.2.1,by rw[e2];exact hB.2.2.1,λ i c' hc' => ?_⟩
    obtain ⟨c0,r0,f1,f2,f3⟩:=g2 i c' hc'
    obtain ⟨u,hu,hr⟩:=hB.2.2.2 i c0 f1
    exact ⟨u,hu,lendC_ok H fuel c0 c' r0 u f2 (λ y hy=>.inl (List.mem_append_right _ (e5 y (f3 y hy)))) hr⟩
  ·obtain ⟨id,b,r,e0,e1,_⟩:=hlive j b' hj
   rw[hρ2 j id e0]at hL
   obtain ⟨g1,g2,g3⟩:=R.hp.own id b L e1 hL
   have hO:O2 L.b:=⟨id,b,L,List.mem_of_getElem? e0,e1,hL,rfl⟩
   exact ⟨g1,λ h=>(hold _ h).2 hO, .inr hO⟩
  ·obtain ⟨id,b0,r,e0,e1,_⟩:=hlive j b hj
   obtain ⟨id',b0',r',e0',e1',_⟩:=hlive j' b' hj'
   rw[hρ2 j id e0]at hL
   rw[hρ2 j' id' e0']at hL'
   have:=R.hp.inj id id' b0 b0' L L' e1 e1' hL hL' he
   subst this
   exact hnd' j j' id e0 e0'
 have hbno:∀ id,id < bs.length->hOf bs id≠.no:=λ j hj=>by
  rcases hbg j _ (List.getElem?_eq_getElem (by omega)) with ⟨e1,e2⟩|⟨b,cs,r,e1,e2,e3,e4⟩
  ·rw[hOf_get e2];simp
  ·rw[hOf_get e2];simp
 obtain ⟨hpl,hpg⟩:=lendPs_some hl'
 have hvlen:(c.args.toList.map a.eval++vsc).length=ps.length:=by
  rw[hpl]
  have:=congrArg List.length hpm
  simp only[List.length_map]at this
  simp only[List.length_append,List.length_map,this,hvl]
 have hserve:=hm C2 (c.args.toList.map a.eval++vsc) (hreb.P.trans hP) rfl hvlen (λ i p hp=>by
  obtain ⟨p0,r0,e1,e2,e3⟩:=hpg i p hp
  obtain ⟨u,hu,hr⟩:=hargs i p0 e1
  exact ⟨u,hu,lendP_ok H e2 (λ y hy=>.inl (List.mem_append_left _ (e3 y hy))) hr⟩) hHR hbno
 -- the run
 have hrun:(execOp a.eval o).run P w=(callFunc f (c.args.toList.map a.eval++vsc).toArray).run P w:=by
  have:(c.args.toList.map a.eval++vsc).toArray=c.args.map a.eval++vsc.toArray:=by
   apply Array.ext'
   simp
  simp[execOp,ho,resolve,hc,hvx,Deferred.ofValue,invoke,this]
 have hfin:∀ (v:Value) (w':World),(∃ (ρ':Rho) (Sh':Nat->Prop),HeapRel w Sh' O2 ρ' (hOf h1) w'/\RSV w' Sh' ρ' (hOf h1) v r ∧
   (∀ id,id < bs.length->hOf h1 id≠.no/\ρ' id=ρ2 id)/\Fr w O2 w'/\(∀ k,Sh2 k->Sh' k) ∧
   (∀ k,Sh' k->k < w'.heap.size/\(Sh2 k\/w.heap.size<=k\/O2 k)))->K (a.put o.dst v) w':=by
  intro v w' ⟨ρ',Sh',g1,g2,g3,g4,g5,g6⟩
  have hkb:=keepOk_get hk
  obtain ⟨Cz,hrebz,hShz,Rz⟩:=close R fz
  obtain ⟨C3,ρ3,hreb3,R3,hv3⟩:=merge Rz (π:=π) (nid:=nid) (Sh2:=Sh2) (O2:=O2) (Sh':=Sh') (bs:=bs) (h1:=h1) (keep:=true) (ρ2:=ρ2) (ρ':=ρ') (w':=w') hnd' hlen1
   (λ id hid=>by
    obtain ⟨j,hj⟩:=List.getElem?_of_mem hid
    show heapZ φ'.heap fz id≠.no
    rw[heapZ_not (hfzπ id hid)]
    rcases hbg j id hj with ⟨e1,_⟩|⟨b,cs,r,e1,_⟩<;>rw[e1]<;>simp)
   (λ i hi=>by
    have hg:(backHp (sig π bs.length nid) (true) 0 h1)[bs.length+i]? = some (nid+i,backH (sig π bs.length nid) (true) h1[bs.length+i]):=by
     rw[backHp_get,List.getElem?_eq_getElem hi]
     simp only[Option.map_some,Nat.zero_add,sig]
     rw[if_neg (by omega),Nat.add_sub_cancel_left]
    show heapZ φ'.heap fz (nid+i)=.no
    rw[heapZ_not (λ h=>absurd (hfzn _ h) (by omega))]
    exact hag.fresh _ (List.mem_append_right _ (List.mem_of_getElem? hg)) (Nat.le_add_right _ _))
   (λ k hk=>by
    rw[hShz]at hk
    rcases hk with hk|⟨id,b,L,e1,e2,e3,e4⟩
    ·exact .inl hk
    ·exact .inr ⟨id,b,L,e1,λ h=>hfzπ id h e2, .inr e2,e3,e4⟩)
   (λ _ k hk=>by
    rw[hShz]
    rcases hk with hk|⟨id,b,L,e1,e2,e3,e4,e5⟩
    ·exact .inl hk
    ·refine .inr ⟨id,b,L,e1,?_,e4,e5⟩
     rcases e3 with e3|e3
     ·rcases List.mem_append.1 (allIn_mem hz1 id e3) with h|h
      ·exact absurd h e2
      ·exact h
     ·exact e3)
   (λ k ⟨id,b,L,e0,e1,e2,e3⟩=>⟨id,b,L,e0,(heapZ_not (hfzπ id e0)).trans e1,e2,e3⟩) hρ2
   (λ j id hj l=>by
    have hj':j < bs.length:=by have:=(List.getElem?_eq_some_iff.1 hj).1;omega
    have q1:=hbs j id hj l
    show HLe (heapZ φ'.heap fz id) l (hOf h1 j) l
    rw[heapZ_not (hfzπ id (List.mem_of_getElem? hj))]
    have q2:=hkb j hj' l
    cases hs:φ'.heap id with
    | no=>trivial
    | dead =>
     rw[hs]at q1
     cases hs2:hOf bs j with
     | dead=>rw[hs2]at q2;exact q2
     | _=>rw[hs2]at q1;exact q1.elim
    | live b =>
     rw[hs]at q1
     cases hs2:hOf bs j with
     | no=>rw[hs2]at q1;exact q1.elim
     | dead =>
      rw[hs2]at q2
      cases hs3:hOf h1 j with
      | dead=>trivial
      | _=>rw[hs3]at q2;exact q2.elim
     | live b' =>
      rw[hs2]at q1 q2
      cases hs3:hOf h1 j with
      | no=>rw[hs3]at q2;exact q2.elim
      | dead=>trivial
      | live b''=>rw[hs3]at q2;exact ⟨q2.1.trans q1.1,q2.2.1.trans q1.2.1,rfl⟩)
   g1 g3 g4 g5 g6
  refine hK _ _ ⟨C3,(hreb.trans hrebz).trans hreb3,ρ3,?_⟩
  have e:heapOf (heapZ φ'.heap fz) (backHp (sig π bs.length nid) true 0 h1)=heapOf φ'.heap (fz.map (λ j=>(j,HS.dead))++backHp (sig π bs.length nid) true 0 h1):=by
   unfold heapZ heapOf;rw[List.foldl_append]
  have R4:=R3.put (λ t ht=>by rw[((hreb.trans hrebz).trans hreb3).nt];exact hd t ht) (hv3 v r g2)
  simp only[e]at R4
  exact R4
 unfold Oper.wp
 rw[hrun]
 unfold Serves at hserve
 generalize (callFunc f (c.args.toList.map a.eval++vsc).toArray).run P w=res at hserve ⊢
 cases res with
 | halt h w'=>exact hserve.elim
 | ok n w' =>
  cases n<;>try exact hserve.elim
  ·exact hfin _ _ hserve
  ·rename_i g as
   refine Calls.mono hserve λ e w'' he => ?_
   cases e with
   | returned v=>exact hfin v w'' he
   | panicked ch=>exact he.elim
   | outgrown=>exact he.elim
theorem callZ_nil {π:List Nat} {nid k0:Nat} {rd:List Nat} {r:SV} {h1:List HS}:callZ [] π nid rd k0 r h1=⟨rd,backS (sig π k0 nid) true r,backHp (sig π k0 nid) true 0 h1⟩:=rfl
def consA (j:Nat):Action->Action
 | ⟨rd,v,hp⟩=>⟨rd,v,(j, .dead)::hp⟩
theorem consA_eq {j:Nat} {rd:List Nat} {v:SV} {hp:List (Nat×HS)}:consA j ⟨rd,v,hp⟩=⟨rd,v,(j, .dead)::hp⟩:=rfl
theorem callZ_cons {j:Nat} {fz π:List Nat} {nid k0:Nat} {rd:List Nat} {r:SV} {h1:List HS}:callZ (j::fz) π nid rd k0 r h1=consA j (callZ fz π nid rd k0 r h1):=rfl
def MC:=an @callZ_nil <| an @callZ_cons <| @consA_eq
theorem b_cap {T:TypeId->TyI} {φ:St} {nid:Nat} {K:Action->Prop} {t:TypeId}:builtinFT T .cap [t] [.pv (.one .emp)] φ nid K=(match (T t).kind with | .slice _=>K ⟨[],one (.int .i64 (0:Nat)),[]⟩|_=>False):=by
 cases h:(T t).kind with
 | slice e=>exact builtinFT.eq_2 T φ nid K t e h
 | _=>exact builtinFT.eq_3 T φ nid K t _ (λ e he _=>by rw[h]at he;cases he)
end Go.Fm
namespace Go.Fm
variable [Globs]
variable {P:Program} {o:Oper} {φ:St} {nid:Nat}
theorem nilGuard (op:BinOp) (t:TypeId) (x:Operand) (v:Value):eqGuard op t x (.const .nilIface) v .nilIface=pure ():=by
 cases op<;>cases v<;>first|rfl|(cases x<;>rfl)
theorem ok_nilE {op:BinOp} {t yt:TypeId} {x:Operand} {c:CV} {b:Bool} (ho:o.op=.binOp op t x (.const .nilIface) yt) (hx:φ.ev x=one c) (hk:kindF P t=.iface)
  (hc:c=.nili/\b=true\/(∃ tt n,c=.ifc tt n)/\b=false\/c=.opq/\b=false) {r:Bool} (hop:op=.eql/\r=b\/op=.neq/\r = !b):ActOk P o φ nid ⟨[],one (.bool r),[]⟩ :=
 .quiet λ C φ' ac w ρ hP hag R=>by
  have h1:=R.ev x
  rw[hag.env x (by simp[ho,Op.operands]),hx]at h1
  obtain ⟨ms,hms⟩:=kindF_iface hk
  have key:(Op.equal t (ac.eval x) .nilIface).run P w=.ok b w:=by
   unfold Op.equal Op.maxDepth
   rw[show (10000:Nat)=9999+1 from rfl]
   unfold Op.equalIn
   rcases hc with ⟨rfl,rfl⟩|⟨⟨tt,n,rfl⟩,rfl⟩|⟨rfl,rfl⟩
   ·have h2:RI w C.Sh (ac.eval x) .nili:=h1
    generalize ac.eval x=v at h2
    cases h2
    simp[run_underlying hms]
   ·have h2:RI w C.Sh (ac.eval x) (.ifc tt n):=h1
    generalize ac.eval x=v at h2
    cases h2
    simp[run_underlying hms]
   ·have h2:RI w C.Sh (ac.eval x) .opq:=h1
    generalize ac.eval x=v at h2
    cases h2
    simp[run_underlying hms]
  refine ⟨.bool r,?_, .of_RI (.bool _)⟩
  have hy:ac.eval (.const .nilIface)=.nilIface:=rfl
  have hev:ac.eval x=.nilIface\/∃ d u,ac.eval x=.iface d u:=by
   rcases hc with ⟨rfl,rfl⟩|⟨⟨tt,n,rfl⟩,rfl⟩|⟨rfl,rfl⟩
   ·have h2:RI w C.Sh (ac.eval x) .nili:=h1
    generalize ac.eval x=v at h2
    cases h2
    exact .inl rfl
   ·have h2:RI w C.Sh (ac.eval x) (.ifc tt n):=h1
    generalize ac.eval x=v at h2
    cases h2
    exact .inr ⟨_,_,rfl⟩
   ·have h2:RI w C.Sh (ac.eval x) .opq:=h1
    generalize ac.eval x=v at h2
    cases h2
    exact .inr ⟨_,_,rfl⟩
  rcases hev with e|⟨d,u,e⟩
  ·rw[e]at key
   rcases hop with ⟨rfl,rfl⟩|⟨rfl,rfl⟩
   ·simp only[execOp,ho,hy,e,Sem.run_bind,nilGuard,Sem.run_pure,Result.andThen_ok,binOp,key]
   ·simp only[execOp,ho,hy,e,Sem.run_bind,nilGuard,Sem.run_pure,Result.andThen_ok,binOp,key]
  ·rw[e]at key
   rcases hop with ⟨rfl,rfl⟩|⟨rfl,rfl⟩
   ·simp only[execOp,ho,hy,e,Sem.run_bind,nilGuard,Sem.run_pure,Result.andThen_ok,binOp,key]
   ·simp only[execOp,ho,hy,e,Sem.run_bind,nilGuard,Sem.run_pure,Result.andThen_ok,binOp,key]
theorem flat3 {t:TypeId} (h:flatF P t=some [3]):∃ i,P.info? t=some i/\i.comparable=true/\P.underlying t=some (.int .i64):=by
 unfold flatF at h
 split at h
 ·split at h
  ·rename_i fs hu hc
   generalize fs.toList=l at h
   cases l with
   | nil=>cases h
   | cons f r =>
    unfold flatL at h
    split at h
    ·split at h<;>first|(cases hq:flatL P 1 r<;>rw[hq]at h<;>cases h)|cases h
    ·cases h
  ·cases h
 ·rename_i hu
  split at h
  ·rename_i i hi
   split at h
   ·rename_i hc
    exact ⟨i,hi,hc,hu⟩
   ·cases h
  ·cases h
 ·cases h
theorem ok_ifc {op:BinOp} {t yt tt:TypeId} {x y:Operand} {c:CV} {m:Int} {b:Bool} (ho:o.op=.binOp op t x y yt) (hx:φ.ev x=one c) (hy:φ.ev y=one (.ifc tt m)) (hk:kindF P t=.iface) (hf:flatF P tt=some [3])
  (hc:c=.nili/\b=false\/∃ n,c=.ifc tt n/\b=(n==m)) {r:Bool} (hop:op=.eql/\r=b\/op=.neq/\r = !b):ActOk P o φ nid ⟨[],one (.bool r),[]⟩ :=
 .quiet λ C φ' ac w ρ hP hag R=>by
  have h1:=R.ev x
  have h2:=R.ev y
  rw[hag.env x (by simp[ho,Op.operands]),hx]at h1
  rw[hag.env y (by simp[ho,Op.operands]),hy]at h2
  obtain ⟨ms,hms⟩:=kindF_iface hk
  obtain ⟨i,hi,hcm,hu⟩:=flat3 hf
  have g2:RI w C.Sh (ac.eval y) (.ifc tt m):=h2
  have ey:ac.eval y=.iface tt (.int .i64 m):=by
   generalize ac.eval y=v at g2
   cases g2;rfl
  have key:(Op.equal t (ac.eval x) (.iface tt (.int .i64 m))).run P w=.ok b w/\(eqGuard op t x y (ac.eval x) (.iface tt (.int .i64 m))).run P w=.ok () w:=by
   rcases hc with ⟨rfl,rfl⟩|⟨n,rfl,rfl⟩
   ·have h3:RI w C.Sh (ac.eval x) .nili:=h1
    generalize ac.eval x=v at h3
    cases h3
    refine ⟨?_,?_⟩
    ·unfold Op.equal Op.maxDepth
     rw[show (10000:Nat)=9999+1 from rfl]
     unfold Op.equalIn
     simp[run_underlying hms]
    ·rw[eqGuard_nil_iface,Sem.run_pure]
   ·have h3:RI w C.Sh (ac.eval x) (.ifc tt n):=h1
    generalize ac.eval x=v at h3
    cases h3
    refine ⟨?_,?_⟩
    ·unfold Op.equal Op.maxDepth
     rw[show (10000:Nat)=9998+1+1 from rfl]
     unfold Op.equalIn
     simp only[Sem.run_bind,run_underlying hms,Result.andThen_ok,ne_eq,not_true_eq_false,if_false]
     unfold typeInfo
     simp only[Sem.run_bind,run_program,Result.andThen_ok,hi,Sem.run_pure,hcm,Bool.not_true,Bool.false_eq_true,if_false]
     unfold Op.equalIn
     simp[run_underlying hu]
    ·rw[eqGuard_at_iface,Sem.run_pure]
  refine ⟨.bool r,?_, .of_RI (.bool _)⟩
  have hev:ac.eval x=.nilIface\/∃ d u,ac.eval x=.iface d u:=by
   rcases hc with ⟨rfl,rfl⟩|⟨n,rfl,rfl⟩
   ·have h2:RI w C.Sh (ac.eval x) .nili:=h1
    generalize ac.eval x=v at h2
    cases h2
    exact .inl rfl
   ·have h2:RI w C.Sh (ac.eval x) (.ifc tt n):=h1
    generalize ac.eval x=v at h2
    cases h2
    exact .inr ⟨_,_,rfl⟩
  rcases hev with e|⟨d,u,e⟩
  ·rw[e]at key
   rcases hop with ⟨rfl,rfl⟩|⟨rfl,rfl⟩
   ·simp only[execOp,ho,ey,e,Sem.run_bind,key.2,Sem.run_pure,Result.andThen_ok,binOp,key.1]
   ·simp only[execOp,ho,ey,e,Sem.run_bind,key.2,Sem.run_pure,Result.andThen_ok,binOp,key.1]
  ·rw[e]at key
   rcases hop with ⟨rfl,rfl⟩|⟨rfl,rfl⟩
   ·simp only[execOp,ho,ey,e,Sem.run_bind,key.2,Sem.run_pure,Result.andThen_ok,binOp,key.1]
   ·simp only[execOp,ho,ey,e,Sem.run_bind,key.2,Sem.run_pure,Result.andThen_ok,binOp,key.1]
theorem ok_mkI {tt:TypeId} {x:Operand} {n:Int} (ho:o.op=.makeInterface tt x) (hx:φ.ev x=one (.int .i64 n)) (hf:flatF P tt=some [3]):ActOk P o φ nid ⟨[],one (.ifc tt n),[]⟩ :=
 .quiet λ C φ' ac w ρ hP hag R=>by
  have h1:=R.ev x
  rw[hag.env x (by simp[ho,Op.operands]),hx]at h1
  obtain ⟨i,hi,hcm,hu⟩:=flat3 hf
  have g1:RI w C.Sh (ac.eval x) (.int .i64 n):=h1
  have ex:ac.eval x=.int .i64 n:=by
   generalize ac.eval x=v at g1
   cases g1;rfl
  refine ⟨.iface tt (.int .i64 n),?_, .of_RI (.ifc _ _)⟩
  simp only[execOp,ho,ex,Instr.makeInterface,Sem.run_bind,run_underlying hu,Result.andThen_ok,Sem.run_pure]
end Go.Fm
