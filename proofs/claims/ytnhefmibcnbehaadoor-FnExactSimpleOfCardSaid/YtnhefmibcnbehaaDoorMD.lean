import Derived.Test.YtnhefmibcnbehaaDoorMC
import Derived.Laws.StandIn
import Derived.Below
import Derived.ProofKit
set_option linter.all false
namespace Go.Fm
variable [Globs]
structure TyI where
 kind:TK
 size:Option Nat
 bytes:Option Nat
 agg:Option Bool
 fl:List (Nat×TypeId)
 zero:Option (List CV)
 flat:Option (List Nat)
 all:Bool
def foffL (P:Program) (t:TypeId):List (Nat×TypeId):=match P.underlying t with|some (.struct fs)=>fs.toList.map λ d=>(d.offset,d.type)|_=>[]
def tiOf (P:Program) (t:TypeId):TyI:=⟨kindF P t,sizeF P t,bytesF P t,aggF P t,foffL P t,zeroF P t,flatF P t,allSized P t⟩
theorem foffL_get (P:Program) (t:TypeId) (f:Nat):(foffL P t)[f]? = foffF P t f:=by
 unfold foffL foffF
 cases P.underlying t with
 | none=>simp
 | some d=>cases d<;>simp
class Kp where
 a:Nat->Nat->Prop
 b:List CV->Prop
def kPtrI (x:SV) [K:Kp]:Prop:=x.kPtr K.a K.b
class Ks where
 a:Nat->Nat->Nat->Prop
 b:Nat->Nat->List CV->Prop
 c:Prop
def kSlI (x:SV) [K:Ks]:Prop:=x.kSl K.a K.b K.c
def kBinT (T:TypeId->TyI) (op:BinOp) (t:TypeId):SV->SV->(CV->Prop)->Prop
 | .pv (.one (.int k a)), .pv (.one (.int k' b)),K =>
  (match op with
  | .shl | .shr=>shI op k a b K
  | _=>k=k'/\binI op k a b K)
 | .pv (.one (.str a)), .pv (.one (.str b)),K =>
  (match op with
  | .add=>a.length+b.length < 2 ^ 62/\K (.str (a++b))
  | .eql=>K (.bool (a==b))
  | .neq=>K (.bool (a != b))
  | _=>False)
 | .pv (.one (.bool a)), .pv (.one (.bool b)),K =>
  (match op,(T t).kind with
  | .eql, .bool=>K (.bool (a==b))
  | .neq, .bool=>K (.bool (a != b))
  | _,_=>False)
 | .pv (.one .opq), .pv (.one .nili),K =>
  (match op,(T t).kind with
  | .eql, .iface=>K (.bool false)
  | .neq, .iface=>K (.bool true)
  | _,_=>False)
 | .pv (.agg a), .pv (.agg b),K =>
  (match op with
  | .eql=>kO ((T t).flat) λ ks=>kO (eqCs ks a b) λ r=>K (.bool r)
  | .neq=>kO ((T t).flat) λ ks=>kO (eqCs ks a b) λ r=>K (.bool (!r))
  | _=>False)
 | _,_,_=>False
def fillFT (T:TypeId->TyI) (φ:St) (t:TypeId):List CV->List (Nat×Operand)->(List CV->Prop)->Prop
 | cs,[],K=>K cs
 | cs,(f,x)::r,K=>kO ((T t).fl[f]?) λ q=>(φ.ev x).kC λ ns=>(T q.2).size=some ns.length/\q.1+ns.length<=cs.length/\fillFT T φ t (over cs q.1 ns) r K
def isU8T (T:TypeId->TyI) (t:TypeId):Bool:=match (T t).kind with | .int .u8=>true|_=>false
def builtinFT (T:TypeId->TyI) (b:Builtin) (ats:List TypeId) (xs:List SV) (φ:St) (nid:Nat) (K:Action->Prop):Prop :=
 match b,ats,xs with
 | .len,[t],[x]=>(match (T t).kind with
  | .str=>x.kS λ l=>K ⟨[],one (.int .i64 l.length),[]⟩
  | .slice _=>φ.kLen x λ rd n=>K ⟨rd,one (.int .i64 n),[]⟩
  | _=>False)
 | .cap,[t],[x]=>(match (T t).kind,x with
  | .slice _, .pv (.one .emp)=>K ⟨[],one (.int .i64 (0:Nat)),[]⟩
  | _,_=>False)
 | .append,t::t2::_,[x,y] =>
  (match (T t).kind,(T t2).kind with
  | .slice e, .slice _ | .slice e, .str=>kO ((T e).size) λ size=>kO ((T e).bytes) λ by_=>kO ((T e).zero) λ z=>by_<=1024/\z.length=size/\φ.cells size y λ rd m ns =>
    (match x with
    | .pv (.one (.arr id lo n))=>kLive (φ.heap id) λ b=>b.sz=size/\lo+n<=b.n/\n+m<=maxN ∧
      K ⟨id::rd,one (.arr nid 0 (n+m)),[(id, .dead),(nid, .live ⟨size,n+m,(b.cs.drop (lo*size)).take (n*size)++ns⟩)]⟩
    | .pv (.one .emp)=>m<=maxN/\K ⟨rd,one (.arr nid 0 m),[(nid, .live ⟨size,m,ns⟩)]⟩
    | _=>False)
  | .slice e, .int _=>kO ((T e).size) λ size=>kO ((T e).bytes) λ by_=>kO ((T e).zero) λ z=>(by_<=1024/\z.length=size) ∧
    (match x with
    | .pv (.one .emp)=>y.kI λ k n=>(k=.i64/\0<=n/\n<=maxN)/\K ⟨[],one (.arr nid 0 n.toNat),[(nid, .live ⟨size,n.toNat,(List.replicate n.toNat z).flatten⟩)]⟩
    | _=>False)
  | _,_=>False)
 | .max,_,[x,y]=>x.kI λ k a=>y.kI λ k' b=>k=k'/\K ⟨[],one (.int k (if a < b then b else a)),[]⟩
 | .copy,t::t2::_,[x,y] =>
  (match (T t).kind,(T t2).kind with
  | .slice e, .slice _ | .slice e, .str=>kO ((T e).size) λ size=>φ.cells size y λ rd m ns =>
    (match x with
    | .pv (.one (.arr id lo n))=>kLive (φ.heap id) λ b=>b.sz=size/\lo+n<=b.n ∧
      K ⟨id::rd,one (.int .i64 (min m n:Nat)),[(id, .live ⟨size,b.n,over b.cs (lo*size) (ns.take (min m n*size))⟩)]⟩
    | .pv (.one .emp)=>K ⟨rd,one (.int .i64 0),[]⟩
    | _=>False)
  | _,_=>False)
 | .clear,[t],[x] =>
  (match (T t).kind with
  | .slice e=>kO ((T e).size) λ size=>kO ((T e).zero) λ z =>
    (match x with
    | .pv (.one (.arr id lo n))=>kLive (φ.heap id) λ b=>b.sz=size/\z.length=size/\lo+n<=b.n ∧
      K ⟨[id], .tup [],[(id, .live ⟨size,b.n,over b.cs (lo*size) (List.replicate n z).flatten⟩)]⟩
    | .pv (.one .emp)=>K ⟨[], .tup [],[]⟩
    | _=>False)
  | _=>False)
 | _,_,_=>False
def actT (T:TypeId->TyI) (o:Oper) (φ:St) (nid:Nat) (K:Action->Prop):Prop :=
 match o.op with
 | .move x | .assign x=>K ⟨[],φ.ev x,[]⟩
 | .pick c a b=>(φ.ev c).kB λ t=>K ⟨[],cond t (φ.ev a) (φ.ev b),[]⟩
 | .extract x i=>(φ.ev x).kT λ ps=>kO ps[i]? λ p=>K ⟨[], .pv p,[]⟩
 | .unOp u _ x=>kUn u (φ.ev x) λ c=>K ⟨[],one c,[]⟩
 | .binOp op t x y _=>kBinT T op t (φ.ev x) (φ.ev y) λ c=>K ⟨[],one c,[]⟩
 | .convert s d x=>(match (T s).kind,(T d).kind with
  | .int _, .int k=>(φ.ev x).kI λ _ n=>K ⟨[],one (.int k (k.wrap n)),[]⟩
  | .str, .str=>(φ.ev x).kS λ l=>K ⟨[],one (.str l),[]⟩
  | .str, .slice e=>isU8T T e=true/\(φ.ev x).kS λ l=>l.length<=maxN/\K ⟨[],one (.arr nid 0 l.length),[(nid, .live ⟨1,l.length,l.map λ b=>.int .u8 b.toNat⟩)]⟩
  | .slice e, .str=>isU8T T e=true/\notStr (φ.ev x)=true/\φ.cells 1 (φ.ev x) λ rd n cs=>kO (bytesCs cs) λ l=>K ⟨rd,one (.str l),[]⟩
  | _,_=>False)
 | .field t x f=>kO ((T t).fl[f]?) λ q=>kO ((T q.2).size) λ size=>kO ((T q.2).agg) λ b=>(φ.ev x).kA λ cs=>q.1+size<=cs.length/\(b=false->size=1)/\K ⟨[], .pv (pvOf b ((cs.drop q.1).take size)),[]⟩
 | .fieldAddr t x f=>kO ((T t).fl[f]?) λ q=>kO ((T q.2).size) λ size=>size≠0 ∧
   @kPtrI (φ.ev x) ⟨(λ id off=>kLive (φ.heap id) λ _=>K ⟨[id],one (.ptr id (off+q.1)),[]⟩),(λ cs=>K ⟨[],one (.ip (cs.drop q.1)),[]⟩)⟩
 | .load t x=>kO ((T t).size) λ size=>kO ((T t).agg) λ b=>(b=false->size=1) ∧
   @kPtrI (φ.ev x) ⟨(λ id off=>kLive (φ.heap id) λ bl=>off+size<=bl.cs.length/\K ⟨[id], .pv (pvOf b ((bl.cs.drop off).take size)),[]⟩),(λ cs=>size<=cs.length/\K ⟨[], .pv (pvOf b (cs.take size)),[]⟩)⟩
 | .store t x v=>kO ((T t).size) λ size=>(φ.ev v).kC λ ns=>ns.length=size ∧
   @kPtrI (φ.ev x) ⟨(λ id off=>kLive (φ.heap id) λ bl=>off+ns.length<=bl.cs.length/\K ⟨[id],one .dead,[(id, .live ⟨bl.sz,bl.n,over bl.cs off ns⟩)]⟩),(λ _=>False)⟩
 | .alloc t=>kO ((T t).zero) λ cs=>K ⟨[],one (.ptr nid 0),[(nid, .live ⟨1,cs.length,cs⟩)]⟩
 | .box t v=>(φ.ev v).kC λ cs=>K ⟨[],one (.ptr nid 0),[(nid, .live ⟨1,cs.length,cs⟩)]⟩
 | .build t ps=>(match (T t).kind with
  | .agg=>(T t).all=true/\kO ((T t).zero) λ z=>fillFT T φ t z ps.toList λ cs=>K ⟨[], .pv (.agg cs),[]⟩
  | _=>False)
 | .buildSlice t n ps=>(match (T t).kind with
  | .slice e=>kO ((T e).size) λ size=>n*size<=4096/\size≠0/\n=ps.size/\partsOf φ size 0 ps.toList λ cs=>((T e).zero).isSome=true/\K ⟨[],one (.arr nid 0 n),[(nid, .live ⟨size,n,cs⟩)]⟩
  | _=>False)
 | .makeSlice t l c=>(match (T t).kind with
  | .slice e=>kO ((T e).size) λ size=>kO ((T e).zero) λ z=>kO ((T e).bytes) λ by_=>by_<=1024/\z.length=size ∧
    (φ.ev l).kI λ k1 n=>(φ.ev c).kI λ k2 m=>k1=.i64/\k2=.i64/\m=n/\0<=n/\n<=maxN ∧
     K ⟨[],one (.arr nid 0 n.toNat),[(nid, .live ⟨size,n.toNat,(List.replicate n.toNat z).flatten⟩)]⟩
  | _=>False)
 | .index t x i=>(match (T t).kind with
  | .str=>(φ.ev x).kS λ l=>(φ.ev i).kI λ _ i=>(0<=i/\i < l.length)/\K ⟨[],one (.int .u8 (l.getD i.toNat 0).toNat),[]⟩
  | _=>False)
 | .indexAddr t x i=>(match (T t).kind with
  | .slice e=>kO ((T e).size) λ size=>(φ.ev i).kI λ _ i => @kSlI (φ.ev x) ⟨(λ id lo n=>kLive (φ.heap id) λ b=>b.sz=size/\(0<=i/\i < n)/\K ⟨[id],one (.ptr id ((lo+i.toNat)*size)),[]⟩),(λ sz n cs=>sz=size/\(0<=i/\i < n)/\K ⟨[],one (.ip (cs.drop (i.toNat*size))),[]⟩),False⟩
  | .tarr n e=>kO ((T e).size) λ size=>(φ.ev i).kI λ _ i => @kPtrI (φ.ev x) ⟨(λ id off=>kLive (φ.heap id) λ _=>(0<=i/\i < n)/\K ⟨[id],one (.ptr id (off+i.toNat*size)),[]⟩),(λ cs=>(0<=i/\i < n)/\K ⟨[],one (.ip (cs.drop (i.toNat*size))),[]⟩)⟩
  | _=>False)
 | .slice t x lo hi none=>(match (T t).kind with
  | .str=>(φ.ev x).kS λ l=>φ.bd lo 0 λ a=>φ.bd hi l.length λ b=>(0<=a/\a<=b/\b<=l.length)/\K ⟨[],one (.str ((l.drop a.toNat).take (b.toNat-a.toNat))),[]⟩
  | .slice e=>kO ((T e).size) λ size => @kSlI (φ.ev x) ⟨(λ id l n=>kLive (φ.heap id) λ bl=>bl.sz=size/\φ.bd lo 0 λ a=>φ.bd hi n λ b=>(0<=a/\a<=b/\b<=n)/\K ⟨[id],one (.arr id (l+a.toNat) (b.toNat-a.toNat)),[]⟩),(λ sz n cs=>sz=size/\φ.bd lo 0 λ a=>φ.bd hi n λ b=>(0<=a/\a<=b/\b<=n)/\K ⟨[],one (.imm sz (b.toNat-a.toNat) ((cs.drop (a.toNat*sz)).take ((b.toNat-a.toNat)*sz))),[]⟩),(φ.bd lo 0 λ a=>φ.bd hi 0 λ b=>(a=0/\b=0)/\K ⟨[],one .emp,[]⟩)⟩
  | .tarr m e=>kO ((T e).size) λ size => @kPtrI (φ.ev x) ⟨(λ id off=>kLive (φ.heap id) λ bl=>(bl.sz=size/\bl.n=m/\off=0)/\φ.bd lo 0 λ a=>φ.bd hi m λ b=>(0<=a/\a<=b/\b<=m)/\K ⟨[id],one (.arr id a.toNat (b.toNat-a.toNat)),[]⟩),(λ _=>False)⟩
  | _=>False)
 | .makeFunc (.func f) first caps=>first.size=0/\capsOf φ caps.toList λ cs=>K ⟨[],one (.fn f cs),[]⟩
 | .nilCheck x => @kPtrI (φ.ev x) ⟨(λ id off=>kLive (φ.heap id) λ _=>K ⟨[id],one (.ptr id off),[]⟩),(λ cs=>K ⟨[],one (.ip cs),[]⟩)⟩
 | .call c=>(match c.callee with
  | .builtin b=>builtinFT T b c.argTypes.toList (c.args.toList.map φ.ev) φ nid K
  | _=>False)
 | _=>False
variable {P:Program}
theorem tiOf_table {T:TypeId->TyI} (n:Nat) (h1:(List.range n).map T=(List.range n).map (tiOf P)) (h2:∀ t,Nat.blt t n=false->T t=tiOf P t):T=tiOf P:=by
 funext t
 by_cases h:t < n
 ·have:=congrArg (λ l=>l[t]?) h1
  simpa [h] using this
 ·exact h2 t (Bool.eq_false_iff.2 λ hh=>h (by rw[<-Nat.blt_eq];exact hh))
theorem fillT_eq (φ:St) (t:TypeId):∀ (l:List (Nat×Operand)) (cs:List CV) (K:List CV->Prop),fillFT (tiOf P) φ t cs l K=fillF P φ t cs l K
 | [],cs,K=>rfl
 | (f,x)::r,cs,K=>by
  simp only[fillFT,fillF]
  rw[show (tiOf P t).fl[f]? = foffF P t f from foffL_get P t f]
  congr 1
  funext q
  congr 1
  funext ns
  rw[fillT_eq φ t r]
  rfl
theorem actT_act {o:Oper} {φ:St} {nid:Nat} {K:Action->Prop} (h:actT (tiOf P) o φ nid K):act P o φ nid K:=by
 unfold actT at h
 unfold act
 generalize o.op=op at h ⊢
 cases op<;>try exact h
 case field t x f =>
  simp only[show (tiOf P t).fl[f]? = foffF P t f from foffL_get P t f]at h
  exact h
 case fieldAddr t x f =>
  simp only[show (tiOf P t).fl[f]? = foffF P t f from foffL_get P t f]at h
  exact h
 case build t ps =>
  simp only[fillT_eq]at h
  exact h
 case makeFunc fn a b=>cases fn<;>exact h
 case slice t x lo hi mx=>cases mx<;>exact h
end Go.Fm
namespace Go.Fm
variable [Globs]
structure S where
 env:List (Nat×SV)
 heap:List HS
def lk:List (Nat×SV)->Nat->SV
 | [],_=>one .dead
 | p::r,t=>if p.1=t then p.2 else lk r t
def S.st (s:S):St:=⟨lk s.env,hOf s.heap⟩
def setH:List HS->Nat->HS->List HS
 | [],0,h=>[h]
 | [],n+1,h=>.no::setH [] n h
 | _::r,0,h=>h::r
 | a::r,n+1,h=>a::setH r n h
theorem hOf_nil (j:Nat):hOf [] j=.no:=by simp[hOf]
theorem hOf_setH:∀ (l:List HS) (i:Nat) (h:HS) (j:Nat),hOf (setH l i h) j=if j=i then h else hOf l j
 | [],0,h,j=>by cases j<;>simp[setH,hOf]
 | [],n+1,h,j=>by
  cases j with
  | zero=>simp[setH,hOf]
  | succ j =>
   have:=hOf_setH [] n h j
   simp only[hOf_nil]at this ⊢
   show hOf (setH [] n h) j=_
   rw[this]
   simp
 | a::r,0,h,j=>by cases j<;>simp[setH,hOf]
 | a::r,n+1,h,j=>by
  cases j with
  | zero=>simp[setH,hOf]
  | succ j =>
   have:=hOf_setH r n h j
   show hOf (setH r n h) j=if j+1=n+1 then h else hOf r j
   rw[this]
   simp
def setHs (l:List HS):List (Nat×HS)->List HS
 | []=>l
 | p::r=>setHs (setH l p.1 p.2) r
theorem hOf_setHs:∀ (r:List (Nat×HS)) (l:List HS),hOf (setHs l r)=heapOf (hOf l) r
 | [],l=>rfl
 | p::r,l=>by
  show hOf (setHs (setH l p.1 p.2) r)=heapOf (upd (hOf l) p.1 p.2) r
  rw[hOf_setHs r]
  congr 1
  funext j
  rw[hOf_setH]
  rfl
def putE (e:List (Nat×SV)):Option Nat->SV->List (Nat×SV)
 | none,_=>e
 | some d,v=>(d,v)::e
def S.app (s:S) (d:Option Nat) (A:Action):S:=⟨putE s.env d A.val,setHs s.heap A.hp⟩
theorem S.app_st (s:S) (d:Option Nat) (A:Action):(s.app d A).st=s.st.app d A:=by
 cases d with
 | none=>simp only[S.app,S.st,St.app,St.put,putE,hOf_setHs]
 | some d =>
  simp only[S.app,S.st,St.app,St.put,putE,hOf_setHs]
  congr 1
  funext t
  simp only[lk,upd]
  by_cases h:d=t
  ·simp[h]
  ·simp[h,Ne.symm h]
def callF (P:Program) (f:FuncId) (caps:List CV) (args:List SV) (s:S) (K:Action->Prop):Prop :=
 ∀ (o:Oper) (c:Call) (x:Operand),o.op=.call c->c.callee=.value x->s.st.ev x=one (.fn f caps)->c.args.toList.map s.st.ev=args →
  ∃ A,ActX P o s.st s.heap.length A/\K A
class Kn (α:Type) where
 go:α->Prop
structure kIf (b:Bool) [X:Kn Unit] [Y:Kn Unit]:Prop where
 t:b=true->X.go ()
 f:b=false->Y.go ()
theorem kIf_mk {b:Bool} {X Y:Unit->Prop} (h1:b=true->X ()) (h2:b=false->Y ()) : @kIf b ⟨X⟩ ⟨Y⟩ := @kIf.mk b ⟨X⟩ ⟨Y⟩ h1 h2
theorem kIf_t {X Y:Unit->Prop} (h:X ()) : @kIf true ⟨X⟩ ⟨Y⟩:=kIf_mk (λ _=>h) (λ h=>(by cases h))
theorem kIf_f {X Y:Unit->Prop} (h:Y ()) : @kIf false ⟨X⟩ ⟨Y⟩:=kIf_mk (λ h=>(by cases h)) (λ _=>h)
theorem kIf_true {X Y:Unit->Prop} : @kIf true ⟨X⟩ ⟨Y⟩=X ():=propext ⟨λ h => @kIf.t true ⟨X⟩ ⟨Y⟩ h rfl,kIf_t⟩
theorem kIf_false {X Y:Unit->Prop} : @kIf false ⟨X⟩ ⟨Y⟩=Y ():=propext ⟨λ h => @kIf.f false ⟨X⟩ ⟨Y⟩ h rfl,kIf_f⟩
structure callT (P:Unit->Program) (f:FuncId) (caps:List CV) (args:List SV) (s:S) [K:Kn Action]:Prop where
 get:(P ()).follows .mixedOrders=true->callF (P ()) f caps args s K.go
def opF (P:Unit->Program) (T:TypeId->TyI) (o:Oper) (s:S) (K:Action->Prop):Prop :=
 match o.op with
 | .call c=>(match c.callee with
  | .value x=>(match s.st.ev x with
   | .pv (.one (.fn f caps)) => @callT _ P f caps (c.args.toList.map s.st.ev) s ⟨K⟩
   | _=>False)
  | _=>actT T o s.st s.heap.length K)
 | _=>actT T o s.st s.heap.length K
theorem opF_ok {P:Unit->Program} {T:TypeId->TyI} (hT:T=tiOf (P ())) (hm:(P ()).follows .mixedOrders=true) {o:Oper} {s:S} {K:Action->Prop} (h:opF P T o s K):∃ A,ActX (P ()) o s.st s.heap.length A/\K A:=by
 subst hT
 have hact:actT (tiOf (P ())) o s.st s.heap.length K->∃ A,ActX (P ()) o s.st s.heap.length A/\K A:=λ h=>by
  obtain ⟨A,hA,hK⟩:=act_ok (actT_act h)
  exact ⟨A,hA.x,hK⟩
 unfold opF at h
 split at h
 ·rename_i c ho
  split at h
  ·rename_i x hc
   split at h
   ·rename_i f caps hx
    obtain ⟨g⟩:=h
    exact g hm o c x ho hc hx rfl
   ·exact h.elim
  ·exact hact h
 ·exact hact h
def guardF (all:List Oper) (s:S) (o:Oper) (K:Bool->Prop):Prop :=
 match o.guard with
 | none=>K true
 | some (j,b)=>match (all[j]?).bind (·.dst) with
  | none=>K false
  | some d=>match lk s.env d with
   | .pv (.one (.bool t))=>(match b with|true => @kIf t ⟨λ _=>K true⟩ ⟨λ _=>K false⟩|false => @kIf t ⟨λ _=>K false⟩ ⟨λ _=>K true⟩)
   | .tup _=>K false
   | _=>False
def GuardIs (all:List Oper) (env:Nat->SV) (o:Oper) (g:Bool):Prop :=
 match o.guard with
 | none=>g=true
 | some (j,b)=>match (all[j]?).bind (·.dst) with
  | none=>g=false
  | some d=>(∃ t,env d=one (.bool t)/\g=(t==b))\/((∃ l,env d=.tup l)/\g=false)
theorem guardF_ok {all:List Oper} {s:S} {o:Oper} {K:Bool->Prop} (h:guardF all s o K):∃ g,GuardIs all (lk s.env) o g/\K g:=by
 unfold guardF at h
 unfold GuardIs
 split at h
 ·exact ⟨true,rfl,h⟩
 ·rename_i j b hg
  split at h
  ·exact ⟨false,rfl,h⟩
  ·rename_i d hd
   split at h
   ·rename_i t ht
    refine ⟨t==b, .inl ⟨t,ht,rfl⟩,?_⟩
    cases b<;>cases t<;>simp only[kIf_true,kIf_false]at h<;>exact h
   ·rename_i l ht;exact ⟨false, .inr ⟨⟨l,ht⟩,rfl⟩,h⟩
   ·exact h.elim
theorem GuardIs.wanted {all:List Oper} {env:Nat->SV} {o:Oper} {g:Bool} (h:GuardIs all env o g) {C:Ctx} {ρ:Rho} {φ:St} {a:Act} {w:World} (R:RelAt C ρ φ a w)
  (he:∀ j b d,o.guard=some (j,b)->(all[j]?).bind (·.dst)=some d->φ.env d=env d) {ops:Array Oper} (hops:ops.toList=all):Region.wanted o (yielded ops a.tmps)=g:=by
 unfold GuardIs at h
 unfold Region.wanted
 split at h
 ·rename_i hg;rw[hg];exact h.symm
 ·rename_i j b hg
  rw[hg]
  simp only
  have hoj:(ops[j]?).bind (·.dst)=(all[j]?).bind (·.dst):=by rw[<-hops];simp
  split at h
  ·rename_i hd
   rw[yielded,hoj,hd,h]
   rfl
  ·rename_i d hd
   have hev:=R.env d
   rw[he j b d hg hd]at hev
   rcases h with ⟨t,ht,rfl⟩|⟨⟨l,hl⟩,rfl⟩
   ·rw[ht]at hev
    have hv:=hev.bool
    rw[Array.getD_eq_getD_getElem?]at hv
    rw[yielded,hoj,hd]
    simp only[Option.bind_some]
    cases hx:a.tmps[d]? with
    | none=>rw[hx]at hv;cases hv
    | some v =>
     rw[hx]at hv
     simp only[Option.getD_some]at hv
     subst hv
     cases t<;>cases b<;>rfl
   ·rw[hl]at hev
    obtain ⟨vs,hv,_⟩:=hev
    rw[Array.getD_eq_getD_getElem?]at hv
    rw[yielded,hoj,hd]
    simp only[Option.bind_some]
    cases hx:a.tmps[d]? with
    | none=>rfl
    | some v =>
     rw[hx]at hv
     simp only[Option.getD_some]at hv
     subst hv
     rfl
def skipA:Action:=⟨[], .tup [],[]⟩
theorem RelX.skip {C:Ctx} {φ:St} {a:Act} {w:World} (R:RelX C φ a w) {d:Option Nat} (hd:∀ t,d=some t->t < C.nt):RelX C (φ.app d skipA) (a.put d undef) w:=by
 obtain ⟨C',hC,ρ,R⟩:=R
 exact ⟨C',hC,ρ,R.put (λ t ht=>by rw[hC.nt];exact hd t ht) ⟨[],rfl,rfl,λ i p hp=>by simp at hp⟩⟩
def dstOk (nt:Nat) (o:Oper):Prop:=match o.dst with|none=>True|some d=>d < nt
abbrev Feet:=List (List Nat×List Nat)
class Kw where
 go:S->Feet->Prop
structure Stp where
 s:S
 A:Action
 g:Bool
inductive Seq (P:Program) (nt:Nat) (all:List Oper):List Oper->S->List Stp->S->Prop where
 | nil (s:S):Seq P nt all [] s [] s
 | cons (o:Oper) (os:List Oper) (s s':S) (A:Action) (g:Bool) (l:List Stp) (hd:dstOk nt o) (hg:GuardIs all (lk s.env) o g)
   (hA:(g=true/\ActX P o s.st s.heap.length A)\/(g=false/\A=skipA)) (h:Seq P nt all os (s.app o.dst A) l s'):Seq P nt all (o::os) s (⟨s,A,g⟩::l) s'
def feetOf (l:List Stp):Feet:=l.map λ x=>(x.A.rd,x.A.hp.map (·.1))
theorem dstOk.lt {nt:Nat} {o:Oper} (h:dstOk nt o) {d:Nat} (hd:o.dst=some d):d < nt:=by
 unfold dstOk at h
 rw[hd]at h
 exact h
theorem Seq.text {P:Program} {nt:Nat} {ops:Array Oper}:∀ {os:List Oper} {s s':S} {l:List Stp},Seq P nt ops.toList os s l s'->∀ (k:Nat),ops.toList.drop k=os →
  ∀ (C:Ctx),C.P=P->C.nt=nt->∀ a w,RelX C s.st a w->∀ (Q:Exit->Act->World->Prop),(∀ a' w',RelX C s'.st a' w'->Q .normal a' w')->wpOps P ops Q (List.range' k os.length) a w:=by
 intro os s s' l h
 induction h with
 | nil s=>intro k hk C hP hn a w R Q hQ;exact hQ a w R
 | cons o os s s' A g l hd hg hA _ ih =>
  intro k hk C hP hn a w R Q hQ
  have hko:ops[k]? = some o:=by
   have:(ops.toList.drop k)[0]? = some o:=by rw[hk];rfl
   rw[List.getElem?_drop]at this
   simpa using this
  have hk':ops.toList.drop (k+1)=os:=by
   rw[<-List.drop_drop,hk];rfl
  have hdn:∀ d,o.dst=some d->d < C.nt:=λ d h=>by rw[hn];exact hd.lt h
  simp only[List.length_cons,List.range'_succ,wpOps,hko]
  obtain ⟨C',hC',ρ,R0⟩:=id R
  rw[hg.wanted R0 (λ j b d _ _=>rfl) rfl]
  rcases hA with ⟨rfl,hA⟩|⟨rfl,rfl⟩
  ·refine .inl (hA C hP s.st a w ⟨λ _ _=>rfl,λ _ _=>rfl,λ p hp hle => ?_,s.heap.length,λ j hj => ?_⟩ R hdn _ Q (λ a' w' R'=>ih (k+1) hk' C hP hn a' w' (by rw[S.app_st];exact R') Q hQ))
   ·show (s.heap.getD p.1 .no)=.no
    simp[List.getElem?_eq_none hle]
   ·show (s.heap.getD j .no)=.no
    simp[List.getElem?_eq_none hj]
  ·refine ih (k+1) hk' C hP hn _ w ?_ Q hQ
   rw[S.app_st]
   exact R.skip hdn
end Go.Fm
namespace Go.Fm
variable [Globs]
open Classical
def vAt {V:Type} (W:Nat->Option V) (p:Nat->Bool) (base:V):Nat->V
 | 0=>base
 | n+1=>if p n=true then (W n).getD (vAt W p base n) else vAt W p base n
theorem vAt_congr {V:Type} {W:Nat->Option V} {p q:Nat->Bool} {base:V}:∀ {n:Nat},(∀ j,j < n->W j≠none->p j=q j)->vAt W p base n=vAt W q base n
 | 0,_=>rfl
 | n+1,h=>by
  have ih:=vAt_congr (n:=n) (W:=W) (p:=p) (q:=q) (base:=base) (λ j hj=>h j (by omega))
  simp only[vAt]
  cases hw:W n with
  | none=>simp[ih]
  | some x =>
   have:=h n (by omega) (by rw[hw];simp)
   rw[this,ih]
theorem vAt_past {V:Type} {W:Nat->Option V} {p:Nat->Bool} {base:V} {i:Nat}:∀ {n:Nat},i<=n->(∀ j,i<=j->j < n->W j≠none->p j=false)->vAt W p base n=vAt W p base i
 | 0,hi,_=>by rw[Nat.le_zero.1 hi]
 | n+1,hi,h=>by
  by_cases he:i=n+1
  ·rw[he]
  ·simp only[vAt]
   have ih:=vAt_past (n:=n) (W:=W) (p:=p) (base:=base) (by omega:i<=n) (λ j h1 h2=>h j h1 (by omega))
   rw[ih]
   cases hw:W n with
   | none=>simp
   | some x =>
    have:=h n (by omega) (by omega) (by rw[hw];simp)
    rw[this]
    simp
theorem vAt_read {V:Type} {W:Nat->Option V} {p:Nat->Bool} {base:V} {i n:Nat} (hi:i<=n) (h1:∀ j,j < i->W j≠none->p j=true) (h2:∀ j,i<=j->j < n->W j≠none->p j=false) :
  vAt W p base n=vAt W (λ _=>true) base i:=by
 rw[vAt_past hi h2]
 exact vAt_congr λ j hj hw=>h1 j hj hw
theorem vAt_pick {V:Type} {W:Nat->Option V} {p p':Nat->Bool} {base:V} {i n:Nat} (hi:i < n) (hp':∀ j,p' j=if j=i then true else p j) (hpi:p i=false)
  (h2:∀ j,i < j->j < n->W i≠none->W j≠none->p j=false):vAt W p' base n=(W i).getD (vAt W p base n):=by
 cases hw:W i with
 | none =>
  refine vAt_congr λ j hj hwj => ?_
  rw[hp']
  by_cases h:j=i
  ·subst h;exact absurd hw hwj
  ·simp[h]
 | some x =>
  rw[vAt_past (i:=i+1) hi (λ j h1 h3 hwj=>by rw[hp'];simp only[show j≠i by omega,if_false];exact h2 j (by omega) h3 (by rw[hw];simp) hwj)]
  simp only[vAt]
  rw[hp' i,if_pos rfl,hw]
  simp
def hpOf:List (Nat×HS)->Nat->Option HS
 | [],_=>none
 | p::r,id=>match hpOf r id with
  | some h=>some h
  | none=>if p.1=id then some p.2 else none
theorem heapOf_hpOf:∀ (l:List (Nat×HS)) (h:Nat->HS) (id:Nat),heapOf h l id=(hpOf l id).getD (h id)
 | [],h,id=>rfl
 | p::r,h,id=>by
  show heapOf (upd h p.1 p.2) r id=_
  rw[heapOf_hpOf r]
  simp only[hpOf]
  cases hr:hpOf r id with
  | some x=>rfl
  | none =>
   simp only[Option.getD_none,upd]
   by_cases he:p.1=id
   ·simp[he]
   ·simp[he,Ne.symm he]
theorem hpOf_mem:∀ {l:List (Nat×HS)} {id:Nat},hpOf l id≠none->id ∈ l.map (·.1)
 | [],id,h=>absurd rfl h
 | p::r,id,h=>by
  simp only[hpOf]at h
  cases hr:hpOf r id with
  | some x=>exact List.mem_cons_of_mem _ (hpOf_mem (by rw[hr];simp))
  | none =>
   rw[hr]at h
   simp only at h
   split at h
   ·rename_i he;rw[<-he];exact List.mem_cons_self ..
   ·exact absurd rfl h
def maskOf (acc:List Nat) (es:List Edge):Nat:=es.foldl (λ s e=>if Region.binds .any e then s ||| 2 ^ e.on ||| acc.getD e.on 0 else s) 0
def preT:List Oper->List Nat->List Nat
 | [],acc=>acc
 | o::r,acc=>preT r (acc++[maskOf acc o.after.toList])
def memS:Option Nat->List Nat->Bool
 | none,_=>false
 | some d,l=>l.contains d
def anyIn:List Nat->List Nat->Bool
 | [],_=>false
 | x::r,l=>l.contains x || anyIn r l
def conf (ops:Array Oper) (o1 o2:Oper) (f1 f2:List Nat×List Nat):Bool :=
 memS o1.dst (o2.looksAt ops) || memS o2.dst (o1.looksAt ops) || memS o1.dst o2.dst.toList || anyIn f1.2 f2.1 || anyIn f1.2 f2.2 || anyIn f2.2 f1.1
def downAll:List Oper->Nat->Bool
 | [],_=>true
 | o::r,j=>o.after.toList.all (λ e => !Region.binds .any e || Nat.blt e.on j)&&downAll r (j+1)
def rowOk (ops:Array Oper) (m:Nat) (o2:Oper) (f2:List Nat×List Nat):List Oper->List (List Nat×List Nat)->Nat->Bool
 | o1::r,f1::fs,i=>(Nat.testBit m i || !conf ops o1 o2 f1 f2)&&rowOk ops m o2 f2 r fs (i+1)
 | _,_,_=>true
def rowsOk (ops:Array Oper) (all:List Oper) (fa:List (List Nat×List Nat)):List Oper->List (List Nat×List Nat)->List Nat->Nat->Bool
 | o2::r,f2::fs,m::ms,j=>rowOk ops m o2 f2 (all.take j) (fa.take j) 0&&rowsOk ops all fa r fs ms (j+1)
 | _,_,_,_=>true
def drawOk (all:List Oper) (feet:Feet):Bool :=
 downAll all 0&&rowsOk all.toArray all feet all feet (preT all []) 0
theorem anyIn_spec:∀ {a b:List Nat},anyIn a b=false->∀ x ∈ a,x ∉ b
 | [],b,_,x,hx=>by simp at hx
 | y::r,b,h,x,hx=>by
  simp only[anyIn,Bool.or_eq_false_iff]at h
  rcases List.mem_cons.1 hx with rfl|hx
  ·simpa using h.1
  ·exact anyIn_spec h.2 x hx
theorem downAll_get:∀ {os:List Oper} {k:Nat},downAll os k=true->∀ j o,os[j]? = some o->∀ e ∈ o.after,Region.binds .any e=true->e.on < k+j
 | [],k,_,j,o,ho=>by simp at ho
 | o0::r,k,h,j,o,ho=>by
  simp only[downAll,Bool.and_eq_true]at h
  cases j with
  | zero =>
   simp at ho
   subst ho
   intro e he hb
   have:=List.all_eq_true.1 h.1 e (by simpa using he)
   rw[hb]at this
   simpa [Nat.blt_eq] using this
  | succ j =>
   intro e he hb
   have:=downAll_get h.2 j o (by simpa using ho) e he hb
   omega
theorem rowOk_get {ops:Array Oper} {m:Nat} {o2:Oper} {f2:List Nat×List Nat}:∀ {os:List Oper} {fs:List (List Nat×List Nat)} {k:Nat},rowOk ops m o2 f2 os fs k=true →
  ∀ (i:Nat) (o1:Oper) (f1:List Nat×List Nat),os[i]? = some o1->fs[i]? = some f1->Nat.testBit m (k+i)=true\/conf ops o1 o2 f1 f2=false
 | [],fs,k,_,i,o1,f1,ho,_=>by simp at ho
 | _::_,[],k,_,i,o1,f1,_,hf=>by simp at hf
 | o0::r,f0::fs,k,h,i,o1,f1,ho,hf=>by
  simp only[rowOk,Bool.and_eq_true,Bool.or_eq_true,Bool.not_eq_true']at h
  cases i with
  | zero=>simp at ho hf;subst ho;subst hf;exact h.1
  | succ i =>
   have:=rowOk_get h.2 i o1 f1 (by simpa using ho) (by simpa using hf)
   rwa [show k+1+i=k+(i+1) by omega]at this
theorem rowsOk_get {ops:Array Oper} {all:List Oper} {fa:List (List Nat×List Nat)}:∀ {os:List Oper} {fs:List (List Nat×List Nat)} {ms:List Nat} {k:Nat},rowsOk ops all fa os fs ms k=true →
  ∀ (j:Nat) (o2:Oper) (f2:List Nat×List Nat) (m:Nat),os[j]? = some o2->fs[j]? = some f2->ms[j]? = some m->rowOk ops m o2 f2 (all.take (k+j)) (fa.take (k+j)) 0=true
 | [],_,_,k,_,j,o2,f2,m,ho,_,_=>by simp at ho
 | _::_,[],_,k,_,j,o2,f2,m,_,hf,_=>by simp at hf
 | _::_,_::_,[],k,_,j,o2,f2,m,_,_,hm=>by simp at hm
 | o0::r,f0::fs,m0::ms,k,h,j,o2,f2,m,ho,hf,hm=>by
  simp only[rowsOk,Bool.and_eq_true]at h
  cases j with
  | zero=>simp at ho hf hm;subst ho;subst hf;subst hm;exact h.1
  | succ j =>
   have:=rowsOk_get h.2 j o2 f2 m (by simpa using ho) (by simpa using hf) (by simpa using hm)
   rwa [show k+1+j=k+(j+1) by omega]at this
theorem testBit_maskOf {acc:List Nat} {i:Nat}:∀ (es:List Edge) (s:Nat),Nat.testBit (es.foldl (λ s e=>if Region.binds .any e then s ||| 2 ^ e.on ||| acc.getD e.on 0 else s) s) i=true →
  Nat.testBit s i=true\/∃ e ∈ es,Region.binds .any e=true/\(e.on=i\/Nat.testBit (acc.getD e.on 0) i=true)
 | [],s,h=>.inl h
 | e::r,s,h=>by
  rw[List.foldl_cons]at h
  rcases testBit_maskOf r _ h with h|⟨e',he,hb⟩
  ·split at h
   ·rename_i hb
    simp only[Nat.testBit_or,Bool.or_eq_true,Nat.testBit_two_pow,decide_eq_true_eq]at h
    rcases h with (h|h)|h
    ·exact .inl h
    ·exact .inr ⟨e,List.mem_cons_self ..,hb, .inl h⟩
    ·exact .inr ⟨e,List.mem_cons_self ..,hb, .inr h⟩
   ·exact .inl h
  ·exact .inr ⟨e',List.mem_cons_of_mem _ he,hb⟩
theorem preT_sound {all:List Oper} {p:Nat->Bool} (hcl:∀ j o,all[j]? = some o->p j=true->∀ e ∈ o.after,Region.binds .any e=true->p e.on=true) :
  ∀ (os:List Oper) (acc:List Nat),all.drop acc.length=os->(∀ j m,acc[j]? = some m->p j=true->∀ i,Nat.testBit m i=true->p i=true) →
   ∀ j m,(preT os acc)[j]? = some m->p j=true->∀ i,Nat.testBit m i=true->p i=true
 | [],acc,_,h=>h
 | o::r,acc,hd,h=>by
  have ho:all[acc.length]? = some o:=by
   have:(all.drop acc.length)[0]? = some o:=by rw[hd];rfl
   simpa [List.getElem?_drop] using this
  refine preT_sound hcl r _ (by rw[List.length_append,<-List.drop_drop,hd];rfl) (λ j m hm hpj i hi => ?_)
  by_cases hj:j < acc.length
  ·rw[List.getElem?_append_left hj]at hm
   exact h j m hm hpj i hi
  ·have hjl:=(List.getElem?_eq_some_iff.1 hm).1
   have hje:j=acc.length:=by simp at hjl;omega
   subst hje
   rw[List.getElem?_append_right (Nat.le_refl _)]at hm
   simp only[Nat.sub_self,List.getElem?_cons_zero,Option.some.injEq]at hm
   subst hm
   rcases testBit_maskOf _ _ hi with h0|⟨e,he,hb,h0⟩
   ·simp at h0
   ·have hpe:=hcl _ o ho hpj e (by simpa using he) hb
    rcases h0 with h0|h0
    ·rw[<-h0];exact hpe
    ·cases hg:acc[e.on]? with
     | none=>simp[hg]at h0
     | some m'=>exact h e.on m' hg hpe i (by simpa [hg] using h0)
theorem preT_length:∀ (os:List Oper) (acc:List Nat),(preT os acc).length=acc.length+os.length
 | [],acc=>by simp[preT]
 | o::r,acc=>by simp[preT,preT_length r];omega
def unl (p:Nat->Bool):Nat->Nat
 | 0=>0
 | n+1=>unl p n+(if p n then 0 else 1)
theorem unl_zero {p:Nat->Bool}:∀ {n:Nat},unl p n=0->∀ j,j < n->p j=true
 | 0,_,j,hj=>by omega
 | n+1,h,j,hj=>by
  simp only[unl]at h
  by_cases hn:p n=true
  ·by_cases he:j=n
   ·rw[he];exact hn
   ·exact unl_zero (n:=n) (by omega) j (by omega)
  ·simp[hn]at h
theorem unl_le {p q:Nat->Bool} (h:∀ j,p j=true->q j=true):∀ n,unl q n<=unl p n
 | 0=>Nat.le_refl _
 | n+1=>by
  have:=unl_le h n
  simp only[unl]
  by_cases hp:p n=true
  ·simp[hp,h n hp];exact this
  ·by_cases hq:q n=true
   ·simp[hp,hq];omega
   ·simp[hp,hq];exact this
theorem unl_lt {p q:Nat->Bool} (h:∀ j,p j=true->q j=true) {i:Nat} (hp:p i=false) (hq:q i=true):∀ {n:Nat},i < n->unl q n < unl p n
 | 0,hi=>by omega
 | n+1,hi=>by
  simp only[unl]
  by_cases he:i=n
  ·subst he
   have:=unl_le h i
   simp[hp,hq];omega
  ·have:=unl_lt h hp hq (n:=n) (by omega)
   by_cases hpn:p n=true
   ·simp[hpn,h n hpn];exact this
   ·by_cases hqn:q n=true
    ·simp[hpn,hqn];omega
    ·simp[hpn,hqn];exact this
end Go.Fm
namespace Go.Fm
variable [Globs]
open Classical
def stt (l:List Stp) (s':S) (i:Nat):S:=match l[i]? with|some x=>x.s|none=>s'
theorem Seq.spec {P:Program} {nt:Nat} {all:List Oper} {os:List Oper} {s s':S} {l:List Stp} (h:Seq P nt all os s l s') :
  l.length=os.length/\stt l s' 0=s/\stt l s' os.length=s'/\∀ i o,os[i]? = some o->∃ x,l[i]? = some x/\dstOk nt o/\GuardIs all (lk x.s.env) o x.g ∧
   ((x.g=true/\ActX P o x.s.st x.s.heap.length x.A)\/(x.g=false/\x.A=skipA))/\x.s=stt l s' i/\stt l s' (i+1)=x.s.app o.dst x.A:=by
 induction h with
 | nil s=>exact ⟨rfl,rfl,rfl,λ i o ho=>by simp at ho⟩
 | cons o os s s' A g l hd hg hA _ ih =>
  obtain ⟨h1,h2,h3,h4⟩:=ih
  refine ⟨by simp[h1],rfl,?_,λ i o' ho => ?_⟩
  ·simpa [stt] using h3
  ·cases i with
   | zero=>simp at ho;subst ho;exact ⟨_,rfl,hd,hg,hA,rfl,by simpa [stt] using h2⟩
   | succ i =>
    obtain ⟨x,e1,e2,e3,e4,e5,e6⟩:=h4 i o' (by simpa using ho)
    exact ⟨x,by simpa using e1,e2,e3,e4,by simpa [stt] using e5,by simpa [stt] using e6⟩
def wEnv (os:List Oper) (l:List Stp) (t:Nat) (i:Nat):Option SV :=
 match os[i]?,l[i]? with
 | some o,some x=>if o.dst=some t then some x.A.val else none
 | _,_=>none
def wHp (l:List Stp) (id:Nat) (i:Nat):Option HS:=match l[i]? with|some x=>hpOf x.A.hp id|none=>none
def phiS (os:List Oper) (l:List Stp) (s:S) (p:Nat->Bool) (n:Nat):St:=⟨λ t=>vAt (wEnv os l t) p (s.st.env t) n,λ id=>vAt (wHp l id) p (s.st.heap id) n⟩
theorem St.app_eq (φ:St) (d:Option Nat) (A:Action):φ.app d A=⟨λ t=>if d=some t then A.val else φ.env t,λ id=>(hpOf A.hp id).getD (φ.heap id)⟩:=by
 have hh:heapOf φ.heap A.hp=λ id=>(hpOf A.hp id).getD (φ.heap id):=funext λ id=>heapOf_hpOf _ _ _
 cases d with
 | none=>simp[St.app,St.put,hh]
 | some d =>
  simp only[St.app,St.put,hh]
  congr 1
  funext t
  simp only[upd,Option.some.injEq]
  by_cases h:d=t
  ·simp[h]
  ·simp[h,Ne.symm h]
theorem Seq.state {P:Program} {nt:Nat} {all:List Oper} {os:List Oper} {s s':S} {l:List Stp} (h:Seq P nt all os s l s') :
  ∀ i,i<=os.length->(stt l s' i).st=phiS os l s (λ _=>true) i:=by
 obtain ⟨h1,h2,h3,h4⟩:=h.spec
 intro i
 induction i with
 | zero=>intro _;rw[h2];rfl
 | succ i ih =>
  intro hi
  have hlt:i < os.length:=by omega
  obtain ⟨x,e1,_,_,_,e5,e6⟩:=h4 i os[i] (List.getElem?_eq_getElem hlt)
  rw[e6,S.app_st,St.app_eq,e5,ih (by omega)]
  simp only[phiS,vAt,if_true]
  congr 1
  ·funext t
   simp only[wEnv,List.getElem?_eq_getElem hlt,e1]
   by_cases hd:os[i].dst=some t
   ·simp[hd]
   ·simp[hd]
  ·funext id
   simp only[wHp,e1]
theorem hp_fin:∀ l:List (Nat×HS),∃ N,∀ j,N<=j->hpOf l j=none:=λ l=>by
 have h:∀ l:List (Nat×HS),∃ N,∀ p ∈ l,p.1 < N:=λ l=>by
  induction l with
  | nil=>exact ⟨0,λ p hp=>nomatch hp⟩
  | cons a r ih =>
   obtain ⟨N,hN⟩:=ih
   refine ⟨max N (a.1+1),λ p hp => ?_⟩
   rcases List.mem_cons.1 hp with rfl|hp
   ·omega
   ·have:=hN p hp;omega
 obtain ⟨N,hN⟩:=h l
 refine ⟨N,λ j hj => ?_⟩
 apply Classical.byContradiction
 intro hx
 obtain ⟨p,hp,e⟩:=List.mem_map.1 (hpOf_mem hx)
 have:=hN p hp
 omega
theorem wHp_fin:∀ l:List Stp,∃ N,∀ j,N<=j->∀ i,wHp l j i=none:=λ l=>by
 have h:∀ l:List Stp,∃ N,∀ x ∈ l,∀ j,N<=j->hpOf x.A.hp j=none:=λ l=>by
  induction l with
  | nil=>exact ⟨0,λ p hp=>nomatch hp⟩
  | cons a r ih =>
   obtain ⟨N,hN⟩:=ih
   obtain ⟨M,hM⟩:=hp_fin a.A.hp
   refine ⟨max N M,λ p hp j hj => ?_⟩
   rcases List.mem_cons.1 hp with rfl|hp
   ·exact hM j (by omega)
   ·exact hN p hp j (by omega)
 obtain ⟨N,hN⟩:=h l
 refine ⟨N,λ j hj i => ?_⟩
 unfold wHp
 split
 ·rename_i x hx;exact hN x (List.mem_of_getElem? hx) j hj
 ·rfl
theorem vAt_none {V:Type} {W:Nat->Option V} {p:Nat->Bool} {base:V} (hW:∀ i,W i=none):∀ n,vAt W p base n=base
 | 0=>rfl
 | n+1=>by
  have:=vAt_none (W:=W) (p:=p) (base:=base) hW n
  simp only[vAt,hW,this]
  split<;>rfl
theorem phi_fin (os:List Oper) (l:List Stp) (s:S) (p:Nat->Bool) (n:Nat):∃ N,∀ j,N<=j->(phiS os l s p n).heap j=.no:=by
 obtain ⟨N,hN⟩:=wHp_fin l
 refine ⟨max N s.heap.length,λ j hj => ?_⟩
 show vAt (wHp l j) p (s.st.heap j) n=.no
 rw[vAt_none λ i=>hN j (by omega) i]
 show s.heap.getD j .no=.no
 simp[List.getElem?_eq_none (show s.heap.length<=j by omega)]
theorem mem_looksAt_op {ops:Array Oper} {o:Oper} {t:Nat} (h:Operand.tmp t ∈ o.op.operands):t ∈ o.looksAt ops:=by
 unfold Oper.looksAt
 exact List.mem_append_left _ (List.mem_filterMap.2 ⟨.tmp t,by simpa using h,rfl⟩)
theorem mem_looksAt_guard {ops:Array Oper} {o:Oper} {j d:Nat} {b:Bool} (hg:o.guard=some (j,b)) (h:(ops[j]?).bind (·.dst)=some d):d ∈ o.looksAt ops:=by
 unfold Oper.looksAt
 refine List.mem_append_right _ ?_
 rw[hg]
 simp only
 rw[h]
 simp
theorem Seq.drawn {P:Program} {nt:Nat} {ops:Array Oper} {s s':S} {l:List Stp} (h:Seq P nt ops.toList ops.toList s l s') (hok:drawOk ops.toList (feetOf l)=true)
  {C:Ctx} (hP:C.P=P) (hn:C.nt=nt) {Q:Exit->Act->World->Prop} (hQ:∀ a' w',RelX C s'.st a' w'->Q .normal a' w') :
  ∀ (fuel:Nat) (listed:Array Bool) (a:Act) (w:World),listed.size=ops.size->unl (λ i=>listed.getD i false) ops.size<=fuel →
   (∀ j o,ops.toList[j]? = some o->listed.getD j false=true->∀ e ∈ o.after,Region.binds .any e=true->listed.getD e.on false=true) →
   RelX C (phiS ops.toList l s (λ i=>listed.getD i false) ops.size) a w->wpAny P .any ops Q fuel listed a w:=by
 obtain ⟨h1,h2,h3,h4⟩:=h.spec
 have hst:=h.state
 simp only[drawOk,Bool.and_eq_true]at hok
 obtain ⟨hdown,hrows⟩:=hok
 have hlenT:ops.toList.length=ops.size:=by simp
 -- all is listed where nothing is ready
 have hall:∀ listed:Array Bool,listed.size=ops.size->Region.ready .any ops listed=[]->∀ j,j < ops.size->listed.getD j false=true:=by
  intro listed hsz hr j
  induction j using Nat.strongRecOn with
  | _ j ih =>
   intro hj
   apply Classical.byContradiction
   intro hn
   have:j ∈ Region.ready .any ops listed:=by
    refine mem_ready.2 ⟨?_,ops[j],Array.getElem?_eq_getElem hj,λ e he hb => ?_⟩
    ·have hjl:j < listed.size:=by omega
     simp only[Array.getD_eq_getD_getElem?,Array.getElem?_eq_getElem hjl,Option.getD_some]at hn ⊢
     simpa using hn
    ·have:=downAll_get hdown j ops[j] (by simp[hj]) e he hb
     exact ih e.on (by omega) (by omega)
   rw[hr]at this
   cases this
 have hend:∀ listed:Array Bool,(∀ j,j < ops.size->listed.getD j false=true)->phiS ops.toList l s (λ i=>listed.getD i false) ops.size=s'.st:=λ listed hl=>by
  rw[<-h3,hst _ (Nat.le_refl _),hlenT]
  simp only[phiS]
  congr 1
  ·funext t;exact vAt_congr λ j hj _=>hl j hj
  ·funext id;exact vAt_congr λ j hj _=>hl j hj
 intro fuel
 induction fuel with
 | zero =>
  intro listed a w hsz hu hcl hR
  have hl:=unl_zero (Nat.le_zero.1 hu)
  refine ⟨?_,hQ a w (by rw[<-hend listed hl];exact hR)⟩
  apply List.eq_nil_iff_forall_not_mem.2
  intro j hj
  obtain ⟨e1,o,e2,_⟩:=mem_ready.1 hj
  have hjl:j < ops.size:=(Array.getElem?_eq_some_iff.1 e2).1
  have:=hl j hjl
  have hjl':j < listed.size:=by omega
  simp only[Array.getD_eq_getD_getElem?,Array.getElem?_eq_getElem hjl',Option.getD_some]at e1 this
  rw[this]at e1
  cases e1
 | succ fuel ih =>
  intro listed a w hsz hu hcl hR
  refine ⟨λ hr=>hQ a w (by rw[<-hend listed (hall listed hsz hr)];exact hR),λ i hi => ?_⟩
  obtain ⟨e1,o,e2,e3⟩:=mem_ready.1 hi
  have hil:i < ops.size:=(Array.getElem?_eq_some_iff.1 e2).1
  have hil':i < listed.size:=by omega
  have hpi:listed.getD i false=false:=by
   simp only[Array.getD_eq_getD_getElem?,Array.getElem?_eq_getElem hil',Option.getD_some]at e1 ⊢
   exact e1
  have hoL:ops.toList[i]? = some o:=by simpa using e2
  obtain ⟨x,g1,g2,g3,g4,g5,g6⟩:=h4 i o hoL
  -- what is in conflict with this operation stands in order to it
  have hord:∀ j oj y,ops.toList[j]? = some oj->l[j]? = some y->j≠i->conf ops (if j < i then oj else o) (if j < i then o else oj) (if j < i then (y.A.rd,y.A.hp.map (·.1)) else (x.A.rd,x.A.hp.map (·.1))) (if j < i then (x.A.rd,x.A.hp.map (·.1)) else (y.A.rd,y.A.hp.map (·.1)))=true →
    (j < i->listed.getD j false=true)/\(i < j->listed.getD j false=false):=by
   intro j oj y hj hy hne hc
   have hfj:(feetOf l)[j]? = some (y.A.rd,y.A.hp.map (·.1)):=by simp[feetOf,hy]
   have hfi:(feetOf l)[i]? = some (x.A.rd,x.A.hp.map (·.1)):=by simp[feetOf,g1]
   have hjl:j < ops.size:=by have:=(List.getElem?_eq_some_iff.1 hj).1;omega
   have hml:=preT_length ops.toList []
   rcases Nat.lt_or_gt_of_ne hne with hlt|hlt
   ·rw[if_pos hlt,if_pos hlt,if_pos hlt,if_pos hlt]at hc
    refine ⟨λ _ => ?_,λ h=>by omega⟩
    have hmi:i < (preT ops.toList []).length:=by simp at hml;omega
    have hrow:=rowsOk_get hrows i o _ _ hoL hfi (List.getElem?_eq_getElem hmi)
    rcases rowOk_get hrow j oj _ (by rw[List.getElem?_take,if_pos (by omega)];exact hj) (by rw[List.getElem?_take,if_pos (by omega)];exact hfj) with hb|hb
    ·-- the closed set with this operation added
     have hcl':∀ k ok,ops.toList[k]? = some ok->(listed.getD k false || k==i)=true->∀ e ∈ ok.after,Region.binds .any e=true->(listed.getD e.on false || e.on==i)=true:=λ k ok hk hpk e he hbe=>by
      by_cases hki:k=i
      ·subst hki
       rw[hoL]at hk
       cases hk
       rw[e3 e he hbe];rfl
      ·have:listed.getD k false=true:=by simpa [hki] using hpk
       rw[hcl k ok hk this e he hbe];rfl
     have:=preT_sound (p:=λ k=>listed.getD k false || k==i) hcl' ops.toList [] rfl (λ j m hm=>by simp at hm) i _ (List.getElem?_eq_getElem hmi) (by simp) j (by simpa using hb)
     simpa [hne] using this
    ·have heta:ops.toList.toArray=ops:=by simp
     simp only[heta]at hb
     rw[hb]at hc;cases hc
   ·have hnlt:¬ j < i:=by omega
    rw[if_neg hnlt,if_neg hnlt,if_neg hnlt,if_neg hnlt]at hc
    refine ⟨λ h=>by omega,λ _ => ?_⟩
    have hmj:j < (preT ops.toList []).length:=by simp at hml;omega
    have hrow:=rowsOk_get hrows j oj _ _ hj hfj (List.getElem?_eq_getElem hmj)
    rcases rowOk_get hrow i o _ (by rw[List.getElem?_take,if_pos (by omega)];exact hoL) (by rw[List.getElem?_take,if_pos (by omega)];exact hfi) with hb|hb
    ·apply Classical.byContradiction
     intro hpj
     have hpj:listed.getD j false=true:=by simpa using hpj
     have:=preT_sound (p:=λ k=>listed.getD k false) hcl ops.toList [] rfl (λ j m hm=>by simp at hm) j _ (List.getElem?_eq_getElem hmj) hpj i (by simpa using hb)
     rw[hpi]at this
     cases this
    ·have heta:ops.toList.toArray=ops:=by simp
     simp only[heta]at hb
     rw[hb]at hc;cases hc
  have hordA:∀ j oj y,ops.toList[j]? = some oj->l[j]? = some y->j≠i->(conf ops oj o (y.A.rd,y.A.hp.map (·.1)) (x.A.rd,x.A.hp.map (·.1))=true/\conf ops o oj (x.A.rd,x.A.hp.map (·.1)) (y.A.rd,y.A.hp.map (·.1))=true) →
    (j < i->listed.getD j false=true)/\(i < j->listed.getD j false=false):=λ j oj y hj hy hne ⟨c1,c2⟩=>by
   refine hord j oj y hj hy hne ?_
   by_cases hlt:j < i
   ·simp only[if_pos hlt];exact c1
   ·simp only[if_neg hlt];exact c2
  -- slots
  have hslot:∀ t,(t ∈ o.looksAt ops\/o.dst=some t)->∀ j,wEnv ops.toList l t j≠none->j≠i->(j < i->listed.getD j false=true)/\(i < j->listed.getD j false=false):=by
   intro t ht j hj hne
   unfold wEnv at hj
   split at hj
   ·rename_i oj y hoj hy
    split at hj
    ·rename_i hdj
     refine hordA j oj y hoj hy hne ⟨?_,?_⟩
     ·rcases ht with ht|ht
      ·have:memS oj.dst (o.looksAt ops)=true:=by rw[hdj];simpa [memS] using ht
       simp[conf,this]
      ·have:memS oj.dst o.dst.toList=true:=by rw[hdj,ht];simp[memS]
       simp[conf,this]
     ·rcases ht with ht|ht
      ·have:memS oj.dst (o.looksAt ops)=true:=by rw[hdj];simpa [memS] using ht
       simp[conf,this]
      ·have:memS o.dst oj.dst.toList=true:=by rw[hdj,ht];simp[memS]
       simp[conf,this]
    ·exact absurd rfl hj
   ·exact absurd rfl hj
  have hblk:∀ id,(id ∈ x.A.rd\/id ∈ x.A.hp.map (·.1))->∀ j,wHp l id j≠none->j≠i->(j < i->listed.getD j false=true)/\(i < j->listed.getD j false=false):=by
   intro id hid j hj hne
   unfold wHp at hj
   split at hj
   ·rename_i y hy
    have hmem:=hpOf_mem hj
    have hjl:j < ops.toList.length:=by rw[<-h1];exact (List.getElem?_eq_some_iff.1 hy).1
    have any_of:∀ (a b:List Nat),id ∈ a->id ∈ b->anyIn a b=true:=λ a b ha hb=>by
     cases hc:anyIn a b with
     | true=>rfl
     | false=>exact absurd hb (anyIn_spec hc id ha)
    refine hordA j _ y (List.getElem?_eq_getElem hjl) hy hne ⟨?_,?_⟩
    ·rcases hid with hid|hid
     ·simp only[conf];rw[any_of _ _ hmem hid];simp
     ·simp only[conf];rw[any_of (List.map (·.1) y.A.hp) _ hmem hid];simp
    ·rcases hid with hid|hid
     ·simp only[conf];rw[any_of (List.map (·.1) y.A.hp) x.A.rd hmem hid];simp
     ·simp only[conf];rw[any_of (List.map (·.1) x.A.hp) (List.map (·.1) y.A.hp) hid hmem];simp
   ·exact absurd rfl hj
  have hxs:x.s.st=phiS ops.toList l s (λ _=>true) i:=by rw[g5];exact hst i (by omega)
  have henv:∀ t,t ∈ o.looksAt ops->(phiS ops.toList l s (λ i=>listed.getD i false) ops.size).env t=x.s.st.env t:=λ t ht=>by
   rw[hxs]
   exact vAt_read (by omega) (λ j hj hw=>(hslot t (.inl ht) j hw (by omega)).1 hj) (λ j hj hjn hw=>by
    by_cases he:j=i
    ·rw[he];exact hpi
    ·exact (hslot t (.inl ht) j hw he).2 (by omega))
  have hheap:∀ id,(id ∈ x.A.rd\/id ∈ x.A.hp.map (·.1))->(phiS ops.toList l s (λ i=>listed.getD i false) ops.size).heap id=x.s.st.heap id:=λ id hid=>by
   rw[hxs]
   exact vAt_read (by omega) (λ j hj hw=>(hblk id hid j hw (by omega)).1 hj) (λ j hj hjn hw=>by
    by_cases he:j=i
    ·rw[he];exact hpi
    ·exact (hblk id hid j hw he).2 (by omega))
  -- the next state
  let listed':=listed.setIfInBounds i true
  have hp':∀ j,listed'.getD j false=if j=i then true else listed.getD j false:=λ j=>by
   by_cases he:j=i
   ·subst he
    simp[listed',hil']
   ·rw[if_neg he]
    exact getD_set_ne false (Ne.symm he)
  have hnext:phiS ops.toList l s (λ i=>listed'.getD i false) ops.size=(phiS ops.toList l s (λ i=>listed.getD i false) ops.size).app o.dst x.A:=by
   rw[St.app_eq]
   simp only[phiS]
   congr 1
   ·funext t
    rw[vAt_pick hil hp' hpi (λ j hj hjn hwi hwj=>by
     have hdt:o.dst=some t:=by
      unfold wEnv at hwi
      rw[hoL,g1]at hwi
      simp only at hwi
      split at hwi
      ·assumption
      ·exact absurd rfl hwi
     exact (hslot t (.inr hdt) j hwj (by omega)).2 hj)]
    simp only[wEnv,hoL,g1]
    by_cases hd:o.dst=some t
    ·simp[hd]
    ·simp[hd]
   ·funext id
    rw[vAt_pick hil hp' hpi (λ j hj hjn hwi hwj=>by
     have hm:id ∈ x.A.hp.map (·.1):=by
      unfold wHp at hwi
      rw[g1]at hwi
      exact hpOf_mem hwi
     exact (hblk id (.inr hm) j hwj (by omega)).2 hj)]
    simp only[wHp,g1]
  have hgo:∀ a' w',RelX C ((phiS ops.toList l s (λ i=>listed.getD i false) ops.size).app o.dst x.A) a' w'->wpAny P .any ops Q fuel listed' a' w':=λ a' w' hR'=>by
   refine ih listed' a' w' (by simp[listed',hsz]) ?_ ?_ (by rw[hnext];exact hR')
   ·have:=unl_lt (p:=λ i=>listed.getD i false) (q:=λ i=>listed'.getD i false) (λ j hj=>by
     have hj:listed.getD j false=true:=hj
     show listed'.getD j false=true
     rw[hp'];split
     ·rfl
     ·exact hj) hpi (by show listed'.getD i false=true;rw[hp',if_pos rfl]) hil
    omega
   ·intro j oj hj hpj e he hb
    rw[hp']at hpj ⊢
    split
    ·rfl
    ·by_cases hji:j=i
     ·subst hji
      rw[hoL]at hj
      cases hj
      exact e3 e he hb
     ·rw[if_neg hji]at hpj
      exact hcl j oj hj hpj e he hb
  have hdn:∀ d,o.dst=some d->d < C.nt:=λ d hd=>by rw[hn];exact g2.lt hd
  obtain ⟨C',hC',ρ,R0⟩:=id hR
  have hw:=g3.wanted R0 (ops:=ops) (λ j b d hg hd=>henv d (mem_looksAt_guard (ops:=ops) hg (by rw[<-hd];simp))) rfl
  unfold wpOp
  rw[e2]
  simp only
  rw[hw]
  rcases g4 with ⟨hg,hA⟩|⟨hg,hA⟩
  ·rw[hg,if_pos rfl]
   refine .inl (hA C hP _ a w ⟨λ y hy => ?_,λ id hid=>hheap id (.inl hid),λ p hp hle => ?_,?_⟩ hR hdn _ Q hgo)
   ·cases y with
    | tmp t=>exact henv t (mem_looksAt_op hy)
    | const v=>rfl
    | global g=>rfl
    | func f=>rfl
   ·rw[hheap p.1 (.inr (List.mem_map_of_mem hp))]
    show (x.s.heap.getD p.1 .no)=.no
    simp[List.getElem?_eq_none hle]
   ·exact phi_fin ..
  ·rw[hg]
   simp only[Bool.false_eq_true,if_false]
   refine hgo _ w ?_
   rw[hA]
   exact RelX.skip hR hdn
end Go.Fm
namespace Go.Fm
variable [Globs]
open Classical
theorem DeepOk.re {w0 w0' w:World} {Sh O O':Nat->Prop} {ρ:Rho} {h:Nat->HS} {D:Nat->Nat->Option Nat} (H:DeepOk w0 Sh O ρ h w D)
  (ho:∀ id b k,h id=.deep b->Occ ρ D id k->(w0.heap.size<=k\/O k)->(w0'.heap.size<=k\/O' k)):DeepOk w0' Sh O' ρ h w D :=
 ⟨H.at_,λ id b k hb hk=>⟨(H.own id b k hb hk).1,(H.own id b k hb hk).2.1,ho id b k hb hk (H.own id b k hb hk).2.2⟩,H.apart,H.inj,H.one,H.out⟩
theorem shut {C:Ctx} {ρ:Rho} {φ:St} {a:Act} {w:World} (R:RelAt C ρ φ a w) {π:List Nat} {fuel:Nat} {rd:List Nat} {bs:List HS} (hnd:nodB π=true) (hb:lendH φ.heap π fuel π=some (rd,bs)) :
  ∃ (Sh2:Nat->Prop) (D:Nat->Nat->Option Nat),Lent w C.Sh ρ φ.heap π (λ _=>True) Sh2 (λ j=>(π[j]?).bind ρ) (hOf bs)/\HeapRel C.w0 Sh2 C.O (λ j=>(π[j]?).bind ρ) (hOf bs) w/\DeepOk C.w0 Sh2 C.O (λ j=>(π[j]?).bind ρ) (hOf bs) w D ∧
   (∀ k,C.Sh k->Sh2 k)/\(∀ k,Sh2 k->k < w.heap.size/\(C.Sh k\/C.w0.heap.size<=k\/C.O k))/\∀ j,j < π.length->hOf bs j≠.no:=by
 obtain ⟨hbl,hbm,hbg⟩:=lendH_some hb
 have hnd':=nodB_spec hnd
 obtain ⟨D,HD⟩:=R.hp.dp
 let Sh2:Nat->Prop:=λ k=>C.Sh k\/∃ id,id ∉ π/\Lies ρ φ.heap D id k
 obtain ⟨ρ2,hρ⟩:∃ ρ2:Rho,ρ2=λ j=>(π[j]?).bind ρ:=⟨_,rfl⟩
 rw[<-hρ]
 have hρ2:∀ (j id:Nat),π[j]? = some id->ρ2 j=ρ id:=λ j id hj=>by rw[hρ];show (π[j]?).bind ρ=ρ id;rw[hj];rfl
 have hbs:∀ j id,π[j]? = some id->∀ l,HLe (φ.heap id) l (hOf bs j) l:=λ j id hj l=>by
  rcases hbg j id hj with ⟨e1,e2⟩|⟨b,cs,r,e1,e2,e3,e4⟩|⟨b,cs,r,e1,e2,e3,e4⟩
  ·rw[e1,hOf_get e2];trivial
  ·rw[e1,hOf_get e2];exact ⟨rfl,rfl,rfl⟩
  ·rw[e1,hOf_get e2];exact ⟨rfl,rfl,rfl⟩
 have H:Lent w C.Sh ρ φ.heap π (λ _=>True) Sh2 ρ2 (hOf bs) :=
  ⟨R.hp.blk,λ k hk=>.inl hk,λ id b L e1 e2 _ e4=>.inr ⟨id,e2, .inl ⟨b,L,e1,e4,rfl⟩⟩,λ id b e1 e2 _=>⟨D id,HD.at_ id b e1,λ L hL=>.inr ⟨id,e2, .inr ⟨b,e1, .inl ⟨L,hL,rfl⟩⟩⟩,λ p k hp=>.inr ⟨id,e2, .inr ⟨b,e1, .inr ⟨p,hp⟩⟩⟩⟩,λ j id hj=>⟨hρ2 j id hj,λ _=>hbs j id hj _⟩⟩
 have hlive:∀ j b',hOf bs j=.live b'->∃ id b r,π[j]? = some id/\φ.heap id=.live b/\b'.sz=b.sz/\b'.n=b.n/\lendAll (lendC φ.heap π fuel) b.cs=some (r,b'.cs):=λ j b' hj=>by
  have hjl:=hOf_ne (l:=bs) (j:=j) (by rw[hj];simp)
  have hjl':j < π.length:=by omega
  rcases hbg j _ (List.getElem?_eq_getElem hjl') with ⟨e1,e2⟩|⟨b,cs,r,e1,e2,e3,e4⟩|⟨b,cs,r,e1,e2,e3,e4⟩
  ·rw[hOf_get e2]at hj;cases hj
  rotate_left 1
  ·rw[hOf_get e2]at hj;cases hj
  ·rw[hOf_get e2]at hj;cases hj;exact ⟨_,b,r,List.getElem?_eq_getElem hjl',e1,rfl,rfl,e3⟩
 have hdn:∀ id k,id ∈ π->Lies ρ φ.heap D id k->¬ Sh2 k:=λ id k hm hl h=>by
  rcases h with h|⟨id',h1,h2⟩
  ·exact (hl.own R.hp HD).2.1 h
  ·exact h1 (h2.inj hl R.hp HD▸hm)
 have HD2:DeepOk C.w0 Sh2 C.O ρ2 (hOf bs) w (dVia π D):=HD.lent H hb hnd' (λ _ _=>trivial) λ id b k hm e1 e2=>⟨hdn id k hm (.inr ⟨b,e1,e2⟩),(HD.own id b k e1 e2).2.2⟩
 refine ⟨Sh2,dVia π D,H,⟨λ j b' hj => ?_,λ j b' L hj hL => ?_,λ j j' b b' L L' hj hj' hL hL' he => ?_,_,HD2⟩,HD2,λ k hk=>.inl hk,λ k hk => ?_,λ j hj => ?_⟩
 ·obtain ⟨id,b,r,e0,e1,e2,e3,e4⟩:=hlive j b' hj
  have hB:=R.hp.blk id b e1
  unfold RB at hB ⊢
  rw[hρ2 j id e0]
  obtain ⟨g1,g2⟩:=lendAll_some e4
  cases hL:ρ id with
  | none =>
   rw[hL]at hB
   simp only at hB ⊢
   rw[hB.1]at g1
   exact ⟨List.eq_nil_of_length_eq_zero g1,by rw[e3];exact hB.2⟩
  | some L =>
   rw[hL]at hB
   simp only at hB ⊢
   refine ⟨by rw[g1,e2,e3];exact hB.1,by rw[g1];exact hB.2.1,by rw[e2];exact hB.2.2.1,λ i c' hc' => ?_⟩
   obtain ⟨c0,r0,f1,f2,f3⟩:=g2 i c' hc'
   obtain ⟨u,hu,hr⟩:=hB.2.2.2 i c0 f1
   exact ⟨u,hu,lendC_ok H fuel c0 c' r0 u f2 (λ y hy=>trivial) hr⟩
 ·obtain ⟨id,b,r,e0,e1,_⟩:=hlive j b' hj
  rw[hρ2 j id e0]at hL
  obtain ⟨g1,g2,g3⟩:=R.hp.own id b L e1 hL
  exact ⟨g1,hdn id _ (List.mem_of_getElem? e0) (.inl ⟨b,L,e1,hL,rfl⟩),g3⟩
 ·obtain ⟨id,b0,r,e0,e1,_⟩:=hlive j b hj
  obtain ⟨id',b0',r',e0',e1',_⟩:=hlive j' b' hj'
  rw[hρ2 j id e0]at hL
  rw[hρ2 j' id' e0']at hL'
  have:=R.hp.inj id id' b0 b0' L L' e1 e1' hL hL' he
  subst this
  exact hnd' j j' id e0 e0'
 ·rcases hk with hk|⟨id,e2,e3⟩
  ·exact ⟨R.sh_lt hk, .inl hk⟩
  ·obtain ⟨g1,g2,g3⟩:=e3.own R.hp HD
   exact ⟨g1, .inr g3⟩
 ·rcases hbg j _ (List.getElem?_eq_getElem hj) with ⟨e1,e2⟩|⟨b,cs,r,e1,e2,e3,e4⟩|⟨b,cs,r,e1,e2,e3,e4⟩
  ·rw[hOf_get e2];simp
  ·rw[hOf_get e2];simp
  ·rw[hOf_get e2];simp
def lendS (h:Nat->HS) (π:List Nat) (fuel:Nat):SV->Option SV
 | .pv p=>(lendP h π fuel p).map λ q=>.pv q.2
 | .tup ps=>(lendPs (lendP h π fuel) ps).map λ q=>.tup q.2
theorem lendS_ok {w:World} {Sh Sh':Nat->Prop} {ρ ρ':Rho} {h h':Nat->HS} {π:List Nat} (H:Lent w Sh ρ h π (λ _=>True) Sh' ρ' h')
  {f:Nat} {p p':SV} {v:Value} (hl:lendS h π f p=some p') (hv:RSV w Sh ρ h v p):RSV w Sh' ρ' h' v p':=by
 cases p with
 | pv p =>
  obtain ⟨q,hq,rfl⟩:=Option.map_eq_some_iff.1 hl
  exact lendP_ok H (p':=q.2) (rd:=q.1) hq (λ _ _=>trivial) hv
 | tup ps =>
  obtain ⟨q,hq,rfl⟩:=Option.map_eq_some_iff.1 hl
  obtain ⟨h1,h2⟩:=lendPs_some (cs':=q.2) (rd:=q.1) hq
  obtain ⟨vs,rfl,hlen,hp⟩:=hv
  refine ⟨vs,rfl,by omega,λ i c' hc => ?_⟩
  obtain ⟨c,r,e1,e2,e3⟩:=h2 i c' hc
  obtain ⟨u,hu,hr⟩:=hp i c e1
  exact ⟨u,hu,lendP_ok H e2 (λ _ _=>trivial) hr⟩
def lendE (h:Nat->HS) (π:List Nat) (fuel:Nat) (env:List (Nat×SV)):List Nat->Option (List (Nat×SV))
 | []=>some []
 | t::r=>match lendS h π fuel (lk env t) with
  | none=>none
  | some v=>match lendE h π fuel env r with
   | none=>none
   | some e=>some ((t,v)::e)
def preK:Nat->List Nat->Nat->Bool
 | 0,_,_=>true
 | k+1,i::r,j=>i==j&&preK k r (j+1)
 | _+1,[],_=>false
theorem preK_get:∀ {k:Nat} {π:List Nat} {j:Nat},preK k π j=true->∀ i,i < k->π[i]? = some (j+i)
 | 0,_,_,_,i,hi=>by omega
 | k+1,x::r,j,h,i,hi=>by
  simp only[preK,Bool.and_eq_true,beq_iff_eq]at h
  cases i with
  | zero=>simp[h.1]
  | succ i =>
   have:=preK_get h.2 i (by omega)
   simp only[List.getElem?_cons_succ,this]
   congr 1
   omega
 | k+1,[],j,h,i,hi=>by cases h
def normS (k0:Nat) (ks:List Nat) (π:List Nat) (fuel:Nat) (s:S):Option S :=
 if (nodB π&&preK k0 π 0)=true then
  match lendE (hOf s.heap) π fuel s.env ks with
  | none=>none
  | some e=>match lendH (hOf s.heap) π fuel π with
   | none=>none
   | some (_,bs)=>some ⟨e,bs⟩
 else none
def Weak (k0:Nat) (s s':S):Prop:=∀ (C:Ctx) (a:Act) (w:World),C.k0=k0->RelX C s.st a w->RelX C s'.st a w
theorem Weak.refl (k0:Nat) (s:S):Weak k0 s s:=λ _ _ _ _ h=>h
theorem Weak.trans {k0:Nat} {s s' s'':S} (h:Weak k0 s s') (h':Weak k0 s' s''):Weak k0 s s'':=λ C a w hk hr=>h' C a w hk (h C a w hk hr)
theorem lendE_get {h:Nat->HS} {π:List Nat} {fuel:Nat} {env:List (Nat×SV)}:∀ {ks:List Nat} {e:List (Nat×SV)},lendE h π fuel env ks=some e →
  ∀ t,lendS h π fuel (lk env t)=some (lk e t)\/lk e t=one .dead
 | [],e,he,t=>by cases he;exact .inr rfl
 | k::r,e,he,t=>by
  unfold lendE at he
  cases hv:lendS h π fuel (lk env k) with
  | none=>rw[hv]at he;cases he
  | some v =>
   rw[hv]at he
   simp only at he
   cases hr:lendE h π fuel env r with
   | none=>rw[hr]at he;cases he
   | some e' =>
    rw[hr]at he
    cases he
    simp only[lk]
    split
    ·rename_i hk;subst hk;exact .inl hv
    ·exact lendE_get hr t
theorem weak_norm {k0:Nat} {ks π:List Nat} {fuel:Nat} {s s':S} (h:normS k0 ks π fuel s=some s'):Weak k0 s s':=by
 intro C a w hk ⟨C1,hreb,ρ,R⟩
 unfold normS at h
 split at h
 ·rename_i hc
  simp only[Bool.and_eq_true]at hc
  split at h
  ·cases h
  ·rename_i e he
   split at h
   ·cases h
   ·rename_i rd bs hb
    cases h
    obtain ⟨Sh2,D,H,HR,HD,hsh1,hsh2,hno⟩:=shut R hc.1 hb
    let O3:Nat->Prop:=λ k=>∃ j,Lies (λ j=>(π[j]?).bind ρ) (hOf bs) D j k
    let C3:Ctx:={ P:=C1.P,w0:=w,Sh:=Sh2,O:=O3,rho0:=C1.rho0,k0:=C1.k0,nt:=C1.nt,old:=λ k hk=>⟨(hsh2 k hk).1,λ ⟨j,e1⟩=>(e1.own HR HD).2.1 hk⟩,gl:=λ g cs hg=>(C1.gl g cs hg).mono λ k hk=>⟨hsh1 k hk,R.fr.keep k (C1.old k hk).1 (C1.old k hk).2⟩ }
    refine ⟨C3,hreb.trans ⟨rfl,rfl,rfl,rfl,R.fr,λ k ⟨j,e1⟩=>(e1.own HR HD).2.2,hsh1,λ k hk=>(hsh2 k hk).2⟩,λ j=>(π[j]?).bind ρ,?_⟩
    refine ⟨R.defers,R.nt,λ t => ?_,⟨HR.blk,λ j b L e1 e2=>⟨(HR.own j b L e1 e2).1,(HR.own j b L e1 e2).2.1, .inr ⟨j, .inl ⟨b,L,e1,e2,rfl⟩⟩⟩,HR.inj,D,HD.re λ j b k e1 e2 _=>.inr ⟨j, .inr ⟨b,e1,e2⟩⟩⟩,λ id hid => ?_, .refl _ _⟩
    ·rcases lendE_get he t with h1|h1
     ·exact lendS_ok H h1 (R.env t)
     ·show RSV w Sh2 _ (hOf bs) _ (lk e t)
      rw[h1];trivial
    ·have hid':id < k0:=by rw[<-hk,<-hreb.k0];exact hid
     have hπ:=preK_get hc.2 id hid'
     simp only[Nat.zero_add]at hπ
     refine ⟨hno id (List.getElem?_eq_some_iff.1 hπ).1,?_⟩
     show (π[id]?).bind ρ=C1.rho0 id
     rw[hπ]
     exact (R.init id hid).2
 ·cases h
inductive Ex where
 | normal
 | exit (id:Nat)
 | ret
def Ex.of:Ex->Exit
 | .normal=>.normal
 | .exit id=>.exit id
 | .ret=>.ret
def Runs (P:Program) (nt k0:Nat) (c:Code) (s:S) (e:Ex) (s':S):Prop :=
 ∀ (C:Ctx),C.P=P->C.nt=nt->C.k0=k0->∀ a w,RelX C s.st a w->c.wp P (λ e' a' w'=>e'=e.of/\RelX C s'.st a' w') a w
def W (P:Program) (nt k0:Nat) (c:Code) (s:S) (Q:Ex->S->Prop):Prop:=P.follows .mixedOrders=true->∃ e s',Runs P nt k0 c s e s'/\Q e s'
section
variable {P:Program} {nt k0:Nat} {s:S} {Q Q':Ex->S->Prop}
theorem W.mono {c:Code} (h:W P nt k0 c s Q) (hq:∀ e s,Q e s->Q' e s):W P nt k0 c s Q':=λ hm=>by
 obtain ⟨e,s',h1,h2⟩:=h hm
 exact ⟨e,s',h1,hq e s' h2⟩
theorem W.weak {c:Code} {s':S} (hw:Weak k0 s s') (h:W P nt k0 c s' Q):W P nt k0 c s Q:=λ hm=>by
 obtain ⟨e,s2,h1,h2⟩:=h hm
 exact ⟨e,s2,λ C hP hn hk a w R=>h1 C hP hn hk a w (hw C a w hk R),h2⟩
theorem W.skip (h:Q .normal s):W P nt k0 .skip s Q:=λ _=>⟨.normal,s,λ C _ _ _ a w R=>wp_skip ⟨rfl,R⟩,h⟩
theorem W.exit {id:Nat} (h:Q (.exit id) s):W P nt k0 (.exit id) s Q:=λ _=>⟨.exit id,s,λ C _ _ _ a w R=>wp_exit ⟨rfl,R⟩,h⟩
theorem W.ret (h:Q .ret s):W P nt k0 .ret s Q:=λ _=>⟨.ret,s,λ C _ _ _ a w R=>wp_ret ⟨rfl,R⟩,h⟩
def kSeq (e:Ex) (A B:Unit->Prop):Prop:=match e with | .normal=>A () | .exit _=>B () | .ret=>B ()
theorem W.seq {x y:Code} (h:W P nt k0 x s λ e s1=>kSeq e (λ _=>W P nt k0 y s1 Q) (λ _=>Q e s1)):W P nt k0 (.seq x y) s Q:=λ hm=>by
 obtain ⟨e,s1,h1,h2⟩:=h hm
 cases e with
 | normal =>
  obtain ⟨e2,s2,h3,h4⟩:=h2 hm
  refine ⟨e2,s2,λ C hP hn hk a w R=>wp_seq (wp_mono (h1 C hP hn hk a w R) λ e' a' w' ⟨he,R'⟩ => ?_),h4⟩
  subst he
  exact h3 C hP hn hk a' w' R'
 | exit id =>
  refine ⟨.exit id,s1,λ C hP hn hk a w R=>wp_seq (wp_mono (h1 C hP hn hk a w R) λ e' a' w' ⟨he,R'⟩ => ?_),h2⟩
  subst he
  exact ⟨rfl,R'⟩
 | ret =>
  refine ⟨.ret,s1,λ C hP hn hk a w R=>wp_seq (wp_mono (h1 C hP hn hk a w R) λ e' a' w' ⟨he,R'⟩ => ?_),h2⟩
  subst he
  exact ⟨rfl,R'⟩
theorem W.cond {c:Operand} {x y:Code} {b:Bool} (hb:s.st.ev c=one (.bool b)) (h:W P nt k0 (if b then x else y) s Q):W P nt k0 (.cond c x y) s Q:=λ hm=>by
 obtain ⟨e,s1,h1,h2⟩:=h hm
 refine ⟨e,s1,λ C hP hn hk a w R=>wp_cond (t:=b) ?_ (h1 C hP hn hk a w R),h2⟩
 obtain ⟨C',_,ρ,R0⟩:=R
 have:=R0.ev c
 rw[hb]at this
 exact this.bool
def kBlock (id:Nat) (e:Ex) (A B:Unit->Prop):Prop:=match e with | .normal=>A () | .exit i=>(match Nat.beq i id with|true=>A ()|false=>B ()) | .ret=>B ()
theorem W.block {id:Nat} {c:Code} (h:W P nt k0 c s λ e s1=>kBlock id e (λ _=>Q .normal s1) (λ _=>Q e s1)):W P nt k0 (.block id c) s Q:=λ hm=>by
 obtain ⟨e,s1,h1,h2⟩:=h hm
 cases e with
 | normal =>
  refine ⟨.normal,s1,λ C hP hn hk a w R=>wp_block (wp_mono (h1 C hP hn hk a w R) λ e' a' w' ⟨he,R'⟩ => ?_),h2⟩
  subst he
  exact ⟨rfl,R'⟩
 | exit i =>
  simp only[kBlock]at h2
  by_cases hi:i=id
  ·rw[show Nat.beq i id=true from Nat.beq_eq▸hi]at h2
   refine ⟨.normal,s1,λ C hP hn hk a w R=>wp_block (wp_mono (h1 C hP hn hk a w R) λ e' a' w' ⟨he,R'⟩ => ?_),h2⟩
   subst he
   simp only[Ex.of,Exit.inBlock,if_pos hi]
   exact ⟨trivial,R'⟩
  ·rw[show Nat.beq i id=false from Bool.eq_false_iff.2 λ h=>hi (Nat.eq_of_beq_eq_true h)]at h2
   refine ⟨.exit i,s1,λ C hP hn hk a w R=>wp_block (wp_mono (h1 C hP hn hk a w R) λ e' a' w' ⟨he,R'⟩ => ?_),h2⟩
   subst he
   simp only[Ex.of,Exit.inBlock,if_neg hi]
   exact ⟨trivial,R'⟩
 | ret =>
  refine ⟨.ret,s1,λ C hP hn hk a w R=>wp_block (wp_mono (h1 C hP hn hk a w R) λ e' a' w' ⟨he,R'⟩ => ?_),h2⟩
  subst he
  exact ⟨rfl,R'⟩
inductive Fin (P:Program) (nt k0:Nat) {α:Type} (st:α->S) (c:Code):α->Ex->S->Prop where
 | stop (x:α) (e:Ex) (s':S) (h:Runs P nt k0 c (st x) e s') (he:e≠.normal):Fin P nt k0 st c x e s'
 | go (x x':α) (e:Ex) (s1 s':S) (h:Runs P nt k0 c (st x) .normal s1) (hw:Weak k0 s1 (st x')) (hf:Fin P nt k0 st c x' e s'):Fin P nt k0 st c x e s'
theorem Fin.run {α:Type} {st:α->S} {c:Code} {x:α} {e:Ex} {s':S} (h:Fin P nt k0 st c x e s'):∀ (C:Ctx),C.P=P->C.nt=nt->C.k0=k0->∀ a w,RelX C (st x).st a w →
  ∀ (b:Frame) (k:List Item) (cs:List Frame),∃ e' a' w',(e'=e.of/\RelX C s'.st a' w')/\Arrives P (lone (b.at a (.code c::.inLoop c::k)) cs w) b k cs e' a' w':=by
 induction h with
 | stop x e s' h he =>
  intro C hP hn hk a w R b k cs
  obtain ⟨e1,a1,w1,⟨rfl,R1⟩,harr⟩:=h C hP hn hk a w R b (.inLoop c::k) cs
  refine ⟨_,a1,w1,⟨rfl,R1⟩,?_⟩
  cases e with
  | normal=>exact absurd rfl he
  | exit id=>exact .pass (x:=.inLoop c) rfl (λ _ _=>.inl (by simp[Ex.of])) harr
  | ret=>exact .pass (x:=.inLoop c) rfl (λ _ _=>.inl (by simp[Ex.of])) harr
 | go x x' e s1 s' h hw hf ih =>
  intro C hP hn hk a w R b k cs
  obtain ⟨e1,a1,w1,⟨rfl,R1⟩,harr⟩:=h C hP hn hk a w R b (.inLoop c::k) cs
  obtain ⟨e2,a2,w2,hq,harr2⟩:=ih C hP hn hk a1 w1 (hw C a1 w1 hk R1) b k cs
  exact ⟨e2,a2,w2,hq, .of_steps (Steps.trans harr (.one step_inLoop)) harr2⟩
theorem W.loop {α:Type} (st:α->S) (Inv:α->Prop) (μ:α->Nat) {c:Code} (x0:α) (hw:Weak k0 s (st x0)) (h0:Inv x0)
  (step:∀ x,Inv x->W P nt k0 c (st x) λ e s'=>kSeq e (λ _=>∃ x',Inv x'/\μ x' < μ x/\Weak k0 s' (st x')) (λ _=>Q e s')):W P nt k0 (.loop c) s Q:=λ hm=>by
 have key:∀ n x,μ x=n->Inv x->∃ e s',Fin P nt k0 st c x e s'/\Q e s':=by
  intro n
  induction n using Nat.strongRecOn with
  | _ n ih =>
   intro x hn hI
   obtain ⟨e,s1,h1,h2⟩:=step x hI hm
   cases e with
   | normal =>
    obtain ⟨x',hI',hlt,hw'⟩:=h2
    obtain ⟨e,s',hf,hq⟩:=ih (μ x') (hn▸hlt) x' rfl hI'
    exact ⟨e,s', .go x x' e s1 s' h1 hw' hf,hq⟩
   | exit id=>exact ⟨_,s1, .stop x _ s1 h1 (by simp),h2⟩
   | ret=>exact ⟨_,s1, .stop x _ s1 h1 (by simp),h2⟩
 obtain ⟨e,s',hf,hq⟩:=key _ x0 rfl h0
 refine ⟨e,s',λ C hP hn hk a w R b k cs => ?_,hq⟩
 obtain ⟨e',a',w',hq,harr⟩:=hf.run C hP hn hk a w (hw C a w hk R) b k cs
 exact ⟨e',a',w',hq, .of_steps (.one step_loop) harr⟩
class Kx where
 go:Ex->S->Prop
structure loopT (P:Unit->Program) (nt k0:Nat) (c:Code) (s:S) [Q:Kx]:Prop where
 get:W (P ()) nt k0 (.loop c) s Q.go
end
end Go.Fm
namespace Go.Fm
variable [Globs]
open Classical
def zipE:Nat->List PV->List (Nat×SV)
 | _,[]=>[]
 | i,p::r=>(i, .pv p)::zipE (i+1) r
theorem lk_zipE:∀ (ps:List PV) (i t:Nat),lk (zipE i ps) t=if i<=t then (match ps[t-i]? with|some p=>.pv p|none=>one .dead) else one .dead
 | [],i,t=>by simp[zipE,lk]
 | p::r,i,t=>by
  simp only[zipE,lk]
  by_cases h:i=t
  ·subst h;simp
  ·rw[if_neg h,lk_zipE r]
   by_cases h2:i<=t
   ·have h3:i+1<=t:=by omega
    rw[if_pos h2,if_pos h3]
    have:t-i=(t-(i+1))+1:=by omega
    rw[this,List.getElem?_cons_succ]
   ·have h3:¬ i+1<=t:=by omega
    rw[if_neg h2,if_neg h3]
def resL (T:TypeId->TyI) (h:Nat->HS) (env:List (Nat×SV)):List ResultVar->Option (List PV)
 | []=>some []
 | .tmp t::r=>match lk env t with
  | .pv p=>(resL T h env r).map (p::·)
  | _=>none
 | .cell a t::r=>match lk env a with
  | .pv (.one (.ptr id off))=>(match h id,(T t).size,(T t).agg with
   | .live b,some size,some g=>if off+size<=b.cs.length/\(g=false->size=1) then (resL T h env r).map (pvOf g ((b.cs.drop off).take size)::·) else none
   | _,_,_=>none)
  | _=>none
def resF (T:TypeId->TyI) (h:Nat->HS) (env:List (Nat×SV)) (l:List ResultVar):Option SV:=match resL T h env l with
 | some [p]=>some (.pv p)
 | some ps=>some (.tup ps)
 | none=>none
def Ans (P:Program) (f:FuncId) (ps:List PV) (bs:List HS) (K:SV->List HS->Prop):Prop:=P.follows .mixedOrders=true->∃ r h1,Meets P f ps bs r h1/\K r h1
theorem Ans.mono {P:Program} {f:FuncId} {ps:List PV} {bs:List HS} {K K':SV->List HS->Prop} (h:Ans P f ps bs K) (hk:∀ r h,K r h->K' r h):Ans P f ps bs K':=λ hm=>by
 obtain ⟨r,h1,e1,e2⟩:=h hm
 exact ⟨r,h1,e1,hk r h1 e2⟩
def getRes (tmps:Array Value):ResultVar->Sem Value
 | .tmp t=>pure (tmps.getD t undef)
 | .cell a t=>do loadVar t (← asAddr (tmps.getD a undef))
theorem results_eq (fn:Func) (tmps:Array Value):results fn tmps=(do let vs ← fn.results.mapM (getRes tmps);pure (if h:vs.size=1 then vs[0] else .tuple vs)):=by
 unfold results
 congr 1
theorem run_resL {P:Program} {w:World} {Sh:Nat->Prop} {ρ:Rho} {h:Nat->HS} {env:List (Nat×SV)} {tmps:Array Value} (he:∀ t,RSV w Sh ρ h (tmps.getD t undef) (lk env t)) (hB:∀ id b,h id=.live b->RB w Sh ρ h id b) :
  ∀ {l:List ResultVar} {ps:List PV},resL (tiOf P) h env l=some ps->∃ vs:List Value,
   (l.mapM (getRes tmps)).run P w=.ok vs w/\vs.length=ps.length ∧
   ∀ (i:Nat) (p:PV),ps[i]? = some p->∃ u:Value,vs[i]? = some u/\RPV w Sh ρ h u p
 | [],ps,hl=>by cases hl;exact ⟨[],by simp,rfl,λ i p hp=>by simp at hp⟩
 | .tmp t::r,ps,hl=>by
  unfold resL at hl
  cases ht:lk env t with
  | tup l=>rw[ht]at hl;cases hl
  | pv p =>
   rw[ht]at hl
   obtain ⟨ps',hps,rfl⟩:=Option.map_eq_some_iff.1 hl
   obtain ⟨vs,e1,e2,e3⟩:=run_resL (P:=P) he hB hps
   have h0:=he t
   rw[ht]at h0
   refine ⟨tmps.getD t undef::vs,?_,by simp[e2],λ i q hq => ?_⟩
   ·simp only[List.mapM_cons,getRes,Sem.run_bind,Sem.run_pure,Result.andThen_ok,e1]
   ·cases i with
    | zero=>simp at hq;subst hq;exact ⟨_,rfl,h0⟩
    | succ i=>simpa using e3 i q (by simpa using hq)
 | .cell a t::r,ps,hl=>by
  unfold resL at hl
  split at hl
  ·rename_i id off ha
   split at hl
   ·rename_i b size g hid hsz hag
    split at hl
    ·rename_i hc
     obtain ⟨ps',hps,rfl⟩:=Option.map_eq_some_iff.1 hl
     obtain ⟨vs,e1,e2,e3⟩:=run_resL (P:=P) he hB hps
     have h0:=he a
     rw[ha]at h0
     obtain ⟨L,hL,hv⟩:=RSV.ptr h0 hid
     have hrb:=hB id b hid
     unfold RB at hrb
     rw[hL]at hrb
     obtain ⟨q1,q2,q3,q4⟩:=hrb
     obtain ⟨v,hrun,hr⟩:=load_run (P:=P) hsz hag hc.2 (w:=w) (Sh:=Sh) (ρ:=ρ) (h:=h) L.b (L.o+off) ((b.cs.drop off).take size) (by simp;omega) (λ j c hj=>by
      rw[List.getElem?_take]at hj
      split at hj
      ·rw[List.getElem?_drop]at hj
       rw[Nat.add_assoc]
       exact q4 _ c hj
      ·cases hj)
     refine ⟨v::vs,?_,by simp[e2],λ i q hq => ?_⟩
     ·simp only[List.mapM_cons,getRes,hv,asAddr,Sem.run_bind,Sem.run_pure,Result.andThen_ok,hrun,e1]
     ·cases i with
      | zero=>simp at hq;subst hq;exact ⟨_,rfl,hr⟩
      | succ i=>simpa using e3 i q (by simpa using hq)
    ·cases hl
   ·cases hl
  ·cases hl
theorem ans_extern {P:Program} {f:FuncId} {fn:Func} {e:Array Value->Sem Value} {ps:List PV} {r:SV} (hf:P.funcs[f]? = some fn) (hname:(fn.name == "runtime.NumGoroutine")=false)
  (hb:fn.body.isNone=true) (hn:Extern.findNext fn=none) (he:Extern.find fn=some e)
  (h:∀ (C:Ctx) (vs:List Value),vs.length=ps.length->(∀ (i:Nat) (p:PV),ps[i]? = some p->∃ u:Value,vs[i]? = some u/\RPV C.w0 C.Sh C.rho0 (hOf []) u p) →
   ∃ v,(e vs.toArray).run P C.w0=.ok v C.w0/\RSV C.w0 C.Sh C.rho0 (hOf []) v r):Ans P f ps [] λ r' h1=>r'=r/\h1=[]:=λ _ =>
 ⟨r,[],λ C vs hP hk hlen hargs hheap hno=>by
  obtain ⟨v,h1,h2⟩:=h C vs hlen hargs
  unfold Serves
  rw[run_callFunc_extern hf hname hb hn he,h1]
  exact ⟨C.rho0,C.Sh,hheap,h2,λ id hid=>absurd hid (Nat.not_lt_zero _), .refl _ _,λ _ h=>h,λ k hk=>⟨(C.old k hk).1, .inl hk⟩⟩,rfl,rfl⟩
end Go.Fm
namespace Go.Fm
variable [Globs]
@[congr] theorem kI_congr {x y:SV} {K:IntKind->Int->Prop} (h:x=y):SV.kI x K=SV.kI y K:=by rw[h]
@[congr] theorem kB_congr {x y:SV} {K:Bool->Prop} (h:x=y):SV.kB x K=SV.kB y K:=by rw[h]
@[congr] theorem kS_congr {x y:SV} {K:List UInt8->Prop} (h:x=y):SV.kS x K=SV.kS y K:=by rw[h]
@[congr] theorem kA_congr {x y:SV} {K:List CV->Prop} (h:x=y):SV.kA x K=SV.kA y K:=by rw[h]
@[congr] theorem kT_congr {x y:SV} {K:List PV->Prop} (h:x=y):SV.kT x K=SV.kT y K:=by rw[h]
@[congr] theorem kC_congr {x y:SV} {K:List CV->Prop} (h:x=y):SV.kC x K=SV.kC y K:=by rw[h]
@[congr] theorem kPtrI_congr {x y:SV} {K:Kp} (h:x=y) : @kPtrI x K = @kPtrI y K:=by rw[h]
@[congr] theorem kSlI_congr {x y:SV} {K:Ks} (h:x=y) : @kSlI x K = @kSlI y K:=by rw[h]
section
variable {φ:St} {T:TypeId->TyI}
end
end Go.Fm
namespace Go.Fm
variable [Globs]
theorem Ans.calls {P:Program} {f:FuncId} {fn:Func} {ps:List PV} {K:SV->List HS->Prop} (h:Ans P f ps [] K) (hm:P.follows .mixedOrders=true)
  (hf:P.funcs[f]? = some fn) (hb:fn.body.isSome=true) (hname:(fn.name == "runtime.NumGoroutine")=false) {W:World} {vs:List Value} (hl:vs.length=ps.length)
  (ha:∀ (i:Nat) (p:PV),ps[i]? = some p->∃ u:Value,vs[i]? = some u/\RPV W (λ k=>k < W.heap.size) (λ _=>none) (hOf []) u p) (hK:∀ r h,K r h->r=one (.bool true))
  (hg:∀ g cs,Globs.tab g=some cs->TabAt W (λ k=>k < W.heap.size) g cs) :
  Calls P f vs.toArray W λ e W'=>e=.returned (.bool true)/\Go.RowKit.Below W.heap.size W W':=by
 obtain ⟨r,h1,hmeets,hk⟩:=h hm
 have hr:=hK r h1 hk
 subst hr
 let C:Ctx:={ P:=P,w0:=W,Sh:=λ k=>k < W.heap.size,O:=λ _=>False,rho0:=λ _=>none,k0:=0,nt:=0,old:=λ k hk=>⟨hk,λ h=>h⟩,gl:=hg }
 have hs:=hmeets C vs rfl rfl hl ha ⟨λ id b hb=>by simp[hOf]at hb,λ id b L hb=>by simp[hOf]at hb,λ id id' b b' L L' hb=>by simp[hOf]at hb,_, .none λ id b hb=>by simp[hOf]at hb⟩ (λ id hid=>absurd hid (Nat.not_lt_zero _))
 obtain ⟨c,hc⟩:=Option.isSome_iff_exists.1 hb
 have hcall:(callFunc f vs.toArray).run P W=.ok (.enter f vs.toArray) W:=by
  have hne:¬ fn.name = "runtime.NumGoroutine" := by simpa using hname
  simp[callFunc,Sem.run_bind,hf,hne,hc]
 unfold Serves at hs
 rw[show C.w0=W from rfl,hcall]at hs
 refine Calls.mono hs λ e W' he => ?_
 cases e with
 | panicked ch=>exact he.elim
 | outgrown=>exact he.elim
 | returned v =>
  obtain ⟨ρ',Sh',_,hv,_,hfr,_⟩:=he
  obtain rfl:=RSV.bool hv
  exact ⟨rfl,hfr.os,hfr.tape,hfr.output,hfr.size,λ k hk=>hfr.keep k hk (λ h=>h)⟩
end Go.Fm
namespace Go.Fm
variable [Globs]
open Classical
inductive Sh1 where
 | int (k:IntKind)
 | bool
 | str
 | sl (es:List Sh1)
inductive CTy:Sh1->CV->Prop where
 | int (k:IntKind) (n:Int) (h:(Lit.int k n).wf=true):CTy (.int k) (.int k n)
 | bool (b:Bool):CTy .bool (.bool b)
 | str (l:List UInt8) (h:l.length<=maxLen):CTy .str (.str l)
 | sl (es:List Sh1) (n:Nat) (cs:List CV) (hl:cs.length=n*es.length) (hn:n<=maxLen)
   (h:∀ i j s c,i < n->es[j]? = some s->cs[i*es.length+j]? = some c->CTy s c):CTy (.sl es) (.imm es.length n cs)
def fieldsT (P:Program) (g:TypeId->Option (List Sh1)):List Field->Nat->Option (List Sh1)
 | [],_=>some []
 | d::r,o=>if d.offset=o then
   (match g d.type with
   | some ss=>if P.cellsOf d.type=ss.length then (fieldsT P g r (o+ss.length)).map (ss++·) else none
   | none=>none) else none
def shapeT (P:Program):Nat->TypeId->Option (List Sh1)
 | 0,_=>none
 | f+1,t=>match P.underlying t with
  | some (.int k)=>some [.int k]
  | some .bool=>some [.bool]
  | some .string=>some [.str]
  | some (.slice e)=>(match shapeT P f e with
   | some es=>if P.cellsOf e=es.length/\0 < es.length then some [.sl es] else none
   | none=>none)
  | some (.struct fs)=>(match fieldsT P (shapeT P f) fs.toList 0 with
   | some ss=>if P.cellsOf t=ss.length then some ss else none
   | none=>none)
  | _=>none
theorem mapM_some_get {α β:Type} {f:α->Option β}:∀ {l:List α} {ys:List β},l.mapM f=some ys->ys.length=l.length/\∀ (i:Nat) (x:α),l[i]? = some x->∃ y,ys[i]? = some y/\f x=some y
 | [],ys,h=>by
  simp at h
  subst h
  exact ⟨rfl,λ i x hx=>by simp at hx⟩
 | a::l,ys,h=>by
  rw[List.mapM_cons]at h
  cases ha:f a with
  | none=>simp[ha]at h
  | some y =>
   cases hl:l.mapM f with
   | none=>simp[ha,hl]at h
   | some zs =>
    simp[ha,hl]at h
    subst h
    obtain ⟨h1,h2⟩:=mapM_some_get hl
    refine ⟨by simp[h1],λ i x hx => ?_⟩
    cases i with
    | zero=>simp at hx;subst hx;exact ⟨y,rfl,ha⟩
    | succ i=>simpa using h2 i x (by simpa using hx)
def Opens (W:World) (vs:List Value) (ss:List Sh1):Prop :=
 vs.length=ss.length/\∃ cs:List CV,cs.length=ss.length/\∀ (i:Nat) (u:Value),vs[i]? = some u->∃ c s,cs[i]? = some c/\ss[i]? = some s/\RI W (λ k=>k < W.heap.size) u c/\CTy s c
theorem Opens.one {W:World} {u:Value} {c:CV} {s:Sh1} (h:RI W (λ k=>k < W.heap.size) u c) (ht:CTy s c):Opens W [u] [s] :=
 ⟨rfl,[c],rfl,λ i v hv=>by
  cases i with
  | zero=>simp at hv;subst hv;exact ⟨c,s,rfl,rfl,h,ht⟩
  | succ i=>simp at hv⟩
theorem Opens.append {W:World} {vs ws:List Value} {ss ts:List Sh1} (h1:Opens W vs ss) (h2:Opens W ws ts):Opens W (vs++ws) (ss++ts):=by
 obtain ⟨a1,cs,a2,a3⟩:=h1
 obtain ⟨b1,ds,b2,b3⟩:=h2
 refine ⟨by simp[a1,b1],cs++ds,by simp[a2,b2],λ i u hu => ?_⟩
 by_cases hi:i < vs.length
 ·rw[List.getElem?_append_left hi]at hu
  rw[List.getElem?_append_left (by omega),List.getElem?_append_left (by omega)]
  exact a3 i u hu
 ·have hi:=Nat.le_of_not_lt hi
  rw[List.getElem?_append_right hi]at hu
  rw[List.getElem?_append_right (by omega),List.getElem?_append_right (by omega),show i-cs.length=i-vs.length by omega,show i-ss.length=i-vs.length by omega]
  exact b3 _ u hu
section
variable {H:Type} {enc:TypeId×Value->H} {P:Program} {W:World} {spare:Nat->Bool} {held:Bool}
theorem fields_opens {g:TypeId->Option (List Sh1)} {vs:List Value}:∀ (fs:List Field) (o:Nat) (ss:List Sh1),fieldsT P g fs o=some ss->vs.length=o+ss.length →
  (∀ d ∈ fs,∀ es,g d.type=some es->Opens W ((vs.drop d.offset).take (P.cellsOf d.type)) es)->Opens W (vs.drop o) ss
 | [],o,ss,h,hl,_=>by
  cases h
  have:vs.drop o=[]:=List.drop_eq_nil_of_le (by simp at hl;omega)
  rw[this]
  exact ⟨rfl,[],rfl,λ i u hu=>by simp at hu⟩
 | d::r,o,ss,h,hl,hg=>by
  unfold fieldsT at h
  split at h
  ·rename_i ho
   split at h
   ·rename_i es hes
    split at h
    ·rename_i hc
     obtain ⟨ts,hts,rfl⟩:=Option.map_eq_some_iff.1 h
     have h1:=hg d (List.mem_cons_self ..) es hes
     rw[ho,hc]at h1
     have h2:=fields_opens r (o+es.length) ts hts (by simp at hl;omega) (λ d hd=>hg d (List.mem_cons_of_mem _ hd))
     have:=h1.append h2
     rw[<-List.drop_drop,List.take_append_drop]at this
     exact this
    ·cases h
   ·cases h
  ·cases h
theorem cells_get {a:Addr} {n:Nat} {row:List Value} (h:W.cells? 0 a n=some row):row.length=n/\∀ j,j < n->∃ v,row[j]? = some v/\W.cell? (a.add j)=some v:=by
 unfold World.cells? at h
 rw[if_pos (Nat.zero_le _)]at h
 obtain ⟨h1,h2⟩:=mapM_some_get h
 refine ⟨by simpa using h1,λ j hj => ?_⟩
 exact h2 j j (by simp[hj])
theorem trod_opens:∀ (f:Nat) (t:TypeId) (ss:List Sh1) (fuel:Nat) (vs:List Value) (x:DataW H×List MemPlace),
  shapeT P f t=some ss->DataW.trod enc P W 0 spare held fuel t vs=some x->Opens W vs ss:=by
 intro f
 induction f with
 | zero=>intro t ss fuel vs x hs;cases hs
 | succ f ih =>
  intro t ss fuel vs x hs ht
  unfold shapeT at hs
  cases hu:P.underlying t with
  | none=>rw[hu]at hs;cases hs
  | some d =>
   rw[hu]at hs
   match d,hu,hs with
   | .bool,hu,hs =>
    cases hs
    obtain ⟨b,rfl,_⟩:=DataW.trod_bool hu ht
    exact .one (.bool _) (.bool _)
   | .int k,hu,hs =>
    cases hs
    obtain ⟨n,rfl,_,hw⟩:=DataW.trod_int hu ht
    exact .one (.int _ _) (.int _ _ hw)
   | .string,hu,hs =>
    cases hs
    obtain ⟨s,rfl,_,hm⟩:=DataW.trod_string hu ht
    exact .one (.str s) (.str _ (by rw[Array.length_toList];exact hm))
   | .struct fs,hu,hs =>
    simp only at hs
    split at hs
    ·rename_i ts hts
     split at hs
     ·rename_i hc
      have hs:=Option.some.inj hs
      subst hs
      obtain ⟨xs,n,_,_,hlen,hxl,hx⟩:=DataW.trod_struct hu ht
      have:=fields_opens (W:=W) (vs:=vs) fs.toList 0 ts hts (by omega) (λ d hd es hes=>by
       obtain ⟨i,hi⟩:=List.getElem?_of_mem hd
       have hi':fs[i]? = some d:=by simpa using hi
       have h1:=hx i d hi'
       have hil:i < xs.length:=by rw[hxl];exact (Array.getElem?_eq_some_iff.1 hi').1
       rw[List.getElem?_eq_getElem hil]at h1
       exact ih d.type es n _ _ hes h1)
      simpa using this
     ·cases hs
    ·cases hs
   | .slice e,hu,hs =>
    simp only at hs
    split at hs
    ·rename_i es hes
     split at hs
     ·rename_i hc
      cases hs
      obtain ⟨hce,hpos⟩:=hc
      rcases DataW.trod_slice hu ht with ⟨rfl,_⟩|⟨a,len,cap,elems,rest,n,_,rfl,_,_,hlc,hcm,hel,hget,_⟩
      ·exact .one (.imm0 _ _ es.length) (.sl es 0 [] (by simp) (Nat.zero_le _) (λ i j s c hi=>absurd hi (Nat.not_lt_zero _)))
      ·rw[hce]at hget
       have hrow:∀ i,i < len->∃ row,W.cells? 0 (a.add (i*es.length)) es.length=some row/\Opens W row es:=λ i hi=>by
        have h1:=hget i hi
        rw[List.getElem?_eq_getElem (by omega)]at h1
        obtain ⟨row,hr,ht'⟩:=Option.bind_eq_some_iff.1 h1
        exact ⟨row,hr,ih e es n row _ hes ht'⟩
       by_cases hl0:len=0
       ·subst hl0
        exact .one (.imm0 _ _ es.length) (.sl es 0 [] (by simp) (Nat.zero_le _) (λ i j s c hi=>absurd hi (Nat.not_lt_zero _)))
       ·have hcell:∀ i,i < len->∀ j,j < es.length->∃ v c s,W.cell? ((a.add (i*es.length)).add j)=some v/\es[j]? = some s/\RI W (λ k=>k < W.heap.size) v c/\CTy s c:=λ i hi j hj=>by
         obtain ⟨row,hr,ho1,cs,ho2,ho3⟩:=hrow i hi
         obtain ⟨hrl,hrg⟩:=cells_get hr
         obtain ⟨v,hv,hw⟩:=hrg j hj
         obtain ⟨c,s,e1,e2,e3,e4⟩:=ho3 j v hv
         exact ⟨v,c,s,hw,e2,e3,e4⟩
        have hspot:a=⟨a.block,a.off,none⟩:=by
         obtain ⟨v,c,s,hw,_⟩:=hcell 0 (by omega) 0 hpos
         simp only[Nat.zero_mul,Addr.add,if_true]at hw
         unfold World.cell? at hw
         obtain ⟨b,off,spot⟩:=a
         cases spot with
         | none=>rfl
         | some sp =>
          simp only[Option.isSome_some,if_true]at hw
          split at hw<;>cases hw
        have hadd:∀ i j,(a.add (i*es.length)).add j=⟨a.block,a.off+(i*es.length+j),none⟩:=λ i j=>by
         rw[hspot]
         generalize i*es.length=m
         by_cases h1:m=0<;>by_cases h2:j=0
         ·subst h1;subst h2;rfl
         ·subst h1;simp only[Addr.add,if_true,if_neg h2,Nat.zero_add]
         ·subst h2;simp only[Addr.add,if_true,if_neg h1,Nat.add_zero]
         ·simp only[Addr.add,if_neg h1,if_neg h2,Nat.add_assoc]
        have hblk:a.block < W.heap.size:=by
         obtain ⟨v,c,s,hw,_⟩:=hcell 0 (by omega) 0 hpos
         rw[hadd]at hw
         unfold World.cell? at hw
         apply Classical.byContradiction
         intro hn
         rw[Array.getElem?_eq_none (by simpa using hn)]at hw
         cases hw
        have hdm:∀ m,m < len*es.length->m / es.length < len/\m % es.length < es.length/\m / es.length*es.length+m % es.length=m:=λ m hm =>
         ⟨Nat.div_lt_of_lt_mul (by rw[Nat.mul_comm];exact hm),Nat.mod_lt _ hpos,by rw[Nat.mul_comm];exact Nat.div_add_mod m es.length⟩
        have hall:∀ m,m < len*es.length->∃ v c s,W.cell? ⟨a.block,a.off+m,none⟩=some v/\es[m % es.length]? = some s/\RI W (λ k=>k < W.heap.size) v c/\CTy s c:=λ m hm=>by
         obtain ⟨h1,h2,h3⟩:=hdm m hm
         obtain ⟨v,c,s,hw,hr⟩:=hcell _ h1 _ h2
         rw[hadd,h3]at hw
         exact ⟨v,c,s,hw,hr⟩
        let valOf:Nat->Value:=λ m=>if h:m < len*es.length then (hall m h).choose else undef
        let cvOf:Nat->CV:=λ m=>if h:m < len*es.length then (hall m h).choose_spec.choose else .dead
        have hspec:∀ m,m < len*es.length->∃ s,W.cell? ⟨a.block,a.off+m,none⟩=some (valOf m)/\es[m % es.length]? = some s/\RI W (λ k=>k < W.heap.size) (valOf m) (cvOf m)/\CTy s (cvOf m):=λ m hm=>by
         simp only[valOf,cvOf,dif_pos hm]
         exact (hall m hm).choose_spec.choose_spec
        have hcl:((List.range (len*es.length)).map cvOf).length=len*es.length:=by simp
        refine .one (c:=.imm es.length len ((List.range (len*es.length)).map cvOf)) (s:=.sl es) ?_ ?_
        ·rw[hspot]
         refine .imm a.block a.off len cap es.length _ valOf hblk hlc hcl (λ j hj => ?_) (λ j c hc => ?_)
         ·rw[hcl]at hj
          obtain ⟨s,h1,_⟩:=hspec j hj
          exact h1
         ·have hj:j < len*es.length:=by rw[<-hcl];exact (List.getElem?_eq_some_iff.1 hc).1
          obtain ⟨s,_,_,h3,_⟩:=hspec j hj
          rw[List.getElem?_map,List.getElem?_range hj]at hc
          cases hc
          exact h3
        ·refine .sl es len _ hcl (Nat.le_trans hlc hcm) (λ i j s c hi hj hc => ?_)
         have hm:i*es.length+j < len*es.length:=by rw[<-hcl];exact (List.getElem?_eq_some_iff.1 hc).1
         have hjl:=(List.getElem?_eq_some_iff.1 hj).1
         obtain ⟨s',_,h2,_,h4⟩:=hspec _ hm
         have hmod:(i*es.length+j) % es.length=j:=by rw[Nat.mul_comm,Nat.mul_add_mod];exact Nat.mod_eq_of_lt hjl
         rw[hmod,hj]at h2
         cases h2
         rw[List.getElem?_map,List.getElem?_range hm]at hc
         cases hc
         exact h4
     ·cases hs
    ·cases hs
end
end Go.Fm
namespace Go.Fm
variable [Globs]
section
variable {α:Type} {enc:α->List CV} {k:Nat}
theorem flat_len (h:∀ x,(enc x).length=k):∀ xs:List α,(xs.flatMap enc).length=xs.length*k
 | []=>by simp
 | x::r=>by
  rw[List.flatMap_cons,List.length_append,h,flat_len h r,List.length_cons,Nat.succ_mul,Nat.add_comm]
theorem flat_drop (h:∀ x,(enc x).length=k):∀ (xs:List α) (i:Nat),(xs.flatMap enc).drop (i*k)=(xs.drop i).flatMap enc
 | xs,0=>by simp
 | [],i+1=>by simp
 | x::r,i+1=>by
  rw[List.flatMap_cons,List.drop_succ_cons,<-flat_drop h r i,show (i+1)*k=(enc x).length+i*k by rw[h,Nat.succ_mul,Nat.add_comm],<-List.drop_drop,List.drop_left]
theorem flat_take (h:∀ x,(enc x).length=k):∀ (xs:List α) (i:Nat),(xs.flatMap enc).take (i*k)=(xs.take i).flatMap enc
 | xs,0=>by simp
 | [],i+1=>by simp
 | x::r,i+1=>by
  rw[List.flatMap_cons,List.take_succ_cons,List.flatMap_cons,<-flat_take h r i,show (i+1)*k=(enc x).length+i*k by rw[h,Nat.succ_mul,Nat.add_comm],List.take_length_add_append]
def CV.flat:CV->Bool
 | .arr .. | .ptr .. | .fn ..=>false
 | _=>true
def flatAll:List CV->Bool
 | []=>true
 | c::r=>c.flat&&flatAll r
theorem lendC_flat {h:Nat->HS} {π:List Nat} {f:Nat} {c:CV} (hc:c.flat=true):lendC h π f c=some ([],c):=by
 cases f<;>cases c<;>first|rfl|(simp[CV.flat]at hc)
section
variable {h:Nat->HS} {π:List Nat} {f:Nat}
theorem lendC_arr {id lo n:Nat}:lendC h π (f+1) (.arr id lo n)=(match ixOf π id with
  | some j=>some ([], .arr j lo n)
  | none=>match h id with
   | .live b=>(match lendAll (lendC h π f) ((b.cs.drop (lo*b.sz)).take (n*b.sz)) with
    | some (rd,cs)=>if riAll cs then some (id::rd, .imm b.sz n cs) else none
    | none=>none)
   | .deep b=>(match lendAll (lendD (lendC h π f)) ((b.cs.drop (lo*b.sz)).take (n*b.sz)) with
    | some (rd,cs)=>if riAll cs then some (id::rd, .imm b.sz n cs) else none
    | none=>none)
   | _=>some ([id], .dead)):=by
 simp only[lendC,lend1]
 cases ixOf π id<;>simp only
 cases h id<;>rfl
theorem lendC_ptr {id off:Nat}:lendC h π (f+1) (.ptr id off)=(match ixOf π id with
  | some j=>some ([], .ptr j off)
  | none=>match h id with
   | .live b=>(match lendAll (lendC h π f) (b.cs.drop off) with
    | some (rd,cs)=>if riAll cs then some (id::rd, .ip cs) else none
    | none=>none)
   | _=>some ([id], .dead)):=by
 simp only[lendC,lend1]
 cases ixOf π id<;>simp only
 cases h id<;>rfl
end
theorem lendAll_flat {h:Nat->HS} {π:List Nat} {f:Nat}:∀ {cs:List CV},flatAll cs=true->lendAll (lendC h π f) cs=some ([],cs)
 | [],_=>rfl
 | c::r,hc=>by
  simp only[flatAll,Bool.and_eq_true]at hc
  simp only[lendAll,lendC_flat hc.1,lendAll_flat hc.2,List.append_nil]
theorem flatAll_append:∀ {a b:List CV},flatAll (a++b)=(flatAll a&&flatAll b)
 | [],b=>by simp[flatAll]
 | c::r,b=>by simp[flatAll,flatAll_append (a:=r),Bool.and_assoc]
theorem riAll_append:∀ {a b:List CV},riAll (a++b)=(riAll a&&riAll b)
 | [],b=>by simp[riAll]
 | c::r,b=>by simp[riAll,riAll_append (a:=r),Bool.and_assoc]
theorem flatAll_flat (h:∀ x,flatAll (enc x)=true):∀ xs:List α,flatAll (xs.flatMap enc)=true
 | []=>rfl
 | x::r=>by rw[List.flatMap_cons,flatAll_append,h,flatAll_flat h r];rfl
theorem riAll_flat (h:∀ x,riAll (enc x)=true):∀ xs:List α,riAll (xs.flatMap enc)=true
 | []=>rfl
 | x::r=>by rw[List.flatMap_cons,riAll_append,h,riAll_flat h r];rfl
end
end Go.Fm
namespace Go.Fm
variable [Globs]
open Classical
def mvI:Nat->List Nat->Nat->Nat
 | _,[],id=>id
 | n,i::r,id=>if id=i then n else mvI (n+1) r id
theorem mvI_not:∀ {l:List Nat} {n id:Nat},id ∉ l->mvI n l id=id
 | [],_,_,_=>rfl
 | i::r,n,id,h=>by
  simp only[List.mem_cons,not_or]at h
  simp only[mvI,if_neg h.1]
  exact mvI_not h.2
theorem mvI_mem:∀ {l:List Nat} {n id:Nat},id ∈ l->∃ j,j < l.length/\l[j]? = some id/\mvI n l id=n+j
 | i::r,n,id,h=>by
  by_cases he:id=i
  ·exact ⟨0,by simp,by simp[he],by simp[mvI,he]⟩
  ·rcases List.mem_cons.1 h with h|h
   ·exact absurd h he
   ·obtain ⟨j,h1,h2,h3⟩:=mvI_mem (n:=n+1) h
    exact ⟨j+1,by simpa using h1,by simpa using h2,by simp only[mvI,if_neg he];omega⟩
def mvL (σ:Nat->Nat) (ids:List Nat):Nat->List HS->List HS
 | _,[]=>[]
 | j,x::r=>(match (ixOf ids j).isSome with|true=>.dead|false=>backH σ true x)::mvL σ ids (j+1) r
theorem mvL_get {σ:Nat->Nat} {ids:List Nat}:∀ {l:List HS} {j i:Nat},(mvL σ ids j l)[i]? = (l[i]?).map λ x=>if (j+i) ∈ ids then .dead else backH σ true x
 | [],j,i=>by simp[mvL]
 | x::r,j,i=>by
  cases i with
  | zero =>
   simp only[mvL,List.getElem?_cons_zero,Option.map_some,Nat.add_zero]
   by_cases h:j ∈ ids
   ·rw[if_pos h,ixOf_mem h]
   ·rw[if_neg h]
    cases hi:ixOf ids j with
    | none=>rfl
    | some k=>exact absurd (List.mem_of_getElem? (ixOf_some hi)) h
  | succ i=>simp only[mvL,List.getElem?_cons_succ,mvL_get (l:=r) (j:=j+1) (i:=i)];rw[show j+1+i=j+(i+1) by omega]
theorem mvL_len {σ:Nat->Nat} {ids:List Nat}:∀ {l:List HS} {j:Nat},(mvL σ ids j l).length=l.length
 | [],j=>rfl
 | x::r,j=>by simp[mvL,mvL_len (l:=r)]
def backE (σ:Nat->Nat):List (Nat×SV)->List (Nat×SV)
 | []=>[]
 | p::r=>(p.1,backS σ true p.2)::backE σ r
theorem lk_backE {σ:Nat->Nat} {t:Nat}:∀ {e:List (Nat×SV)},lk (backE σ e) t=backS σ true (lk e t)
 | []=>rfl
 | p::r=>by
  simp only[backE,lk]
  split
  ·rfl
  ·exact lk_backE
def mvS (ids:List Nat) (s:S):S :=
 ⟨backE (mvI s.heap.length ids) s.env,mvL (mvI s.heap.length ids) ids 0 s.heap++ids.map λ i=>backH (mvI s.heap.length ids) true (hOf s.heap i)⟩
theorem hOf_lt {l:List HS} {i:Nat} (h:i < l.length):l[i]? = some (hOf l i):=by simp[hOf,h]
theorem hOf_ge {l:List HS} {i:Nat} (h:¬ i < l.length):hOf l i=.no:=by simp[hOf,List.getElem?_eq_none (Nat.le_of_not_lt h)]
theorem backH_le {σ:Nat->Nat} {x:HS} {l:Option Loc} (h:x≠.no):HLe x l (backH σ true x) l:=by
 cases x with
 | no=>exact absurd rfl h
 | dead=>trivial
 | live b=>exact ⟨rfl,rfl,rfl⟩
 | deep b=>exact ⟨rfl,rfl,rfl⟩
theorem backH_deep {σ:Nat->Nat} {x:HS} {b:Blk} (h:backH σ true x=.deep b):∃ b0,x=.deep b0/\b=⟨b0.sz,b0.n,b0.cs.map (backC σ true)⟩:=by
 cases x with
 | no=>cases h
 | dead=>cases h
 | live b=>cases h
 | deep b0=>cases h;exact ⟨b0,rfl,rfl⟩
theorem backH_live {σ:Nat->Nat} {x:HS} {b:Blk} (h:backH σ true x=.live b):∃ b0,x=.live b0/\b=⟨b0.sz,b0.n,b0.cs.map (backC σ true)⟩:=by
 cases x with
 | no=>cases h
 | dead=>cases h
 | deep b=>cases h
 | live b0=>cases h;exact ⟨b0,rfl,rfl⟩
theorem weak_move {k0:Nat} (ids:List Nat) {s:S} (hnd:nodB ids=true) (hlt:∀ i ∈ ids,i < s.heap.length):Weak k0 s (mvS ids s):=by
 intro C a w hk ⟨C1,hreb,ρ,R⟩
 let L:=s.heap.length
 let σ:=mvI L ids
 let h':=hOf (mvS ids s).heap
 let ρ':Rho:=λ j=>if j < L then ρ j else ρ (ids.getD (j-L) 0)
 have hlo:∀ j,j < L->h' j=if j ∈ ids then .dead else backH σ true (hOf s.heap j):=λ j hj=>by
  show hOf (mvL σ ids 0 s.heap++_) j=_
  refine hOf_get ?_
  rw[List.getElem?_append_left (by rw[mvL_len];exact hj),mvL_get,hOf_lt hj]
  simp
 have hhi:∀ i,i < ids.length->h' (L+i)=backH σ true (hOf s.heap (ids.getD i 0)):=λ i hi=>by
  show hOf (mvL σ ids 0 s.heap++_) (L+i)=_
  refine hOf_get ?_
  rw[List.getElem?_append_right (by rw[mvL_len];exact Nat.le_add_right _ _),mvL_len,Nat.add_sub_cancel_left,List.getElem?_map,List.getElem?_eq_getElem hi]
  simp[List.getD,List.getElem?_eq_getElem hi,σ,L]
 have hend:∀ j,¬ j < L+ids.length->h' j=.no:=λ j hj=>hOf_ge (by
  show ¬ j < (mvL σ ids 0 s.heap++_).length
  rw[List.length_append,mvL_len,List.length_map];exact hj)
 have hnd':=nodB_spec hnd
 have hB:Back C1.Sh ρ (hOf s.heap) σ true C1.Sh ρ' h':=⟨λ _ k h=>h,λ j hj=>by
  have hjl:j < L:=hOf_ne hj
  by_cases hm:j ∈ ids
  ·obtain ⟨i,h1,h2,h3⟩:=mvI_mem (n:=L) hm
   have e:ids.getD i 0=j:=by simp[List.getD,h2]
   refine ⟨?_,?_⟩
   ·show ρ' (mvI L ids j)=ρ j
    rw[h3]
    simp only[ρ',if_neg (show ¬ L+i < L by omega),Nat.add_sub_cancel_left,e]
   ·show HLe _ _ (h' (mvI L ids j)) _
    rw[h3,hhi i h1,e]
    exact backH_le hj
  ·have e:σ j=j:=mvI_not hm
   refine ⟨?_,?_⟩
   ·rw[e];simp only[ρ',if_pos hjl]
   ·rw[e,hlo j hjl,if_neg hm]
    exact backH_le hj⟩
 have hsrc:∀ id b,h' id=.live b->∃ j b0,hOf s.heap j=.live b0/\σ j=id/\ρ' id=ρ j/\b=⟨b0.sz,b0.n,b0.cs.map (backC σ true)⟩:=λ id b hb=>by
  by_cases h1:id < L
  ·rw[hlo id h1]at hb
   by_cases hm:id ∈ ids
   ·rw[if_pos hm]at hb;cases hb
   ·rw[if_neg hm]at hb
    obtain ⟨b0,e1,e2⟩:=backH_live hb
    exact ⟨id,b0,e1,mvI_not hm,by simp only[ρ',if_pos h1],e2⟩
  ·by_cases h2:id < L+ids.length
   ·obtain ⟨i,rfl⟩:∃ i,id=L+i:=⟨id-L,by omega⟩
    have hi:i < ids.length:=by omega
    rw[hhi i hi]at hb
    obtain ⟨b0,e1,e2⟩:=backH_live hb
    refine ⟨ids.getD i 0,b0,e1,?_,by simp only[ρ',if_neg h1,Nat.add_sub_cancel_left],e2⟩
    have hmem:ids.getD i 0 ∈ ids:=by simp[List.getD,List.getElem?_eq_getElem hi]
    obtain ⟨i',g1,g2,g3⟩:=mvI_mem (n:=L) hmem
    have:i'=i:=hnd' i' i _ g2 (by simp[List.getD,List.getElem?_eq_getElem hi])
    rw[<-this]
    rw[this]at g3
    rw[this]
    exact g3
   ·rw[hend id h2]at hb;cases hb
 obtain ⟨D,HD⟩:=R.hp.dp
 let D':Nat->Nat->Option Nat:=λ j=>if j < L then D j else D (ids.getD (j-L) 0)
 have hsrcD:∀ id b,h' id=.deep b->∃ j b0,hOf s.heap j=.deep b0/\σ j=id/\ρ' id=ρ j/\D' id=D j/\b=⟨b0.sz,b0.n,b0.cs.map (backC σ true)⟩:=λ id b hb=>by
  by_cases h1:id < L
  ·rw[hlo id h1]at hb
   by_cases hm:id ∈ ids
   ·rw[if_pos hm]at hb;cases hb
   ·rw[if_neg hm]at hb
    obtain ⟨b0,e1,e2⟩:=backH_deep hb
    exact ⟨id,b0,e1,mvI_not hm,by simp only[ρ',if_pos h1],by simp only[D',if_pos h1],e2⟩
  ·by_cases h2:id < L+ids.length
   ·obtain ⟨i,rfl⟩:∃ i,id=L+i:=⟨id-L,by omega⟩
    have hi:i < ids.length:=by omega
    rw[hhi i hi]at hb
    obtain ⟨b0,e1,e2⟩:=backH_deep hb
    refine ⟨ids.getD i 0,b0,e1,?_,by simp only[ρ',if_neg h1,Nat.add_sub_cancel_left],by simp only[D',if_neg h1,Nat.add_sub_cancel_left],e2⟩
    have hmem:ids.getD i 0 ∈ ids:=by simp[List.getD,List.getElem?_eq_getElem hi]
    obtain ⟨i',g1,g2,g3⟩:=mvI_mem (n:=L) hmem
    have:i'=i:=hnd' i' i _ g2 (by simp[List.getD,List.getElem?_eq_getElem hi])
    rw[<-this]
    rw[this]at g3
    rw[this]
    exact g3
   ·rw[hend id h2]at hb;cases hb
 have hocc:∀ {id j k},ρ' id=ρ j->D' id=D j->Occ ρ' D' id k->Occ ρ D j k:=λ {id j k} e1 e2 h=>by
  unfold Occ at h ⊢
  rw[e1,e2]at h
  exact h
 have HD':DeepOk C1.w0 C1.Sh C1.O ρ' h' w D':=by
  refine ⟨λ id b hb => ?_,λ id b k hb ho => ?_,λ id b id' b' l k hb ho hb' hl => ?_,λ id id' b b' k hb hb' ho ho' => ?_,λ id b p p' k hb hp hp' => ?_,λ id b p l hb hl => ?_⟩
  ·obtain ⟨j,b0,e1,e2,e3,e4,rfl⟩:=hsrcD id b hb
   have hA:=HD.at_ j b0 e1
   unfold DeepAt at hA ⊢
   rw[e3,e4]
   cases hL:ρ j with
   | none =>
    rw[hL]at hA
    simp only at hA ⊢
    exact ⟨by rw[hA.1];rfl,hA.2.1,hA.2.2⟩
   | some Lc =>
    rw[hL]at hA
    simp only at hA ⊢
    obtain ⟨a1,a2,a3,a4,a5⟩:=hA
    refine ⟨by simpa using a1,by simpa using a2,by simpa using a3,a4,λ i c' hc' => ?_⟩
    rw[List.getElem?_map]at hc'
    cases hci:b0.cs[i]? with
    | none=>rw[hci]at hc';cases hc'
    | some c0 =>
     rw[hci]at hc'
     cases hc'
     obtain ⟨u,hu,hr⟩:=a5 i c0 hci
     exact ⟨u,hu,hr.back hB⟩
  ·obtain ⟨j,b0,e1,e2,e3,e4,_⟩:=hsrcD id b hb
   exact HD.own j b0 k e1 (hocc e3 e4 ho)
  ·obtain ⟨j,b0,e1,e2,e3,e4,_⟩:=hsrcD id b hb
   obtain ⟨j',b0',f1,f2,f3,_⟩:=hsrc id' b' hb'
   rw[f3]at hl
   exact HD.apart j b0 j' b0' l k e1 (hocc e3 e4 ho) f1 hl
  ·obtain ⟨j,b0,e1,e2,e3,e4,_⟩:=hsrcD id b hb
   obtain ⟨j',b0',f1,f2,f3,f4,_⟩:=hsrcD id' b' hb'
   rw[<-e2,<-f2,HD.inj j j' b0 b0' k e1 f1 (hocc e3 e4 ho) (hocc f3 f4 ho')]
  ·obtain ⟨j,b0,e1,e2,e3,e4,_⟩:=hsrcD id b hb
   rw[e4]at hp hp'
   exact HD.one j b0 p p' k e1 hp hp'
  ·obtain ⟨j,b0,e1,e2,e3,e4,_⟩:=hsrcD id b hb
   rw[e3]at hl
   rw[e4]
   exact HD.out j b0 p l e1 hl
 refine ⟨C1,hreb,ρ',R.defers,R.nt,λ t => ?_,⟨λ id b hb => ?_,λ id b l hb hl => ?_,λ id id' b b' l l' hb hb' hl hl' he => ?_,D',HD'⟩,λ id hid => ?_,R.fr⟩
 ·show RSV w C1.Sh ρ' h' _ (lk (backE σ s.env) t)
  rw[lk_backE]
  exact RSV.back hB (R.env t)
 ·obtain ⟨j,b0,e1,rfl,e3,rfl⟩:=hsrc id b hb
  exact RB.back hB e1 (R.hp.blk j b0 e1)
 ·obtain ⟨j,b0,e1,e2,e3,e4⟩:=hsrc id b hb
  rw[e3]at hl
  exact R.hp.own j b0 l e1 hl
 ·obtain ⟨j,b0,e1,e2,e3,e4⟩:=hsrc id b hb
  obtain ⟨j',b0',e1',e2',e3',e4'⟩:=hsrc id' b' hb'
  rw[e3]at hl
  rw[e3']at hl'
  have:=R.hp.inj j j' b0 b0' l l' e1 e1' hl hl' he
  rw[<-e2,<-e2',this]
 ·obtain ⟨g1,g2⟩:=R.init id hid
  have hl:id < L:=hOf_ne g1
  refine ⟨?_,?_⟩
  ·show h' id≠.no
   rw[hlo id hl]
   split
   ·simp
   ·cases hx:hOf s.heap id with
    | no=>exact absurd hx g1
    | dead=>simp[backH]
    | live b=>simp[backH]
    | deep b=>simp[backH]
  ·simp only[ρ',if_pos hl];exact g2
def leC (h:Nat->HS):CV->CV->Prop
 | .emp, .imm _ n cs=>n=0/\cs=[]
 | .emp, .arr j lo n=>n=0/\(match h j with | .no=>False | .dead=>True | .live b=>b.n<=lo | .deep _=>False)
 | c,c'=>c'=c\/c'=.dead
def leL (h:Nat->HS):List CV->List CV->Prop
 | [],[]=>True
 | c::r,c'::r'=>leC h c c'/\leL h r r'
 | _,_=>False
def leP (h:Nat->HS):PV->PV->Prop
 | .one c, .one c'=>leC h c c'
 | .agg cs, .agg cs'=>cs'=cs\/leL h cs cs'
 | _,_=>False
def lePs (h:Nat->HS):List PV->List PV->Prop
 | [],[]=>True
 | c::r,c'::r'=>leP h c c'/\lePs h r r'
 | _,_=>False
def leS (h:Nat->HS):SV->SV->Prop
 | .pv p, .pv p'=>leP h p p'
 | .tup l, .tup l'=>lePs h l l'
 | x,x'=>x'=x
def leE (h:Nat->HS) (env:List (Nat×SV)):List (Nat×SV)->Prop
 | []=>True
 | p::r=>leS h (lk env p.1) p.2/\leE h env r
def leH (h:Nat->HS):List HS->List HS->Prop
 | [],[]=>True
 | [], .live b::r=>b.n=0/\b.cs=[]/\leH h [] r
 | .live b::r, .live b'::r'=>(b'.sz=b.sz/\b'.n=b.n/\(b'.cs=b.cs\/leL h b.cs b'.cs))/\leH h r r'
 | .dead::r, .dead::r'=>leH h r r'
 | .live _::r, .dead::r'=>leH h r r'
 | .deep _::r, .dead::r'=>leH h r r'
 | .deep b::r, .deep b'::r'=>b'=b/\leH h r r'
 | .no::r, .no::r'=>leH h r r'
 | _,_=>False
section
variable {w:World} {Sh:Nat->Prop} {ρ:Rho} {h:Nat->HS}
theorem leC_ok {v:Value} {c c':CV} (hv:RV w Sh ρ h v c) (hl:leC h c c'):RV w Sh ρ h v c':=by
 have h0:=hv.one
 unfold leC at hl
 split at hl
 ·obtain ⟨rfl,rfl⟩:=hl
  have hv:RI w Sh v .emp:=hv
  cases hv with
  | emp a=>exact .imm0 a 0 _
 ·obtain ⟨rfl,hj⟩:=hl
  have hv:RI w Sh v .emp:=hv
  cases hv with
  | emp a =>
   simp only[RV]
   split
   ·rename_i hn;rw[hn]at hj;exact hj
   ·exact h0
   ·rename_i b hb
    cases hρ:ρ _ with
    | none=>exact ⟨rfl,a,rfl⟩
    | some L=>rw[hb]at hj;exact .inr ⟨rfl,hj,a,rfl⟩
   ·rename_i b hb
    rw[hb]at hj;exact hj.elim
 ·rcases hl with rfl|rfl
  ·exact hv
  ·exact h0
theorem leL_get:∀ {cs cs':List CV},leL h cs cs'->cs'.length=cs.length/\∀ (i:Nat) (c':CV),cs'[i]? = some c'->∃ c,cs[i]? = some c/\leC h c c'
 | [],[],_=>⟨rfl,λ i c' hc=>by simp at hc⟩
 | c::r,c'::r',hl=>by
  obtain ⟨h1,h2⟩:=leL_get hl.2
  refine ⟨by simp[h1],λ i x hx => ?_⟩
  cases i with
  | zero=>simp at hx;subst hx;exact ⟨c,rfl,hl.1⟩
  | succ i=>simpa using h2 i x (by simpa using hx)
 | [],_::_,hl=>hl.elim
 | _::_,[],hl=>hl.elim
theorem leP_ok {v:Value} {p p':PV} (hv:RPV w Sh ρ h v p) (hl:leP h p p'):RPV w Sh ρ h v p':=by
 cases p with
 | one c =>
  cases p' with
  | one c' =>
   by_cases hd:c=.dead
   ·subst hd
    have hl:leC h .dead c':=hl
    rcases (show c'=.dead\/c'=.dead from hl) with rfl|rfl<;>trivial
   ·by_cases hd':c'=.dead
    ·subst hd';trivial
    ·exact .of_one (leC_ok (by cases c<;>first|exact hv|exact absurd rfl hd) hl)
  | agg cs'=>exact hl.elim
 | agg cs =>
  cases p' with
  | one c'=>exact hl.elim
  | agg cs' =>
   have hl:cs'=cs\/leL h cs cs':=hl
   rcases hl with rfl|hl
   ·exact hv
   ·obtain ⟨vs,rfl,hlen,hp⟩:=hv
    obtain ⟨g1,g2⟩:=leL_get hl
    refine ⟨vs,rfl,by omega,λ i c' hc => ?_⟩
    obtain ⟨c,e1,e2⟩:=g2 i c' hc
    obtain ⟨u,hu,hr⟩:=hp i c e1
    exact ⟨u,hu,leC_ok hr e2⟩
theorem lePs_get:∀ {ps ps':List PV},lePs h ps ps'->ps'.length=ps.length/\∀ (i:Nat) (p':PV),ps'[i]? = some p'->∃ p,ps[i]? = some p/\leP h p p'
 | [],[],_=>⟨rfl,λ i c' hc=>by simp at hc⟩
 | c::r,c'::r',hl=>by
  obtain ⟨h1,h2⟩:=lePs_get hl.2
  refine ⟨by simp[h1],λ i x hx => ?_⟩
  cases i with
  | zero=>simp at hx;subst hx;exact ⟨c,rfl,hl.1⟩
  | succ i=>simpa using h2 i x (by simpa using hx)
 | [],_::_,hl=>hl.elim
 | _::_,[],hl=>hl.elim
theorem leS_ok {v:Value} {p p':SV} (hv:RSV w Sh ρ h v p) (hl:leS h p p'):RSV w Sh ρ h v p':=by
 unfold leS at hl
 split at hl
 ·exact leP_ok hv hl
 ·obtain ⟨vs,rfl,hlen,hp⟩:=hv
  obtain ⟨g1,g2⟩:=lePs_get hl
  refine ⟨vs,rfl,by omega,λ i c' hc => ?_⟩
  obtain ⟨c,e1,e2⟩:=g2 i c' hc
  obtain ⟨u,hu,hr⟩:=hp i c e1
  exact ⟨u,hu,leP_ok hr e2⟩
 ·subst hl;exact hv
theorem leE_get {env:List (Nat×SV)}:∀ {e:List (Nat×SV)},leE h env e->∀ t,leS h (lk env t) (lk e t)\/lk e t=one .dead
 | [],_,t=>.inr rfl
 | p::r,he,t=>by
  simp only[lk]
  split
  ·rename_i hp;subst hp;exact .inl he.1
  ·exact leE_get he.2 t
end
theorem leH_get {h:Nat->HS}:∀ {l l':List HS},leH h l l'->l.length<=l'.length ∧
  (∀ i,i < l.length->(∃ b b',hOf l i=.live b/\hOf l' i=.live b'/\b'.sz=b.sz/\b'.n=b.n/\(b'.cs=b.cs\/leL h b.cs b'.cs))\/(hOf l i≠.no/\hOf l' i=.dead)\/(hOf l i=.no/\hOf l' i=.no)\/∃ b,hOf l i=.deep b/\hOf l' i=.deep b) ∧
  ∀ i,l.length<=i->i < l'.length->∃ b,hOf l' i=.live b/\b.n=0/\b.cs=[]
 | [],[],_=>⟨Nat.le_refl _,λ i hi=>absurd hi (Nat.not_lt_zero _),λ i _ hi=>absurd hi (Nat.not_lt_zero _)⟩
 | [], .live b::r,hl=>by
  obtain ⟨h1,h2,h3⟩:=leH_get (l:=[]) hl.2.2
  refine ⟨Nat.zero_le _,λ i hi=>absurd hi (Nat.not_lt_zero _),λ i _ hi => ?_⟩
  cases i with
  | zero=>exact ⟨b,rfl,hl.1,hl.2.1⟩
  | succ i=>exact h3 i (Nat.zero_le _) (by simpa using hi)
 | .live b::r, .live b'::r',hl=>by
  obtain ⟨h1,h2,h3⟩:=leH_get hl.2
  refine ⟨by simpa using h1,λ i hi => ?_,λ i hi hi' => ?_⟩
  ·cases i with
   | zero=>exact .inl ⟨b,b',rfl,rfl,hl.1⟩
   | succ i=>exact h2 i (by simpa using hi)
  ·cases i with
   | zero=>simp at hi
   | succ i=>exact h3 i (by simpa using hi) (by simpa using hi')
 | .live b::r, .dead::r',hl=>by
  obtain ⟨h1,h2,h3⟩:=leH_get (l:=r) (l':=r') hl
  refine ⟨by simpa using h1,λ i hi => ?_,λ i hi hi' => ?_⟩
  ·cases i with
   | zero=>exact .inr (.inl ⟨by simp[hOf],rfl⟩)
   | succ i=>exact h2 i (by simpa using hi)
  ·cases i with
   | zero=>simp at hi
   | succ i=>exact h3 i (by simpa using hi) (by simpa using hi')
 | .deep b::r, .dead::r',hl=>by
  obtain ⟨h1,h2,h3⟩:=leH_get (l:=r) (l':=r') hl
  refine ⟨by simpa using h1,λ i hi => ?_,λ i hi hi' => ?_⟩
  ·cases i with
   | zero=>exact .inr (.inl ⟨by simp[hOf],rfl⟩)
   | succ i=>exact h2 i (by simpa using hi)
  ·cases i with
   | zero=>simp at hi
   | succ i=>exact h3 i (by simpa using hi) (by simpa using hi')
 | .deep b::r, .deep b'::r',hl=>by
  obtain ⟨h1,h2,h3⟩:=leH_get (l:=r) (l':=r') hl.2
  refine ⟨by simpa using h1,λ i hi => ?_,λ i hi hi' => ?_⟩
  ·cases i with
   | zero=>exact .inr (.inr (.inr ⟨b,rfl,by rw[<-hl.1];rfl⟩))
   | succ i=>exact h2 i (by simpa using hi)
  ·cases i with
   | zero=>simp at hi
   | succ i=>exact h3 i (by simpa using hi) (by simpa using hi')
 | .dead::r, .dead::r',hl=>by
  obtain ⟨h1,h2,h3⟩:=leH_get (l:=r) (l':=r') hl
  refine ⟨by simpa using h1,λ i hi => ?_,λ i hi hi' => ?_⟩
  ·cases i with
   | zero=>exact .inr (.inl ⟨by simp[hOf],rfl⟩)
   | succ i=>exact h2 i (by simpa using hi)
  ·cases i with
   | zero=>simp at hi
   | succ i=>exact h3 i (by simpa using hi) (by simpa using hi')
 | .no::r, .no::r',hl=>by
  obtain ⟨h1,h2,h3⟩:=leH_get (l:=r) (l':=r') hl
  refine ⟨by simpa using h1,λ i hi => ?_,λ i hi hi' => ?_⟩
  ·cases i with
   | zero=>exact .inr (.inr (.inl ⟨rfl,rfl⟩))
   | succ i=>exact h2 i (by simpa using hi)
  ·cases i with
   | zero=>simp at hi
   | succ i=>exact h3 i (by simpa using hi) (by simpa using hi')
 | [], .no::_,hl=>hl.elim
 | [], .deep _::_,hl=>hl.elim
 | .live _::_, .deep _::_,hl=>hl.elim
 | .dead::_, .deep _::_,hl=>hl.elim
 | .no::_, .deep _::_,hl=>hl.elim
 | .deep _::_,[],hl=>hl.elim
 | .deep _::_, .no::_,hl=>hl.elim
 | .deep _::_, .live _::_,hl=>hl.elim
 | [], .dead::_,hl=>hl.elim
 | .live _::_,[],hl=>hl.elim
 | .live _::_, .no::_,hl=>hl.elim
 | .dead::_,[],hl=>hl.elim
 | .dead::_, .no::_,hl=>hl.elim
 | .dead::_, .live _::_,hl=>hl.elim
 | .no::_,[],hl=>hl.elim
 | .no::_, .dead::_,hl=>hl.elim
 | .no::_, .live _::_,hl=>hl.elim
theorem weak_le {k0:Nat} {s s':S} (he:leE (hOf s'.heap) s.env s'.env) (hh:leH (hOf s'.heap) s.heap s'.heap):Weak k0 s s':=by
 intro C a w hk ⟨C1,hreb,ρ,R⟩
 obtain ⟨h1,h2,h3⟩:=leH_get hh
 let ρ':Rho:=λ j=>if j < s.heap.length then ρ j else none
 have hle:∀ id,HLe (hOf s.heap id) (ρ id) (hOf s'.heap id) (ρ' id):=λ id=>by
  by_cases hl:id < s.heap.length
  ·simp only[ρ',if_pos hl]
   rcases h2 id hl with ⟨b,b',e1,e2,e3,e4,_⟩|⟨e1,e2⟩|⟨e1,e2⟩|⟨bd,e1,e2⟩
   ·rw[e1,e2];exact ⟨e3,e4,rfl⟩
   ·rw[e2]
    cases hx:hOf s.heap id with
    | no=>trivial
    | dead=>trivial
    | live b=>trivial
    | deep b=>trivial
   ·rw[e1];trivial
   ·rw[e1,e2];exact ⟨rfl,rfl,rfl⟩
  ·rw[hOf_ge hl];trivial
 have hmono:∀ {v:Value} {c:CV},RV w C1.Sh ρ (hOf s.heap) v c->RV w C1.Sh ρ' (hOf s'.heap) v c:=λ hv=>hv.mono (λ _ _=>rfl) hle
 obtain ⟨D,hD⟩:=R.hp.dp
 have hdp:∀ id b,hOf s'.heap id=.deep b->id < s.heap.length/\hOf s.heap id=.deep b:=λ id b hb=>by
  by_cases hl:id < s.heap.length
  ·rcases h2 id hl with ⟨b0,b',e1,e2,_⟩|⟨e1,e2⟩|⟨e1,e2⟩|⟨bd,e1,e2⟩
   ·rw[e2]at hb;cases hb
   ·rw[e2]at hb;cases hb
   ·rw[e2]at hb;cases hb
   ·rw[e2]at hb;cases hb;exact ⟨hl,e1⟩
  ·obtain ⟨b',e1,_⟩:=h3 id (Nat.le_of_not_lt hl) (hOf_ne (by rw[hb];simp))
   rw[e1]at hb;cases hb
 refine ⟨C1,hreb,ρ',R.defers,R.nt,λ t => ?_,⟨λ id b' hb => ?_,λ id b' l hb hl => ?_,λ id id' b b' l l' hb hb' hl hl' hee => ?_,D,hD.keep (λ id b hb => ?_) hle (λ _ _ _ _ _=>rfl) (Nat.le_refl _) (λ _ h=>⟨h,rfl⟩) (λ id b k hb ho => ?_) λ id b l hb hl => ?_⟩,λ id hid => ?_,R.fr⟩
 ·have:=(R.env t).mono (w':=w) (ρ':=ρ') (h':=hOf s'.heap) (λ _ _=>rfl) hle
  rcases leE_get he t with g|g
  ·exact leS_ok this g
  ·show RSV w C1.Sh ρ' (hOf s'.heap) _ (lk s'.env t)
   rw[g];trivial
 ·by_cases hl:id < s.heap.length
  ·rcases h2 id hl with ⟨b,b2,e1,e2,e3,e4,e5⟩|⟨e1,e2⟩|⟨e1,e2⟩|⟨bd,e1,e2⟩
   ·have hb:hOf s'.heap id=.live b':=hb
    rw[e2]at hb
    cases hb
    have hB:=R.hp.blk id b e1
    unfold RB at hB ⊢
    simp only[ρ',if_pos hl]
    cases hL:ρ id with
    | none =>
     rw[hL]at hB
     simp only at hB ⊢
     rw[hB.1]at e5
     refine ⟨?_,by rw[e4];exact hB.2⟩
     rcases e5 with e5|e5
     ·exact e5
     ·cases hc:b'.cs with
      | nil=>rfl
      | cons x r=>rw[hc]at e5;exact e5.elim
    | some L =>
     rw[hL]at hB
     simp only at hB ⊢
     rcases e5 with e5|e5
     ·rw[e5,e4,e3]
      exact ⟨hB.1,hB.2.1,hB.2.2.1,λ j c hc=>by obtain ⟨u,hu,hr⟩:=hB.2.2.2 j c hc;exact ⟨u,hu,hmono hr⟩⟩
     ·obtain ⟨g1,g2⟩:=leL_get e5
      refine ⟨by rw[g1,e3,e4];exact hB.1,by rw[g1];exact hB.2.1,by rw[e3];exact hB.2.2.1,λ j c' hc => ?_⟩
      obtain ⟨c,f1,f2⟩:=g2 j c' hc
      obtain ⟨u,hu,hr⟩:=hB.2.2.2 j c f1
      exact ⟨u,hu,leC_ok (hmono hr) f2⟩
   ·have hb:hOf s'.heap id=.live b':=hb
    rw[e2]at hb;cases hb
   ·have hb:hOf s'.heap id=.live b':=hb
    rw[e2]at hb;cases hb
   ·have hb:hOf s'.heap id=.live b':=hb
    rw[e2]at hb;cases hb
  ·have hb:hOf s'.heap id=.live b':=hb
   have hl':id < s'.heap.length:=hOf_ne (by rw[hb];simp)
   obtain ⟨b,e1,e2,e3⟩:=h3 id (Nat.le_of_not_lt hl) hl'
   rw[hb]at e1
   cases e1
   unfold RB
   simp only[ρ',if_neg hl]
   exact ⟨e3,e2⟩
 ·by_cases hlt:id < s.heap.length
  ·simp only[ρ',if_pos hlt]at hl
   rcases h2 id hlt with ⟨b,b2,e1,e2,_⟩|⟨e1,e2⟩|⟨e1,e2⟩|⟨bd,e1,e2⟩
   ·exact R.hp.own id b l e1 hl
   ·have hb:hOf s'.heap id=.live b':=hb
    rw[e2]at hb;cases hb
   ·have hb:hOf s'.heap id=.live b':=hb
    rw[e2]at hb;cases hb
   ·have hb:hOf s'.heap id=.live b':=hb
    rw[e2]at hb;cases hb
  ·simp only[ρ',if_neg hlt]at hl;cases hl
 ·have key:∀ id b l,hOf s'.heap id=.live b->ρ' id=some l->∃ b0,hOf s.heap id=.live b0/\ρ id=some l:=λ id b l hb hl=>by
   by_cases hlt:id < s.heap.length
   ·simp only[ρ',if_pos hlt]at hl
    rcases h2 id hlt with ⟨b0,b2,e1,e2,_⟩|⟨e1,e2⟩|⟨e1,e2⟩|⟨bd,e1,e2⟩
    ·exact ⟨b0,e1,hl⟩
    ·rw[e2]at hb;cases hb
    ·rw[e2]at hb;cases hb
    ·rw[e2]at hb;cases hb
   ·simp only[ρ',if_neg hlt]at hl;cases hl
  obtain ⟨b1,e1,e2⟩:=key id b l hb hl
  obtain ⟨b2,f1,f2⟩:=key id' b' l' hb' hl'
  exact R.hp.inj id id' b1 b2 l l' e1 f1 e2 f2 hee
 ·obtain ⟨g1,g2⟩:=hdp id b hb
  exact ⟨g2,by simp only[ρ',if_pos g1]⟩
 ·obtain ⟨g1,g2⟩:=hdp id b hb
  exact ⟨(hD.own id b k g2 ho).2.1,(hD.own id b k g2 ho).2.2⟩
 ·by_cases hlt:id < s.heap.length
  ·simp only[ρ',if_pos hlt]at hl
   have hb:hOf s'.heap id=.live b:=hb
   rcases h2 id hlt with ⟨b0,b2,e1,e2,_⟩|⟨e1,e2⟩|⟨e1,e2⟩|⟨bd,e1,e2⟩
   ·exact .inr ⟨id,b0,l,e1,hl,rfl⟩
   ·rw[e2]at hb;cases hb
   ·rw[e2]at hb;cases hb
   ·rw[e2]at hb;cases hb
  ·simp only[ρ',if_neg hlt]at hl;cases hl
 ·obtain ⟨g1,g2⟩:=R.init id hid
  have hlt:id < s.heap.length:=hOf_ne g1
  refine ⟨?_,by simp only[ρ',if_pos hlt];exact g2⟩
  show hOf s'.heap id≠.no
  rcases h2 id hlt with ⟨b0,b2,e1,e2,_⟩|⟨e1,e2⟩|⟨e1,e2⟩|⟨bd,e1,e2⟩
  ·rw[e2];simp
  ·rw[e2];simp
  ·exact absurd e1 g1
  ·rw[e2];simp
end Go.Fm
