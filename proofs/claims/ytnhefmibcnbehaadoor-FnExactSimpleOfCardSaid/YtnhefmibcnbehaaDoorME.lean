import Derived.Test.YtnhefmibcnbehaaDoorMD
set_option linter.all false
namespace Go.Fm
variable [Globs]
open Classical
class Ke where
 go:SV->List HS->Prop
structure EndT (k0:Nat) (r0:SV) (h:List HS) [K:Ke]:Prop where
 get:∃ s1,Weak k0 ⟨[(0,r0)],h⟩ s1/\K.go (lk s1.env 0) s1.heap
theorem endT_of {k0:Nat} {r0 r:SV} {h h1:List HS} {K:SV->List HS->Prop} (hw:Weak k0 ⟨[(0,r0)],h⟩ ⟨[(0,r)],h1⟩) (hK:K r h1) : @EndT _ k0 r0 h ⟨K⟩ := @EndT.mk _ k0 r0 h ⟨K⟩ ⟨_,hw,hK⟩
theorem ans_ofW {P:Unit->Program} {T:TypeId->TyI} (hT:T=tiOf (P ())) {f:FuncId} {fn:Func} {c:Code} {ps:List PV} {bs:List HS} {K:SV->List HS->Prop} (hf:(P ()).funcs[f]? = some fn) (hb:fn.body=some c)
  (hname:(fn.name == "runtime.NumGoroutine")=false) (hps:ps.length<=fn.ntmps) (hnt:0 < fn.ntmps) (hbs:∀ s ∈ bs,s≠.no) {s0:S} (hw0:Weak bs.length ⟨zipE 0 ps,bs⟩ s0)
  (h:W (P ()) fn.ntmps bs.length c s0 λ e s'=>(match e with | .exit _=>False|_=>True)/\kO (resF T (hOf s'.heap) s'.env fn.results.toList) λ r0 => @EndT _ bs.length r0 s'.heap ⟨K⟩) :
  Ans (P ()) f ps bs K:=λ hm=>by
 obtain ⟨e,s',hr,he,hres⟩:=h hm
 subst hT
 obtain ⟨r0,hr0,hend⟩:=kO_elim hres
 obtain ⟨s1,hw1,hK⟩ := @EndT.get _ _ _ _ ⟨K⟩ hend
 refine ⟨lk s1.env 0,s1.heap,?_,hK⟩
 intro C vs hP hk hlen hargs hheap hno
 have hcall:(callFunc f vs.toArray).run (P ()) C.w0=.ok (.enter f vs.toArray) C.w0:=by
  have hne:¬ fn.name = "runtime.NumGoroutine" := by simpa using hname
  simp[callFunc,Sem.run_bind,hf,hne,hb]
 unfold Serves
 rw[hcall]
 show Calls (P ()) f vs.toArray C.w0 _
 refine calls_of_wp hf hb ?_
 let C':Ctx:={ C with nt:=fn.ntmps }
 let a0:Act:={ tmps:=vs.toArray++Array.replicate (fn.ntmps-vs.toArray.size) undef,defers:=[] }
 have hR0:RelX C' (⟨zipE 0 ps,bs⟩:S).st a0 C.w0:=by
  refine ⟨C', .refl _,C.rho0,rfl,?_,λ t => ?_,hheap,λ id hid=>⟨?_,rfl⟩, .refl _ _⟩
  ·show (vs.toArray++Array.replicate (fn.ntmps-vs.toArray.size) undef).size=fn.ntmps
   simp only[Array.size_append,List.size_toArray,Array.size_replicate]
   omega
  ·show RSV C.w0 C.Sh C.rho0 (hOf bs) _ (lk (zipE 0 ps) t)
   rw[lk_zipE,if_pos (Nat.zero_le _),Nat.sub_zero]
   cases hp:ps[t]? with
   | none=>trivial
   | some p =>
    obtain ⟨u,hu,hr⟩:=hargs t p hp
    have:a0.tmps.getD t undef=u:=by
     have ht:t < vs.length:=(List.getElem?_eq_some_iff.1 hu).1
     simp only[a0,Array.getD_eq_getD_getElem?]
     rw[Array.getElem?_append_left (by simpa using ht)]
     simp[hu]
    rw[this]
    exact hr
  ·exact hno id (by rw[<-hk];exact hid)
 refine wp_mono (hr C' hP rfl hk a0 C.w0 (hw0 C' a0 C.w0 hk hR0)) λ e' a' w' ⟨hee,R'⟩ => ?_
 subst hee
 obtain ⟨C2,hreb,ρ',R2⟩:=R'
 have hfinal:a'.defers=[]/\∃ v,(results fn a'.tmps).run (P ()) w'=.ok v w'/\∃ (ρ':Rho) (Sh':Nat->Prop),HeapRel C.w0 Sh' C.O ρ' (hOf s1.heap) w'/\RSV w' Sh' ρ' (hOf s1.heap) v (lk s1.env 0) ∧
   (∀ id,id < bs.length->hOf s1.heap id≠.no/\ρ' id=C.rho0 id)/\Fr C.w0 C.O w'/\(∀ k,C.Sh k->Sh' k) ∧
   (∀ k,Sh' k->k < w'.heap.size/\(C.Sh k\/C.w0.heap.size<=k\/C.O k)):=by
  refine ⟨R2.defers,?_⟩
  have hv:∃ v,(results fn a'.tmps).run (P ()) w'=.ok v w'/\RSV w' C2.Sh ρ' (hOf s'.heap) v r0:=by
   unfold resF at hr0
   have hmap:∀ vs:List Value,(fn.results.toList.mapM (getRes a'.tmps)).run (P ()) w'=.ok vs w' →
     (fn.results.mapM (getRes a'.tmps)).run (P ()) w'=.ok vs.toArray w':=λ vs hvs=>by
    rw[Array.mapM_eq_mapM_toList]
    rw[Sem.run_map]
    rw[hvs]
    rfl
   split at hr0
   ·rename_i p hp
    cases hr0
    obtain ⟨vs,e1,e2,e3⟩:=run_resL (P:=P ()) (tmps:=a'.tmps) R2.env R2.hp.blk hp
    obtain ⟨u,hu,hru⟩:=e3 0 p rfl
    have hvs:vs=[u]:=by
     match vs,e2,hu with
     | [x],_,hu=>simp at hu;rw[hu]
    subst hvs
    refine ⟨u,?_,hru⟩
    rw[results_eq,Sem.run_bind,hmap _ e1]
    simp
   ·rename_i ps' hne hp
    cases hr0
    obtain ⟨vs,e1,e2,e3⟩:=run_resL (P:=P ()) (tmps:=a'.tmps) R2.env R2.hp.blk hp
    refine ⟨.tuple vs.toArray,?_,vs,rfl,e2,e3⟩
    rw[results_eq,Sem.run_bind,hmap _ e1]
    have h1:vs.toArray.size≠1:=by
     rw[List.size_toArray,e2]
     intro h1
     match ps',h1,hne with
     | [x],_,hne=>exact hne x rfl
    simp only[Result.andThen_ok,dif_neg h1,Sem.run_pure]
   ·cases hr0
  obtain ⟨v,hrv,hvr⟩:=hv
  refine ⟨v,hrv,?_⟩
  let a1:Act:={ tmps:=(#[v]++Array.replicate (fn.ntmps-1) undef),defers:=[] }
  have hX:RelX C' (⟨[(0,r0)],s'.heap⟩:S).st a1 w':=by
   refine ⟨C2,hreb,ρ',rfl,?_,λ t => ?_,R2.hp,R2.init,R2.fr⟩
   ·show (#[v]++Array.replicate (fn.ntmps-1) undef).size=C2.nt
    rw[hreb.nt]
    show (#[v]++Array.replicate (fn.ntmps-1) undef).size=fn.ntmps
    simp only[Array.size_append,List.size_toArray,Array.size_replicate,List.length_cons,List.length_nil]
    omega
   ·show RSV w' C2.Sh ρ' (hOf s'.heap) (a1.tmps.getD t undef) (if 0=t then r0 else one .dead)
    by_cases ht:0=t
    ·subst ht
     rw[if_pos rfl]
     have:a1.tmps.getD 0 undef=v:=by
      show (#[v]++Array.replicate (fn.ntmps-1) undef).getD 0 undef=v
      rw[Array.getD_eq_getD_getElem?,Array.getElem?_append_left (by simp)];rfl
     rw[this]
     exact hvr
    ·rw[if_neg ht];trivial
  obtain ⟨C3,hreb3,ρ3,R3⟩:=hw1 C' a1 w' hk hX
  obtain ⟨D3,hD3⟩:=R3.hp.dp
  refine ⟨ρ3,C3.Sh,⟨R3.hp.blk,λ id b L e1 e2 => ?_,R3.hp.inj,D3,hD3.re λ _ _ k _ _ h3=>h3.elim (λ h=>.inl (Nat.le_trans hreb3.fr.size h)) λ h=>hreb3.o _ h⟩,?_,λ id hid => ?_,hreb3.fr.trans R3.fr hreb3.o,hreb3.sh,λ k hk=>⟨Nat.lt_of_lt_of_le (C3.old k hk).1 R3.fr.size,hreb3.shn k hk⟩⟩
  ·obtain ⟨g1,g2,g3⟩:=R3.hp.own id b L e1 e2
   refine ⟨g1,g2,?_⟩
   rcases g3 with g3|g3
   ·exact .inl (Nat.le_trans hreb3.fr.size g3)
   ·exact hreb3.o _ g3
  ·have:=R3.env 0
   have e:a1.tmps.getD 0 undef=v:=by
    show (#[v]++Array.replicate (fn.ntmps-1) undef).getD 0 undef=v
    rw[Array.getD_eq_getD_getElem?,Array.getElem?_append_left (by simp)];rfl
   rw[e]at this
   exact this
  ·have hk0:id < C3.k0:=by rw[hreb3.k0];show id < C.k0;rw[hk];exact hid
   obtain ⟨g1,g2⟩:=R3.init id hk0
   refine ⟨g1,?_⟩
   rw[g2,hreb3.rho0]
 cases e with
 | normal=>exact hfinal
 | ret=>exact hfinal
 | exit id=>exact he.elim
end Go.Fm
namespace Go.Fm
variable [Globs]
def takeN:Nat->List CV->Option (List CV)
 | 0,_=>some []
 | n+1,c::r=>(takeN n r).map (c::·)
 | _+1,[]=>none
theorem takeN_some:∀ {n:Nat} {l r:List CV},takeN n l=some r->r=l.take n/\n<=l.length
 | 0,l,r,h=>by cases h;simp
 | n+1,c::l,r,h=>by
  obtain ⟨r',h1,rfl⟩:=Option.map_eq_some_iff.1 h
  obtain ⟨e1,e2⟩:=takeN_some h1
  exact ⟨by rw[e1];rfl,by simpa using e2⟩
 | n+1,[],r,h=>by cases h
def getC:Nat->List CV->Option (List CV)
 | 0,_=>none
 | n+1,l=>takeN (n+1) l
theorem getC_some {n:Nat} {l r:List CV} (h:getC n l=some r):r=l.take n/\n<=l.length/\0 < n:=by
 cases n with
 | zero=>cases h
 | succ n=>exact ⟨(takeN_some h).1,(takeN_some h).2,Nat.succ_pos _⟩
def putN:Nat->List CV->List CV->Option (List CV)
 | 0,[],cs=>some cs
 | 0,n::ns,_::cs=>(putN 0 ns cs).map (n::·)
 | off+1,ns,c::cs=>(putN off ns cs).map (c::·)
 | _,_,[]=>none
theorem putN_some:∀ {off:Nat} {ns cs r:List CV},putN off ns cs=some r->off+ns.length<=cs.length/\r=over cs off ns
 | 0,[],cs,r,h=>by
  have:r=cs:=by cases cs<;>(simp only[putN]at h;exact (Option.some.inj h).symm)
  subst this
  simp[over]
 | 0,n::ns,_::cs,r,h=>by
  obtain ⟨r',h1,rfl⟩:=Option.map_eq_some_iff.1 h
  obtain ⟨e1,e2⟩:=putN_some h1
  refine ⟨by simpa using e1,?_⟩
  rw[e2]
  simp[over]
 | off+1,ns,c::cs,r,h=>by
  have h:(putN off ns cs).map (c::·)=some r:=h
  obtain ⟨r',h1,rfl⟩:=Option.map_eq_some_iff.1 h
  obtain ⟨e1,e2⟩:=putN_some h1
  refine ⟨by simp only[List.length_cons];omega,?_⟩
  rw[e2]
  simp only[over,List.take_succ_cons,List.cons_append,show off+1+ns.length=(off+ns.length)+1 by omega,List.drop_succ_cons]
 | 0,n::ns,[],r,h=>by cases h
 | off+1,ns,[],r,h=>by cases h
def winC (lo n sz:Nat) (cs:List CV):List CV:=(cs.drop (lo*sz)).take (n*sz)
def eI (k:IntKind) (n:Int):List CV:=[.int k n]
def bsOf (l:List UInt8):List Int:=l.map λ b=>(b.toNat:Int)
theorem bsOf_flat (l:List UInt8):(bsOf l).flatMap (eI .u8)=l.map λ b=>.int .u8 b.toNat:=by
 induction l with
 | nil=>rfl
 | cons b r ih=>simp only[bsOf,List.map_cons,List.flatMap_cons]at ih ⊢;rw[ih];rfl
def cellsG (φ:St) (size:Nat):SV->(List Nat->Nat->List CV->Prop)->Prop
 | .pv (.one (.arr id lo n)),K=>kLive (φ.heap id) λ b=>b.sz=size/\lo+n<=b.n/\K [id] n (winC lo n size b.cs)
 | .pv (.one (.imm sz n cs)),K=>sz=size/\K [] n cs
 | .pv (.one .emp),K=>K [] 0 []
 | .pv (.one (.str l)),K=>size=1/\K [] l.length ((bsOf l).flatMap (eI .u8))
 | _,_=>False
theorem cellsG_eq (φ:St) (size:Nat) (x:SV) (K:List Nat->Nat->List CV->Prop):cellsG φ size x K->φ.cells size x K:=by
 intro h
 unfold cellsG at h
 unfold St.cells
 split at h
 ·exact h
 ·exact h
 ·exact h
 ·rw[bsOf_flat]at h;exact h
 ·exact h.elim
def builtinG (T:TypeId->TyI) (b:Builtin) (ats:List TypeId) (xs:List SV) (φ:St) (nid:Nat) (K:Action->Prop):Prop :=
 match b,ats,xs with
 | .append,t::t2::_,[x,y] =>
  (match (T t).kind,(T t2).kind with
  | .slice e, .slice _ | .slice e, .str=>kO ((T e).size) λ size=>kO ((T e).bytes) λ by_=>kO ((T e).zero) λ z=>by_<=1024/\z.length=size/\cellsG φ size y λ rd m ns =>
    (match x with
    | .pv (.one (.arr id lo n))=>kLive (φ.heap id) λ b=>b.sz=size/\lo+n<=b.n/\n+m<=maxN ∧
      K ⟨id::rd,one (.arr nid 0 (n+m)),[(id, .dead),(nid, .live ⟨size,n+m,winC lo n size b.cs++ns⟩)]⟩
    | .pv (.one .emp)=>m<=maxN/\K ⟨rd,one (.arr nid 0 m),[(nid, .live ⟨size,m,ns⟩)]⟩
    | _=>False)
  | .slice e, .int _=>kO ((T e).size) λ size=>kO ((T e).bytes) λ by_=>kO ((T e).zero) λ z=>(by_<=1024/\z.length=size) ∧
    (match x with
    | .pv (.one .emp)=>y.kI λ k n=>(k=.i64/\0<=n/\n<=maxN)/\K ⟨[],one (.arr nid 0 n.toNat),[(nid, .live ⟨size,n.toNat,(List.replicate n.toNat z).flatten⟩)]⟩
    | _=>False)
  | _,_=>False)
 | .copy,t::t2::_,[x,y] =>
  (match (T t).kind,(T t2).kind with
  | .slice e, .slice _ | .slice e, .str=>kO ((T e).size) λ size=>cellsG φ size y λ rd m ns =>
    (match x with
    | .pv (.one (.arr id lo n))=>kLive (φ.heap id) λ b=>b.sz=size/\lo+n<=b.n ∧
      K ⟨id::rd,one (.int .i64 (min m n:Nat)),[(id, .live ⟨size,b.n,over b.cs (lo*size) (ns.take (min m n*size))⟩)]⟩
    | .pv (.one .emp)=>K ⟨rd,one (.int .i64 0),[]⟩
    | _=>False)
  | _,_=>False)
 | b,ats,xs=>builtinFT T b ats xs φ nid K
theorem cells_mono {φ:St} {size:Nat} {x:SV} {K K':List Nat->Nat->List CV->Prop} (h:φ.cells size x K) (hk:∀ a b c,K a b c->K' a b c):φ.cells size x K':=by
 unfold St.cells at h ⊢
 split at h
 ·obtain ⟨b,h1,h2⟩:=kLive_elim h
  rw[h1]
  exact ⟨h2.1,h2.2.1,hk _ _ _ h2.2.2⟩
 ·exact ⟨h.1,hk _ _ _ h.2⟩
 ·exact hk _ _ _ h
 ·exact ⟨h.1,hk _ _ _ h.2⟩
 ·exact h.elim
theorem kO_mono {α:Type} {x:Option α} {K K':α->Prop} (h:kO x K) (hk:∀ y,K y->K' y):kO x K':=by
 cases x with
 | none=>exact h
 | some y=>exact hk y h
theorem builtinG_eq {T:TypeId->TyI} {b:Builtin} {ats:List TypeId} {xs:List SV} {φ:St} {nid:Nat} {K:Action->Prop} (h:builtinG T b ats xs φ nid K):builtinFT T b ats xs φ nid K:=by
 unfold builtinG at h
 split at h
 ·unfold builtinFT
  simp only
  split at h
  ·rename_i h1 h2
   rw[h1,h2]
   exact kO_mono h λ _ h=>kO_mono h λ _ h=>kO_mono h λ _ h=>⟨h.1,h.2.1,cells_mono (cellsG_eq _ _ _ _ h.2.2) λ _ _ _ h=>h⟩
  ·rename_i h1 h2
   rw[h1,h2]
   exact kO_mono h λ _ h=>kO_mono h λ _ h=>kO_mono h λ _ h=>⟨h.1,h.2.1,cells_mono (cellsG_eq _ _ _ _ h.2.2) λ _ _ _ h=>h⟩
  ·rename_i h1 h2
   rw[h1,h2]
   exact h
  ·exact h.elim
 ·unfold builtinFT
  simp only
  split at h
  ·rename_i h1 h2
   rw[h1,h2]
   exact kO_mono h λ _ h=>cells_mono (cellsG_eq _ _ _ _ h) λ _ _ _ h=>h
  ·rename_i h1 h2
   rw[h1,h2]
   exact kO_mono h λ _ h=>cells_mono (cellsG_eq _ _ _ _ h) λ _ _ _ h=>h
  ·exact h.elim
 ·exact h
def actG (T:TypeId->TyI) (o:Oper) (φ:St) (nid:Nat) (K:Action->Prop):Prop :=
 match o.op with
 | .convert s d x=>(match (T s).kind,(T d).kind with
  | .int _, .int k=>(φ.ev x).kI λ _ n=>K ⟨[],one (.int k (k.wrap n)),[]⟩
  | .str, .str=>(φ.ev x).kS λ l=>K ⟨[],one (.str l),[]⟩
  | .str, .slice e=>isU8T T e=true/\(φ.ev x).kS λ l=>l.length<=maxN/\K ⟨[],one (.arr nid 0 l.length),[(nid, .live ⟨1,l.length,(bsOf l).flatMap (eI .u8)⟩)]⟩
  | .slice e, .str=>isU8T T e=true/\notStr (φ.ev x)=true/\cellsG φ 1 (φ.ev x) λ rd n cs=>kO (bytesCs cs) λ l=>K ⟨rd,one (.str l),[]⟩
  | _,_=>False)
 | .field t x f=>kO ((T t).fl[f]?) λ q=>kO ((T q.2).size) λ size=>kO ((T q.2).agg) λ b=>(φ.ev x).kA λ cs=>(b=false->size=1)/\kO (getC size (cs.drop q.1)) λ ns=>K ⟨[], .pv (pvOf b ns),[]⟩
 | .load t x=>kO ((T t).size) λ size=>kO ((T t).agg) λ b=>(b=false->size=1) ∧
   @kPtrI (φ.ev x) ⟨(λ id off=>kLive (φ.heap id) λ bl=>kO (getC size (bl.cs.drop off)) λ ns=>K ⟨[id], .pv (pvOf b ns),[]⟩),(λ cs=>kO (getC size cs) λ ns=>K ⟨[], .pv (pvOf b ns),[]⟩)⟩
 | .store t x v=>kO ((T t).size) λ size=>(φ.ev v).kC λ ns=>ns.length=size ∧
   @kPtrI (φ.ev x) ⟨(λ id off=>kLive (φ.heap id) λ bl=>kO (putN off ns bl.cs) λ cs=>K ⟨[id],one .dead,[(id, .live ⟨bl.sz,bl.n,cs⟩)]⟩),(λ _=>False)⟩
 | .call c=>(match c.callee with
  | .builtin b=>builtinG T b c.argTypes.toList (c.args.toList.map φ.ev) φ nid K
  | _=>False)
 | _=>actT T o φ nid K
theorem kA_mono {x:SV} {K K':List CV->Prop} (h:x.kA K) (hk:∀ y,K y->K' y):x.kA K':=by
 obtain ⟨cs,rfl,h⟩:=SV.kA_elim h
 exact hk _ h
theorem kC_mono {x:SV} {K K':List CV->Prop} (h:x.kC K) (hk:∀ y,K y->K' y):x.kC K':=by
 unfold SV.kC at h ⊢
 split at h
 ·exact h.elim
 ·rename_i hd;exact hk _ h
 ·exact hk _ h
 ·exact h.elim
theorem kPtr_mono {x:SV} {a a':Nat->Nat->Prop} {b b':List CV->Prop} (h:x.kPtr a b) (ha:∀ i o,a i o->a' i o) (hb:∀ c,b c->b' c):x.kPtr a' b':=by
 rcases SV.kPtr_elim h with ⟨id,off,rfl,h⟩|⟨cs,rfl,h⟩
 ·exact ha _ _ h
 ·exact hb _ h
theorem kLive_mono {x:HS} {K K':Blk->Prop} (h:kLive x K) (hk:∀ y,K y->K' y):kLive x K':=by
 obtain ⟨b,rfl,h⟩:=kLive_elim h
 exact hk _ h
theorem actG_eq {T:TypeId->TyI} {o:Oper} {φ:St} {nid:Nat} {K:Action->Prop} (h:actG T o φ nid K):actT T o φ nid K:=by
 unfold actG at h
 split at h
 ·rename_i s d x ho
  unfold actT
  rw[ho]
  simp only
  split at h
  ·rename_i h1 h2;rw[h1,h2];exact h
  ·rename_i h1 h2;rw[h1,h2];exact h
  ·rename_i h1 h2
   rw[h1,h2]
   refine ⟨h.1,?_⟩
   obtain ⟨l,hl,h3,h4⟩:=SV.kS_elim h.2
   rw[hl]
   rw[bsOf_flat]at h4
   exact ⟨h3,h4⟩
  ·rename_i h1 h2;rw[h1,h2];exact ⟨h.1,h.2.1,cellsG_eq _ _ _ _ h.2.2⟩
  ·exact h.elim
 ·rename_i t x f ho
  unfold actT
  rw[ho]
  exact kO_mono h λ q h=>kO_mono h λ size h=>kO_mono h λ b h=>kA_mono h λ cs h=>by
   obtain ⟨h1,h2⟩:=h
   obtain ⟨ns,e,h2⟩:=kO_elim h2
   obtain ⟨rfl,e2,e3⟩:=getC_some e
   rw[List.length_drop]at e2
   exact ⟨by omega,h1,h2⟩
 ·rename_i t x ho
  unfold actT
  rw[ho]
  exact kO_mono h λ size h=>kO_mono h λ b h=>⟨h.1,kPtr_mono h.2 (λ i o h=>kLive_mono h λ bl h=>by
   obtain ⟨ns,e,h2⟩:=kO_elim h
   obtain ⟨rfl,e2,e3⟩:=getC_some e
   rw[List.length_drop]at e2
   exact ⟨by omega,h2⟩) (λ cs h=>by
   obtain ⟨ns,e,h2⟩:=kO_elim h
   obtain ⟨rfl,e2,e3⟩:=getC_some e
   exact ⟨e2,h2⟩)⟩
 ·rename_i t x v ho
  unfold actT
  rw[ho]
  exact kO_mono h λ size h=>kC_mono h λ ns h=>⟨h.1,kPtr_mono h.2 (λ i o h=>kLive_mono h λ bl h=>by
   obtain ⟨cs,e,h2⟩:=kO_elim h
   obtain ⟨e2,rfl⟩:=putN_some e
   exact ⟨e2,h2⟩) (λ cs h=>h)⟩
 ·rename_i c ho
  unfold actT
  rw[ho]
  simp only
  split at h
  ·rename_i b hb;rw[hb];exact builtinG_eq h
  ·exact h.elim
 ·exact h
end Go.Fm
