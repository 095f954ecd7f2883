import Derived.Test.YtnhefmibcnbehaaDoorMA
set_option linter.all false
namespace Go.Fm
variable [Globs]
variable {P:Program} {o:Oper} {φ:St} {nid:Nat}
section
variable {w:World} {Sh:Nat->Prop} {ρ:Rho} {h:Nat->HS}
theorem RV.int {u:Value} {k:IntKind} {n:Int} (hv:RV w Sh ρ h u (.int k n)):u=.int k n:=by cases hv;rfl
theorem RV.bool {u:Value} {b:Bool} (hv:RV w Sh ρ h u (.bool b)):u=.bool b:=by cases hv;rfl
theorem RV.str {u:Value} {l:List UInt8} (hv:RV w Sh ρ h u (.str l)):∃ s:ByteArray,u=.string s/\s.data.toList=l:=by cases hv;exact ⟨_,rfl,rfl⟩
end
theorem part_run {t:TypeId} (hb:aggF P t=some false) {cs:Array Value} {off:Nat} {u:Value} (hu:cs[off]? = some u) (w:World):(part t cs off).run P w=.ok u w:=by
 simp[part,aggF_run hb,hu]
theorem eqCs_int {ks:List Nat} {a b:List CV} {r:Bool} (he:eqCs (0::ks) a b=some r):∃ k x y a' b' r',a=.int k x::a'/\b=.int k y::b'/\eqCs ks a' b'=some r'/\r=((x==y)&&r'):=by
 match a,b,he with
 | .int k x::a', .int k' y::b',he =>
  simp only[eqCs]at he
  split at he
  ·rename_i hkk
   subst hkk
   obtain ⟨r',hr',rfl⟩:=Option.map_eq_some_iff.1 he
   exact ⟨_,_,_,_,_,_,rfl,rfl,hr',rfl⟩
  ·cases he
theorem eqCs_bool {ks:List Nat} {a b:List CV} {r:Bool} (he:eqCs (1::ks) a b=some r):∃ x y a' b' r',a=.bool x::a'/\b=.bool y::b'/\eqCs ks a' b'=some r'/\r=((x==y)&&r'):=by
 match a,b,he with
 | .bool x::a', .bool y::b',he =>
  simp only[eqCs]at he
  obtain ⟨r',hr',rfl⟩:=Option.map_eq_some_iff.1 he
  exact ⟨_,_,_,_,_,rfl,rfl,hr',rfl⟩
theorem eqCs_str {ks:List Nat} {a b:List CV} {r:Bool} (he:eqCs (2::ks) a b=some r):∃ x y a' b' r',a=.str x::a'/\b=.str y::b'/\eqCs ks a' b'=some r'/\r=((x==y)&&r'):=by
 match a,b,he with
 | .str x::a', .str y::b',he =>
  simp only[eqCs]at he
  obtain ⟨r',hr',rfl⟩:=Option.map_eq_some_iff.1 he
  exact ⟨_,_,_,_,_,rfl,rfl,hr',rfl⟩
theorem eq_loop {w:World} {Sh:Nat->Prop} {ρ:Rho} {h:Nat->HS} (d:Nat) (xs ys:Array Value):∀ (fs:List Field) (i:Nat) (ks:List Nat) (a b:List CV) (r:Bool),
  flatL P i fs=some ks->eqCs ks a b=some r->(∀ (j:Nat) (c:CV),a[j]? = some c->∃ u,xs[i+j]? = some u/\RV w Sh ρ h u c)->(∀ (j:Nat) (c:CV),b[j]? = some c->∃ u,ys[i+j]? = some u/\RV w Sh ρ h u c) →
  (forIn fs ((none,()):Option Bool×Unit) λ f __s =>
      if f.name ≠ "_" then do
       let x ← part f.type xs f.offset
       let y ← part f.type ys f.offset
       let e ← Op.equalIn (d+1) f.type x y
       if (!e)=true then pure (ForInStep.done (some false,())) else pure (ForInStep.yield (none,()))
      else (pure (ForInStep.yield (none,())):Sem _)).run P w=.ok (if r then (none,()) else (some false,())) w
 | [],i,ks,a,b,r,hf,he,_,_=>by
  simp only[flatL,Option.some.injEq]at hf
  subst hf
  match a,b,he with
  | [],[],he=>simp only[eqCs,Option.some.injEq]at he;subst he;rfl
 | f::fs,i,ks,a,b,r,hf,he,ha,hb=>by
  simp only[flatL]at hf
  split at hf
  ·rename_i hn
   obtain ⟨hname,hoff⟩:=hn
   have step:∀ (u v:Value) (e r':Bool) (ks':List Nat) (a' b':List CV) (c1 c2:CV),aggF P f.type=some false->xs[i]? = some u->ys[i]? = some v->(Op.equalIn (d+1) f.type u v).run P w=.ok e w →
     flatL P (i+1) fs=some ks'->eqCs ks' a' b'=some r'->a=c1::a'->b=c2::b'->r=(e&&r') → 
     (forIn (f::fs) ((none,()):Option Bool×Unit) λ f __s =>
      if f.name ≠ "_" then do
       let x ← part f.type xs f.offset
       let y ← part f.type ys f.offset
       let e ← Op.equalIn (d+1) f.type x y
       if (!e)=true then pure (ForInStep.done (some false,())) else pure (ForInStep.yield (none,()))
      else (pure (ForInStep.yield (none,())):Sem _)).run P w=.ok (if r then (none,()) else (some false,())) w:=by
    intro u v e r' ks' a' b' c1 c2 hagg hu hv hrun hfl heq ea eb er
    subst ea eb er
    have ih:=eq_loop d xs ys fs (i+1) ks' a' b' r' hfl heq (λ j c hc=>by
      have:=ha (j+1) c (by simpa using hc)
      rwa [show i+(j+1)=i+1+j by omega]at this) (λ j c hc=>by
      have:=hb (j+1) c (by simpa using hc)
      rwa [show i+(j+1)=i+1+j by omega]at this)
    rw[List.forIn_cons]
    simp only[hname,ne_eq,not_false_eq_true,if_true,Sem.run_bind,hoff,part_run hagg hu,part_run hagg hv,hrun,Result.andThen_ok,Sem.run_ite,Sem.run_pure]
    cases e with
    | true=>simpa [hoff] using ih
    | false=>simp
   have hagg:∀ dsc,P.underlying f.type=some dsc->(match dsc with | .struct _ | .array _ _=>true|_=>false)=false->aggF P f.type=some false:=by
    intro dsc h1 h2;simp only[aggF,h1,Option.map_some];cases dsc<;>simp_all
   split at hf
   ·rename_i kk hu
    obtain ⟨ks',hk,rfl⟩:=Option.map_eq_some_iff.1 hf
    obtain ⟨k,x,y,a',b',r',ea,eb,hr',er⟩:=eqCs_int he
    obtain ⟨u,hu1,hu2⟩:=ha 0 _ (by rw[ea];rfl)
    obtain ⟨v,hv1,hv2⟩:=hb 0 _ (by rw[eb];rfl)
    refine step u v (x==y) r' ks' a' b' _ _ (hagg _ hu rfl) hu1 hv1 ?_ hk hr' ea eb er
    rw[hu2.int,hv2.int]
    simp[Op.equalIn,run_underlying hu]
   ·rename_i hu
    obtain ⟨ks',hk,rfl⟩:=Option.map_eq_some_iff.1 hf
    obtain ⟨x,y,a',b',r',ea,eb,hr',er⟩:=eqCs_bool he
    obtain ⟨u,hu1,hu2⟩:=ha 0 _ (by rw[ea];rfl)
    obtain ⟨v,hv1,hv2⟩:=hb 0 _ (by rw[eb];rfl)
    refine step u v (x==y) r' ks' a' b' _ _ (hagg _ hu rfl) hu1 hv1 ?_ hk hr' ea eb er
    rw[hu2.bool,hv2.bool]
    simp[Op.equalIn,run_underlying hu]
   ·rename_i hu
    obtain ⟨ks',hk,rfl⟩:=Option.map_eq_some_iff.1 hf
    obtain ⟨x,y,a',b',r',ea,eb,hr',er⟩:=eqCs_str he
    obtain ⟨u,hu1,hu2⟩:=ha 0 _ (by rw[ea];rfl)
    obtain ⟨v,hv1,hv2⟩:=hb 0 _ (by rw[eb];rfl)
    refine step u v (x==y) r' ks' a' b' _ _ (hagg _ hu rfl) hu1 hv1 ?_ hk hr' ea eb er
    obtain ⟨s1,e1,l1⟩:=hu2.str
    obtain ⟨s2,e2,l2⟩:=hv2.str
    rw[e1,e2,<-l1,<-l2]
    simp only[Op.equalIn,Sem.run_bind,run_underlying hu,Result.andThen_ok,Sem.run_pure]
    congr 1
    rw[show (s1==s2)=(s1.data==s2.data) from rfl,Bool.eq_iff_iff]
    simp
   ·cases hf
  ·cases hf
theorem ok_bin_agg {op:BinOp} {t yt:TypeId} {x y:Operand} {K:CV->Prop} {a b:List CV} (ho:o.op=.binOp op t x y yt)
  (hx:φ.ev x=.pv (.agg a)) (hy:φ.ev y=.pv (.agg b)) (h:kBin P op t (.pv (.agg a)) (.pv (.agg b)) K):∃ c,ActOk P o φ nid ⟨[],one c,[]⟩/\K c:=by
 have key:∀ ks r,flatF P t=some ks->eqCs ks a b=some r->∀ (c:Bool),K (.bool c)->(op=.eql/\c=r\/op=.neq/\c = !r)->∃ c,ActOk P o φ nid ⟨[],one c,[]⟩/\K c:=by
  intro ks r hf he c hK hop
  refine ⟨.bool c, .quiet λ C φ' ac w ρ hP hag R => ?_,hK⟩
  have h1:=R.ev x
  have h2:=R.ev y
  rw[hag.env x (by simp[ho,Op.operands]),hx]at h1
  rw[hag.env y (by simp[ho,Op.operands]),hy]at h2
  obtain ⟨vs,e1,l1,p1⟩:=h1
  obtain ⟨us,e2,l2,p2⟩:=h2
  unfold flatF at hf
  split at hf
  ·rename_i fs hu
   split at hf
   ·rename_i hst
    have hl:=eq_loop (P:=P) (w:=w) (Sh:=C.Sh) (ρ:=ρ) (h:=φ'.heap) 9998 vs.toArray us.toArray fs.toList 0 ks a b r hf he (λ j c hc=>by simpa using p1 j c hc) (λ j c hc=>by simpa using p2 j c hc)
    have hl':(Op.equal t (.agg vs.toArray) (.agg us.toArray)).run P w=.ok r w:=by
     unfold Op.equal Op.maxDepth
     rw[show (10000:Nat)=9998+1+1 from rfl]
     unfold Op.equalIn
     simp only[Sem.run_bind,run_underlying hu,Result.andThen_ok,run_program,hst.1,Bool.false_eq_true,if_false]
     rw[<-Array.forIn_toList,hl]
     cases r<;>rfl
    have hg:(eqGuard op t x y (.agg vs.toArray) (.agg us.toArray)).run P w=.ok () w:=by
     unfold eqGuard
     rcases hop with ⟨rfl,_⟩|⟨rfl,_⟩<;>simp[hst.2]
    refine ⟨.bool c,?_, .of_RI (.bool _)⟩
    rcases hop with ⟨rfl,rfl⟩|⟨rfl,rfl⟩
    ·simp only[execOp,ho,e1,e2,Sem.run_bind,hg,Result.andThen_ok,binOp,hl',Sem.run_pure]
    ·simp only[execOp,ho,e1,e2,Sem.run_bind,hg,Result.andThen_ok,binOp,hl',Sem.run_pure]
   ·cases hf
  ·split at hf
   ·split at hf
    ·cases hf
     unfold eqCs at he
     split at he<;>simp_all
    ·cases hf
   ·cases hf
  ·cases hf
 simp only[kBin]at h
 cases op<;>simp only at h<;>try exact h.elim
 ·obtain ⟨ks,hk,h⟩:=kO_elim h
  obtain ⟨r,hr,h⟩:=kO_elim h
  exact key ks r hk hr r h (.inl ⟨rfl,rfl⟩)
 ·obtain ⟨ks,hk,h⟩:=kO_elim h
  obtain ⟨r,hr,h⟩:=kO_elim h
  exact key ks r hk hr (!r) h (.inr ⟨rfl,rfl⟩)
theorem ok_bin {op:BinOp} {t yt:TypeId} {x y:Operand} {K:CV->Prop} (ho:o.op=.binOp op t x y yt) (h:kBin P op t (φ.ev x) (φ.ev y) K):∃ c,ActOk P o φ nid ⟨[],one c,[]⟩/\K c:=by
 generalize hx:φ.ev x=sx at h
 generalize hy:φ.ev y=sy at h
 have h0:=h
 unfold kBin at h
 split at h
 ·exact ok_bin_int ho hx hy h0
 ·exact ok_bin_str ho hx hy h0
 ·rename_i a b
  have key:∀ c,K (.bool c)->kindF P t=.bool->(op=.eql/\c=(a==b)\/op=.neq/\c=(a != b))->∃ c,ActOk P o φ nid ⟨[],one c,[]⟩/\K c:=by
   intro c hK hk hop
   refine ⟨.bool c, .quiet λ C φ' ac w ρ hP hag R => ?_,hK⟩
   have h1:=R.ev x
   have h2:=R.ev y
   rw[hag.env x (by simp[ho,Op.operands]),hx]at h1
   rw[hag.env y (by simp[ho,Op.operands]),hy]at h2
   refine ⟨.bool c,?_, .of_RI (.bool _)⟩
   have he:(Op.equal t (.bool a) (.bool b)).run P w=.ok (a==b) w:=by
    unfold Op.equal Op.maxDepth
    rw[show (10000:Nat)=9999+1 from rfl]
    unfold Op.equalIn
    simp[run_underlying (kindF_bool hk)]
   rcases hop with ⟨rfl,rfl⟩|⟨rfl,rfl⟩
   ·simp only[execOp,ho,h1.bool,h2.bool,Sem.run_bind,eqGuard_at_bool,Sem.run_pure,Result.andThen_ok,binOp,he]
   ·simp only[execOp,ho,h1.bool,h2.bool,Sem.run_bind,eqGuard_at_bool,Sem.run_pure,Result.andThen_ok,binOp,he,bne]
  split at h
  ·exact key _ h (by assumption) (.inl ⟨rfl,rfl⟩)
  ·exact key _ h (by assumption) (.inr ⟨rfl,rfl⟩)
  ·exact h.elim
 ·have key:∀ c,K (.bool c)->kindF P t=.iface->(op=.eql/\c=false\/op=.neq/\c=true)->∃ c,ActOk P o φ nid ⟨[],one c,[]⟩/\K c:=by
   intro c hK hk hop
   refine ⟨.bool c, .quiet λ C φ' ac w ρ hP hag R => ?_,hK⟩
   have h1:=R.ev x
   have h2:=R.ev y
   rw[hag.env x (by simp[ho,Op.operands]),hx]at h1
   rw[hag.env y (by simp[ho,Op.operands]),hy]at h2
   obtain ⟨ms,hms⟩:=kindF_iface hk
   have h1':RI w C.Sh (ac.eval x) .opq:=h1
   have h2':RI w C.Sh (ac.eval y) .nili:=h2
   generalize hv1:ac.eval x=v1 at h1'
   generalize hv2:ac.eval y=v2 at h2'
   cases h1' with
   | opq tt vv =>
   cases h2' with
   | nili =>
   refine ⟨.bool c,?_, .of_RI (.bool _)⟩
   have he:(Op.equal t (.iface tt vv) .nilIface).run P w=.ok false w:=by
    unfold Op.equal Op.maxDepth
    rw[show (10000:Nat)=9999+1 from rfl]
    unfold Op.equalIn
    simp[run_underlying hms]
   rcases hop with ⟨rfl,rfl⟩|⟨rfl,rfl⟩
   ·simp only[execOp,ho,hv1,hv2,Sem.run_bind,eqGuard_at_iface,Sem.run_pure,Result.andThen_ok,binOp,he]
   ·simp only[execOp,ho,hv1,hv2,Sem.run_bind,eqGuard_at_iface,Sem.run_pure,Result.andThen_ok,binOp,he,Bool.not_false]
  split at h
  ·exact key _ h (by assumption) (.inl ⟨rfl,rfl⟩)
  ·exact key _ h (by assumption) (.inr ⟨rfl,rfl⟩)
  ·exact h.elim
 ·exact ok_bin_agg ho hx hy h0
 ·exact h.elim
end Go.Fm
namespace Go.Fm
variable [Globs]
variable {P:Program} {o:Oper} {φ:St} {nid:Nat}
theorem setCells_run {w:World} {b o n:Nat} {vs:List Value} (hc:∀ j,j < vs.length->(w.cell? ⟨b,o+j,none⟩).isSome=true) (hf:∀ j,j < vs.length->w.frozen? ⟨b,o+j,none⟩=false)
  (h1:∀ v ∈ vs,v.oneCell'=true):(storeCells ⟨b,o,none⟩ vs).run P w=.ok () (w.setCells b o vs):=by
 have:=run_storeCells_cells (P:=P) b o vs 0 w (by simpa using hc) (by simpa using hf) h1
 simpa using this
theorem one_of_rel {w:World} {Sh:Nat->Prop} {ρ:Rho} {h:Nat->HS} {vs:List Value} {ns:List CV} (hl:vs.length=ns.length)
  (hr:∀ (j:Nat) (c:CV),ns[j]? = some c->∃ u:Value,vs[j]? = some u/\RV w Sh ρ h u c):∀ v ∈ vs,v.oneCell'=true:=by
 intro v hv
 obtain ⟨j,hj,rfl⟩:=List.mem_iff_getElem.1 hv
 obtain ⟨u,hu,hr'⟩:=hr j ns[j] (List.getElem?_eq_getElem (by omega))
 rw[List.getElem?_eq_getElem hj]at hu
 cases hu
 exact hr'.one
theorem ok_store {t:TypeId} {x v:Operand} {size id off:Nat} {bl:Blk} {K:List CV->Prop} (ho:o.op=.store t x v) (hs:sizeF P t=some size) (hv:(φ.ev v).kC K)
  (hx:φ.ev x=one (.ptr id off)) (hb:φ.heap id=.live bl):∃ ns,K ns/\(ns.length=size->off+ns.length<=bl.cs.length->ActOk P o φ nid ⟨[id],one .dead,[(id, .live ⟨bl.sz,bl.n,over bl.cs off ns⟩)]⟩):=by
 obtain ⟨ns,hK,hns⟩:=SV.kC_elim hv
 refine ⟨ns,hK,λ hl ho'=>.mk λ C φ' ac w ρ hP hag R => ?_⟩
 have h1:=R.ev x
 rw[hag.env x (by simp[ho,Op.operands]),hx]at h1
 have h2:=R.ev v
 rw[hag.env v (by simp[ho,Op.operands])]at h2
 obtain ⟨hsz,hrel⟩:=hns _ _ _ _ _ h2
 have hb':φ'.heap id=.live bl:=(hag.hp id (by simp)).trans hb
 obtain ⟨L,hL,he⟩:=h1.ptr hb'
 have hrb:=R.hp.blk id bl hb'
 unfold RB at hrb
 rw[hL]at hrb
 obtain ⟨q1,q2,q3,q4⟩:=hrb
 have hll:(ac.eval v).cells.toList.length=ns.length:=by rw[Array.length_toList];exact hsz
 refine ⟨undef,w.setCells L.b (L.o+off) (ac.eval v).cells.toList,ρ, .inr ⟨?_,rfl⟩,?_,trivial⟩
 ·have hrun:=setCells_run (P:=P) (w:=w) (b:=L.b) (o:=L.o+off) (n:=0) (vs:=(ac.eval v).cells.toList) (λ j hj=>by rw[Nat.add_assoc];exact (q3 (off+j) (by omega)).1)
   (λ j hj=>by rw[Nat.add_assoc];exact (q3 (off+j) (by omega)).2.1) (one_of_rel hll hrel)
  simp only[execOp,ho,he,Instr.storeAt,Instr.sureAddr,storeVar,Sem.run_bind,Sem.run_pure,Result.andThen_ok,sizeF_run hs]
  rw[if_neg (by rw[hsz,hl];simp),hrun]
  rfl
 ·exact R.store id bl L hb' hL off _ ns hll ho' hrel
theorem new_of {C:Ctx} {ρ:Rho} {φ':St} {ac:Act} {w:World} (R:RelAt C ρ φ' ac w) {nid:Nat} (hno:φ'.heap nid=.no) (t:TypeId) (vs:List Value) (ns:List CV) (sz n:Nat)
  (hl:vs.length=ns.length) (hn:ns.length=n*sz) (hr:∀ (j:Nat) (c:CV),ns[j]? = some c->∃ u:Value,vs[j]? = some u/\RV w C.Sh ρ φ'.heap u c) :
  RelAt C (upd ρ nid (some ⟨w.heap.size,0,vs.length⟩)) { φ' with heap:=upd φ'.heap nid (.live ⟨sz,n,ns⟩) } ac (w.alloc (.cells vs.toArray t)):=by
 refine R.new nid hno ⟨sz,n,ns⟩ vs.length (λ k hk=>Go.RowKit.Below.heap_alloc _ _ _ hk) (by simp) rfl rfl rfl hn (by simp[hl]) (λ j hj => ?_) (λ j c hc => ?_)
 ·rw[World.cell?_alloc_new,World.frozen?_alloc_new]
  exact ⟨by simp[hj],rfl,λ _ k=>World.frozen?_alloc_new ..⟩
 ·obtain ⟨u,hu,hq⟩:=hr j c hc
  refine ⟨u,?_,hq⟩
  rw[World.cell?_alloc_new]
  simpa using hu
theorem ptr_new {w:World} {Sh:Nat->Prop} {ρ:Rho} {h:Nat->HS} {nid:Nat} {b:Blk} {L:Loc} {v:Value} (hv:v=.pointer (some ⟨L.b,L.o,none⟩)) :
  RSV w Sh (upd ρ nid (some L)) (upd h nid (.live b)) v (one (.ptr nid 0)):=by
 show RPtr _ _ v nid 0
 unfold RPtr
 rw[upd_same]
 exact ⟨L,upd_same _ _ _,by simpa using hv⟩
theorem arr_new {w:World} {Sh:Nat->Prop} {ρ:Rho} {h:Nat->HS} {nid n cap:Nat} {b:Blk} {L:Loc} {v:Value} (hv:v=.slice (some ⟨L.b,L.o,none⟩) n cap) (h1:n<=cap) (h2:cap*b.sz<=L.e) (h3:n=b.n) :
  RSV w Sh (upd ρ nid (some L)) (upd h nid (.live b)) v (one (.arr nid 0 n)):=by
 refine RSV.of_one ?_
 simp only[RV,upd_same]
 left
 exact ⟨cap,by simpa using hv,h1,by simpa using h2,by omega,by omega⟩
theorem ok_box {t:TypeId} {x:Operand} {K:List CV->Prop} (ho:o.op=.box t x) (hv:(φ.ev x).kC K):∃ ns,K ns/\ActOk P o φ nid ⟨[],one (.ptr nid 0),[(nid, .live ⟨1,ns.length,ns⟩)]⟩:=by
 obtain ⟨ns,hK,hns⟩:=SV.kC_elim hv
 refine ⟨ns,hK, .mk λ C φ' ac w ρ hP hag R => ?_⟩
 have h2:=R.ev x
 rw[hag.env x (by simp[ho,Op.operands])]at h2
 obtain ⟨hsz,hrel⟩:=hns _ _ _ _ _ h2
 have hno:φ'.heap nid=.no:=hag.fresh _ (List.mem_singleton.2 rfl) (Nat.le_refl _)
 refine ⟨.pointer (some ⟨w.heap.size,0,none⟩),w.alloc (.cells (ac.eval x).cells t),upd ρ nid (some ⟨w.heap.size,0,(ac.eval x).cells.toList.length⟩), .inl ?_,?_,?_⟩
 ·simp only[execOp,ho,Instr.box,newVar,newRow,Sem.run_bind,run_newObj,Result.andThen_ok,Sem.run_pure,World.alloc_eq]
 ·have:=new_of R hno t (ac.eval x).cells.toList ns 1 ns.length (by rw[Array.length_toList];exact hsz) (by simp) hrel
  rwa [Array.toArray_toList]at this
 ·exact ptr_new rfl
theorem zeroF_run {t:TypeId} {z:List CV} (h:zeroF P t=some z):∃ v:Value,(∀ w,(zeroValue t).run P w=.ok v w)/\v.cells.size=z.length ∧
  ∀ (w:World) (Sh:Nat->Prop) (ρ:Rho) (hh:Nat->HS) (j:Nat) (c:CV),z[j]? = some c->∃ u:Value,v.cells.toList[j]? = some u/\RV w Sh ρ hh u c:=by
 unfold zeroF at h
 split at h
 ·rename_i v hv
  split at h
  ·rename_i ha
   cases h
   obtain ⟨i,hi,hz⟩:=Option.bind_eq_some_iff.1 hv
   refine ⟨v,λ w=>by simp[zeroValue,typeInfo,hi,hz],by simp,λ w Sh ρ hh j c hc => ?_⟩
   rw[List.getElem?_map]at hc
   cases hu:v.cells.toList[j]? with
   | none=>rw[hu]at hc;cases hc
   | some u =>
    rw[hu]at hc
    cases hc
    exact ⟨u,rfl,constCV_ok _ _ _ _ _ (List.all_eq_true.1 ha u (List.mem_of_getElem? hu))⟩
  ·cases h
 ·cases h
theorem zeroF_info {t:TypeId} {z:List CV} (h:zeroF P t=some z):∃ i v,P.info? t=some i/\i.zero=some v/\v.cells.size=z.length ∧
  ∀ (w:World) (Sh:Nat->Prop) (ρ:Rho) (hh:Nat->HS) (j:Nat) (c:CV),z[j]? = some c->∃ u:Value,v.cells.toList[j]? = some u/\RV w Sh ρ hh u c:=by
 have h0:=h
 unfold zeroF at h
 split at h
 ·rename_i v hv
  obtain ⟨i,hi,hz⟩:=Option.bind_eq_some_iff.1 hv
  obtain ⟨v',hr,h1,h2⟩:=zeroF_run h0
  have hrun:=hr default
  simp only[zeroValue,typeInfo,Sem.run_bind,run_program,Result.andThen_ok,hi,Sem.run_pure,hz]at hrun
  cases hrun
  exact ⟨i,v,hi,hz,h1,h2⟩
 ·cases h
theorem ok_alloc {t:TypeId} {z:List CV} (ho:o.op=.alloc t) (hz:zeroF P t=some z):ActOk P o φ nid ⟨[],one (.ptr nid 0),[(nid, .live ⟨1,z.length,z⟩)]⟩ :=
 .mk λ C φ' ac w ρ hP hag R=>by
  obtain ⟨v,hrun,hsz,hrel⟩:=zeroF_run hz
  have hno:φ'.heap nid=.no:=hag.fresh _ (List.mem_singleton.2 rfl) (Nat.le_refl _)
  refine ⟨.pointer (some ⟨w.heap.size,0,none⟩),w.alloc (.cells v.cells t),upd ρ nid (some ⟨w.heap.size,0,v.cells.toList.length⟩), .inl ?_,?_,?_⟩
  ·simp only[execOp,ho,Instr.alloc,newVar,newRow,Sem.run_bind,hrun,run_newObj,Result.andThen_ok,Sem.run_pure,World.alloc_eq]
  ·have:=new_of R hno t v.cells.toList z 1 z.length (by rw[Array.length_toList];exact hsz) (by simp) (hrel _ _ _ _)
   rwa [Array.toArray_toList]at this
  ·exact ptr_new rfl
theorem fold_set:∀ (us:List Value) (k off:Nat) (A:Array Value),off+k+us.length<=A.size →
  (us.zipIdx k).foldl (λ cs (p:Value×Nat)=>cs.setIfInBounds (off+p.2) p.1) A=(A.toList.take (off+k)++us++A.toList.drop (off+k+us.length)).toArray
 | [],k,off,A,h=>by simp
 | u::r,k,off,A,h=>by
  simp only[List.length_cons]at h
  rw[List.zipIdx_cons,List.foldl_cons,fold_set r (k+1) off _ (by simp;omega)]
  have hlt:off+k < A.toList.length:=by rw[Array.length_toList];omega
  congr 1
  simp only[Array.toList_setIfInBounds]
  rw[List.set_eq_take_append_cons_drop,if_pos hlt]
  have ht:(A.toList.take (off+k)).length=off+k:=by rw[List.length_take];omega
  rw[show off+(k+1)=off+k+1 by omega]
  have e1:(A.toList.take (off+k)++u::A.toList.drop (off+k+1)).take (off+k+1)=A.toList.take (off+k)++[u]:=by
   rw[List.take_append,ht,List.take_of_length_le (by rw[ht];omega),show off+k+1-(off+k)=1 by omega]
   simp
  have e2:(A.toList.take (off+k)++u::A.toList.drop (off+k+1)).drop (off+k+1+r.length)=A.toList.drop (off+k+(r.length+1)):=by
   rw[List.drop_append,ht,List.drop_of_length_le (by rw[ht];omega),show off+k+1+r.length-(off+k)=r.length+1 by omega,List.drop_succ_cons,List.drop_drop]
   simp
   congr 1
   omega
  rw[e1,e2]
  simp
theorem fold_setA (us:Array Value) (off:Nat) (A:Array Value) (h:off+us.size<=A.size) :
  us.zipIdx.foldl (λ cs (p:Value×Nat)=>cs.setIfInBounds (off+p.2) p.1) A=(A.toList.take off++us.toList++A.toList.drop (off+us.size)).toArray:=by
 rw[<-Array.foldl_toList,Array.toList_zipIdx,fold_set us.toList 0 off A (by simpa using h)]
 simp
theorem parts_elim (size:Nat):∀ (l:List (Nat×Operand)) (i:Nat) (K:List CV->Prop),partsOf φ size i l K->∃ ns,K ns/\ns.length=l.length*size ∧
  ∀ (w:World) (Sh:Nat->Prop) (ρ:Rho) (h:Nat->HS) (ev:Operand->Value),(∀ p ∈ l,RSV w Sh ρ h (ev p.2) (φ.ev p.2)) →
   ∀ (pre post:List Value),pre.length=i*size->post.length=l.length*size->∃ vs:List Value,vs.length=ns.length/\(∀ (j:Nat) (c:CV),ns[j]? = some c->∃ u:Value,vs[j]? = some u/\RV w Sh ρ h u c) ∧
    Instr.fill (λ i=>some (i*size,size)) (pre++post).toArray (l.map λ p=>(p.1,ev p.2))=some (pre++vs).toArray
 | [],i,K,h=>⟨[],h,by simp,λ w Sh ρ h ev _ pre post h1 h2=>⟨[],rfl,λ j c hc=>by simp at hc,by
   have:post=[]:=by simpa using h2
   simp[this,Instr.fill]⟩⟩
 | (j,x)::r,i,K,h=>by
  simp only[partsOf]at h
  obtain ⟨rfl,h⟩:=h
  obtain ⟨cs,⟨hl,h⟩,hcs⟩:=SV.kC_elim h
  obtain ⟨ds,hK,hdl,hds⟩:=parts_elim size r (j+1) _ h
  refine ⟨cs++ds,hK,by simp[hl,hdl,Nat.add_mul];omega,λ w Sh ρ hh ev hev pre post h1 h2 => ?_⟩
  obtain ⟨hsz,hrel⟩:=hcs w Sh ρ hh (ev x) (hev (j,x) (by simp))
  have hp1:(post.take size).length=size:=by simp at h2 ⊢;rw[h2,Nat.add_mul];omega
  obtain ⟨vs,hvl,hvr,hfill⟩:=hds w Sh ρ hh ev (λ p hp=>hev p (by simp[hp])) (pre++(ev x).cells.toList) (post.drop size) (by simp[h1,hsz,hl,Nat.add_mul]) (by simp[h2,Nat.add_mul])
  refine ⟨(ev x).cells.toList++vs,by simp[hsz,hvl],λ k c hc => ?_,?_⟩
  ·by_cases hk:k < cs.length
   ·rw[List.getElem?_append_left hk]at hc
    obtain ⟨u,hu,hr⟩:=hrel k c hc
    exact ⟨u,by rw[List.getElem?_append_left (by rw[Array.length_toList,hsz];exact hk)];exact hu,hr⟩
   ·rw[List.getElem?_append_right (by omega)]at hc
    obtain ⟨u,hu,hr⟩:=hvr _ c hc
    exact ⟨u,by rw[List.getElem?_append_right (by rw[Array.length_toList,hsz];omega),Array.length_toList,hsz];exact hu,hr⟩
  ·simp only[List.map_cons,Instr.fill]
   rw[if_neg (by simp[hsz,hl];simp at h2;rw[h1,h2,Nat.add_mul];omega)]
   have e:((ev x).cells.zipIdx.foldl (λ cs (p:Value×Nat)=>cs.setIfInBounds (j*size+p.2) p.1) (pre++post).toArray)=(pre++(ev x).cells.toList++post.drop size).toArray:=by
    rw[fold_setA _ _ _ (by simp[hsz,hl];simp at h2;rw[h1,h2,Nat.add_mul];omega)]
    congr 1
    simp[hsz,hl,h1,List.take_append,List.drop_append]
   show Instr.fill _ ((ev x).cells.zipIdx.foldl (λ cs (p:Value×Nat)=>cs.setIfInBounds (j*size+p.2) p.1) (pre++post).toArray) _=_
   rw[e,hfill]
   simp
theorem range_pre (f:Nat->Value) (n:Nat):((Array.range n).map f)=(([]:List Value)++(List.range n).map f).toArray:=by
 apply Array.ext' ;simp
theorem ok_buildSlice {t e:TypeId} {n size:Nat} {ps:Array (Nat×Operand)} {K:List CV->Prop} (ho:o.op=.buildSlice t n ps) (ht:kindF P t=.slice e) (hs:sizeF P e=some size) (hn:n*size<=4096) (h0:size≠0)
  (hps:n=ps.size) (hz:(zeroF P e).isSome=true) (h:partsOf φ size 0 ps.toList K):∃ cs,K cs/\ActOk P o φ nid ⟨[],one (.arr nid 0 n),[(nid, .live ⟨size,n,cs⟩)]⟩:=by
 obtain ⟨cs,hK,hl,hrel⟩:=parts_elim size _ _ _ h
 refine ⟨cs,hK, .mk λ C φ' ac w ρ hP hag R => ?_⟩
 have hno:φ'.heap nid=.no:=hag.fresh _ (List.mem_singleton.2 rfl) (Nat.le_refl _)
 obtain ⟨z,hz⟩:=Option.isSome_iff_exists.1 hz
 obtain ⟨zv,hzr,hzs,_⟩:=zeroF_run hz
 have hll:ps.toList.length=n:=by rw[Array.length_toList];exact hps.symm
 have hev:∀ p ∈ ps.toList,RSV w C.Sh ρ φ'.heap (ac.eval p.2) (φ.ev p.2):=by
  intro p hp
  have:=R.ev p.2
  rwa [hag.env p.2 (by simp only[ho,Op.operands,List.mem_toArray,List.mem_map];exact ⟨p,hp,rfl⟩)]at this
 have hpost:∀ f:Nat->Value,((List.range (n*size)).map f).length=ps.toList.length*size:=λ f=>by simp[hll]
 by_cases hn0:n*size=0
 ·obtain ⟨vs,hvl,hvr,hfill⟩:=hrel w C.Sh ρ φ'.heap ac.eval hev [] ((List.range (n*size)).map ((#[]:Array Value)[· % 0]!)) (by simp) (hpost _)
  refine ⟨.slice (some ⟨w.heap.size,0,none⟩) n n,w.alloc (.cells vs.toArray e),upd ρ nid (some ⟨w.heap.size,0,vs.length⟩), .inl ?_,new_of R hno e vs cs size n hvl (by rw[hl,hll]) hvr,arr_new rfl (Nat.le_refl _) (by rw[hvl,hl,hll];exact Nat.le_refl _) rfl⟩
  rw[<-range_pre]at hfill
  have hfill':Instr.fill (λ i=>some (i*size,size)) ((Array.range (n*size)).map ((#[]:Array Value)[· % (#[]:Array Value).size]!)) (ps.map λ p=>(p.1,ac.eval p.2)).toList=some vs.toArray:=by
   simpa using hfill
  simp only[execOp,ho,Instr.buildSlice,Sem.run_bind,run_underlying (kindF_underlying ht),Result.andThen_ok,sizeF_run hs,Sem.run_ite,if_neg (show ¬ n*size > 2 ^ 24 by omega),if_pos hn0,Sem.run_pure,hfill',newRow,run_newObj,World.alloc_eq]
 ·obtain ⟨vs,hvl,hvr,hfill⟩:=hrel w C.Sh ρ φ'.heap ac.eval hev [] ((List.range (n*size)).map (zv.cells[· % zv.cells.size]!)) (by simp) (hpost _)
  refine ⟨.slice (some ⟨w.heap.size,0,none⟩) n n,w.alloc (.cells vs.toArray e),upd ρ nid (some ⟨w.heap.size,0,vs.length⟩), .inl ?_,new_of R hno e vs cs size n hvl (by rw[hl,hll]) hvr,arr_new rfl (Nat.le_refl _) (by rw[hvl,hl,hll];exact Nat.le_refl _) rfl⟩
  rw[<-range_pre]at hfill
  have hfill':Instr.fill (λ i=>some (i*size,size)) ((Array.range (n*size)).map (zv.cells[· % zv.cells.size]!)) (ps.map λ p=>(p.1,ac.eval p.2)).toList=some vs.toArray:=by
   simpa using hfill
  simp only[execOp,ho,Instr.buildSlice,Sem.run_bind,run_underlying (kindF_underlying ht),Result.andThen_ok,sizeF_run hs,Sem.run_ite,if_neg (show ¬ n*size > 2 ^ 24 by omega),if_neg hn0,hzr,Sem.run_pure,hfill',newRow,run_newObj,World.alloc_eq]
theorem rep_get {α:Type} (z:List α):∀ (n j:Nat),j < n*z.length->(List.replicate n z).flatten[j]? = z[j % z.length]?
 | 0,j,h=>by simp at h
 | n+1,j,h=>by
  rw[List.replicate_succ,List.flatten_cons]
  by_cases hj:j < z.length
  ·rw[List.getElem?_append_left hj,Nat.mod_eq_of_lt hj]
  ·rw[List.getElem?_append_right (by omega),rep_get z n (j-z.length) (by rw[Nat.add_mul]at h;omega)]
   rw[<-Nat.mod_eq_sub_mod (by omega)]
theorem rep_len {α:Type} (z:List α) (n:Nat):(List.replicate n z).flatten.length=n*z.length:=by simp
theorem ok_makeSlice {t e:TypeId} {l c:Operand} {size by_:Nat} {z:List CV} {n:Int} (ho:o.op=.makeSlice t l c) (ht:kindF P t=.slice e) (hs:sizeF P e=some size) (hz:zeroF P e=some z) (hb:bytesF P e=some by_)
  (hb1:by_<=1024) (hzl:z.length=size) (hl:φ.ev l=one (.int .i64 n)) (hc:φ.ev c=one (.int .i64 n)) (h0:0<=n) (hn:n<=maxN) :
  ActOk P o φ nid ⟨[],one (.arr nid 0 n.toNat),[(nid, .live ⟨size,n.toNat,(List.replicate n.toNat z).flatten⟩)]⟩ :=
 .mk λ C φ' ac w ρ hP hag R=>by
  have hno:φ'.heap nid=.no:=hag.fresh _ (List.mem_singleton.2 rfl) (Nat.le_refl _)
  have h1:=R.ev l
  rw[hag.env l (by simp[ho,Op.operands]),hl]at h1
  have h2:=R.ev c
  rw[hag.env c (by simp[ho,Op.operands]),hc]at h2
  obtain ⟨i,zv,hi,hzv,hzs,hzrel⟩:=zeroF_info hz
  unfold bytesF at hb
  rw[hi]at hb
  have hbe:i.bytes=by_:=by simpa using hb
  unfold sizeF at hs
  rw[hi]at hs
  have hse:i.size=size:=by simpa using hs
  have hmx:maxN=4294967296:=rfl
  have hbn:by_*n.toNat<=1024*4294967296:=Nat.mul_le_mul hb1 (by omega)
  have hbn':(by_:Int)*n<=1024*4294967296:=by
   have:((by_*n.toNat:Nat):Int)<=((1024*4294967296:Nat):Int):=Int.ofNat_le.2 hbn
   rw[Int.natCast_mul,Int.toNat_of_nonneg h0]at this
   simpa using this
  let f:Nat->Value:=λ j=>zv.cells[j % zv.cells.size]!
  have hrow:RelAt C (upd ρ nid (some ⟨w.heap.size,0,((List.range (n.toNat*size)).map f).length⟩))
    { φ' with heap:=upd φ'.heap nid (.live ⟨size,n.toNat,(List.replicate n.toNat z).flatten⟩) } ac (w.alloc (.cells ((List.range (n.toNat*size)).map f).toArray e)):=by
   refine new_of R hno e _ _ size n.toNat (by rw[rep_len,hzl];simp) (by rw[rep_len,hzl]) (λ j c hc => ?_)
   have hj:j < n.toNat*size:=by have:=(List.getElem?_eq_some_iff.1 hc).1;rwa [rep_len,hzl]at this
   rw[rep_get z n.toNat j (by rw[hzl];exact hj)]at hc
   obtain ⟨u,hu,hr⟩:=hzrel w C.Sh ρ φ'.heap _ c hc
   refine ⟨u,?_,hr⟩
   rw[List.getElem?_map,List.getElem?_range hj,Option.map_some]
   have hsz0:0 < zv.cells.size:=by rw[hzs,hzl];exact Nat.pos_of_ne_zero (λ e=>by rw[e]at hj;simp at hj)
   have hlt:j % zv.cells.size < zv.cells.size:=Nat.mod_lt _ hsz0
   have hu':zv.cells[j % zv.cells.size]? = some u:=by rw[hzs];simpa using hu
   rw[Array.getElem?_eq_getElem hlt]at hu'
   cases hu'
   simp only[f]
   rw[getElem!_pos zv.cells (j % zv.cells.size) hlt]
  have hrun:=run_make (P:=P) w t e i zv (kindF_underlying ht) hi hzv .i64 .i64 n n h0 (Int.le_refl _) (by rw[hbe];omega) (by omega)
  have hmade:madeCells zv.cells (n.toNat*i.size)=((List.range (n.toNat*size)).map f).toArray:=by
   rw[hse]
   apply Array.ext'
   simp[madeCells,f]
  rw[hmade]at hrun
  refine ⟨.slice (some ⟨w.heap.size,0,none⟩) n.toNat n.toNat,_,_, .inl ?_,hrow,arr_new rfl (Nat.le_refl _) (by simp) rfl⟩
  simp only[execOp,ho,h1.int,h2.int,Sem.run_bind,hrun,Result.andThen_ok,Sem.run_pure]
end Go.Fm
namespace Go.Fm
variable [Globs]
variable {P:Program} {o:Oper} {φ:St} {nid:Nat}
theorem run_mapM_list {α β:Type} (f:α->Sem β) (g:α->β) (w:World):∀ (l:List α),(∀ x ∈ l,(f x).run P w=.ok (g x) w)->(l.mapM f).run P w=.ok (l.map g) w
 | [],_=>rfl
 | x::r,h=>by
  have h1:=h x (by simp)
  have h2:=run_mapM_list f g w r (λ y hy=>h y (by simp[hy]))
  rw[List.mapM_cons]
  simp only[Sem.run_bind,h1,Result.andThen_ok,h2,Sem.run_pure,List.map_cons]
theorem run_mapM {α β:Type} (f:α->Sem β) (g:α->β) (w:World) (a:Array α) (h:∀ x ∈ a.toList,(f x).run P w=.ok (g x) w):(a.mapM f).run P w=.ok (a.map g) w:=by
 have h1:=run_mapM_list (P:=P) f g w a.toList h
 rw[Array.mapM_eq_mapM_toList]
 simp only[Sem.run_map,h1,Result.andThen_ok]
 congr 1
 apply Array.ext'
 simp
theorem fill_elim {t:TypeId} {fs:Array Field} (hu:P.underlying t=some (.struct fs)):∀ (l:List (Nat×Operand)) (cs:List CV) (K:List CV->Prop),fillF P φ t cs l K->∃ ns,K ns/\ns.length=cs.length ∧
  ∀ (w:World) (Sh:Nat->Prop) (ρ:Rho) (h:Nat->HS) (ev:Operand->Value),(∀ p ∈ l,RSV w Sh ρ h (ev p.2) (φ.ev p.2)) →
   ∀ (vs:Array Value),vs.size=cs.length->(∀ (j:Nat) (c:CV),cs[j]? = some c->∃ u:Value,vs.toList[j]? = some u/\RV w Sh ρ h u c) →
    ∃ us:Array Value,us.size=ns.length/\(∀ (j:Nat) (c:CV),ns[j]? = some c->∃ u:Value,us.toList[j]? = some u/\RV w Sh ρ h u c) ∧
    Instr.fill (λ i=>(fs.map λ f=>(f.offset,P.cellsOf f.type))[i]?) vs (l.map λ p=>(p.1,ev p.2))=some us
 | [],cs,K,h=>⟨cs,h,rfl,λ w Sh ρ hh ev _ vs h1 h2=>⟨vs,h1,h2,rfl⟩⟩
 | (f,x)::r,cs,K,h=>by
  simp only[fillF]at h
  obtain ⟨q,hq,h⟩:=kO_elim h
  obtain ⟨ns,⟨hsz,hle,h⟩,hns⟩:=SV.kC_elim h
  obtain ⟨ms,hK,hml,hms⟩:=fill_elim hu r _ _ h
  refine ⟨ms,hK,by rw[hml,over_length hle],λ w Sh ρ hh ev hev vs h1 h2 => ?_⟩
  obtain ⟨hvs,hvr⟩:=hns w Sh ρ hh (ev x) (hev (f,x) (by simp))
  unfold foffF at hq
  rw[hu]at hq
  obtain ⟨fd,hf,rfl⟩:=Option.map_eq_some_iff.1 hq
  have hcell:P.cellsOf fd.type=ns.length:=by
   unfold sizeF at hsz
   simp only[Program.cellsOf,hsz,Option.getD_some]
  have hfold:=fold_setA (ev x).cells fd.offset vs (by rw[hvs,h1];exact hle)
  obtain ⟨us,hul,hur,hfill⟩:=hms w Sh ρ hh ev (λ p hp=>hev p (by simp[hp])) (vs.toList.take fd.offset++(ev x).cells.toList++vs.toList.drop (fd.offset+(ev x).cells.size)).toArray
   (by rw[over_length hle];simp[h1,hvs];simp at hle;omega)
   (λ j c hc=>by
    rw[over_get hle]at hc
    simp only
    have ht:(vs.toList.take fd.offset).length=fd.offset:=by rw[List.length_take,Array.length_toList,h1];simp at hle;omega
    have hcl:(ev x).cells.toList.length=ns.length:=by rw[Array.length_toList];exact hvs
    split at hc
    ·rename_i hin
     obtain ⟨u,hu',hr⟩:=hvr _ c hc
     refine ⟨u,?_,hr⟩
     rw[List.append_assoc,List.getElem?_append_right (by omega),ht,List.getElem?_append_left (by omega)]
     exact hu'
    ·rename_i hout
     obtain ⟨u,hu',hr⟩:=h2 j c hc
     refine ⟨u,?_,hr⟩
     simp only at hout
     by_cases hj:j < fd.offset
     ·rw[List.append_assoc,List.getElem?_append_left (by omega),List.getElem?_take,if_pos hj];exact hu'
     ·rw[List.getElem?_append_right (by simp[ht,hvs];omega),List.getElem?_drop]
      rw[show fd.offset+(ev x).cells.size+(j-(vs.toList.take fd.offset++(ev x).cells.toList).length)=j by simp only[List.length_append,ht,hcl];omega]
      exact hu')
  refine ⟨us,hul,hur,?_⟩
  simp only[List.map_cons,Instr.fill,Array.getElem?_map,hf,Option.map_some,hcell]
  rw[if_neg (by rw[hvs,h1];simp at hle ⊢;omega)]
  show Instr.fill _ ((ev x).cells.zipIdx.foldl (λ cs (p:Value×Nat)=>cs.setIfInBounds (fd.offset+p.2) p.1) vs) _=_
  rw[hfold]
  simp only[Array.getElem?_map]at hfill
  exact hfill
theorem ok_build {t:TypeId} {ps:Array (Nat×Operand)} {z:List CV} {K:List CV->Prop} (ho:o.op=.build t ps) (ht:kindF P t=.agg) (hall:allSized P t=true) (hz:zeroF P t=some z)
  (h:fillF P φ t z ps.toList K):∃ cs,K cs/\ActOk P o φ nid ⟨[], .pv (.agg cs),[]⟩:=by
 obtain ⟨fs,hu⟩:=kindF_agg ht
 obtain ⟨ns,hK,hl,hns⟩:=fill_elim hu _ _ _ h
 refine ⟨ns,hK, .quiet λ C φ' ac w ρ hP hag R => ?_⟩
 obtain ⟨zv,hzr,hzs,hzrel⟩:=zeroF_run hz
 obtain ⟨us,hul,hur,hfill⟩:=hns w C.Sh ρ φ'.heap ac.eval (λ p hp=>by
  have:=R.ev p.2
  rwa [hag.env p.2 (by simp only[ho,Op.operands,List.mem_toArray,List.mem_map];exact ⟨p,hp,rfl⟩)]at this) zv.cells hzs (hzrel _ _ _ _)
 refine ⟨.agg us,?_,⟨us.toList,by rw[Array.toArray_toList],by rw[Array.length_toList];exact hul,hur⟩⟩
 have hmap:(fs.mapM λ f=>(do let s ← sizeOf f.type;pure (f.offset,s):Sem (Nat×Nat))).run P w=.ok (fs.map λ f=>(f.offset,P.cellsOf f.type)) w:=by
  refine run_mapM _ _ w fs (λ f hf => ?_)
  unfold allSized at hall
  rw[hu]at hall
  have:=List.all_eq_true.1 hall f hf
  obtain ⟨i,hi⟩:=Option.isSome_iff_exists.1 this
  simp[sizeOf,typeInfo,hi,Program.cellsOf]
 have hfill':Instr.fill (λ i=>(fs.map λ f=>(f.offset,P.cellsOf f.type))[i]?) zv.cells (ps.map λ p=>(p.1,ac.eval p.2)).toList=some us:=by
  rw[Array.toList_map];exact hfill
 simp only[execOp,ho,Instr.build,Sem.run_bind,hzr,Result.andThen_ok,run_underlying hu,hmap,hfill',Sem.run_pure]
theorem cells_elim {size:Nat} {x:SV} {K:List Nat->Nat->List CV->Prop} (h:φ.cells size x K):∃ rd m ns,K rd m ns ∧
  ∀ (C:Ctx) (φ':St) (ac:Act) (w:World) (ρ:Rho) (v:Value),(∀ id ∈ rd,φ'.heap id=φ.heap id)->RelAt C ρ φ' ac w->RSV w C.Sh ρ φ'.heap v x →
   ns.length=m*size/\(notStr x=true->∃ A k cap,v=.slice A k cap)/\(∀ w',(Builtin.lenOf v).run P w'=.ok m w')/\∃ vs:List Value,vs.length=ns.length/\(∀ (j:Nat) (c:CV),ns[j]? = some c->∃ u:Value,vs[j]? = some u/\RV w C.Sh ρ φ'.heap u c) ∧
    ∀ (k:Nat) (w':World),k<=m->w'.heap=w.heap->(Builtin.firstCells size k v).run P w'=.ok (vs.take (k*size)).toArray w':=by
 unfold St.cells at h
 split at h
 ·rename_i id lo n
  obtain ⟨b,hb,hz,hlo,hK⟩:=kLive_elim h
  subst hz
  refine ⟨_,_,_,hK,λ C φ' ac w ρ v hag R hv => ?_⟩
  ·have hb':φ'.heap id=.live b:=(hag id (by simp)).trans hb
   have hr:=hv.arr hb'
   have hrb:=R.hp.blk id b hb'
   unfold RB at hrb
   obtain ⟨A,cap,he,hnc,_⟩:=hr.view
   have hlen:∀ w',(Builtin.lenOf v).run P w'=.ok n w':=λ w'=>by simp[he,Builtin.lenOf]
   cases hL:ρ id with
   | none =>
    rw[hL]at hr hrb
    obtain ⟨rfl,a,ha⟩:=hr
    refine ⟨by simp[hrb.1],λ _=>⟨_,_,_,he⟩,hlen,[],by simp[hrb.1],λ j c hc=>by simp[hrb.1]at hc,λ k w' hk hw => ?_⟩
    have hk0:k=0:=by omega
    subst hk0
    rw[ha]
    cases a<;>simp[Builtin.firstCells,loadCells,loadCellsFrom]
   | some L =>
    rw[hL]at hr hrb
    obtain ⟨q1,q2,q3,q4⟩:=hrb
    have hm1:lo*b.sz+n*b.sz<=b.cs.length:=by rw[q1,<-Nat.add_mul];exact Nat.mul_le_mul_right _ hlo
    rcases hr with ⟨cap',hv',h1,h2,h3⟩|⟨rfl,_,a,ha⟩
    ·have hf:∀ j,∃ u,j < n*b.sz->w.cell? ⟨L.b,L.o+lo*b.sz+j,none⟩=some u/\∀ c,b.cs[lo*b.sz+j]? = some c->RV w C.Sh ρ φ'.heap u c:=by
      intro j
      by_cases hj:j < n*b.sz
      ·obtain ⟨u,hu,hru⟩:=q4 (lo*b.sz+j) b.cs[lo*b.sz+j] (List.getElem?_eq_getElem (by omega))
       exact ⟨u,λ _=>⟨by rw[Nat.add_assoc];exact hu,λ c hc=>by rw[List.getElem?_eq_getElem (by omega)]at hc;cases hc;exact hru⟩⟩
      ·exact ⟨undef,λ h=>absurd h hj⟩
     obtain ⟨f,hf⟩:=Classical.axiomOfChoice hf
     refine ⟨by simp;omega,λ _=>⟨_,_,_,he⟩,hlen,(List.range (n*b.sz)).map f,by simp;omega,λ j c hc => ?_,λ k w' hk hw => ?_⟩
     ·rw[List.getElem?_take]at hc
      split at hc
      ·rename_i hj
       rw[List.getElem?_drop]at hc
       exact ⟨f j,by simp[hj],(hf j hj).2 c hc⟩
      ·cases hc
     ·have hkn:k*b.sz<=n*b.sz:=Nat.mul_le_mul_right _ hk
      rw[hv']
      have htl:(((List.range (n*b.sz)).map f).take (k*b.sz)).length=k*b.sz:=by rw[List.length_take,List.length_map,List.length_range];omega
      rw[run_firstCells_some w' b.sz k _ n cap' (((List.range (n*b.sz)).map f).take (k*b.sz)) htl (λ j u hj=>by
       rw[List.getElem?_take]at hj
       split at hj
       ·rename_i hjk
        rw[List.getElem?_map,List.getElem?_range (by omega)]at hj
        cases hj
        rw[add_lit,World.cell?_of_block (w:=w) (by rw[hw])]
        exact (hf j (by omega)).1
       ·cases hj)]
    ·refine ⟨by simp,λ _=>⟨_,_,_,he⟩,hlen,[],by simp,λ j c hc=>by simp at hc,λ k w' hk hw => ?_⟩
     have hk0:k=0:=by omega
     subst hk0
     rw[ha]
     cases a<;>simp[Builtin.firstCells,loadCells,loadCellsFrom]
 ·rename_i sz n cs
  obtain ⟨hz,hK⟩:=h
  subst hz
  refine ⟨_,_,_,hK,λ C φ' ac w ρ v hag R hv => ?_⟩
  have hv:=hv.imm
  cases hv with
  | imm0 a cap =>
   refine ⟨by simp,λ _=>⟨_,_,_,rfl⟩,λ w'=>by simp[Builtin.lenOf],[],rfl,λ j c hc=>by simp at hc,λ k w' hk hw => ?_⟩
   have hk0:k=0:=by omega
   subst hk0
   cases a<;>simp[Builtin.firstCells,loadCells,loadCellsFrom]
  | imm B off _ cap _ _ vals hsh hnc hl hc hr =>
   refine ⟨hl,λ _=>⟨_,_,_,rfl⟩,λ w'=>by simp[Builtin.lenOf],(List.range cs.length).map vals,by simp,λ j c hj => ?_,λ k w' hk hw => ?_⟩
   ·have hj':=(List.getElem?_eq_some_iff.1 hj).1
    exact ⟨vals j,by simp[hj'], .of_RI (hr j c hj)⟩
   ·have hkn:k*sz<=n*sz:=Nat.mul_le_mul_right _ hk
    have htl:(((List.range cs.length).map vals).take (k*sz)).length=k*sz:=by rw[List.length_take,List.length_map,List.length_range];omega
    rw[run_firstCells_some w' sz k _ n cap (((List.range cs.length).map vals).take (k*sz)) htl (λ j u hj=>by
     rw[List.getElem?_take]at hj
     split at hj
     ·rename_i hjk
      rw[List.getElem?_map,List.getElem?_range (by omega)]at hj
      cases hj
      rw[add_lit,World.cell?_of_block (w:=w) (by rw[hw])]
      exact hc j (by omega)
     ·cases hj)]
 ·refine ⟨_,_,_,h,λ C φ' ac w ρ v hag R hv => ?_⟩
  obtain ⟨a,ha⟩:=hv.emp
  refine ⟨by simp,λ _=>⟨_,_,_,ha⟩,λ w'=>by simp[ha,Builtin.lenOf],[],rfl,λ j c hc=>by simp at hc,λ k w' hk hw => ?_⟩
  have hk0:k=0:=by omega
  subst hk0
  rw[ha]
  cases a<;>simp[Builtin.firstCells,loadCells,loadCellsFrom]
 ·rename_i l
  obtain ⟨hz,hK⟩:=h
  subst hz
  refine ⟨_,_,_,hK,λ C φ' ac w ρ v hag R hv => ?_⟩
  obtain ⟨s,he,hs⟩:=hv.str
  have hsz:s.size=l.length:=by rw[<-hs,Array.length_toList];rfl
  refine ⟨by simp,(λ h=>by cases h),λ w'=>by simp[he,Builtin.lenOf,hsz],l.map λ b=>Value.int .u8 b.toNat,by simp,λ j c hc => ?_,λ k w' hk hw => ?_⟩
  ·rw[List.getElem?_map]at hc ⊢
   cases hl:l[j]? with
   | none=>rw[hl]at hc;cases hc
   | some b=>rw[hl]at hc;cases hc;exact ⟨_,rfl, .of_RI (.int _ _)⟩
  ·rw[he]
   simp only[Builtin.firstCells,Sem.run_pure]
   congr 1
   apply Array.ext'
   rw[Array.toList_map]
   simp[ByteArray.data_extract,hs,List.extract_eq_take_drop]
 ·exact h.elim
end Go.Fm
namespace Go.Fm
variable [Globs]
variable {P:Program} {o:Oper} {φ:St} {nid:Nat}
theorem run_append_grows {t t2 ty e:TypeId} {i:TypeInfo} {z:Value} (ht:P.underlying t=some (.slice e)) {d2:TypeDesc} (ht2:P.underlying t2=some d2) (hd2:∀ k,d2≠.int k) (hi:P.info? e=some i) (hz:i.zero=some z)
  {A:Option Addr} {n cap m:Nat} {x:Value} {olds news:List Value} (w:World)
  (hlen:∀ w',(Builtin.lenOf x).run P w'=.ok m w') (hold:(Builtin.firstCells i.size n (.slice A n cap)).run P w.drew=.ok olds.toArray w.drew) (hnew:(Builtin.firstCells i.size m x).run P w.drew=.ok news.toArray w.drew)
  (hg:cap < n+m) (h63:((n+m:Nat):Int)<=9223372036854775807) (hfit:Builtin.nextslicecap (n+m) cap*i.bytes<=281474976710656) :
  (Builtin.append_ #[t,t2] ty #[.slice A n cap,x]).run P w =
   .ok (.slice (some ⟨w.heap.size,0,none⟩) (n+m) (grownCap w (n+m) cap e))
    (w.drew.alloc (.cells (olds.toArray++news.toArray++Builtin.zeroCells z.cells (grownCap w (n+m) cap e-(n+m))) e)):=by
 have hn:¬ (n+m<=cap):=by omega
 have h63':¬ (9223372036854775807 < ((n:Int)+(m:Int))):=by omega
 have h48':¬ (281474976710656 < Builtin.nextslicecap (n+m) cap*i.bytes):=by omega
 have hk:(match d2 with | .int _=>true|_=>false)=false:=by cases d2<;>first|rfl|exact absurd rfl (hd2 _)
 simp[Builtin.append_,run_underlying ht,run_underlying ht2,sizeOf,typeInfo,zeroValue,hi,hz,hlen,hn,h63',h48',Question.forced,hold,hnew,newRow,grownCap]
 congr 2
 apply Array.ext'
 simp[List.append_assoc]
theorem run_append_fits {t t2 ty e:TypeId} {i:TypeInfo} (ht:P.underlying t=some (.slice e)) {d2:TypeDesc} (ht2:P.underlying t2=some d2) (hd2:∀ k,d2≠.int k) (hi:P.info? e=some i)
  {b o:Nat} {n cap m:Nat} {x:Value} {news:List Value} (w:World)
  (hlen:∀ w',(Builtin.lenOf x).run P w'=.ok m w') (hnew:(Builtin.firstCells i.size m x).run P w=.ok news.toArray w) (hg:n+m<=cap)
  (hst:(storeCells ⟨b,o+n*i.size,none⟩ news).run P w=.ok () (w.setCells b (o+n*i.size) news)) :
  (Builtin.append_ #[t,t2] ty #[.slice (some ⟨b,o,none⟩) n cap,x]).run P w=.ok (.slice (some ⟨b,o,none⟩) (n+m) cap) (w.setCells b (o+n*i.size) news):=by
 have hk:(match d2 with | .int _=>true|_=>false)=false:=by cases d2<;>first|rfl|exact absurd rfl (hd2 _)
 simp[Builtin.append_,run_underlying ht,run_underlying ht2,sizeOf,typeInfo,hi,hlen,hg,hnew,add_lit,hst]
theorem run_append_nothing {t t2 ty e:TypeId} {i:TypeInfo} (ht:P.underlying t=some (.slice e)) {d2:TypeDesc} (ht2:P.underlying t2=some d2) (hd2:∀ k,d2≠.int k) (hi:P.info? e=some i)
  {A:Option Addr} {x:Value} (w:World)
  (hlen:∀ w',(Builtin.lenOf x).run P w'=.ok 0 w') (hnew:(Builtin.firstCells i.size 0 x).run P w=.ok #[] w) :
  (Builtin.append_ #[t,t2] ty #[.slice A 0 0,x]).run P w=.ok (.slice A 0 0) w:=by
 have hk:(match d2 with | .int _=>true|_=>false)=false:=by cases d2<;>first|rfl|exact absurd rfl (hd2 _)
 cases A<;>simp[Builtin.append_,run_underlying ht,run_underlying ht2,sizeOf,typeInfo,hi,hlen,hnew,storeCells]
theorem kind2_desc {t:TypeId} (h:(∃ e,kindF P t=.slice e)\/kindF P t=.str):∃ d,P.underlying t=some d/\∀ k,d≠.int k:=by
 rcases h with ⟨e,h⟩|h
 ·exact ⟨_,kindF_underlying h,λ k=>by simp⟩
 ·exact ⟨_,kindF_str h,λ k=>by simp⟩
theorem sizeF_info {t:TypeId} {n:Nat} (h:sizeF P t=some n):∃ i,P.info? t=some i/\i.size=n:=by
 unfold sizeF at h;exact Option.map_eq_some_iff.1 h
theorem RelAt.drew {C:Ctx} {ρ:Rho} {φ:St} {a:Act} {w:World} (R:RelAt C ρ φ a w):RelAt C ρ φ a w.drew:=by
 have:=R.turn (w':=w.drew) (ρ':=ρ) (h':=φ.heap) (λ _ _=>rfl) (λ _=>HLe.refl _ _)
  ⟨λ id b h=>by
   have:=R.hp.blk id b h
   unfold RB at this ⊢
   cases hL:ρ id with
   | none=>rw[hL]at this;exact this
   | some L =>
    rw[hL]at this
    obtain ⟨q1,q2,q3,q4⟩:=this
    exact ⟨q1,q2,λ j hj=>q3 j hj,λ j c hc=>by obtain ⟨u,hu,hr⟩:=q4 j c hc;exact ⟨u,hu,hr.mono (λ _ _=>rfl) (λ _=>HLe.refl _ _)⟩⟩,
   λ id b L h hL=>R.hp.own id b L h hL,R.hp.inj,by
   obtain ⟨D,H⟩:=R.hp.dp
   exact ⟨D,H.keep (λ id b h=>⟨h,rfl⟩) (λ _=>HLe.refl _ _) (λ _ _ _ _ _=>rfl) (Nat.le_refl _) (λ _ h=>⟨h,rfl⟩) (λ id b k h ho=>(H.own id b k h ho).2) λ id b L h hL=>.inr ⟨id,b,L,h,hL,rfl⟩⟩⟩ (λ _ _=>rfl) ⟨R.fr.os,R.fr.tape,R.fr.output,R.fr.size,R.fr.keep⟩
 exact this
theorem new_room {C:Ctx} {ρ:Rho} {φ':St} {ac:Act} {w:World} (R:RelAt C ρ φ' ac w) {nid:Nat} (hno:φ'.heap nid=.no) (t:TypeId) (vs rest:List Value) (ns:List CV) (sz n:Nat)
  (hl:vs.length=ns.length) (hn:ns.length=n*sz) (hr:∀ (j:Nat) (c:CV),ns[j]? = some c->∃ u:Value,vs[j]? = some u/\RV w C.Sh ρ φ'.heap u c) (fz:Nat×Nat) (hfz:((vs++rest).length<=fz.1/\sz=1)\/fz.2=0)
  (w':World) (hw:w'.heap[w.heap.size]? = some (.cells (vs++rest).toArray t fz)) (hold:∀ k,k < w.heap.size->w'.heap[k]? = w.heap[k]?) (hsz:w.heap.size < w'.heap.size) (hos:w'.os=w.os) (htp:w'.tape=w.tape) (hout:w'.output=w.output) :
  RelAt C (upd ρ nid (some ⟨w.heap.size,0,(vs++rest).length⟩)) { φ' with heap:=upd φ'.heap nid (.live ⟨sz,n,ns⟩) } ac w':=by
 have hcell:∀ j,w'.cell? ⟨w.heap.size,j,none⟩=(vs++rest)[j]? := λ j=>by simp[World.cell?,hw]
 refine R.new nid hno ⟨sz,n,ns⟩ (vs++rest).length hold hsz hos htp hout hn (by simp;omega) (λ j hj => ?_) (λ j c hc => ?_)
 ·rw[hcell]
  refine ⟨by simp;simpa using hj,?_⟩
  simp only[World.frozen?,hw]
  rcases hfz with ⟨h,h1⟩|h
  ·exact ⟨by simp;omega,λ hz=>absurd h1 hz⟩
  ·exact ⟨by simp[h],λ _ k=>by simp[h]⟩
 ·obtain ⟨u,hu,hq⟩:=hr j c hc
  refine ⟨u,?_,hq⟩
  rw[hcell,List.getElem?_append_left (List.getElem?_eq_some_iff.1 hu).1]
  exact hu
theorem call_mem {c:Call} {b:Builtin} (ho:o.op=.call c) (hc:c.callee=.builtin b) {l:List Operand} (hl:c.args.toList=l) {x:Operand} (hx:x ∈ l):x ∈ o.op.operands:=by
 subst hl
 simp only[ho,Op.operands,Call.operands,hc,Array.mem_append]
 right
 simpa using hx
theorem types_two {a:Array TypeId} {t t2:TypeId} {r:List TypeId} (h:a.toList=t::t2::r):a[0]? = some t/\a[1]? = some t2:=by
 rw[arr_of_list h];simp
theorem append_ats {ats:Array TypeId} {t t2:TypeId} (h0:ats[0]? = some t) (h1:ats[1]? = some t2) (ty:TypeId) (args:Array Value):Builtin.append_ ats ty args=Builtin.append_ #[t,t2] ty args:=by
 unfold Builtin.append_
 simp[h0,h1]
theorem append_empty {C:Ctx} {φ':St} {ac:Act} {w:World} {ρ:Rho} (R:RelAt C ρ φ' ac w) (hno:φ'.heap nid=.no) {t t2 ty e:TypeId} {size by_ m:Nat} {z ns:List CV} {x:Value} {A:Option Addr}
  (ht:kindF P t=.slice e) (ht2:(∃ e,kindF P t2=.slice e)\/kindF P t2=.str) (hs:sizeF P e=some size) (hb:bytesF P e=some by_) (hz:zeroF P e=some z) (hb1:by_<=1024) (hzl:z.length=size) (hm:m<=maxN)
  (hnl:ns.length=m*size) (hlen:∀ w',(Builtin.lenOf x).run P w'=.ok m w') (vs:List Value) (hvl:vs.length=ns.length) (hvr:∀ (j:Nat) (c:CV),ns[j]? = some c->∃ u:Value,vs[j]? = some u/\RV w C.Sh ρ φ'.heap u c)
  (hf:∀ (k:Nat) (w':World),k<=m->w'.heap=w.heap->(Builtin.firstCells size k x).run P w'=.ok (vs.take (k*size)).toArray w') :
  ∃ v w' ρ',(Builtin.append_ #[t,t2] ty #[.slice A 0 0,x]).run P w=.ok v w'/\RelAt C ρ' { φ' with heap:=upd φ'.heap nid (.live ⟨size,m,ns⟩) } ac w'/\RSV w' C.Sh ρ' (upd φ'.heap nid (.live ⟨size,m,ns⟩)) v (one (.arr nid 0 m)):=by
 obtain ⟨i,zv,hi,hzv,hzs,_⟩:=zeroF_info hz
 obtain ⟨i',hi',hse⟩:=sizeF_info hs
 rw[hi]at hi'
 cases hi'
 have hbe:i.bytes=by_:=by unfold bytesF at hb;rw[hi]at hb;simpa using hb
 obtain ⟨d2,hd2,hdn⟩:=kind2_desc ht2
 have hvt:vs.take (m*size)=vs:=List.take_of_length_le (by omega)
 by_cases hm0:m=0
 ·subst hm0
  have hns:ns=[]:=List.eq_nil_of_length_eq_zero (by simpa using hnl)
  subst hns
  have hvs:vs=[]:=List.eq_nil_of_length_eq_zero (by simpa using hvl)
  have hrun:=run_append_nothing (P:=P) (ty:=ty) (kindF_underlying ht) hd2 hdn hi (A:=A) (x:=x) w hlen (by rw[hse,hf 0 w (Nat.le_refl _) rfl,hvs];simp)
  exact ⟨_,_,_,hrun,R.newNone nid hno size,RSV.of_one (by simp only[RV,upd_same];exact ⟨rfl,_,rfl⟩)⟩
 ·have hmx:maxN=4294967296:=rfl
  have hold:(Builtin.firstCells i.size 0 (.slice A 0 0)).run P w.drew=.ok (([]:List Value)).toArray w.drew:=by cases A<;>simp[Builtin.firstCells,loadCells,loadCellsFrom]
  have hrun:=run_append_grows (P:=P) (ty:=ty) (kindF_underlying ht) hd2 hdn hi hzv (A:=A) (n:=0) (cap:=0) (m:=m) (x:=x) (olds:=[]) (news:=vs) w hlen hold
   (by rw[hse,hf m w.drew (Nat.le_refl _) rfl,hvt]) (by omega) (by omega) (growslice_fits (by omega) (by rw[hbe];have:=Nat.mul_le_mul (show 0+m<=4294967296 by omega) hb1;omega))
  simp only[Nat.zero_add]at hrun
  have hcap:=grownCap_ge w m 0 e
  refine ⟨_,_,upd ρ nid (some ⟨w.heap.size,0,(vs++(Builtin.zeroCells zv.cells (grownCap w m 0 e-m)).toList).length⟩),hrun,?_,?_⟩
  ·refine new_room (R.drew) (w:=w.drew) hno e vs (Builtin.zeroCells zv.cells (grownCap w m 0 e-m)).toList ns size m hvl hnl (λ j c hc=>by obtain ⟨u,hu,hr⟩:=hvr j c hc;exact ⟨u,hu,hr.mono (λ _ _=>rfl) (λ _=>HLe.refl _ _)⟩) (0,0) (.inr rfl) _ ?_ (λ k hk=>Go.RowKit.Below.heap_alloc _ _ _ hk) (by simp) rfl rfl rfl
   show (w.drew.heap.push _)[w.drew.heap.size]? = _
   rw[Array.getElem?_push_size]
   congr 2
   apply Array.ext'
   simp
  ·refine arr_new rfl hcap ?_ rfl
   simp only[List.length_append,Array.length_toList,size_zeroCells,hzs,hzl,hvl,hnl,<-Nat.add_mul]
   exact Nat.mul_le_mul_right _ (by omega)
theorem append_arr {C:Ctx} {φ':St} {ac:Act} {w:World} {ρ:Rho} (R:RelAt C ρ φ' ac w) (hno:φ'.heap nid=.no) {t t2 ty e:TypeId} {size by_ m id lo n:Nat} {b:Blk} {z ns:List CV} {x v:Value}
  (hb':φ'.heap id=.live b) (hbz:b.sz=size) (hlo:lo+n<=b.n) (hv:RArr (ρ id) b.sz b.n v lo n)
  (ht:kindF P t=.slice e) (ht2:(∃ e,kindF P t2=.slice e)\/kindF P t2=.str) (hs:sizeF P e=some size) (hb:bytesF P e=some by_) (hz:zeroF P e=some z) (hb1:by_<=1024) (hzl:z.length=size) (hm:n+m<=maxN)
  (hnl:ns.length=m*size) (hlen:∀ w',(Builtin.lenOf x).run P w'=.ok m w') (vs:List Value) (hvl:vs.length=ns.length) (hvr:∀ (j:Nat) (c:CV),ns[j]? = some c->∃ u:Value,vs[j]? = some u/\RV w C.Sh ρ φ'.heap u c)
  (hf:∀ (k:Nat) (w':World),k<=m->w'.heap=w.heap->(Builtin.firstCells size k x).run P w'=.ok (vs.take (k*size)).toArray w') :
  ∃ v' w' ρ',(Builtin.append_ #[t,t2] ty #[v,x]).run P w=.ok v' w' ∧
   RelAt C ρ' { φ' with heap:=upd (upd φ'.heap id .dead) nid (.live ⟨size,n+m,(b.cs.drop (lo*size)).take (n*size)++ns⟩) } ac w' ∧
   RSV w' C.Sh ρ' (upd (upd φ'.heap id .dead) nid (.live ⟨size,n+m,(b.cs.drop (lo*size)).take (n*size)++ns⟩)) v' (one (.arr nid 0 (n+m))):=by
 obtain ⟨i,zv,hi,hzv,hzs,_⟩:=zeroF_info hz
 obtain ⟨i',hi',hse⟩:=sizeF_info hs
 rw[hi]at hi'
 cases hi'
 subst hbz
 have hbe:i.bytes=by_:=by unfold bytesF at hb;rw[hi]at hb;simpa using hb
 obtain ⟨d2,hd2,hdn⟩:=kind2_desc ht2
 have hvt:vs.take (m*b.sz)=vs:=List.take_of_length_le (by omega)
 have hmx:maxN=4294967296:=rfl
 have hne:nid≠id:=λ e=>by rw[e,hb']at hno;cases hno
 have hrb:=R.hp.blk id b hb'
 unfold RB at hrb
 have hkill:=R.kill id (by rw[hb'];simp)
 have hno':(upd φ'.heap id .dead) nid=.no:=by rw[upd_ne _ _ hne];exact hno
 have hkle:∀ i,HLe (φ'.heap i) (ρ i) (upd φ'.heap id .dead i) (ρ i):=by
  intro i
  by_cases e:i=id
  ·subst e;rw[upd_same,hb'];trivial
  ·rw[upd_ne _ _ e];exact HLe.refl _ _
 have hvr':∀ (j:Nat) (c:CV),ns[j]? = some c->∃ u:Value,vs[j]? = some u/\RV w C.Sh ρ (upd φ'.heap id .dead) u c:=λ j c hc=>by
  obtain ⟨u,hu,hr⟩:=hvr j c hc
  exact ⟨u,hu,hr.mono (λ _ _=>rfl) hkle⟩
 -- what had nothing and no room
 have empty:n=0->(∃ a,v=.slice a 0 0)->(b.cs.drop (lo*b.sz)).take (n*b.sz)=[]->∃ v' w' ρ',(Builtin.append_ #[t,t2] ty #[v,x]).run P w=.ok v' w' ∧
   RelAt C ρ' { φ' with heap:=upd (upd φ'.heap id .dead) nid (.live ⟨b.sz,n+m,(b.cs.drop (lo*b.sz)).take (n*b.sz)++ns⟩) } ac w' ∧
   RSV w' C.Sh ρ' (upd (upd φ'.heap id .dead) nid (.live ⟨b.sz,n+m,(b.cs.drop (lo*b.sz)).take (n*b.sz)++ns⟩)) v' (one (.arr nid 0 (n+m))):=by
  intro hn0 ⟨a,ha⟩ hnil
  subst hn0 ha
  rw[hnil,List.nil_append,Nat.zero_add]
  exact append_empty hkill hno' ht ht2 hs hb hz hb1 hzl (by omega) hnl hlen vs hvl hvr' hf
 cases hL:ρ id with
 | none =>
  rw[hL]at hv hrb
  exact empty hv.1 hv.2 (by rw[hrb.1];simp)
 | some L =>
  rw[hL]at hv hrb
  obtain ⟨q1,q2,q3,q4⟩:=hrb
  rcases hv with ⟨cap,rfl,h1,h2,h3,h4⟩|⟨hn0,_,ha⟩
  ·have hm1:lo*b.sz+n*b.sz<=b.cs.length:=by rw[q1,<-Nat.add_mul];exact Nat.mul_le_mul_right _ hlo
   by_cases hfit:n+m<=cap
   ·have hm2:lo*b.sz+n*b.sz+m*b.sz<=L.e:=by
     refine Nat.le_trans ?_ h2
     rw[<-Nat.add_mul,<-Nat.add_mul]
     exact Nat.mul_le_mul_right _ (by omega)
    have hst:=setCells_run (P:=P) (w:=w) (b:=L.b) (o:=L.o+lo*b.sz+n*b.sz) (n:=0) (vs:=vs) (λ j hj=>by
      rw[show L.o+lo*b.sz+n*b.sz+j=L.o+(lo*b.sz+n*b.sz+j) by omega];exact (q3 _ (by omega)).1)
     (λ j hj=>by rw[show L.o+lo*b.sz+n*b.sz+j=L.o+(lo*b.sz+n*b.sz+j) by omega];exact (q3 _ (by omega)).2.1) (one_of_rel hvl hvr)
    have hrun:=run_append_fits (P:=P) (ty:=ty) (kindF_underlying ht) hd2 hdn hi (b:=L.b) (o:=L.o+lo*b.sz) (n:=n) (cap:=cap) (m:=m) (x:=x) (news:=vs) w hlen
     (by rw[hse,hf m w (Nat.le_refl _) rfl,hvt]) hfit (by rw[hse];exact hst)
    rw[hse]at hrun
    refine ⟨_,_,_,hrun,R.grow id b L hb' hL nid hno lo n m cap hlo h2 hfit vs ns hvl hnl hvr,arr_new rfl hfit ?_ rfl⟩
    have:lo*b.sz+cap*b.sz<=L.e:=by rw[<-Nat.add_mul];exact h2
    simp only
    omega
   ·have hold:∃ olds:List Value,olds.length=n*b.sz/\(∀ (j:Nat) (c:CV),((b.cs.drop (lo*b.sz)).take (n*b.sz))[j]? = some c->∃ u:Value,olds[j]? = some u/\RV w C.Sh ρ φ'.heap u c) ∧
      (Builtin.firstCells i.size n (.slice (some ⟨L.b,L.o+lo*b.sz,none⟩) n cap)).run P w.drew=.ok olds.toArray w.drew:=by
     have hf:∀ j,∃ u,j < n*b.sz->w.cell? ⟨L.b,L.o+lo*b.sz+j,none⟩=some u/\∀ c,b.cs[lo*b.sz+j]? = some c->RV w C.Sh ρ φ'.heap u c:=by
      intro j
      by_cases hj:j < n*b.sz
      ·obtain ⟨u,hu,hru⟩:=q4 (lo*b.sz+j) b.cs[lo*b.sz+j] (List.getElem?_eq_getElem (by omega))
       exact ⟨u,λ _=>⟨by rw[Nat.add_assoc];exact hu,λ c hc=>by rw[List.getElem?_eq_getElem (by omega)]at hc;cases hc;exact hru⟩⟩
      ·exact ⟨undef,λ h=>absurd h hj⟩
     obtain ⟨f,hf⟩:=Classical.axiomOfChoice hf
     refine ⟨(List.range (n*b.sz)).map f,by simp,λ j c hc => ?_,?_⟩
     ·rw[List.getElem?_take]at hc
      split at hc
      ·rename_i hj
       rw[List.getElem?_drop]at hc
       exact ⟨f j,by simp[hj],(hf j hj).2 c hc⟩
      ·cases hc
     ·rw[hse]
      exact run_firstCells_some w.drew b.sz n _ n cap _ (by simp) (λ j u hj=>by
       have hj':j < n*b.sz:=by have:=(List.getElem?_eq_some_iff.1 hj).1;simpa using this
       rw[List.getElem?_map,List.getElem?_range hj']at hj
       cases hj
       rw[add_lit]
       exact (hf j hj').1)
    obtain ⟨olds,hol,hor,hold⟩:=hold
    have hrun:=run_append_grows (P:=P) (ty:=ty) (kindF_underlying ht) hd2 hdn hi hzv (A:=some ⟨L.b,L.o+lo*b.sz,none⟩) (n:=n) (cap:=cap) (m:=m) (x:=x) (olds:=olds) (news:=vs) w hlen hold
     (by rw[hse,hf m w.drew (Nat.le_refl _) rfl,hvt]) (by omega) (by omega) (growslice_fits (by omega) (by rw[hbe];have:=Nat.mul_le_mul (show n+m<=4294967296 by omega) hb1;omega))
    have hcap:=grownCap_ge w (n+m) cap e
    have htl:((b.cs.drop (lo*b.sz)).take (n*b.sz)).length=n*b.sz:=by simp;omega
    refine ⟨_,_,upd ρ nid (some ⟨w.heap.size,0,((olds++vs)++(Builtin.zeroCells zv.cells (grownCap w (n+m) cap e-(n+m))).toList).length⟩),hrun,?_,?_⟩
    ·refine new_room (hkill.drew) (w:=w.drew) hno' e (olds++vs) (Builtin.zeroCells zv.cells (grownCap w (n+m) cap e-(n+m))).toList _ b.sz (n+m) (by simp[hol,htl,hvl]) (by rw[List.length_append,htl,hnl,Nat.add_mul]) (λ j c hc => ?_) (0,0) (.inr rfl) _ ?_ (λ k hk=>Go.RowKit.Below.heap_alloc _ _ _ hk) (by simp) rfl rfl rfl
     ·by_cases hj:j < n*b.sz
      ·rw[List.getElem?_append_left (by omega)]at hc
       obtain ⟨u,hu,hr⟩:=hor j c hc
       exact ⟨u,by rw[List.getElem?_append_left (by omega)];exact hu,hr.mono (λ _ _=>rfl) hkle⟩
      ·rw[List.getElem?_append_right (by omega),htl]at hc
       obtain ⟨u,hu,hr⟩:=hvr' _ c hc
       exact ⟨u,by rw[List.getElem?_append_right (by omega),hol];exact hu,hr.mono (λ _ _=>rfl) (λ _=>HLe.refl _ _)⟩
     ·show (w.drew.heap.push _)[w.drew.heap.size]? = _
      rw[Array.getElem?_push_size]
      congr 2
      apply Array.ext'
      simp
    ·refine arr_new rfl hcap ?_ rfl
     simp only[List.length_append,Array.length_toList,size_zeroCells,hzs,hzl,hvl,hnl,hol,<-Nat.add_mul]
     exact Nat.mul_le_mul_right _ (by omega)
  ·subst hn0
   exact empty rfl ha (by simp)
end Go.Fm
namespace Go.Fm
variable [Globs]
variable {P:Program} {o:Oper} {φ:St} {nid:Nat}
theorem wrap_nat {m:Nat} (hm:m<=4294967296):IntKind.i64.wrap (m:Int)=m:=by simp[IntKind.wrap,IntKind.bits,IntKind.signed];omega
theorem run_append_zeros {t t2 ty e:TypeId} {i:TypeInfo} {z:Value} {k2:IntKind} (ht:P.underlying t=some (.slice e)) (ht2:P.underlying t2=some (.int k2)) (hi:P.info? e=some i) (hz:i.zero=some z)
  {A:Option Addr} {m:Nat} (w:World) (hm:m<=4294967296) (hm0:0 < m) (hb:i.bytes<=1024) (hs:i.size=z.cells.size) :
  (Builtin.append_ #[t,t2] ty #[.slice A 0 0, .int .i64 m]).run P w =
   .ok (.slice (some ⟨w.heap.size,0,none⟩) m (grownCap w m 0 e)) (w.drew.alloc (.cells (Builtin.zeroCells z.cells m++Builtin.zeroCells z.cells (grownCap w m 0 e-m)) e)):=by
 have h63':¬ (9223372036854775807 < (m:Int)):=by omega
 have hmul:=Nat.mul_le_mul hm hb
 have hfit:=growslice_fits (need:=m) (old:=0) (bytes:=i.bytes) (by omega) (by omega)
 have h48':¬ (281474976710656 < Builtin.nextslicecap m 0*i.bytes):=by omega
 have h48:¬ ((281474976710656:Int) < (m:Int)*(i.bytes:Int)):=by
  have:((m*i.bytes:Nat):Int)<=((4294967296*1024:Nat):Int):=Int.ofNat_le.2 hmul
  rw[Int.natCast_mul]at this
  omega
 have hneg:¬ ((m:Int) < 0):=by omega
 have hold:(Builtin.firstCells i.size 0 (.slice A 0 0)).run P w.drew=.ok #[] w.drew:=by cases A<;>simp[Builtin.firstCells,loadCells,loadCellsFrom]
 have hne:¬ (m=0):=by omega
 by_cases hsz:i.size=0
 ·have e1:Builtin.zeroCells z.cells m = #[]:=by
   apply Array.eq_empty_of_size_eq_zero
   rw[size_zeroCells,<-hs,hsz];rfl
  rw[hsz]at hold
  simp[Builtin.append_,run_underlying ht,run_underlying ht2,sizeOf,typeInfo,zeroValue,hi,hz,asInt,asIntOf,wrap_nat hm,hneg,h48,hne,h63',h48',Question.forced,hold,newRow,grownCap,hsz,e1]
 ·have hms:m*i.size≠0:=Nat.mul_ne_zero hne hsz
  simp[Builtin.append_,run_underlying ht,run_underlying ht2,sizeOf,typeInfo,zeroValue,hi,hz,asInt,asIntOf,wrap_nat hm,hneg,h48,hne,hms,h63',h48',Question.forced,hold,newRow,grownCap,hsz]
theorem run_append_zeros0 {t t2 ty e:TypeId} {i:TypeInfo} {z:Value} {k2:IntKind} (ht:P.underlying t=some (.slice e)) (ht2:P.underlying t2=some (.int k2)) (hi:P.info? e=some i) (hz:i.zero=some z)
  {A:Option Addr} (w:World):(Builtin.append_ #[t,t2] ty #[.slice A 0 0, .int .i64 (0:Nat)]).run P w=.ok (.slice A 0 0) w:=by
 have hw:IntKind.i64.wrap 0=0:=by decide
 cases A<;>simp[Builtin.append_,run_underlying ht,run_underlying ht2,sizeOf,typeInfo,zeroValue,hi,hz,asInt,asIntOf,hw,storeCells]
theorem append_zeros {C:Ctx} {φ':St} {ac:Act} {w:World} {ρ:Rho} (R:RelAt C ρ φ' ac w) (hno:φ'.heap nid=.no) {t t2 ty e:TypeId} {size by_ m:Nat} {z:List CV} {A:Option Addr} {k2:IntKind}
  (ht:kindF P t=.slice e) (ht2:kindF P t2=.int k2) (hs:sizeF P e=some size) (hb:bytesF P e=some by_) (hz:zeroF P e=some z) (hb1:by_<=1024) (hzl:z.length=size) (hm:m<=maxN) :
  ∃ v w' ρ',(Builtin.append_ #[t,t2] ty #[.slice A 0 0, .int .i64 m]).run P w=.ok v w'/\RelAt C ρ' { φ' with heap:=upd φ'.heap nid (.live ⟨size,m,(List.replicate m z).flatten⟩) } ac w' ∧
   RSV w' C.Sh ρ' (upd φ'.heap nid (.live ⟨size,m,(List.replicate m z).flatten⟩)) v (one (.arr nid 0 m)):=by
 obtain ⟨i,zv,hi,hzv,hzs,hzrel⟩:=zeroF_info hz
 obtain ⟨i',hi',hse⟩:=sizeF_info hs
 rw[hi]at hi'
 cases hi'
 have hbe:i.bytes=by_:=by unfold bytesF at hb;rw[hi]at hb;simpa using hb
 by_cases hm0:m=0
 ·subst hm0
  exact ⟨_,_,_,run_append_zeros0 (kindF_underlying ht) (kindF_int ht2) hi hzv w,R.newNone nid hno size,RSV.of_one (by simp only[RV,upd_same];exact ⟨rfl,_,rfl⟩)⟩
 ·have hmx:maxN=4294967296:=rfl
  have hrun:=run_append_zeros (P:=P) (ty:=ty) (A:=A) (m:=m) (kindF_underlying ht) (kindF_int ht2) hi hzv w (by omega) (by omega) (by omega) (by omega)
  have hcap:=grownCap_ge w m 0 e
  have hns:((List.replicate m z).flatten).length=m*size:=by rw[rep_len,hzl]
  have hvl:(Builtin.zeroCells zv.cells m).toList.length=((List.replicate m z).flatten).length:=by rw[hns,Array.length_toList,size_zeroCells,hzs,hzl]
  refine ⟨_,_,upd ρ nid (some ⟨w.heap.size,0,((Builtin.zeroCells zv.cells m).toList++(Builtin.zeroCells zv.cells (grownCap w m 0 e-m)).toList).length⟩),hrun,?_,?_⟩
  ·refine new_room (R.drew) (w:=w.drew) hno e (Builtin.zeroCells zv.cells m).toList (Builtin.zeroCells zv.cells (grownCap w m 0 e-m)).toList _ size m hvl hns (λ j c hc => ?_) (0,0) (.inr rfl) _ ?_ (λ k hk=>Go.RowKit.Below.heap_alloc _ _ _ hk) (by simp) rfl rfl rfl
   ·have hj:j < m*size:=by have:=(List.getElem?_eq_some_iff.1 hc).1;rwa [rep_len,hzl]at this
    rw[rep_get z m j (by rw[hzl];exact hj)]at hc
    obtain ⟨u,hu,hr⟩:=hzrel w C.Sh ρ φ'.heap _ c hc
    refine ⟨u,?_,hr.mono (λ _ _=>rfl) (λ _=>HLe.refl _ _)⟩
    have hsz0:0 < zv.cells.size:=by rw[hzs,hzl];exact Nat.pos_of_ne_zero (λ e=>by rw[e]at hj;simp at hj)
    have hlt:j % zv.cells.size < zv.cells.size:=Nat.mod_lt _ hsz0
    have hu':zv.cells[j % zv.cells.size]? = some u:=by rw[hzs];simpa using hu
    rw[Array.getElem?_eq_getElem hlt]at hu'
    cases hu'
    simp only[Builtin.zeroCells,Array.getElem?_toList,Array.getElem?_map]
    rw[Array.getElem?_range,if_pos (by rw[hzs,hzl];exact hj),Option.map_some,getElem!_pos zv.cells (j % zv.cells.size) hlt]
   ·show (w.drew.heap.push _)[w.drew.heap.size]? = _
    rw[Array.getElem?_push_size]
    congr 2
    apply Array.ext'
    simp
  ·refine arr_new rfl hcap ?_ rfl
   simp only[List.length_append,Array.length_toList,size_zeroCells,hzs,hzl,<-Nat.add_mul]
   exact Nat.mul_le_mul_right _ (by omega)
end Go.Fm
