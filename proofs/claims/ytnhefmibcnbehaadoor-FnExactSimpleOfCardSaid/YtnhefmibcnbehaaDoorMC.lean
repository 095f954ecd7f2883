import Derived.Test.YtnhefmibcnbehaaDoorMB
set_option linter.all false
namespace Go.Fm
variable [Globs]
variable {P:Program} {o:Oper} {φ:St} {nid:Nat}
theorem bin_append {ats:List TypeId} {xs:List SV} {K:Action->Prop} (h:builtinF P .append ats xs φ nid K):(∃ t t2 r x y e,ats=t::t2::r/\xs=[x,y]/\kindF P t=.slice e/\((∃ e,kindF P t2=.slice e)\/kindF P t2=.str) ∧
  kO (sizeF P e) λ size=>kO (bytesF P e) λ by_=>kO (zeroF P e) λ z=>by_<=1024/\z.length=size/\φ.cells size y λ rd m ns =>
    (match x with
    | .pv (.one (.arr id lo n))=>kLive (φ.heap id) λ b=>b.sz=size/\lo+n<=b.n/\n+m<=maxN ∧
      K ⟨id::rd,one (.arr nid 0 (n+m)),[(id, .dead),(nid, .live ⟨size,n+m,(b.cs.drop (lo*size)).take (n*size)++ns⟩)]⟩
    | .pv (.one .emp)=>m<=maxN/\K ⟨rd,one (.arr nid 0 m),[(nid, .live ⟨size,m,ns⟩)]⟩
    | _=>False)) ∨
  (∃ t t2 r e k2 k n size by_ z,ats=t::t2::r/\xs=[one .emp,one (.int k n)]/\kindF P t=.slice e/\kindF P t2=.int k2/\sizeF P e=some size/\bytesF P e=some by_/\zeroF P e=some z/\by_<=1024/\z.length=size/\k=.i64/\0<=n/\n<=maxN ∧
   K ⟨[],one (.arr nid 0 n.toNat),[(nid, .live ⟨size,n.toNat,(List.replicate n.toNat z).flatten⟩)]⟩):=by
 unfold builtinF at h
 split at h<;>first|exact h.elim|contradiction|skip
 split at h
 ·exact .inl ⟨_,_,_,_,_,_,rfl,rfl,by assumption, .inl ⟨_,by assumption⟩,h⟩
 ·exact .inl ⟨_,_,_,_,_,_,rfl,rfl,by assumption, .inr (by assumption),h⟩
 ·obtain ⟨size,hs,h⟩:=kO_elim h
  obtain ⟨by_,hb,h⟩:=kO_elim h
  obtain ⟨z,hz,h⟩:=kO_elim h
  obtain ⟨⟨h1,h2⟩,h⟩:=h
  split at h
  ·obtain ⟨k,n,rfl,h⟩:=SV.kI_elim h
   exact .inr ⟨_,_,_,_,_,_,_,_,_,_,rfl,rfl,by assumption,by assumption,hs,hb,hz,h1,h2,h.1.1,h.1.2.1,h.1.2.2,h.2⟩
  ·exact h.elim
 ·exact h.elim
theorem ok_append {c:Call} {K:Action->Prop} (ho:o.op=.call c) (hc:c.callee=.builtin .append) (h:builtinF P .append c.argTypes.toList (c.args.toList.map φ.ev) φ nid K) :
  ∃ A,ActOk P o φ nid A/\K A:=by
 rcases bin_append h with h|⟨t,t2,r,e,k2,k,n,size,by_,z,hat,hxs,ht,ht2,hs,hb,hz,hb1,hzl,rfl,h0,hn,hK⟩
 case inr =>
  obtain ⟨x,y,hl,hx,hy⟩:=map_two hxs
  obtain ⟨ha0,ha1⟩:=types_two hat
  have hmx:x ∈ o.op.operands:=call_mem ho hc hl (by simp)
  have hmy:y ∈ o.op.operands:=call_mem ho hc hl (by simp)
  refine ⟨_, .mk λ C φ' ac w ρ hP hag R => ?_,hK⟩
  have h1:=R.ev x
  rw[hag.env x hmx,hx]at h1
  have h2:=R.ev y
  rw[hag.env y hmy,hy]at h2
  obtain ⟨A,hA⟩:=h1.emp
  have hno:φ'.heap nid=.no:=hag.fresh (nid,_) (List.mem_singleton.2 rfl) (Nat.le_refl _)
  obtain ⟨v',w',ρ',hrun,R',hv'⟩:=append_zeros (P:=P) (nid:=nid) (ty:=o.type) (A:=A) (m:=n.toNat) R hno ht ht2 hs hb hz hb1 hzl (by omega)
  refine ⟨v',w',ρ', .inl ?_,R',hv'⟩
  rw[call_builtin_run ho hc,arr_of_list hl]
  simp only[builtin,append_ats ha0 ha1,Sem.run_bind,Sem.run_pure,List.map_toArray,List.map_cons,List.map_nil,hA,h2.int]
  rw[Int.toNat_of_nonneg h0]at hrun
  rw[hrun]
  rfl
 obtain ⟨t,t2,r,sx,sy,e,hat,hxs,ht,ht2,g0⟩:=h
 obtain ⟨x,y,hl,hx,hy⟩:=map_two hxs
 obtain ⟨ha0,ha1⟩:=types_two hat
 obtain ⟨size,hs,g1⟩:=kO_elim g0
 obtain ⟨by_,hb,g2⟩:=kO_elim g1
 obtain ⟨z,hz,g3⟩:=kO_elim g2
 obtain ⟨hb1,hzl,g4⟩:=g3
 obtain ⟨rd,m,ns,h,hns⟩:=cells_elim (P:=P) g4
 have hmx:x ∈ o.op.operands:=call_mem ho hc hl (by simp)
 have hmy:y ∈ o.op.operands:=call_mem ho hc hl (by simp)
 have hrunE:∀ (ac:Act) (w:World),(execOp ac.eval o).run P w=((Builtin.append_ #[t,t2] o.type #[ac.eval x,ac.eval y]).run P w).andThen λ v w=>.ok (.value v) w:=by
  intro ac w
  rw[call_builtin_run ho hc,arr_of_list hl]
  simp only[builtin,append_ats ha0 ha1,Sem.run_bind,Sem.run_pure,List.map_toArray,List.map_cons,List.map_nil]
 split at h
 ·rename_i id lo n
  obtain ⟨b,hb',hbz,hlo,hm,hK⟩:=kLive_elim h
  refine ⟨_, .mk λ C φ' ac w ρ hP hag R => ?_,hK⟩
  have h1:=R.ev x
  rw[hag.env x hmx,hx]at h1
  have h2:=R.ev y
  rw[hag.env y hmy,hy]at h2
  have hbl:φ'.heap id=.live b:=(hag.hp id (by simp)).trans hb'
  have hno:φ'.heap nid=.no:=hag.fresh (nid,_) (List.mem_cons_of_mem _ (List.mem_singleton.2 rfl)) (Nat.le_refl _)
  obtain ⟨hnl,hsl,hlen,vs,hvl,hvr,hf⟩:=hns C φ' ac w ρ _ (λ i hi=>hag.hp i (List.mem_cons_of_mem _ hi)) R h2
  obtain ⟨v',w',ρ',hrun,R',hv'⟩:=append_arr (P:=P) (nid:=nid) (ty:=o.type) R hno hbl hbz hlo (h1.arr hbl) ht ht2 hs hb hz hb1 hzl hm hnl hlen vs hvl hvr hf
  exact ⟨v',w',ρ', .inl (by rw[hrunE,hrun];rfl),R',hv'⟩
 ·obtain ⟨hm,hK⟩:=h
  refine ⟨_, .mk λ C φ' ac w ρ hP hag R => ?_,hK⟩
  have h1:=R.ev x
  rw[hag.env x hmx,hx]at h1
  have h2:=R.ev y
  rw[hag.env y hmy,hy]at h2
  obtain ⟨A,hA⟩:=h1.emp
  have hno:φ'.heap nid=.no:=hag.fresh (nid,_) (List.mem_singleton.2 rfl) (Nat.le_refl _)
  obtain ⟨hnl,hsl,hlen,vs,hvl,hvr,hf⟩:=hns C φ' ac w ρ _ (λ i hi=>hag.hp i hi) R h2
  obtain ⟨v',w',ρ',hrun,R',hv'⟩:=append_empty (P:=P) (nid:=nid) (ty:=o.type) (A:=A) R hno ht ht2 hs hb hz hb1 hzl hm hnl hlen vs hvl hvr hf
  exact ⟨v',w',ρ', .inl (by rw[hrunE,hA,hrun];rfl),R',hv'⟩
 ·exact h.elim
theorem bin_copy {ats:List TypeId} {xs:List SV} {K:Action->Prop} (h:builtinF P .copy ats xs φ nid K):∃ t t2 r x y e,ats=t::t2::r/\xs=[x,y]/\kindF P t=.slice e ∧
  kO (sizeF P e) λ size=>φ.cells size y λ rd m ns =>
    (match x with
    | .pv (.one (.arr id lo n))=>kLive (φ.heap id) λ b=>b.sz=size/\lo+n<=b.n ∧
      K ⟨id::rd,one (.int .i64 (min m n:Nat)),[(id, .live ⟨size,b.n,over b.cs (lo*size) (ns.take (min m n*size))⟩)]⟩
    | .pv (.one .emp)=>K ⟨rd,one (.int .i64 0),[]⟩
    | _=>False):=by
 unfold builtinF at h
 split at h<;>first|exact h.elim|contradiction|skip
 split at h
 ·exact ⟨_,_,_,_,_,_,rfl,rfl,by assumption,h⟩
 ·exact ⟨_,_,_,_,_,_,rfl,rfl,by assumption,h⟩
 ·exact h.elim
theorem run_copy_own {ats:Array TypeId} {t e ty:TypeId} {size:Nat} (h0:ats[0]? = some t) (ht:P.underlying t=some (.slice e)) (hs:∀ w,(sizeOf e).run P w=.ok size w) {b o n cap m:Nat} {x:Value} {vs:List Value} (w w':World)
  (hlen:(Builtin.lenOf x).run P w=.ok m w) (hf:(Builtin.firstCells size (Nat.min m n) x).run P w=.ok vs.toArray w) (hst:(storeCells ⟨b,o,none⟩ vs).run P w=.ok () w') :
  (Builtin.copy_ ats ty #[.slice (some ⟨b,o,none⟩) n cap,x]).run P w=.ok (.int .i64 (Nat.min m n:Nat)) w':=by
 simp[Builtin.copy_,h0,run_underlying ht,hlen,hs,hf,hst,goInt]
theorem ok_copy {c:Call} {K:Action->Prop} (ho:o.op=.call c) (hc:c.callee=.builtin .copy) (h:builtinF P .copy c.argTypes.toList (c.args.toList.map φ.ev) φ nid K) :
  ∃ A,ActOk P o φ nid A/\K A:=by
 replace h:=bin_copy h
 obtain ⟨t,t2,r,sx,sy,e,hat,hxs,ht,g0⟩:=h
 obtain ⟨x,y,hl,hx,hy⟩:=map_two hxs
 obtain ⟨ha0,ha1⟩:=types_two hat
 obtain ⟨size,hs,g1⟩:=kO_elim g0
 obtain ⟨rd,m,ns,h,hns⟩:=cells_elim (P:=P) g1
 have hmx:x ∈ o.op.operands:=call_mem ho hc hl (by simp)
 have hmy:y ∈ o.op.operands:=call_mem ho hc hl (by simp)
 have hrunE:∀ (ac:Act) (w:World),(execOp ac.eval o).run P w=((Builtin.copy_ c.argTypes o.type #[ac.eval x,ac.eval y]).run P w).andThen λ v w=>.ok (.value v) w:=by
  intro ac w
  rw[call_builtin_run ho hc,arr_of_list hl]
  simp only[builtin,Sem.run_bind,Sem.run_pure,List.map_toArray,List.map_cons,List.map_nil]
 split at h
 ·rename_i id lo n
  obtain ⟨b,hb',hbz,hlo,hK⟩:=kLive_elim h
  subst hbz
  refine ⟨_, .mk λ C φ' ac w ρ hP hag R => ?_,hK⟩
  have h1:=R.ev x
  rw[hag.env x hmx,hx]at h1
  have h2:=R.ev y
  rw[hag.env y hmy,hy]at h2
  have hbl:φ'.heap id=.live b:=(hag.hp id (by simp)).trans hb'
  obtain ⟨hnl,hsl,hlen,vs,hvl,hvr,hf⟩:=hns C φ' ac w ρ _ (λ i hi=>hag.hp i (List.mem_cons_of_mem _ hi)) R h2
  have hr:=h1.arr hbl
  have hrb:=R.hp.blk id b hbl
  unfold RB at hrb
  have hmn:min m n*b.sz<=m*b.sz:=Nat.mul_le_mul_right _ (Nat.min_le_left _ _)
  have hmn2:min m n*b.sz<=n*b.sz:=Nat.mul_le_mul_right _ (Nat.min_le_right _ _)
  have hntl:(ns.take (min m n*b.sz)).length=min m n*b.sz:=by rw[List.length_take];omega
  have hvtl:(vs.take (min m n*b.sz)).length=min m n*b.sz:=by rw[List.length_take];omega
  have hvr':∀ (j:Nat) (c:CV),(ns.take (min m n*b.sz))[j]? = some c->∃ u:Value,(vs.take (min m n*b.sz))[j]? = some u/\RV w C.Sh ρ φ'.heap u c:=λ j c hc=>by
   rw[List.getElem?_take]at hc
   split at hc
   ·rename_i hj
    obtain ⟨u,hu,hr⟩:=hvr j c hc
    exact ⟨u,by rw[List.getElem?_take,if_pos hj];exact hu,hr⟩
   ·cases hc
  have none_case:n=0->(∃ a,ac.eval x=.slice a 0 0)->Goes P o C φ' ac w ρ ⟨id::rd,one (.int .i64 (min m n:Nat)),[(id, .live ⟨b.sz,b.n,over b.cs (lo*b.sz) (ns.take (min m n*b.sz))⟩)]⟩:=by
   intro hn0 ⟨a,ha⟩
   subst hn0
   have hov:over b.cs (lo*b.sz) (ns.take (min m 0*b.sz))=b.cs:=by simp[over]
   have hsame:{ φ' with heap:=heapOf φ'.heap [(id,HS.live ⟨b.sz,b.n,over b.cs (lo*b.sz) (ns.take (min m 0*b.sz))⟩)] }=φ':=by
    rw[hov]
    have:heapOf φ'.heap [(id,HS.live ⟨b.sz,b.n,b.cs⟩)]=φ'.heap:=by
     funext i
     show upd φ'.heap id _ i=_
     by_cases e:i=id
     ·subst e;rw[upd_same];exact hbl.symm
     ·rw[upd_ne _ _ e]
    rw[this]
   refine ⟨.int .i64 0,w,ρ, .inl ?_,by rw[hsame];exact R, .of_RI (by simpa using RI.int .i64 0)⟩
   rw[hrunE,ha]
   cases a<;>simp[Builtin.copy_,ha0,run_underlying (kindF_underlying ht),hlen,sizeF_run hs,hf 0 w (Nat.zero_le _) rfl,goInt,storeCells]
  cases hL:ρ id with
  | none=>rw[hL]at hr;exact none_case hr.1 hr.2
  | some L =>
   rw[hL]at hr hrb
   obtain ⟨q1,q2,q3,q4⟩:=hrb
   rcases hr with ⟨cap,he,h1',h2',h3'⟩|⟨hn0,ha⟩
   ·have hm1:lo*b.sz+n*b.sz<=b.cs.length:=by rw[q1,<-Nat.add_mul];exact Nat.mul_le_mul_right _ hlo
    have hst:=setCells_run (P:=P) (w:=w) (b:=L.b) (o:=L.o+lo*b.sz) (n:=0) (vs:=vs.take (min m n*b.sz)) (λ j hj=>by rw[Nat.add_assoc];exact (q3 _ (by omega)).1)
     (λ j hj=>by rw[Nat.add_assoc];exact (q3 _ (by omega)).2.1) (one_of_rel (by omega) hvr')
    refine ⟨.int .i64 (min m n:Nat),_,ρ, .inl ?_,R.store id b L hbl hL (lo*b.sz) (vs.take (min m n*b.sz)) (ns.take (min m n*b.sz)) (by omega) (by omega) hvr', .of_RI (.int _ _)⟩
    rw[hrunE,he,run_copy_own (P:=P) ha0 (kindF_underlying ht) (sizeF_run hs) w _ (hlen w) (hf (min m n) w (Nat.min_le_left _ _) rfl) hst]
    rfl
   ·exact none_case hn0 ha.2
 ·refine ⟨_, .quiet λ C φ' ac w ρ hP hag R => ?_,h⟩
  have h1:=R.ev x
  rw[hag.env x hmx,hx]at h1
  have h2:=R.ev y
  rw[hag.env y hmy,hy]at h2
  obtain ⟨A,hA⟩:=h1.emp
  obtain ⟨hnl,hsl,hlen,vs,hvl,hvr,hf⟩:=hns C φ' ac w ρ _ (λ i hi=>hag.hp i hi) R h2
  refine ⟨.int .i64 0,?_, .of_RI (.int _ _)⟩
  rw[hrunE,hA]
  cases A<;>simp[Builtin.copy_,ha0,run_underlying (kindF_underlying ht),hlen,sizeF_run hs,hf 0 w (Nat.zero_le _) rfl,goInt,storeCells]
 ·exact h.elim
theorem ok_clear {c:Call} {K:Action->Prop} (ho:o.op=.call c) (hc:c.callee=.builtin .clear) (h:builtinF P .clear c.argTypes.toList (c.args.toList.map φ.ev) φ nid K) :
  ∃ A,ActOk P o φ nid A/\K A:=by
 have h':∃ t x e,c.argTypes.toList=[t]/\c.args.toList.map φ.ev=[x]/\kindF P t=.slice e/\kO (sizeF P e) λ size=>kO (zeroF P e) λ z =>
    (match x with
    | .pv (.one (.arr id lo n))=>kLive (φ.heap id) λ b=>b.sz=size/\z.length=size/\lo+n<=b.n ∧
      K ⟨[id], .tup [],[(id, .live ⟨size,b.n,over b.cs (lo*size) (List.replicate n z).flatten⟩)]⟩
    | .pv (.one .emp)=>K ⟨[], .tup [],[]⟩
    | _=>False):=by
  unfold builtinF at h
  split at h<;>first|exact h.elim|contradiction|skip
  split at h
  ·exact ⟨_,_,_,by assumption,by assumption,by assumption,h⟩
  ·exact h.elim
 clear h
 obtain ⟨t,sx,e,hat,hxs,ht,g0⟩:=h'
 obtain ⟨x,hl,hx⟩:=map_one hxs
 obtain ⟨size,hs,g1⟩:=kO_elim g0
 obtain ⟨z,hz,h⟩:=kO_elim g1
 have hmx:x ∈ o.op.operands:=call_mem ho hc hl (by simp)
 have hrunE:∀ (ac:Act) (w:World),(execOp ac.eval o).run P w=((Builtin.clear_ #[t] o.type #[ac.eval x]).run P w).andThen λ v w=>.ok (.value v) w:=by
  intro ac w
  rw[call_builtin_run ho hc,arr_of_list hl,arr_of_list hat]
  simp only[builtin,Sem.run_bind,Sem.run_pure,List.map_toArray,List.map_cons,List.map_nil]
 have htup:∀ (w:World) (Sh:Nat->Prop) (ρ:Rho) (h:Nat->HS),RSV w Sh ρ h (.tuple #[]) (.tup []):=λ w Sh ρ h=>⟨[],rfl,rfl,λ i p hp=>by simp at hp⟩
 split at h
 ·rename_i id lo n
  obtain ⟨b,hb',hbz,hzl,hlo,hK⟩:=kLive_elim h
  subst hbz
  refine ⟨_, .mk λ C φ' ac w ρ hP hag R => ?_,hK⟩
  have h1:=R.ev x
  rw[hag.env x hmx,hx]at h1
  have hbl:φ'.heap id=.live b:=(hag.hp id (by simp)).trans hb'
  have hr:=h1.arr hbl
  have hrb:=R.hp.blk id b hbl
  unfold RB at hrb
  obtain ⟨zv,hzr,hzs,hzrel⟩:=zeroF_run hz
  have none_case:n=0->(∃ a cap,ac.eval x=.slice a 0 cap)->Goes P o C φ' ac w ρ ⟨[id], .tup [],[(id, .live ⟨b.sz,b.n,over b.cs (lo*b.sz) (List.replicate n z).flatten⟩)]⟩:=by
   intro hn0 ⟨a,cap,ha⟩
   subst hn0
   have hov:over b.cs (lo*b.sz) (List.replicate 0 z).flatten=b.cs:=by simp[over]
   have hsame:{ φ' with heap:=heapOf φ'.heap [(id,HS.live ⟨b.sz,b.n,over b.cs (lo*b.sz) (List.replicate 0 z).flatten⟩)] }=φ':=by
    rw[hov]
    have:heapOf φ'.heap [(id,HS.live ⟨b.sz,b.n,b.cs⟩)]=φ'.heap:=by
     funext i
     show upd φ'.heap id _ i=_
     by_cases e:i=id
     ·subst e;rw[upd_same];exact hbl.symm
     ·rw[upd_ne _ _ e]
    rw[this]
   refine ⟨.tuple #[],w,ρ, .inl ?_,by rw[hsame];exact R,htup _ _ _ _⟩
   rw[hrunE,ha]
   cases a<;>simp[Builtin.clear_,run_underlying (kindF_underlying ht)]
  by_cases hn0:n=0
  ·subst hn0
   cases hL:ρ id with
   | none=>rw[hL]at hr;obtain ⟨_,a,ha⟩:=hr;exact none_case rfl ⟨a,0,ha⟩
   | some L =>
    rw[hL]at hr
    rcases hr with ⟨cap,he,_⟩|⟨_,_,a,ha⟩
    ·exact none_case rfl ⟨_,_,he⟩
    ·exact none_case rfl ⟨a,0,ha⟩
  ·cases hL:ρ id with
   | none=>rw[hL]at hr;exact absurd hr.1 hn0
   | some L =>
    rw[hL]at hr hrb
    obtain ⟨q1,q2,q3,q4⟩:=hrb
    rcases hr with ⟨cap,he,h1',h2',h3'⟩|⟨hn,_⟩
    ·have hm1:lo*b.sz+n*b.sz<=b.cs.length:=by rw[q1,<-Nat.add_mul];exact Nat.mul_le_mul_right _ hlo
     have hzc:(Builtin.zeroCells zv.cells n).toList.length=n*b.sz:=by rw[Array.length_toList,size_zeroCells,hzs,hzl]
     have hvr':∀ (j:Nat) (c:CV),((List.replicate n z).flatten)[j]? = some c->∃ u:Value,(Builtin.zeroCells zv.cells n).toList[j]? = some u/\RV w C.Sh ρ φ'.heap u c:=λ j c hc=>by
      have hj:j < n*b.sz:=by have:=(List.getElem?_eq_some_iff.1 hc).1;rwa [rep_len,hzl]at this
      rw[rep_get z n j (by rw[hzl];exact hj)]at hc
      obtain ⟨u,hu,hr⟩:=hzrel w C.Sh ρ φ'.heap _ c hc
      refine ⟨u,?_,hr⟩
      have hsz0:0 < zv.cells.size:=by rw[hzs,hzl];exact Nat.pos_of_ne_zero (λ e=>by rw[e]at hj;simp at hj)
      have hlt:j % zv.cells.size < zv.cells.size:=Nat.mod_lt _ hsz0
      have hu':zv.cells[j % zv.cells.size]? = some u:=by rw[hzs];simpa using hu
      rw[Array.getElem?_eq_getElem hlt]at hu'
      cases hu'
      have hj2:j < n*zv.cells.size:=by rw[hzs,hzl];exact hj
      simp only[Builtin.zeroCells,Array.getElem?_toList,Array.getElem?_map]
      rw[Array.getElem?_range,if_pos hj2,Option.map_some,getElem!_pos zv.cells (j % zv.cells.size) hlt]
     have hst:=setCells_run (P:=P) (w:=w) (b:=L.b) (o:=L.o+lo*b.sz) (n:=0) (vs:=(Builtin.zeroCells zv.cells n).toList) (λ j hj=>by rw[Nat.add_assoc];exact (q3 _ (by omega)).1)
      (λ j hj=>by rw[Nat.add_assoc];exact (q3 _ (by omega)).2.1) (one_of_rel (by rw[hzc,rep_len,hzl]) hvr')
     refine ⟨.tuple #[],_,ρ, .inl ?_,R.store id b L hbl hL (lo*b.sz) _ _ (by rw[hzc,rep_len,hzl]) (by rw[rep_len,hzl];omega) hvr',htup _ _ _ _⟩
     rw[hrunE,he]
     obtain ⟨n',rfl⟩:∃ n',n=n'+1:=⟨n-1,by omega⟩
     simp only[Builtin.clear_,Sem.run_bind,run_underlying (kindF_underlying ht),Result.andThen_ok,List.getElem?_toArray,List.getElem?_cons_zero,hzr,hst,Sem.run_pure]
    ·exact absurd hn hn0
 ·refine ⟨_, .quiet λ C φ' ac w ρ hP hag R => ?_,h⟩
  have h1:=R.ev x
  rw[hag.env x hmx,hx]at h1
  obtain ⟨A,hA⟩:=h1.emp
  refine ⟨.tuple #[],?_,htup _ _ _ _⟩
  rw[hrunE,hA]
  cases A<;>simp[Builtin.clear_,run_underlying (kindF_underlying ht)]
 ·exact h.elim
theorem underlying_some {t:TypeId} {k:TK} (h:kindF P t=k) (hk:k≠.other):(P.underlying t).isSome=true:=by
 unfold kindF at h
 cases hu:P.underlying t with
 | none=>rw[hu]at h;exact absurd h.symm hk
 | some d=>rfl
theorem isU8_underlying {e:TypeId} (h:isU8 P e=true):P.underlying e=some (.int .u8):=by
 unfold isU8 at h
 split at h
 ·rename_i hk;exact kindF_int hk
 ·cases h
theorem bytesCs_get:∀ {cs:List CV} {l:List UInt8},bytesCs cs=some l->l.length=cs.length/\∀ (j:Nat) (c:CV),cs[j]? = some c->∃ n,c=.int .u8 n/\l[j]? = some (UInt8.ofNat n.toNat)
 | [],l,h=>by simp only[bytesCs,Option.some.injEq]at h;subst h;exact ⟨rfl,λ j c hc=>by simp at hc⟩
 | c::r,l,h=>by
  unfold bytesCs at h
  split at h
  ·rename_i heq;cases heq
  ·rename_i n r' heq
   cases heq
   obtain ⟨l',hl',rfl⟩:=Option.map_eq_some_iff.1 h
   obtain ⟨h1,h2⟩:=bytesCs_get hl'
   refine ⟨by simp[h1],λ j c hc => ?_⟩
   cases j with
   | zero=>simp at hc;subst hc;exact ⟨n,rfl,rfl⟩
   | succ j=>simp at hc;simpa using h2 j c hc
  ·cases h
theorem bytes_loop (f:Value->ByteArray->Sem (ForInStep ByteArray)) (hf:∀ n s,f (.int .u8 n) s=pure (ForInStep.yield (s.push (UInt8.ofNat n.toNat)))) :
  ∀ (vs:List Value) (l:List UInt8) (s:ByteArray) (w:World),vs.length=l.length->(∀ (j:Nat) (v:Value),vs[j]? = some v->∃ n,v=.int .u8 n/\l[j]? = some (UInt8.ofNat n.toNat)) →
  (forIn vs s f).run P w=Result.ok (⟨s.data++l.toArray⟩:ByteArray) w
 | [],l,s,w,hl,_=>by
  have:l=[]:=List.eq_nil_of_length_eq_zero (by simpa using hl.symm)
  subst this
  simp
 | v::vs,l,s,w,hl,h=>by
  obtain ⟨n,rfl,hn⟩:=h 0 v rfl
  match l,hl,hn,h with
  | b::l,hl,hn,h =>
   simp only[List.getElem?_cons_zero,Option.some.injEq]at hn
   subst hn
   have ih:=bytes_loop f hf vs l (s.push (UInt8.ofNat n.toNat)) w (by simpa using hl) (λ j v hv=>by have:=h (j+1) v (by simpa using hv);simpa using this)
   rw[List.forIn_cons,hf]
   simp only[Sem.run_bind,Sem.run_pure,Result.andThen_ok,ih]
   congr 2
   apply Array.ext'
   simp[ByteArray.push]
theorem bytesToString_run {A:Option Addr} {n cap:Nat} {vs:List Value} {l:List UInt8} (w:World) (hf:(Builtin.firstCells 1 n (.slice A n cap)).run P w=.ok vs.toArray w) (hl:vs.length=l.length)
  (h:∀ (j:Nat) (v:Value),vs[j]? = some v->∃ n,v=.int .u8 n/\l[j]? = some (UInt8.ofNat n.toNat)) :
  ∃ s:ByteArray,(Conv.bytesToString (.slice A n cap)).run P w=.ok (.string s) w/\s.data.toList=l:=by
 cases A with
 | none =>
  simp only[Builtin.firstCells,Sem.run_pure]at hf
  have hv:vs=[]:=by
   have h0:(#[]:Array Value)=vs.toArray:=by injection hf
   have h1:=congrArg Array.size h0
   exact List.eq_nil_of_length_eq_zero (by simpa using h1.symm)
  subst hv
  have:l=[]:=List.eq_nil_of_length_eq_zero (by simpa using hl.symm)
  subst this
  exact ⟨.empty,rfl,rfl⟩
 | some a =>
  refine ⟨⟨l.toArray⟩,?_,by simp⟩
  simp only[Builtin.firstCells,Nat.mul_one]at hf
  simp only[Conv.bytesToString,Sem.run_bind,hf,Result.andThen_ok]
  rw[List.forIn_toArray,bytes_loop (P:=P) _ (λ _ _=>rfl) vs l ByteArray.empty w hl h]
  simp only[Result.andThen_ok,Sem.run_pure]
  congr 3
  apply Array.ext'
  simp
theorem ok_convert {s d:TypeId} {x:Operand} {K:Action->Prop} (ho:o.op=.convert s d x) (h:act P o φ nid K):∃ A,ActOk P o φ nid A/\K A:=by
 unfold act at h
 rw[ho]at h
 simp only at h
 split at h
 ·rename_i ks kd hs hd
  obtain ⟨k0,n,hx,hK⟩:=SV.kI_elim h
  refine ⟨_, .quiet λ C φ' ac w ρ hP hag R => ?_,hK⟩
  have h1:=R.ev x
  rw[hag.env x (by simp[ho,Op.operands]),hx]at h1
  refine ⟨.int kd (kd.wrap n),?_, .of_RI (.int _ _)⟩
  obtain ⟨ds,hds⟩:=Option.isSome_iff_exists.1 (underlying_some hs (by simp))
  simp[execOp,ho,h1.int,convert,run_underlying hds,run_underlying (kindF_int hd),Conv.intToInt]
 ·rename_i hs hd
  obtain ⟨l,hx,hK⟩:=SV.kS_elim h
  refine ⟨_, .quiet λ C φ' ac w ρ hP hag R => ?_,hK⟩
  have h1:=R.ev x
  rw[hag.env x (by simp[ho,Op.operands]),hx]at h1
  obtain ⟨st,he,hst⟩:=h1.str
  refine ⟨.string st,?_,by rw[<-he];exact h1⟩
  simp[execOp,ho,he,convert,run_underlying (kindF_str hs),run_underlying (kindF_str hd)]
 ·rename_i e hs hd
  obtain ⟨hu,h'⟩:=h
  obtain ⟨l,hx,hm,hK⟩:=SV.kS_elim h'
  refine ⟨_, .mk λ C φ' ac w ρ hP hag R => ?_,hK⟩
  have h1:=R.ev x
  rw[hag.env x (by simp[ho,Op.operands]),hx]at h1
  obtain ⟨st,he,hst⟩:=h1.str
  have hno:φ'.heap nid=.no:=hag.fresh _ (List.mem_singleton.2 rfl) (Nat.le_refl _)
  have hsz:st.size=l.length:=by rw[<-hst,Array.length_toList];rfl
  have hcap:=grownCap_ge w st.size 0 e
  let elems:List Value:=l.map λ b=>.int .u8 b.toNat
  let rest:List Value:=List.replicate (grownCap w st.size 0 e-st.size) (.int .u8 0)
  have htot:(elems++rest).length=grownCap w st.size 0 e:=by simp[elems,rest];omega
  let w1:World:=w.drew.alloc (.cells (elems++rest).toArray e)
  refine ⟨.slice (some ⟨w.heap.size,0,none⟩) st.size (grownCap w st.size 0 e),w1.freeze ⟨w.heap.size,(elems++rest).length,none⟩ 1,upd ρ nid (some ⟨w.heap.size,0,(elems++rest).length⟩), .inl ?_,?_,?_⟩
  ·have helem:(l.map λ b:UInt8=>Value.int .u8 b.toNat).toArray=st.data.map (λ b=>Value.int .u8 b.toNat):=by
    apply Array.ext'
    simp[<-hst]
   have hrow:(st.data.map (λ b=>Value.int .u8 b.toNat))++Array.replicate (grownCap w st.size 0 e-st.size) (.int .u8 0)=(elems++rest).toArray:=by
    rw[<-helem]
    apply Array.ext'
    simp[elems,rest]
   simp only[execOp,ho,he,convert,Sem.run_bind,run_underlying (kindF_str hs),run_underlying (kindF_underlying hd),Result.andThen_ok,run_underlying (isU8_underlying hu),Conv.stringToBytes,run_choose,Question.forced,Bool.false_eq_true,if_false,newRow,run_newObj,Sem.run_pure,markStringish,run_shape]
   have hg:(Question.appendCap st.size 0 e).cut (w.tape w.drawn (Question.appendCap st.size 0 e))=grownCap w st.size 0 e:=rfl
   rw[hg,hrow]
   have hw1:({ heap:=w.heap.push (Obj.cells (elems++rest).toArray e),tape:=w.tape,drawn:=w.drawn+1,os:=w.os,output:=w.output }:World)=w1:=rfl
   rw[hw1]
   have hsp:w1.shape? w.heap.size=some (e,(elems++rest).length):=by
    have:w1.heap[w.heap.size]? = some (.cells (elems++rest).toArray e):=by
     show (w.drew.heap.push _)[w.drew.heap.size]? = _
     rw[Array.getElem?_push_size]
    simp only[World.shape?,this,List.size_toArray]
   simp only[hsp,run_freeze,Result.andThen_ok]
  ·refine new_room (R.drew) (w:=w.drew) hno e elems rest (l.map λ b=>.int .u8 b.toNat) 1 l.length (by simp[elems]) (by simp) (λ j c hc => ?_) ((elems++rest).length,(elems++rest).length+1) (.inl ⟨Nat.le_refl _,rfl⟩) _ ?_ (λ k hk => ?_) ?_ rfl rfl rfl
   ·rw[List.getElem?_map]at hc
    simp only[elems,List.getElem?_map]
    cases hl:l[j]? with
    | none=>rw[hl]at hc;cases hc
    | some b=>rw[hl]at hc;cases hc;exact ⟨_,rfl, .of_RI (.int _ _)⟩
   ·show (w1.freeze ⟨w.heap.size,(elems++rest).length,none⟩ 1).heap[w.heap.size]? = _
    simp only[World.freeze,Nat.one_ne_zero,if_false,Array.getElem?_modify,if_true]
    have:w1.heap[w.heap.size]? = some (.cells (elems++rest).toArray e):=by
     show (w.drew.heap.push _)[w.drew.heap.size]? = _
     rw[Array.getElem?_push_size]
    rw[this]
    simp
   ·show (w1.freeze ⟨w.heap.size,(elems++rest).length,none⟩ 1).heap[k]? = _
    simp only[World.freeze,Nat.one_ne_zero,if_false,Array.getElem?_modify]
    rw[if_neg (by simp only[World.size_drew]at hk;omega)]
    exact Go.RowKit.Below.heap_alloc _ _ _ hk
   ·show _ < (w1.freeze ⟨w.heap.size,(elems++rest).length,none⟩ 1).heap.size
    simp[World.freeze,w1]
  ·rw[<-hsz]
   exact arr_new rfl hcap (by simp only[htot];omega) (by rw[hsz])
 ·rename_i e hs hd
  obtain ⟨hu,hnot,h'⟩:=h
  have h'':=h'
  obtain ⟨rd,n,cs,h2,hns⟩:=cells_elim (P:=P) h'
  obtain ⟨l,hl,hK⟩:=kO_elim h2
  refine ⟨_, .quiet λ C φ' ac w ρ hP hag R => ?_,hK⟩
  have h1:=R.ev x
  rw[hag.env x (by simp[ho,Op.operands])]at h1
  obtain ⟨hnl,hsl,hlen,vs,hvl,hvr,hf⟩:=hns C φ' ac w ρ _ (λ i hi=>hag.hp i hi) R h1
  obtain ⟨hl1,hl2⟩:=bytesCs_get hl
  have hA:∃ A cap,ac.eval x=.slice A n cap:=by
   obtain ⟨A,n',cap,he⟩:=hsl hnot
   have:=hlen w
   rw[he]at this
   simp only[Builtin.lenOf,Sem.run_pure]at this
   cases this
   exact ⟨A,cap,he⟩
  obtain ⟨A,cap,he⟩:=hA
  obtain ⟨st,hrun,hst⟩:=bytesToString_run (P:=P) (A:=A) (n:=n) (cap:=cap) (vs:=vs) (l:=l) w (by rw[<-he,hf n w (Nat.le_refl _) rfl,List.take_of_length_le (by omega)]) (by omega)
   (λ j v hv=>by
    have hj:j < cs.length:=by have:=(List.getElem?_eq_some_iff.1 hv).1;omega
    obtain ⟨m,hm,hlj⟩:=hl2 j cs[j] (List.getElem?_eq_getElem hj)
    obtain ⟨u,hu',hr⟩:=hvr j cs[j] (List.getElem?_eq_getElem hj)
    rw[hv]at hu'
    cases hu'
    rw[hm]at hr
    exact ⟨m,hr.int,hlj⟩)
  refine ⟨.string st,?_, .of_RI (by rw[<-hst];exact .str st)⟩
  simp only[execOp,ho,he,convert,Sem.run_bind,run_underlying (kindF_underlying hs),run_underlying (kindF_str hd),Result.andThen_ok,run_underlying (isU8_underlying hu),hrun,Sem.run_pure]
 ·exact h.elim
end Go.Fm
namespace Go.Fm
variable [Globs]
variable {P:Program} {o:Oper} {φ:St} {nid:Nat}
theorem act_ok {K:Action->Prop} (h:act P o φ nid K):∃ A,ActOk P o φ nid A/\K A:=by
 have h0:=h
 unfold act at h
 split at h
 ·rename_i x ho;exact ⟨_,ok_move (.inl ho),h⟩
 ·rename_i x ho;exact ⟨_,ok_move (.inr ho),h⟩
 ·rename_i c a b ho
  obtain ⟨t,hc,hk⟩:=SV.kB_elim h
  exact ⟨_,ok_pick ho hc,hk⟩
 ·rename_i x i ho
  obtain ⟨ps,hc,hk⟩:=SV.kT_elim h
  obtain ⟨p,hp,hk⟩:=kO_elim hk
  exact ⟨_,ok_extract ho hc hp,hk⟩
 ·rename_i u t x ho
  obtain ⟨c,hc,hk⟩:=ok_un (nid:=nid) ho h
  exact ⟨_,hc,hk⟩
 ·rename_i op t x y yt ho
  obtain ⟨c,hc,hk⟩:=ok_bin (nid:=nid) ho h
  exact ⟨_,hc,hk⟩
 ·rename_i s d x ho
  exact ok_convert ho h0
 ·rename_i t x f ho
  obtain ⟨q,hq,h⟩:=kO_elim h
  obtain ⟨size,hs,h⟩:=kO_elim h
  obtain ⟨b,hb,h⟩:=kO_elim h
  obtain ⟨cs,hx,hl,h1,h⟩:=SV.kA_elim h
  exact ⟨_,ok_field ho hq hs hb hx hl h1,h⟩
 ·rename_i t x f ho
  obtain ⟨q,hq,h⟩:=kO_elim h
  obtain ⟨size,hs,hn,h⟩:=kO_elim h
  rcases SV.kPtr_elim h with ⟨id,off,hx,h⟩|⟨cs,hx,h⟩
  ·obtain ⟨b,hb,h⟩:=kLive_elim h
   exact ⟨_,ok_fieldAddr ho hq hs hn hx hb,h⟩
  ·exact ⟨_,ok_fieldAddr_ip ho hq hs hn hx,h⟩
 ·rename_i t x ho
  obtain ⟨size,hs,h⟩:=kO_elim h
  obtain ⟨b,hb,h1,h⟩:=kO_elim h
  rcases SV.kPtr_elim h with ⟨id,off,hx,h⟩|⟨cs,hx,hl,h⟩
  ·obtain ⟨bl,hbl,hle,h⟩:=kLive_elim h
   exact ⟨_,ok_load ho hs hb h1 hx hbl hle,h⟩
  ·exact ⟨_,ok_load_ip ho hs hb h1 hx hl,h⟩
 ·rename_i t x v ho
  obtain ⟨size,hs,h⟩:=kO_elim h
  have hgo:∀ ns:List CV,(ns.length=size/\(φ.ev x).kPtr (λ id off=>kLive (φ.heap id) λ bl=>off+ns.length<=bl.cs.length/\K ⟨[id],one .dead,[(id, .live ⟨bl.sz,bl.n,over bl.cs off ns⟩)]⟩) (λ _=>False)) →
   ∃ id off bl,φ.ev x=one (.ptr id off)/\φ.heap id=.live bl:=λ ns hn=>by
    rcases SV.kPtr_elim hn.2 with ⟨id,off,hx,h⟩|⟨cs,hx,h⟩
    ·obtain ⟨bl,hbl,h⟩:=kLive_elim h
     exact ⟨id,off,bl,hx,hbl⟩
    ·exact h.elim
  obtain ⟨ns,hv,hn⟩:∃ ns,(∀ K:List CV->Prop,(φ.ev v).kC K->K ns)/\(ns.length=size/\(φ.ev x).kPtr (λ id off=>kLive (φ.heap id) λ bl=>off+ns.length<=bl.cs.length/\K ⟨[id],one .dead,[(id, .live ⟨bl.sz,bl.n,over bl.cs off ns⟩)]⟩) (λ _=>False)):=by
   generalize φ.ev v=sv at h
   unfold SV.kC at h
   split at h
   ·exact h.elim
   ·rename_i c hc;exact ⟨_,λ K hK=>by cases c<;>first|exact hK|exact absurd rfl hc,h⟩
   ·exact ⟨_,λ K hK=>hK,h⟩
   ·exact h.elim
  obtain ⟨id,off,bl,hx,hbl⟩:=hgo ns hn
  have hkC:(φ.ev v).kC λ ns'=>ns'=ns:=by
   have h':=h
   generalize φ.ev v=sv at h' hv ⊢
   unfold SV.kC at h'
   split at h'
   ·exact h'.elim
   ·rename_i c hc
    have:(Fm.one c).kC λ ns'=>ns'=[c]:=by cases c<;>first|rfl|exact absurd rfl hc
    have h2:=hv _ this
    cases c<;>first|exact h2.symm|exact absurd rfl hc
   ·rename_i cs
    have:(SV.pv (.agg cs)).kC λ ns'=>ns'=cs:=rfl
    exact (hv _ this).symm
   ·exact h'.elim
  obtain ⟨ns',rfl,hok⟩:=ok_store (nid:=nid) ho hs hkC hx hbl
  obtain ⟨hlen,hp⟩:=hn
  rw[hx]at hp
  have hp':kLive (φ.heap id) λ bl=>off+ns'.length<=bl.cs.length/\K ⟨[id],one .dead,[(id, .live ⟨bl.sz,bl.n,over bl.cs off ns'⟩)]⟩:=hp
  rw[hbl]at hp'
  obtain ⟨hle,hK⟩:=hp'
  exact ⟨_,hok hlen hle,hK⟩
 ·rename_i t ho
  obtain ⟨z,hz,h⟩:=kO_elim h
  exact ⟨_,ok_alloc ho hz,h⟩
 ·rename_i t v ho
  obtain ⟨ns,hk,hok⟩:=ok_box (nid:=nid) ho h
  exact ⟨_,hok,hk⟩
 ·rename_i t ps ho
  split at h
  ·rename_i ht
   obtain ⟨hall,h⟩:=h
   obtain ⟨z,hz,h⟩:=kO_elim h
   obtain ⟨cs,hk,hok⟩:=ok_build (nid:=nid) ho ht hall hz h
   exact ⟨_,hok,hk⟩
  ·exact h.elim
 ·rename_i t n ps ho
  split at h
  ·rename_i e ht
   obtain ⟨size,hs,hn,h0,hps,h⟩:=kO_elim h
   have hz:(zeroF P e).isSome=true:=by
    suffices hh:∀ (l:List (Nat×Operand)) (i:Nat) (K':List CV->Prop),partsOf φ size i l (λ cs=>(zeroF P e).isSome=true/\K' cs)->(zeroF P e).isSome=true from hh _ _ _ h
    intro l
    induction l with
    | nil=>intro i K' h;exact h.1
    | cons q r ih =>
     intro i K' h
     obtain ⟨j,x⟩:=q
     simp only[partsOf]at h
     obtain ⟨_,h⟩:=h
     have h2:∃ cs:List CV,partsOf φ size (i+1) r λ ds=>(zeroF P e).isSome=true/\K' (cs++ds):=by
      generalize φ.ev x=sx at h
      unfold SV.kC at h
      split at h
      ·exact h.elim
      ·exact ⟨_,h.2⟩
      ·exact ⟨_,h.2⟩
      ·exact h.elim
     obtain ⟨cs,h2⟩:=h2
     exact ih _ (λ ds=>K' (cs++ds)) h2
   obtain ⟨cs,hk,hok⟩:=ok_buildSlice (nid:=nid) ho ht hs hn h0 hps hz h
   exact ⟨_,hok,hk.2⟩
  ·exact h.elim
 ·rename_i t l c ho
  split at h
  ·rename_i e ht
   obtain ⟨size,hs,h⟩:=kO_elim h
   obtain ⟨z,hz,h⟩:=kO_elim h
   obtain ⟨by_,hb,hb1,hzl,h⟩:=kO_elim h
   obtain ⟨k1,n,hl,h⟩:=SV.kI_elim h
   obtain ⟨k2,m,hc,rfl,rfl,rfl,h0,hn,h⟩:=SV.kI_elim h
   exact ⟨_,ok_makeSlice ho ht hs hz hb hb1 hzl hl hc h0 hn,h⟩
  ·exact h.elim
 ·rename_i t x i ho
  split at h
  ·rename_i ht
   obtain ⟨l,hx,h⟩:=SV.kS_elim h
   obtain ⟨k,n,hi,h0,h⟩:=SV.kI_elim h
   exact ⟨_,ok_index_str ho ht hx hi h0,h⟩
  ·exact h.elim
 ·rename_i t x i ho
  split at h
  ·rename_i e ht
   obtain ⟨size,hs,h⟩:=kO_elim h
   obtain ⟨k,n,hi,h⟩:=SV.kI_elim h
   rcases SV.kSl_elim h with ⟨id,lo,m,hx,h⟩|⟨sz,m,cs,hx,hz,h0,h⟩|⟨_,h⟩
   ·obtain ⟨b,hb,hz,h0,h⟩:=kLive_elim h
    exact ⟨_,ok_indexAddr ho ht hs hx hi hb hz h0,h⟩
   ·exact ⟨_,ok_indexAddr_imm ho ht hs hx hi hz h0,h⟩
   ·exact h.elim
  ·rename_i m e ht
   obtain ⟨size,hs,h⟩:=kO_elim h
   obtain ⟨k,n,hi,h⟩:=SV.kI_elim h
   rcases SV.kPtr_elim h with ⟨id,off,hx,h⟩|⟨cs,hx,h⟩
   ·obtain ⟨b,hb,h0,h⟩:=kLive_elim h
    exact ⟨_,ok_indexAddr_tptr ho ht hs hx hi hb h0,h⟩
   ·exact ⟨_,ok_indexAddr_tip ho ht hs hx hi h.1,h.2⟩
  ·exact h.elim
 ·rename_i t x lo hi ho
  split at h
  ·rename_i ht
   obtain ⟨l,hx,h⟩:=SV.kS_elim h
   obtain ⟨a,h,ha⟩:=bd_elim h
   obtain ⟨b,⟨h0,h⟩,hb⟩:=bd_elim h
   exact ⟨_,ok_slice_str ho ht hx ha hb h0,h⟩
  ·rename_i e ht
   obtain ⟨size,hs,h⟩:=kO_elim h
   rcases SV.kSl_elim h with ⟨id,l,n,hx,h⟩|⟨sz,n,cs,hx,hz,h⟩|⟨hx,h⟩
   ·obtain ⟨bl,hbl,hz,h⟩:=kLive_elim h
    obtain ⟨a,h,ha⟩:=bd_elim h
    obtain ⟨b,⟨h0,h⟩,hb⟩:=bd_elim h
    exact ⟨_,ok_slice_arr ho ht hs hx hbl hz ha hb h0,h⟩
   ·obtain ⟨a,h,ha⟩:=bd_elim h
    obtain ⟨b,⟨h0,h⟩,hb⟩:=bd_elim h
    exact ⟨_,ok_slice_imm ho ht hs hx hz ha hb h0,h⟩
   ·obtain ⟨a,h,ha⟩:=bd_elim h
    obtain ⟨b,⟨h0,h⟩,hb⟩:=bd_elim h
    exact ⟨_,ok_slice_emp ho ht hs hx ha hb h0,h⟩
  ·rename_i m e ht
   obtain ⟨size,hs,h⟩:=kO_elim h
   rcases SV.kPtr_elim h with ⟨id,off,hx,h⟩|⟨cs,hx,h⟩
   ·obtain ⟨bl,hbl,⟨hz,hn,h0'⟩,g⟩:=kLive_elim h
    subst h0'
    obtain ⟨a,h,ha⟩:=bd_elim g
    obtain ⟨b,⟨h0,h⟩,hb⟩:=bd_elim h
    exact ⟨_,ok_slice_tptr ho ht hs hx hbl hz hn ha hb h0,h⟩
   ·exact h.elim
  ·exact h.elim
 ·rename_i f first caps ho
  obtain ⟨h0,h⟩:=h
  obtain ⟨cs,hk,hok⟩:=ok_makeFunc (nid:=nid) ho h0 h
  exact ⟨_,hok,hk⟩
 ·rename_i x ho
  rcases SV.kPtr_elim h with ⟨id,off,hx,h⟩|⟨cs,hx,h⟩
  ·obtain ⟨b,hb,h⟩:=kLive_elim h
   exact ⟨_,ok_nilCheck ho hx hb,h⟩
  ·exact ⟨_,ok_nilCheck_ip ho hx,h⟩
 ·rename_i c ho
  split at h
  ·rename_i b hc
   have h':=h
   unfold builtinF at h'
   cases b with
   | len=>exact ok_len ho hc h
   | append=>exact ok_append ho hc h
   | cap=>exact ok_cap ho hc h
   | max=>exact ok_max ho hc h
   | copy=>exact ok_copy ho hc h
   | clear=>exact ok_clear ho hc h
   | _=>exact h'.elim
  ·exact h.elim
 ·exact h.elim
end Go.Fm
namespace Go.Fm
variable [Globs]
def CV.ri:CV->Bool
 | .arr .. | .ptr .. | .fn .. | .dead=>false
 | _=>true
theorem RV.ri {w:World} {Sh:Nat->Prop} {ρ:Rho} {h:Nat->HS} {v:Value} {c:CV} (hr:RV w Sh ρ h v c) (hc:c.ri=true):RI w Sh v c:=by
 cases c<;>simp only[CV.ri]at hc<;>first|exact hr|cases hc
def lendAll (g:CV->Option (List Nat×CV)):List CV->Option (List Nat×List CV)
 | []=>some ([],[])
 | c::r=>match g c with
  | none=>none
  | some (a,c')=>match lendAll g r with
   | none=>none
   | some (b,r')=>some (a++b,c'::r')
def riAll:List CV->Bool
 | []=>true
 | c::r=>c.ri&&riAll r
def ixOf:List Nat->Nat->Option Nat
 | [],_=>none
 | i::r,id=>if i=id then some 0 else (ixOf r id).map (·+1)
theorem ixOf_some:∀ {π:List Nat} {id j:Nat},ixOf π id=some j->π[j]? = some id
 | [],id,j,h=>by cases h
 | i::r,id,j,h=>by
  unfold ixOf at h
  split at h
  ·rename_i he;cases h;simp[he]
  ·obtain ⟨k,hk,rfl⟩:=Option.map_eq_some_iff.1 h
   simpa using ixOf_some hk
theorem ixOf_none:∀ {π:List Nat} {id:Nat},ixOf π id=none->id ∉ π
 | [],id,_=>by simp
 | i::r,id,h=>by
  unfold ixOf at h
  split at h
  ·cases h
  ·rename_i hne
   have:=Option.map_eq_none_iff.1 h
   have:=ixOf_none this
   simp only[List.mem_cons,not_or]
   exact ⟨λ he=>hne he.symm,this⟩
def capsIx (π:List Nat):List CV->Option (List CV)
 | []=>some []
 | .ptr id off::r=>match ixOf π id with
  | some j=>(capsIx π r).map (.ptr j off::·)
  | none=>none
 | _=>none
def lendD (g:CV->Option (List Nat×CV)):CV->Option (List Nat×CV)
 | .own sz n cs=>some ([], .imm sz n cs)
 | c=>g c
def keepOwn (g:CV->Option (List Nat×CV)):CV->Option (List Nat×CV)
 | .own sz n cs=>some ([], .own sz n cs)
 | c=>g c
def lend1 (h:Nat->HS) (π:List Nat) (g:Option (CV->Option (List Nat×CV))):CV->Option (List Nat×CV)
 | .arr id lo n=>match ixOf π id with
  | some j=>some ([], .arr j lo n)
  | none=>match h id,g with
   | .live b,some g=>match lendAll g ((b.cs.drop (lo*b.sz)).take (n*b.sz)) with
    | some (rd,cs)=>if riAll cs then some (id::rd, .imm b.sz n cs) else none
    | none=>none
   | .deep b,some g=>match lendAll (lendD g) ((b.cs.drop (lo*b.sz)).take (n*b.sz)) with
    | some (rd,cs)=>if riAll cs then some (id::rd, .imm b.sz n cs) else none
    | none=>none
   | _,_=>some ([id], .dead)
 | .ptr id off=>match ixOf π id with
  | some j=>some ([], .ptr j off)
  | none=>match h id,g with
   | .live b,some g=>match lendAll g (b.cs.drop off) with
    | some (rd,cs)=>if riAll cs then some (id::rd, .ip cs) else none
    | none=>none
   | _,_=>some ([id], .dead)
 | .fn q caps=>(capsIx π caps).map λ cs=>([], .fn q cs)
 | c=>some ([],c)
def lendC (h:Nat->HS) (π:List Nat):Nat->CV->Option (List Nat×CV)
 | 0,c=>lend1 h π none c
 | f+1,c=>lend1 h π (some (lendC h π f)) c
def lendP (h:Nat->HS) (π:List Nat) (f:Nat):PV->Option (List Nat×PV)
 | .one c=>(lendC h π f c).map λ q=>(q.1, .one q.2)
 | .agg cs=>(lendAll (lendC h π f) cs).map λ q=>(q.1, .agg q.2)
def lendPs (g:PV->Option (List Nat×PV)):List PV->Option (List Nat×List PV)
 | []=>some ([],[])
 | c::r=>match g c with
  | none=>none
  | some (a,c')=>match lendPs g r with
   | none=>none
   | some (b,r')=>some (a++b,c'::r')
def lendH (h:Nat->HS) (π:List Nat) (f:Nat):List Nat->Option (List Nat×List HS)
 | []=>some ([],[])
 | id::r=>match h id with
  | .live b=>match lendAll (lendC h π f) b.cs with
   | none=>none
   | some (a,cs)=>match lendH h π f r with
    | none=>none
    | some (b',r')=>some (id::a++b', .live ⟨b.sz,b.n,cs⟩::r')
  | .dead=>match lendH h π f r with
    | none=>none
    | some (b',r')=>some (id::b', .dead::r')
  | .no=>none
  | .deep b=>match lendAll (keepOwn (lendC h π f)) b.cs with
   | none=>none
   | some (a,cs)=>match lendH h π f r with
    | none=>none
    | some (b',r')=>some (id::a++b', .deep ⟨b.sz,b.n,cs⟩::r')
def hOf (l:List HS):Nat->HS:=λ i=>l.getD i .no
theorem lendAll_some {g:CV->Option (List Nat×CV)}:∀ {cs cs':List CV} {rd:List Nat},lendAll g cs=some (rd,cs')->cs'.length=cs.length ∧
  ∀ (i:Nat) (c':CV),cs'[i]? = some c'->∃ c r,cs[i]? = some c/\g c=some (r,c')/\∀ x ∈ r,x ∈ rd
 | [],cs',rd,h=>by cases h;exact ⟨rfl,λ i c' hc=>by simp at hc⟩
 | c::r,cs',rd,h=>by
  unfold lendAll at h
  cases hg:g c with
  | none=>rw[hg]at h;cases h
  | some q =>
   obtain ⟨a,c1⟩:=q
   rw[hg]at h
   simp only at h
   cases hr:lendAll g r with
   | none=>rw[hr]at h;cases h
   | some q2 =>
    obtain ⟨b,r'⟩:=q2
    rw[hr]at h
    cases h
    obtain ⟨h1,h2⟩:=lendAll_some hr
    refine ⟨by simp[h1],λ i c' hc => ?_⟩
    cases i with
    | zero=>simp at hc;subst hc;exact ⟨c,a,rfl,hg,λ x hx=>List.mem_append_left _ hx⟩
    | succ i =>
     obtain ⟨c2,r2,e1,e2,e3⟩:=h2 i c' (by simpa using hc)
     exact ⟨c2,r2,by simpa using e1,e2,λ x hx=>List.mem_append_right _ (e3 x hx)⟩
theorem riAll_get:∀ {cs:List CV},riAll cs=true->∀ (i:Nat) (c:CV),cs[i]? = some c->c.ri=true
 | [],_,i,c,hc=>by simp at hc
 | c0::r,h,i,c,hc=>by
  simp only[riAll,Bool.and_eq_true]at h
  cases i with
  | zero=>simp at hc;subst hc;exact h.1
  | succ i=>exact riAll_get h.2 i c (by simpa using hc)
theorem capsIx_some {π:List Nat}:∀ {caps cs:List CV},capsIx π caps=some cs->cs.length=caps.length ∧
  ∀ (i:Nat) (c:CV),cs[i]? = some c->∃ id j off,caps[i]? = some (.ptr id off)/\c=.ptr j off/\π[j]? = some id
 | [],cs,h=>by cases h;exact ⟨rfl,λ i c hc=>by simp at hc⟩
 | c0::r,cs,h=>by
  unfold capsIx at h
  split at h
  ·rename_i h0;cases h0
  ·rename_i id off r' h0
   cases h0
   split at h
   ·rename_i j hj
    obtain ⟨cs',hcs,rfl⟩:=Option.map_eq_some_iff.1 h
    obtain ⟨h1,h2⟩:=capsIx_some hcs
    refine ⟨by simp[h1],λ i c hc => ?_⟩
    cases i with
    | zero=>simp at hc;subst hc;exact ⟨id,j,off,rfl,rfl,ixOf_some hj⟩
    | succ i=>simpa using h2 i c (by simpa using hc)
   ·cases h
  ·cases h
structure Lent (w:World) (Sh:Nat->Prop) (ρ:Rho) (h:Nat->HS) (π:List Nat) (F:Nat->Prop) (Sh':Nat->Prop) (ρ':Rho) (h':Nat->HS):Prop where
 blk:∀ id b,h id=.live b->RB w Sh ρ h id b
 sh:∀ k,Sh k->Sh' k
 lent:∀ id b L,h id=.live b->id ∉ π->F id->ρ id=some L->Sh' L.b
 deep:∀ id b,h id=.deep b->id ∉ π->F id->∃ d,DeepAt w Sh ρ h id d b/\(∀ L,ρ id=some L->Sh' L.b)/\∀ p k,d p=some k->Sh' k
 kept:∀ j id,π[j]? = some id->ρ' j=ρ id/\(h id≠.no->HLe (h id) (ρ id) (h' j) (ρ id))
theorem RPtr.lend {w:World} {Sh Sh':Nat->Prop} {ρ ρ':Rho} {h h':Nat->HS} {π:List Nat} {F:Nat->Prop} (H:Lent w Sh ρ h π F Sh' ρ' h') {v:Value} {id j off:Nat}
  (hj:π[j]? = some id) (hv:RPtr ρ h v id off):RPtr ρ' h' v j off:=by
 obtain ⟨h1,h2⟩:=H.kept j id hj
 have h0:=hv.one
 unfold RPtr at hv ⊢
 rw[h1]
 cases hs:h id with
 | no=>rw[hs]at hv;exact hv.elim
 | dead =>
  have h2:=h2 (by rw[hs];simp)
  rw[hs]at h2
  cases hs':h' j with
  | no=>rw[hs']at h2;exact h2.elim
  | dead=>exact h0
  | live b=>rw[hs']at h2;exact h2.elim
  | deep b=>rw[hs']at h2;exact h2.elim
 | live b =>
  have h2:=h2 (by rw[hs];simp)
  rw[hs]at h2 hv
  cases hs':h' j with
  | no=>rw[hs']at h2;exact h2.elim
  | dead=>exact h0
  | live b'=>exact hv
  | deep b'=>exact hv
 | deep b =>
  have h2:=h2 (by rw[hs];simp)
  rw[hs]at h2 hv
  cases hs':h' j with
  | no=>rw[hs']at h2;exact h2.elim
  | dead=>exact h0
  | live b'=>exact hv
  | deep b'=>exact hv
theorem DC.lent {w:World} {Sh Sh':Nat->Prop} {ρ ρ':Rho} {h h':Nat->HS} {F:Nat->Prop} {g:CV->Option (List Nat×CV)} {c c':CV} {r:List Nat} {d:Option Nat} {u:Value}
  (hg:∀ (c c':CV) (rd:List Nat) (v:Value),g c=some (rd,c')->(∀ x ∈ rd,F x)->RV w Sh ρ h v c->RV w Sh' ρ' h' v c')
  (hl:lendD g c=some (r,c')) (hF:∀ x ∈ r,F x) (hri:c'.ri=true) (hd:∀ k,d=some k->Sh' k) (H:DC w Sh ρ h d u c):RI w Sh' u c':=by
 cases c with
 | own sz n cs =>
  cases hl
  obtain ⟨h1,h2,h3⟩:=H
  rcases h3 with ⟨_,rfl,a,rfl⟩|⟨k,o,cap,e,rfl,h5,h6,h7⟩
  ·have:cs=[]:=List.eq_nil_of_length_eq_zero (by rw[h2,Nat.zero_mul])
   rw[this];exact .imm0 a 0 sz
  ·have hex:∀ j,j < cs.length->∃ v:Value,w.cell? ⟨k,o+j,none⟩=some v/\∀ c,cs[j]? = some c->RI w Sh' v c:=λ j hj=>by
    obtain ⟨v,hv,hr⟩:=h7 j _ (List.getElem?_eq_getElem hj)
    refine ⟨v,hv,λ c hc => ?_⟩
    rw[List.getElem?_eq_getElem hj]at hc
    cases hc
    exact hr.mono λ _ h=>h.elim
   refine .imm k o n cap sz cs (λ j=>if hj:j < cs.length then (hex j hj).choose else undef) (hd k e) h5 h2 (λ j hj => ?_) (λ j c hc => ?_)
   ·simp only[hj,dif_pos]
    exact (hex j hj).choose_spec.1
   ·have hj:j < cs.length:=(List.getElem?_eq_some_iff.1 hc).1
    simp only[hj,dif_pos]
    exact (hex j hj).choose_spec.2 c hc
 | _=>exact (hg _ c' r u hl hF H.2).ri hri
theorem lend1_ok {w:World} {Sh Sh':Nat->Prop} {ρ ρ':Rho} {h h':Nat->HS} {π:List Nat} {F:Nat->Prop} (H:Lent w Sh ρ h π F Sh' ρ' h') (g:Option (CV->Option (List Nat×CV)))
  (hg:∀ g',g=some g'->∀ (c c':CV) (rd:List Nat) (v:Value),g' c=some (rd,c')->(∀ x ∈ rd,F x)->RV w Sh ρ h v c->RV w Sh' ρ' h' v c') :
  ∀ (c c':CV) (rd:List Nat) (v:Value),lend1 h π g c=some (rd,c')->(∀ x ∈ rd,F x)->RV w Sh ρ h v c->RV w Sh' ρ' h' v c':=by
 intro c c' rd v hl hF hv
 have h0:=hv.one
 cases c with
 | arr id lo n =>
  simp only[lend1]at hl
  split at hl
  ·rename_i j hj
   cases hl
   obtain ⟨h1,h2⟩:=H.kept j id (ixOf_some hj)
   simp only[RV]at hv ⊢
   rw[h1]
   cases hs:h id with
   | no=>rw[hs]at hv;exact hv.elim
   | dead =>
    have h2:=h2 (by rw[hs];simp)
    rw[hs]at h2
    cases hs':h' j with
    | no=>rw[hs']at h2;exact h2.elim
    | dead=>exact h0
    | live b=>rw[hs']at h2;exact h2.elim
    | deep b=>rw[hs']at h2;exact h2.elim
   | live b =>
    have h2:=h2 (by rw[hs];simp)
    rw[hs]at h2 hv
    cases hs':h' j with
    | no=>rw[hs']at h2;exact h2.elim
    | dead=>exact h0
    | live b'=>rw[hs']at h2;simp only at hv ⊢;rw[h2.1,h2.2.1];exact hv
    | deep b'=>rw[hs']at h2;simp only at hv ⊢;rw[h2.1,h2.2.1];exact hv
   | deep b =>
    have h2:=h2 (by rw[hs];simp)
    rw[hs]at h2 hv
    cases hs':h' j with
    | no=>rw[hs']at h2;exact h2.elim
    | dead=>exact h0
    | live b'=>rw[hs']at h2;simp only at hv ⊢;rw[h2.1,h2.2.1];exact hv
    | deep b'=>rw[hs']at h2;simp only at hv ⊢;rw[h2.1,h2.2.1];exact hv
  ·rename_i hj
   split at hl
   ·rename_i b g' hb
    split at hl
    ·rename_i rd' cs hcs
     split at hl
     ·rename_i hri
      cases hl
      simp only[RV]at hv ⊢
      rw[hb]at hv
      simp only at hv
      have hB:=H.blk id b hb
      obtain ⟨hlen,hget⟩:=lendAll_some hcs
      unfold RB at hB
      cases hL:ρ id with
      | none =>
       rw[hL]at hv hB
       obtain ⟨rfl,a,rfl⟩:=hv
       simp only at hB
       have:cs=[]:=by
        apply List.eq_nil_of_length_eq_zero
        rw[hlen,hB.1]
        simp
       rw[this]
       exact .imm0 a 0 b.sz
      | some L =>
       rw[hL]at hv hB
       rcases hv with ⟨cap,rfl,h1,h2,h3,_⟩|⟨rfl,_,a,rfl⟩
       ·simp only at hB
        obtain ⟨g1,g2,g3,g4⟩:=hB
        have hcl:((b.cs.drop (lo*b.sz)).take (n*b.sz)).length=n*b.sz:=by
         rw[List.length_take,List.length_drop,g1]
         have:lo*b.sz+n*b.sz<=b.n*b.sz:=by rw[<-Nat.add_mul];exact Nat.mul_le_mul_right _ h3
         omega
        have hex:∀ j,j < cs.length->∃ u:Value,w.cell? ⟨L.b,L.o+lo*b.sz+j,none⟩=some u/\∀ c,cs[j]? = some c->RI w Sh' u c:=λ j hj=>by
         obtain ⟨c,r,e1,e2,hsub⟩:=hget j cs[j] (List.getElem?_eq_getElem hj)
         have hj2:j < n*b.sz:=by omega
         have e1':b.cs[lo*b.sz+j]? = some c:=by
          rw[List.getElem?_take,if_pos hj2,List.getElem?_drop]at e1
          exact e1
         obtain ⟨u,hu,hr⟩:=g4 _ _ e1'
         refine ⟨u,by rw[Nat.add_assoc];exact hu,λ c2 hc2 => ?_⟩
         rw[List.getElem?_eq_getElem hj]at hc2
         cases hc2
         exact (hg g' rfl c _ r u e2 (λ x hx=>hF x (List.mem_cons_of_mem _ (hsub x hx))) hr).ri (riAll_get hri j _ (List.getElem?_eq_getElem hj))
        refine .imm L.b (L.o+lo*b.sz) n cap b.sz cs (λ j=>if hj:j < cs.length then (hex j hj).choose else undef) (H.lent id b L hb (ixOf_none hj) (hF id (List.mem_cons_self ..)) hL) h1 (by rw[hlen,hcl]) (λ j hj => ?_) (λ j c hc => ?_)
        ·simp only[hj,dif_pos]
         exact (hex j hj).choose_spec.1
        ·have hj:j < cs.length:=(List.getElem?_eq_some_iff.1 hc).1
         simp only[hj,dif_pos]
         exact (hex j hj).choose_spec.2 c hc
       ·have:cs=[]:=by
         apply List.eq_nil_of_length_eq_zero
         rw[hlen]
         simp
        rw[this]
        exact .imm0 a 0 b.sz
     ·cases hl
    ·cases hl
   ·rename_i b g' hb
    split at hl
    ·rename_i rd' cs hcs
     split at hl
     ·rename_i hri
      cases hl
      simp only[RV]at hv ⊢
      rw[hb]at hv
      simp only at hv
      obtain ⟨d,hB,hSL,hSd⟩:=H.deep id b hb (ixOf_none hj) (hF id (List.mem_cons_self ..))
      obtain ⟨hlen,hget⟩:=lendAll_some hcs
      unfold DeepAt at hB
      cases hL:ρ id with
      | none =>
       rw[hL]at hv hB
       obtain ⟨rfl,a,rfl⟩:=hv
       simp only at hB
       have:cs=[]:=by
        apply List.eq_nil_of_length_eq_zero
        rw[hlen,hB.1]
        simp
       rw[this]
       exact .imm0 a 0 b.sz
      | some L =>
       rw[hL]at hv hB
       rcases hv with ⟨cap,rfl,h1,h2,h3,_⟩|⟨rfl,_,a,rfl⟩
       ·simp only at hB
        obtain ⟨g1,g2,_,g3,g4⟩:=hB
        have hcl:((b.cs.drop (lo*b.sz)).take (n*b.sz)).length=n*b.sz:=by
         rw[List.length_take,List.length_drop,g1]
         have:lo*b.sz+n*b.sz<=b.n*b.sz:=by rw[<-Nat.add_mul];exact Nat.mul_le_mul_right _ h3
         omega
        have hex:∀ j,j < cs.length->∃ u:Value,w.cell? ⟨L.b,L.o+lo*b.sz+j,none⟩=some u/\∀ c,cs[j]? = some c->RI w Sh' u c:=λ j hj=>by
         obtain ⟨c,r,e1,e2,hsub⟩:=hget j cs[j] (List.getElem?_eq_getElem hj)
         have hj2:j < n*b.sz:=by omega
         have e1':b.cs[lo*b.sz+j]? = some c:=by
          rw[List.getElem?_take,if_pos hj2,List.getElem?_drop]at e1
          exact e1
         obtain ⟨u,hu,hr⟩:=g4 _ _ e1'
         refine ⟨u,by rw[Nat.add_assoc];exact hu,λ c2 hc2 => ?_⟩
         rw[List.getElem?_eq_getElem hj]at hc2
         cases hc2
         exact hr.lent (hg g' rfl) e2 (λ x hx=>hF x (List.mem_cons_of_mem _ (hsub x hx))) (riAll_get hri j _ (List.getElem?_eq_getElem hj)) (hSd _)
        refine .imm L.b (L.o+lo*b.sz) n cap b.sz cs (λ j=>if hj:j < cs.length then (hex j hj).choose else undef) (hSL L hL) h1 (by rw[hlen,hcl]) (λ j hj => ?_) (λ j c hc => ?_)
        ·simp only[hj,dif_pos]
         exact (hex j hj).choose_spec.1
        ·have hj:j < cs.length:=(List.getElem?_eq_some_iff.1 hc).1
         simp only[hj,dif_pos]
         exact (hex j hj).choose_spec.2 c hc
       ·have:cs=[]:=by
         apply List.eq_nil_of_length_eq_zero
         rw[hlen]
         simp
        rw[this]
        exact .imm0 a 0 b.sz
     ·cases hl
    ·cases hl
   ·cases hl;exact h0
 | ptr id off =>
  simp only[lend1]at hl
  split at hl
  ·rename_i j hj
   cases hl
   exact RPtr.lend H (ixOf_some hj) hv
  ·rename_i hj
   split at hl
   ·rename_i b g' hb
    split at hl
    ·rename_i rd' cs hcs
     split at hl
     ·rename_i hri
      cases hl
      simp only[RV,RPtr]at hv ⊢
      rw[hb]at hv
      obtain ⟨L,hL,rfl⟩:=hv
      have hB:=H.blk id b hb
      obtain ⟨hlen,hget⟩:=lendAll_some hcs
      unfold RB at hB
      rw[hL]at hB
      obtain ⟨g1,g2,g3,g4⟩:=hB
      have hex:∀ j,j < cs.length->∃ u:Value,w.cell? ⟨L.b,L.o+off+j,none⟩=some u/\∀ c,cs[j]? = some c->RI w Sh' u c:=λ j hj=>by
       obtain ⟨c,r,e1,e2,hsub⟩:=hget j cs[j] (List.getElem?_eq_getElem hj)
       have e1':b.cs[off+j]? = some c:=by
        rw[List.getElem?_drop]at e1
        exact e1
       obtain ⟨u,hu,hr⟩:=g4 _ _ e1'
       refine ⟨u,by rw[Nat.add_assoc];exact hu,λ c2 hc2 => ?_⟩
       rw[List.getElem?_eq_getElem hj]at hc2
       cases hc2
       exact (hg g' rfl c _ r u e2 (λ x hx=>hF x (List.mem_cons_of_mem _ (hsub x hx))) hr).ri (riAll_get hri j _ (List.getElem?_eq_getElem hj))
      refine .ip L.b (L.o+off) cs (λ j=>if hj:j < cs.length then (hex j hj).choose else undef) (H.lent id b L hb (ixOf_none hj) (hF id (List.mem_cons_self ..)) hL) (λ j hj => ?_) (λ j c hc => ?_)
      ·simp only[hj,dif_pos]
       exact (hex j hj).choose_spec.1
      ·have hj:j < cs.length:=(List.getElem?_eq_some_iff.1 hc).1
       simp only[hj,dif_pos]
       exact (hex j hj).choose_spec.2 c hc
     ·cases hl
    ·cases hl
   ·cases hl;exact h0
 | fn g caps =>
  simp only[lend1]at hl
  obtain ⟨cs,hcs,he⟩:=Option.map_eq_some_iff.1 hl
  cases he
  obtain ⟨h1,h2⟩:=capsIx_some hcs
  obtain ⟨vs,rfl,hlen,hp⟩:=hv
  refine ⟨vs,rfl,by omega,λ i c hc => ?_⟩
  obtain ⟨id,j,off,e1,e2,e3⟩:=h2 i c hc
  obtain ⟨u,hu,id',off',e4,e5⟩:=hp i _ e1
  cases e4
  exact ⟨u,hu,j,off,e2,RPtr.lend H e3 e5⟩
 | dead=>cases hl;exact h0
 | _=>cases hl;exact RI.mono hv λ k hk=>⟨H.sh k hk,rfl⟩
theorem lendC_ok {w:World} {Sh Sh':Nat->Prop} {ρ ρ':Rho} {h h':Nat->HS} {π:List Nat} {F:Nat->Prop} (H:Lent w Sh ρ h π F Sh' ρ' h') :
  ∀ (f:Nat) (c c':CV) (rd:List Nat) (v:Value),lendC h π f c=some (rd,c')->(∀ x ∈ rd,F x)->RV w Sh ρ h v c->RV w Sh' ρ' h' v c':=by
 intro f
 induction f with
 | zero=>exact lend1_ok H none (λ g' hg=>by cases hg)
 | succ f ih=>exact lend1_ok H _ (λ g' hg=>by cases hg;exact ih)
theorem lendP_ok {w:World} {Sh Sh':Nat->Prop} {ρ ρ':Rho} {h h':Nat->HS} {π:List Nat} {F:Nat->Prop} (H:Lent w Sh ρ h π F Sh' ρ' h')
  {f:Nat} {p p':PV} {rd:List Nat} {v:Value} (hl:lendP h π f p=some (rd,p')) (hF:∀ x ∈ rd,F x) (hv:RPV w Sh ρ h v p):RPV w Sh' ρ' h' v p':=by
 cases p with
 | one c =>
  simp only[lendP]at hl
  obtain ⟨q,hq,he⟩:=Option.map_eq_some_iff.1 hl
  cases he
  by_cases hd:c=.dead
  ·subst hd
   have:q.2=.dead:=by cases f<;>(simp only[lendC,lend1]at hq;cases hq;rfl)
   rw[this]
   trivial
  ·refine .of_one (lendC_ok H f c q.2 q.1 v hq hF ?_)
   cases c<;>first|exact hv|exact absurd rfl hd
 | agg cs =>
  simp only[lendP]at hl
  obtain ⟨q,hq,he⟩:=Option.map_eq_some_iff.1 hl
  cases he
  obtain ⟨vs,rfl,hlen,hp⟩:=hv
  obtain ⟨h1,h2⟩:=lendAll_some (rd:=q.1) (cs':=q.2) hq
  refine ⟨vs,rfl,by omega,λ i c' hc => ?_⟩
  obtain ⟨c,r,e1,e2,e3⟩:=h2 i c' hc
  obtain ⟨u,hu,hr⟩:=hp i c e1
  exact ⟨u,hu,lendC_ok H f c c' r u e2 (λ x hx=>hF x (e3 x hx)) hr⟩
theorem lendPs_some {g:PV->Option (List Nat×PV)}:∀ {cs cs':List PV} {rd:List Nat},lendPs g cs=some (rd,cs')->cs'.length=cs.length ∧
  ∀ (i:Nat) (c':PV),cs'[i]? = some c'->∃ c r,cs[i]? = some c/\g c=some (r,c')/\∀ x ∈ r,x ∈ rd
 | [],cs',rd,h=>by cases h;exact ⟨rfl,λ i c' hc=>by simp at hc⟩
 | c::r,cs',rd,h=>by
  unfold lendPs at h
  cases hg:g c with
  | none=>rw[hg]at h;cases h
  | some q =>
   obtain ⟨a,c1⟩:=q
   rw[hg]at h
   simp only at h
   cases hr:lendPs g r with
   | none=>rw[hr]at h;cases h
   | some q2 =>
    obtain ⟨b,r'⟩:=q2
    rw[hr]at h
    cases h
    obtain ⟨h1,h2⟩:=lendPs_some hr
    refine ⟨by simp[h1],λ i c' hc => ?_⟩
    cases i with
    | zero=>simp at hc;subst hc;exact ⟨c,a,rfl,hg,λ x hx=>List.mem_append_left _ hx⟩
    | succ i =>
     obtain ⟨c2,r2,e1,e2,e3⟩:=h2 i c' (by simpa using hc)
     exact ⟨c2,r2,by simpa using e1,e2,λ x hx=>List.mem_append_right _ (e3 x hx)⟩
theorem lendH_some {h:Nat->HS} {π:List Nat} {f:Nat}:∀ {ids:List Nat} {bs:List HS} {rd:List Nat},lendH h π f ids=some (rd,bs)->bs.length=ids.length/\(∀ id ∈ ids,id ∈ rd) ∧
  ∀ (i id:Nat),ids[i]? = some id->(h id=.dead/\bs[i]? = some .dead) ∨
   (∃ b cs r,h id=.live b/\bs[i]? = some (.live ⟨b.sz,b.n,cs⟩)/\lendAll (lendC h π f) b.cs=some (r,cs)/\∀ x ∈ r,x ∈ rd) ∨
   ∃ b cs r,h id=.deep b/\bs[i]? = some (.deep ⟨b.sz,b.n,cs⟩)/\lendAll (keepOwn (lendC h π f)) b.cs=some (r,cs)/\∀ x ∈ r,x ∈ rd
 | [],bs,rd,hl=>by cases hl;exact ⟨rfl,(λ x hx=>by simp at hx),λ i id hc=>by simp at hc⟩
 | id::r,bs,rd,hl=>by
  unfold lendH at hl
  cases hid:h id with
  | no=>rw[hid]at hl;cases hl
  | dead =>
   rw[hid]at hl
   simp only at hl
   cases hr:lendH h π f r with
   | none=>rw[hr]at hl;cases hl
   | some q =>
    obtain ⟨b',r'⟩:=q
    rw[hr]at hl
    cases hl
    obtain ⟨h1,h2,h3⟩:=lendH_some hr
    refine ⟨by simp[h1],λ x hx => ?_,λ i id' hi => ?_⟩
    ·rcases List.mem_cons.1 hx with rfl|hx
     ·exact List.mem_cons_self ..
     ·exact List.mem_cons_of_mem _ (h2 x hx)
    ·cases i with
     | zero=>simp at hi;subst hi;exact .inl ⟨hid,rfl⟩
     | succ i =>
      rcases h3 i id' (by simpa using hi) with ⟨e1,e2⟩|⟨b,cs,r2,e1,e2,e3,e4⟩|⟨b,cs,r2,e1,e2,e3,e4⟩
      ·exact .inl ⟨e1,by simpa using e2⟩
      ·exact .inr (.inl ⟨b,cs,r2,e1,by simpa using e2,e3,λ x hx=>List.mem_cons_of_mem _ (e4 x hx)⟩)
      ·exact .inr (.inr ⟨b,cs,r2,e1,by simpa using e2,e3,λ x hx=>List.mem_cons_of_mem _ (e4 x hx)⟩)
  | live b =>
   rw[hid]at hl
   simp only at hl
   cases hg:lendAll (lendC h π f) b.cs with
   | none=>rw[hg]at hl;cases hl
   | some q0 =>
    obtain ⟨a,cs⟩:=q0
    rw[hg]at hl
    simp only at hl
    cases hr:lendH h π f r with
    | none=>rw[hr]at hl;cases hl
    | some q =>
     obtain ⟨b',r'⟩:=q
     rw[hr]at hl
     cases hl
     obtain ⟨h1,h2,h3⟩:=lendH_some hr
     refine ⟨by simp[h1],λ x hx => ?_,λ i id' hi => ?_⟩
     ·rcases List.mem_cons.1 hx with rfl|hx
      ·exact List.mem_cons_self ..
      ·exact List.mem_cons_of_mem _ (List.mem_append_right _ (h2 x hx))
     ·cases i with
      | zero=>simp at hi;subst hi;exact .inr (.inl ⟨b,cs,a,hid,rfl,hg,λ x hx=>List.mem_cons_of_mem _ (List.mem_append_left _ hx)⟩)
      | succ i =>
       rcases h3 i id' (by simpa using hi) with ⟨e1,e2⟩|⟨b,cs,r2,e1,e2,e3,e4⟩|⟨b,cs,r2,e1,e2,e3,e4⟩
       ·exact .inl ⟨e1,by simpa using e2⟩
       ·exact .inr (.inl ⟨b,cs,r2,e1,by simpa using e2,e3,λ x hx=>List.mem_cons_of_mem _ (List.mem_append_right _ (e4 x hx))⟩)
       ·exact .inr (.inr ⟨b,cs,r2,e1,by simpa using e2,e3,λ x hx=>List.mem_cons_of_mem _ (List.mem_append_right _ (e4 x hx))⟩)
  | deep b =>
   rw[hid]at hl
   simp only at hl
   cases hg:lendAll (keepOwn (lendC h π f)) b.cs with
   | none=>rw[hg]at hl;cases hl
   | some q0 =>
    obtain ⟨a,cs⟩:=q0
    rw[hg]at hl
    simp only at hl
    cases hr:lendH h π f r with
    | none=>rw[hr]at hl;cases hl
    | some q =>
     obtain ⟨b',r'⟩:=q
     rw[hr]at hl
     cases hl
     obtain ⟨h1,h2,h3⟩:=lendH_some hr
     refine ⟨by simp[h1],λ x hx => ?_,λ i id' hi => ?_⟩
     ·rcases List.mem_cons.1 hx with rfl|hx
      ·exact List.mem_cons_self ..
      ·exact List.mem_cons_of_mem _ (List.mem_append_right _ (h2 x hx))
     ·cases i with
      | zero=>simp at hi;subst hi;exact .inr (.inr ⟨b,cs,a,hid,rfl,hg,λ x hx=>List.mem_cons_of_mem _ (List.mem_append_left _ hx)⟩)
      | succ i =>
       rcases h3 i id' (by simpa using hi) with ⟨e1,e2⟩|⟨b,cs,r2,e1,e2,e3,e4⟩|⟨b,cs,r2,e1,e2,e3,e4⟩
       ·exact .inl ⟨e1,by simpa using e2⟩
       ·exact .inr (.inl ⟨b,cs,r2,e1,by simpa using e2,e3,λ x hx=>List.mem_cons_of_mem _ (List.mem_append_right _ (e4 x hx))⟩)
       ·exact .inr (.inr ⟨b,cs,r2,e1,by simpa using e2,e3,λ x hx=>List.mem_cons_of_mem _ (List.mem_append_right _ (e4 x hx))⟩)
theorem lendAll_congr {g g':CV->Option (List Nat×CV)}:∀ {cs cs':List CV} {rd:List Nat},lendAll g cs=some (rd,cs') →
  (∀ c c' r,g c=some (r,c')->(∀ x ∈ r,x ∈ rd)->g' c=some (r,c'))->lendAll g' cs=some (rd,cs')
 | [],cs',rd,h,_=>h
 | c::r,cs',rd,h,hc=>by
  unfold lendAll at h ⊢
  cases hg:g c with
  | none=>rw[hg]at h;cases h
  | some q =>
   obtain ⟨a,c1⟩:=q
   rw[hg]at h
   simp only at h
   cases hr:lendAll g r with
   | none=>rw[hr]at h;cases h
   | some q2 =>
    obtain ⟨b,r'⟩:=q2
    rw[hr]at h
    cases h
    rw[hc c c1 a hg (λ x hx=>List.mem_append_left _ hx)]
    simp only
    rw[lendAll_congr hr (λ c c' r e1 e2=>hc c c' r e1 (λ x hx=>List.mem_append_right _ (e2 x hx)))]
theorem lendD_congr {q q':CV->Option (List Nat×CV)} {P:Nat->Prop} (hq:∀ c c' r,q c=some (r,c')->(∀ x ∈ r,P x)->q' c=some (r,c')):∀ c c' r,lendD q c=some (r,c')->(∀ x ∈ r,P x)->lendD q' c=some (r,c') :=
 λ c c' r e1 e2=>by cases c<;>first|exact e1|exact hq _ c' r e1 e2
theorem keepOwn_congr {q q':CV->Option (List Nat×CV)} {P:Nat->Prop} (hq:∀ c c' r,q c=some (r,c')->(∀ x ∈ r,P x)->q' c=some (r,c')):∀ c c' r,keepOwn q c=some (r,c')->(∀ x ∈ r,P x)->keepOwn q' c=some (r,c') :=
 λ c c' r e1 e2=>by cases c<;>first|exact e1|exact hq _ c' r e1 e2
theorem lend1_congr {h h':Nat->HS} {π:List Nat} {g g':Option (CV->Option (List Nat×CV))} {c c':CV} {rd:List Nat} (hl:lend1 h π g c=some (rd,c')) (hh:∀ x ∈ rd,h' x=h x)
  (hg:∀ q,g=some q->∃ q',g'=some q'/\∀ c c' r,q c=some (r,c')->(∀ x ∈ r,x ∈ rd)->q' c=some (r,c')) (hn:g=none->g'=none):lend1 h' π g' c=some (rd,c'):=by
 cases c with
 | arr id lo n =>
  simp only[lend1]at hl ⊢
  cases hix:ixOf π id with
  | some j=>rw[hix]at hl;exact hl
  | none =>
   rw[hix]at hl
   simp only at hl ⊢
   cases g with
   | none =>
    rw[hn rfl]
    have:hl=hl:=rfl
    have hrd:rd=[id]/\c'=.dead:=by cases hid:h id<;>rw[hid]at hl<;>(cases hl;exact ⟨rfl,rfl⟩)
    obtain ⟨rfl,rfl⟩:=hrd
    cases h' id<;>rfl
   | some q =>
    obtain ⟨q',rfl,hq⟩:=hg q rfl
    have hid':h' id=h id:=by
     apply hh
     cases hid:h id with
     | live b =>
      rw[hid]at hl
      simp only at hl
      split at hl
      ·split at hl
       ·cases hl;exact List.mem_cons_self ..
       ·cases hl
      ·cases hl
     | deep b =>
      rw[hid]at hl
      simp only at hl
      split at hl
      ·split at hl
       ·cases hl;exact List.mem_cons_self ..
       ·cases hl
      ·cases hl
     | _=>rw[hid]at hl;cases hl;exact List.mem_cons_self ..
    rw[hid']
    cases hid:h id with
    | live b =>
     rw[hid]at hl
     simp only at hl ⊢
     split at hl
     ·rename_i rd' cs hcs
      split at hl
      ·rename_i hri
       cases hl
       rw[lendAll_congr hcs (λ c c' r e1 e2=>hq c c' r e1 (λ x hx=>List.mem_cons_of_mem _ (e2 x hx)))]
       simp only[hri,if_true]
      ·cases hl
     ·cases hl
    | deep b =>
     rw[hid]at hl
     simp only at hl ⊢
     split at hl
     ·rename_i rd' cs hcs
      split at hl
      ·rename_i hri
       cases hl
       rw[lendAll_congr hcs (lendD_congr λ c c' r e1 e2=>hq c c' r e1 (λ x hx=>List.mem_cons_of_mem _ (e2 x hx)))]
       simp only[hri,if_true]
      ·cases hl
     ·cases hl
    | _=>rw[hid]at hl;exact hl
 | ptr id off =>
  simp only[lend1]at hl ⊢
  cases hix:ixOf π id with
  | some j=>rw[hix]at hl;exact hl
  | none =>
   rw[hix]at hl
   simp only at hl ⊢
   cases g with
   | none =>
    rw[hn rfl]
    have hrd:rd=[id]/\c'=.dead:=by cases hid:h id<;>rw[hid]at hl<;>(cases hl;exact ⟨rfl,rfl⟩)
    obtain ⟨rfl,rfl⟩:=hrd
    cases h' id<;>rfl
   | some q =>
    obtain ⟨q',rfl,hq⟩:=hg q rfl
    have hid':h' id=h id:=by
     apply hh
     cases hid:h id with
     | live b =>
      rw[hid]at hl
      simp only at hl
      split at hl
      ·split at hl
       ·cases hl;exact List.mem_cons_self ..
       ·cases hl
      ·cases hl
     | _=>rw[hid]at hl;cases hl;exact List.mem_cons_self ..
    rw[hid']
    cases hid:h id with
    | live b =>
     rw[hid]at hl
     simp only at hl ⊢
     split at hl
     ·rename_i rd' cs hcs
      split at hl
      ·rename_i hri
       cases hl
       rw[lendAll_congr hcs (λ c c' r e1 e2=>hq c c' r e1 (λ x hx=>List.mem_cons_of_mem _ (e2 x hx)))]
       simp only[hri,if_true]
      ·cases hl
     ·cases hl
    | _=>rw[hid]at hl;exact hl
 | _=>exact hl
theorem lendC_congr {h h':Nat->HS} {π:List Nat}:∀ {f:Nat} {c c':CV} {rd:List Nat},lendC h π f c=some (rd,c')->(∀ x ∈ rd,h' x=h x)->lendC h' π f c=some (rd,c')
 | 0,c,c',rd,hl,hh=>lend1_congr hl hh (λ q hq=>by cases hq) (λ _=>rfl)
 | f+1,c,c',rd,hl,hh=>lend1_congr hl hh (λ q hq=>by
   cases hq
   exact ⟨_,rfl,λ c c' r e1 e2=>lendC_congr e1 (λ x hx=>hh x (e2 x hx))⟩) (λ hq=>by cases hq)
theorem lendP_congr {h h':Nat->HS} {π:List Nat} {f:Nat} {c c':PV} {rd:List Nat} (hl:lendP h π f c=some (rd,c')) (hh:∀ x ∈ rd,h' x=h x):lendP h' π f c=some (rd,c'):=by
 cases c with
 | one c =>
  simp only[lendP]at hl ⊢
  obtain ⟨q,hq,he⟩:=Option.map_eq_some_iff.1 hl
  cases he
  rw[lendC_congr (c':=q.2) (rd:=q.1) hq hh]
  rfl
 | agg cs =>
  simp only[lendP]at hl ⊢
  obtain ⟨q,hq,he⟩:=Option.map_eq_some_iff.1 hl
  cases he
  rw[lendAll_congr (cs':=q.2) (rd:=q.1) hq (λ c c' r e1 e2=>lendC_congr e1 (λ x hx=>hh x (e2 x hx)))]
  rfl
theorem lendPs_congr {g g':PV->Option (List Nat×PV)}:∀ {cs cs':List PV} {rd:List Nat},lendPs g cs=some (rd,cs') →
  (∀ c c' r,g c=some (r,c')->(∀ x ∈ r,x ∈ rd)->g' c=some (r,c'))->lendPs g' cs=some (rd,cs')
 | [],cs',rd,h,_=>h
 | c::r,cs',rd,h,hc=>by
  unfold lendPs at h ⊢
  cases hg:g c with
  | none=>rw[hg]at h;cases h
  | some q =>
   obtain ⟨a,c1⟩:=q
   rw[hg]at h
   simp only at h
   cases hr:lendPs g r with
   | none=>rw[hr]at h;cases h
   | some q2 =>
    obtain ⟨b,r'⟩:=q2
    rw[hr]at h
    cases h
    rw[hc c c1 a hg (λ x hx=>List.mem_append_left _ hx)]
    simp only
    rw[lendPs_congr hr (λ c c' r e1 e2=>hc c c' r e1 (λ x hx=>List.mem_append_right _ (e2 x hx)))]
theorem lendH_congr {h h':Nat->HS} {π:List Nat} {f:Nat}:∀ {ids:List Nat} {bs:List HS} {rd:List Nat},lendH h π f ids=some (rd,bs)->(∀ x ∈ rd,h' x=h x)->lendH h' π f ids=some (rd,bs)
 | [],bs,rd,hl,_=>hl
 | id::r,bs,rd,hl,hh=>by
  unfold lendH at hl ⊢
  cases hid:h id with
  | no=>rw[hid]at hl;cases hl
  | dead =>
   rw[hid]at hl
   simp only at hl
   cases hr:lendH h π f r with
   | none=>rw[hr]at hl;cases hl
   | some q =>
    obtain ⟨b',r'⟩:=q
    rw[hr]at hl
    cases hl
    rw[hh id (List.mem_cons_self ..),hid]
    simp only
    rw[lendH_congr hr (λ x hx=>hh x (List.mem_cons_of_mem _ hx))]
  | live b =>
   rw[hid]at hl
   simp only at hl
   cases hg:lendAll (lendC h π f) b.cs with
   | none=>rw[hg]at hl;cases hl
   | some q0 =>
    obtain ⟨a,cs⟩:=q0
    rw[hg]at hl
    simp only at hl
    cases hr:lendH h π f r with
    | none=>rw[hr]at hl;cases hl
    | some q =>
     obtain ⟨b',r'⟩:=q
     rw[hr]at hl
     cases hl
     rw[hh id (List.mem_cons_self ..),hid]
     simp only
     rw[lendAll_congr hg (λ c c' r e1 e2=>lendC_congr e1 (λ x hx=>hh x (List.mem_cons_of_mem _ (List.mem_append_left _ (e2 x hx)))))]
     simp only
     rw[lendH_congr hr (λ x hx=>hh x (List.mem_cons_of_mem _ (List.mem_append_right _ hx)))]
  | deep b =>
   rw[hid]at hl
   simp only at hl
   cases hg:lendAll (keepOwn (lendC h π f)) b.cs with
   | none=>rw[hg]at hl;cases hl
   | some q0 =>
    obtain ⟨a,cs⟩:=q0
    rw[hg]at hl
    simp only at hl
    cases hr:lendH h π f r with
    | none=>rw[hr]at hl;cases hl
    | some q =>
     obtain ⟨b',r'⟩:=q
     rw[hr]at hl
     cases hl
     rw[hh id (List.mem_cons_self ..),hid]
     simp only
     rw[lendAll_congr hg (keepOwn_congr λ c c' r e1 e2=>lendC_congr e1 (λ x hx=>hh x (List.mem_cons_of_mem _ (List.mem_append_left _ (e2 x hx)))))]
     simp only
     rw[lendH_congr hr (λ x hx=>hh x (List.mem_cons_of_mem _ (List.mem_append_right _ hx)))]
theorem DC.keepOwn {w:World} {Sh Sh':Nat->Prop} {ρ ρ':Rho} {h h':Nat->HS} {π:List Nat} {F:Nat->Prop} (H:Lent w Sh ρ h π F Sh' ρ' h') {f:Nat} {c c':CV} {r:List Nat} {d:Option Nat} {u:Value}
  (hl:Fm.keepOwn (lendC h π f) c=some (r,c')) (hF:∀ x ∈ r,F x) (hd:DC w Sh ρ h d u c):DC w Sh' ρ' h' d u c':=by
 cases c with
 | own sz n cs=>cases hl;exact hd
 | _ =>
  have hr:=lendC_ok H f _ c' r u hl hF hd.2
  cases c' with
  | own sz n cs=>exact nomatch (show RI w Sh' u (.own sz n cs) from hr)
  | _=>exact ⟨hd.1,hr⟩
def dVia (π:List Nat) (D:Nat->Nat->Option Nat) (j p:Nat):Option Nat:=(π[j]?).bind λ id=>D id p
theorem dVia_of {π:List Nat} {D:Nat->Nat->Option Nat} {j id:Nat} (h:π[j]? = some id):dVia π D j=D id:=by
 funext p;simp[dVia,h]
theorem hOf_lt0 {l:List HS} {j:Nat} {x:HS} (h:hOf l j=x) (hx:x≠.no):j < l.length:=by
 apply Nat.lt_of_not_le
 intro hle
 rw[hOf,List.getD_eq_getElem?_getD,List.getElem?_eq_none hle]at h
 exact hx h.symm
theorem hOf_el {l:List HS} {j:Nat} {x:HS} (h:l[j]? = some x):hOf l j=x:=by
 rw[hOf,List.getD_eq_getElem?_getD,h];rfl
theorem DeepOk.lent {w0 w0' w:World} {Sh Sh' O O' F:Nat->Prop} {ρ ρ':Rho} {h:Nat->HS} {bs:List HS} {π rd:List Nat} {f:Nat} {D:Nat->Nat->Option Nat} (HD:DeepOk w0 Sh O ρ h w D)
  (H:Lent w Sh ρ h π F Sh' ρ' (hOf bs)) (hb:lendH h π f π=some (rd,bs)) (hnd:∀ (i j x:Nat),π[i]? = some x->π[j]? = some x->i=j) (hF:∀ x ∈ rd,F x)
  (ho:∀ id b k,id ∈ π->h id=.deep b->Occ ρ D id k->¬ Sh' k/\(w0'.heap.size<=k\/O' k)):DeepOk w0' Sh' O' ρ' (hOf bs) w (dVia π D):=by
 obtain ⟨hbl,hbm,hbg⟩:=lendH_some hb
 have hdp:∀ j b',hOf bs j=.deep b'->∃ id b r,π[j]? = some id/\h id=.deep b/\b'.sz=b.sz/\b'.n=b.n/\lendAll (keepOwn (lendC h π f)) b.cs=some (r,b'.cs)/\∀ x ∈ r,x ∈ rd:=λ j b' hj=>by
  have hjl:=hOf_lt0 hj (by simp)
  have hjl':j < π.length:=by omega
  rcases hbg j _ (List.getElem?_eq_getElem hjl') with ⟨e1,e2⟩|⟨b,cs,r,e1,e2,e3,e4⟩|⟨b,cs,r,e1,e2,e3,e4⟩
  ·rw[hOf_el e2]at hj;cases hj
  ·rw[hOf_el e2]at hj;cases hj
  ·rw[hOf_el e2]at hj;cases hj;exact ⟨_,b,r,List.getElem?_eq_getElem hjl',e1,rfl,rfl,e3,e4⟩
 have hlv:∀ j b',hOf bs j=.live b'->∃ id b,π[j]? = some id/\h id=.live b:=λ j b' hj=>by
  have hjl:=hOf_lt0 hj (by simp)
  have hjl':j < π.length:=by omega
  rcases hbg j _ (List.getElem?_eq_getElem hjl') with ⟨e1,e2⟩|⟨b,cs,r,e1,e2,e3,e4⟩|⟨b,cs,r,e1,e2,e3,e4⟩
  ·rw[hOf_el e2]at hj;cases hj
  ·exact ⟨_,b,List.getElem?_eq_getElem hjl',e1⟩
  ·rw[hOf_el e2]at hj;cases hj
 have occ:∀ {j id k:Nat},π[j]? = some id->Occ ρ' (dVia π D) j k->Occ ρ D id k:=λ {j id k} hj h=>by
  unfold Occ at h ⊢
  rw[dVia_of hj,(H.kept j id hj).1]at h
  exact h
 refine ⟨λ j b' hj => ?_,λ j b' k hj hk => ?_,λ j b' j' b2 L k hj hk hj' hL => ?_,λ j j' b1 b2 k h1 h2 hk hk' => ?_,λ j b' p p' k hj hp hp' => ?_,λ j b' p L hj hL => ?_⟩
 ·obtain ⟨id,b,r,e0,e1,e2,e3,e4,e5⟩:=hdp j b' hj
  have hA:=HD.at_ id b e1
  obtain ⟨g1,g2⟩:=lendAll_some e4
  unfold DeepAt at hA ⊢
  rw[dVia_of e0,(H.kept j id e0).1]
  cases hL:ρ id with
  | none =>
   rw[hL]at hA
   simp only at hA ⊢
   rw[hA.1]at g1
   exact ⟨List.eq_nil_of_length_eq_zero g1,by rw[e3];exact hA.2.1,hA.2.2⟩
  | some L =>
   rw[hL]at hA
   simp only at hA ⊢
   obtain ⟨a1,a2,a3,a4,a5⟩:=hA
   refine ⟨by rw[g1,e2,e3];exact a1,by rw[g1];exact a2,by rw[g1];exact a3,by rw[e2];exact a4,λ i c' hc' => ?_⟩
   obtain ⟨c0,r0,f1,f2,f3⟩:=g2 i c' hc'
   obtain ⟨u,hu,hr⟩:=a5 i c0 f1
   exact ⟨u,hu,hr.keepOwn H f2 λ x hx=>hF x (e5 x (f3 x hx))⟩
 ·obtain ⟨id,b,r,e0,e1,_⟩:=hdp j b' hj
  obtain ⟨g1,g2⟩:=ho id b k (List.mem_of_getElem? e0) e1 (occ e0 hk)
  exact ⟨(HD.own id b k e1 (occ e0 hk)).1,g1,g2⟩
 ·obtain ⟨id,b,r,e0,e1,_⟩:=hdp j b' hj
  obtain ⟨id',c,e0',e1'⟩:=hlv j' b2 hj'
  rw[(H.kept j' id' e0').1]at hL
  exact HD.apart id b id' c L k e1 (occ e0 hk) e1' hL
 ·obtain ⟨id,b,r,e0,e1,_⟩:=hdp j b1 h1
  obtain ⟨id',b',r',e0',e1',_⟩:=hdp j' b2 h2
  have:=HD.inj id id' b b' k e1 e1' (occ e0 hk) (occ e0' hk')
  subst this
  exact hnd j j' id e0 e0'
 ·obtain ⟨id,b,r,e0,e1,_⟩:=hdp j b' hj
  rw[dVia_of e0]at hp hp'
  exact HD.one id b p p' k e1 hp hp'
 ·obtain ⟨id,b,r,e0,e1,_⟩:=hdp j b' hj
  rw[(H.kept j id e0).1]at hL
  rw[dVia_of e0]
  exact HD.out id b p L e1 hL
end Go.Fm
namespace Go.Fm
variable [Globs]
theorem Fr.trans {w0 w1 w2:World} {O O1:Nat->Prop} (h1:Fr w0 O w1) (h2:Fr w1 O1 w2) (ho:∀ k,O1 k->w0.heap.size<=k\/O k):Fr w0 O w2 :=
 ⟨h2.os.trans h1.os,h2.tape.trans h1.tape,h2.output.trans h1.output,Nat.le_trans h1.size h2.size,λ k hk hn=>by
  rw[h2.keep k (Nat.lt_of_lt_of_le hk h1.size) (λ h=>by rcases ho k h with h|h;omega;exact hn h),h1.keep k hk hn]⟩
structure Reb (C C':Ctx):Prop where
 P:C'.P=C.P
 nt:C'.nt=C.nt
 k0:C'.k0=C.k0
 rho0:C'.rho0=C.rho0
 fr:Fr C.w0 C.O C'.w0
 o:∀ k,C'.O k->C.w0.heap.size<=k\/C.O k
 sh:∀ k,C.Sh k->C'.Sh k
 shn:∀ k,C'.Sh k->C.Sh k\/C.w0.heap.size<=k\/C.O k
theorem Reb.refl (C:Ctx):Reb C C:=⟨rfl,rfl,rfl,rfl, .refl _ _,λ _ h=>.inr h,λ _ h=>h,λ _ h=>.inl h⟩
theorem Reb.trans {C C1 C2:Ctx} (h1:Reb C C1) (h2:Reb C1 C2):Reb C C2 :=
 ⟨h2.P.trans h1.P,h2.nt.trans h1.nt,h2.k0.trans h1.k0,h2.rho0.trans h1.rho0,h1.fr.trans h2.fr h1.o,
  λ k hk=>by rcases h2.o k hk with h|h;exact .inl (Nat.le_trans h1.fr.size h);exact h1.o k h,
  λ k hk=>h2.sh k (h1.sh k hk),
  λ k hk=>by
   rcases h2.shn k hk with h|h|h
   ·exact h1.shn k h
   ·exact .inr (.inl (Nat.le_trans h1.fr.size h))
   ·exact .inr (h1.o k h)⟩
def RelX (C:Ctx) (φ:St) (a:Act) (w:World):Prop:=∃ C',Reb C C'/\Rel C' φ a w
def ActX (P:Program) (o:Oper) (φ:St) (nid:Nat) (A:Action):Prop :=
 ∀ (C:Ctx),C.P=P->∀ φ' a w,Agree φ φ' o nid A->RelX C φ' a w->(∀ d,o.dst=some d->d < C.nt) →
  ∀ (K:Act->World->Prop) (Q:Exit->Act->World->Prop),(∀ a' w',RelX C (φ'.app o.dst A) a' w'->K a' w')->o.wp P a w K Q
theorem ActOk.x {P:Program} {o:Oper} {φ:St} {nid:Nat} {A:Action} (h:ActOk P o φ nid A):ActX P o φ nid A:=by
 intro C hP φ' a w hag hR hd K Q hK
 obtain ⟨C',hC,hR⟩:=hR
 exact h C' (hC.P.trans hP) φ' a w hag hR (λ d hd'=>by rw[hC.nt];exact hd d hd') K Q (λ a' w' hr=>hK a' w' ⟨C',hC,hr⟩)
def Serves (P:Program) (f:FuncId) (vs:Array Value) (w:World) (R:Value->World->Prop):Prop :=
 match (callFunc f vs).run P w with
 | .ok (.value v) w'=>R v w'
 | .ok (.enter g as) w'=>Calls P g as w' λ | .returned v,w''=>R v w''|_,_=>False
 | _=>False
def Meets (P:Program) (f:FuncId) (ps:List PV) (bs:List HS) (r:SV) (h1:List HS):Prop :=
 ∀ (C:Ctx) (vs:List Value),C.P=P->C.k0=bs.length->vs.length=ps.length →
  (∀ (i:Nat) (p:PV),ps[i]? = some p->∃ u:Value,vs[i]? = some u/\RPV C.w0 C.Sh C.rho0 (hOf bs) u p) →
  HeapRel C.w0 C.Sh C.O C.rho0 (hOf bs) C.w0->(∀ id,id < bs.length->hOf bs id≠.no) →
  Serves P f vs.toArray C.w0 λ v w'=>∃ (ρ':Rho) (Sh':Nat->Prop),HeapRel C.w0 Sh' C.O ρ' (hOf h1) w'/\RSV w' Sh' ρ' (hOf h1) v r ∧
   (∀ id,id < bs.length->hOf h1 id≠.no/\ρ' id=C.rho0 id)/\Fr C.w0 C.O w'/\(∀ k,C.Sh k->Sh' k) ∧
   (∀ k,Sh' k->k < w'.heap.size/\(C.Sh k\/C.w0.heap.size<=k\/C.O k))
def backC (σ:Nat->Nat) (keep:Bool):CV->CV
 | .arr id lo n=>.arr (σ id) lo n
 | .ptr id off=>.ptr (σ id) off
 | .fn f caps=>.fn f (caps.map λ | .ptr id off=>.ptr (σ id) off|c=>c)
 | .imm sz n cs=>if keep then .imm sz n cs else .dead
 | .ip cs=>if keep then .ip cs else .dead
 | c=>c
def backP (σ:Nat->Nat) (keep:Bool):PV->PV
 | .one c=>.one (backC σ keep c)
 | .agg cs=>.agg (cs.map (backC σ keep))
def backS (σ:Nat->Nat) (keep:Bool):SV->SV
 | .pv p=>.pv (backP σ keep p)
 | .tup ps=>.tup (ps.map (backP σ keep))
def backH (σ:Nat->Nat) (keep:Bool):HS->HS
 | .live b=>.live ⟨b.sz,b.n,b.cs.map (backC σ keep)⟩
 | .deep b=>.deep ⟨b.sz,b.n,b.cs.map (backC σ keep)⟩
 | s=>s
structure Back (Sh:Nat->Prop) (ρ:Rho) (h:Nat->HS) (σ:Nat->Nat) (keep:Bool) (Sh':Nat->Prop) (ρ':Rho) (h':Nat->HS):Prop where
 sh:keep=true->∀ k,Sh k->Sh' k
 ids:∀ j,h j≠.no->ρ' (σ j)=ρ j/\HLe (h j) (ρ j) (h' (σ j)) (ρ j)
section
variable {w:World} {Sh Sh':Nat->Prop} {ρ ρ':Rho} {h h':Nat->HS} {σ:Nat->Nat} {keep:Bool}
theorem RPtr.back (H:Back Sh ρ h σ keep Sh' ρ' h') {v:Value} {id off:Nat} (hv:RPtr ρ h v id off):RPtr ρ' h' v (σ id) off:=by
 have h0:=hv.one
 have hne:h id≠.no:=λ he=>by unfold RPtr at hv;rw[he]at hv;exact hv
 obtain ⟨h1,h2⟩:=H.ids id hne
 unfold RPtr at hv ⊢
 rw[h1]
 cases hs:h id with
 | no=>exact absurd hs hne
 | dead =>
  rw[hs]at h2
  cases hs':h' (σ id) with
  | no=>rw[hs']at h2;exact h2.elim
  | dead=>exact h0
  | live b=>rw[hs']at h2;exact h2.elim
  | deep b=>rw[hs']at h2;exact h2.elim
 | live b =>
  rw[hs]at h2 hv
  cases hs':h' (σ id) with
  | no=>rw[hs']at h2;exact h2.elim
  | dead=>exact h0
  | live b'=>exact hv
  | deep b'=>exact hv
 | deep b =>
  rw[hs]at h2 hv
  cases hs':h' (σ id) with
  | no=>rw[hs']at h2;exact h2.elim
  | dead=>exact h0
  | live b'=>exact hv
  | deep b'=>exact hv
theorem RI.easy {v:Value} {c:CV} (hv:RI w Sh v c) (hc:∀ sz n cs,c≠.imm sz n cs) (hc2:∀ cs,c≠.ip cs):RI w Sh' v c:=by
 cases hv with
 | imm0 a cap sz=>exact absurd rfl (hc _ _ _)
 | imm=>exact absurd rfl (hc _ _ _)
 | ip=>exact absurd rfl (hc2 _)
 | int k n=>exact .int k n
 | bool b=>exact .bool b
 | str s=>exact .str s
 | emp a=>exact .emp a
 | opq t v=>exact .opq t v
 | nilp=>exact .nilp
 | nili=>exact .nili
 | ifc t n=>exact .ifc t n
 | anyb b n h=>exact .anyb b n h
theorem RV.back (H:Back Sh ρ h σ keep Sh' ρ' h') {v:Value} {c:CV} (hv:RV w Sh ρ h v c):RV w Sh' ρ' h' v (backC σ keep c):=by
 have h0:=hv.one
 cases c with
 | arr id lo n =>
  have hne:h id≠.no:=λ he=>by simp only[RV]at hv;rw[he]at hv;exact hv
  obtain ⟨h1,h2⟩:=H.ids id hne
  simp only[RV,backC]at hv ⊢
  rw[h1]
  cases hs:h id with
  | no=>exact absurd hs hne
  | dead =>
   rw[hs]at h2
   cases hs':h' (σ id) with
   | no=>rw[hs']at h2;exact h2.elim
   | dead=>exact h0
   | live b=>rw[hs']at h2;exact h2.elim
   | deep b=>rw[hs']at h2;exact h2.elim
  | live b =>
   rw[hs]at h2 hv
   cases hs':h' (σ id) with
   | no=>rw[hs']at h2;exact h2.elim
   | dead=>exact h0
   | live b'=>rw[hs']at h2;simp only at hv ⊢;rw[h2.1,h2.2.1];exact hv
   | deep b'=>rw[hs']at h2;simp only at hv ⊢;rw[h2.1,h2.2.1];exact hv
  | deep b =>
   rw[hs]at h2 hv
   cases hs':h' (σ id) with
   | no=>rw[hs']at h2;exact h2.elim
   | dead=>exact h0
   | live b'=>rw[hs']at h2;simp only at hv ⊢;rw[h2.1,h2.2.1];exact hv
   | deep b'=>rw[hs']at h2;simp only at hv ⊢;rw[h2.1,h2.2.1];exact hv
 | ptr id off=>exact RPtr.back H hv
 | fn f caps =>
  obtain ⟨vs,rfl,hlen,hp⟩:=hv
  refine ⟨vs,rfl,by simpa using hlen,λ i c hc => ?_⟩
  rw[List.getElem?_map]at hc
  cases hci:caps[i]? with
  | none=>rw[hci]at hc;cases hc
  | some c0 =>
   rw[hci]at hc
   obtain ⟨u,hu,id,off,rfl,hr⟩:=hp i c0 hci
   cases hc
   exact ⟨u,hu,σ id,off,rfl,RPtr.back H hr⟩
 | imm sz n cs =>
  simp only[backC]
  split
  ·rename_i hk;exact RI.mono hv λ k hk'=>⟨H.sh hk k hk',rfl⟩
  ·exact h0
 | ip cs =>
  simp only[backC]
  split
  ·rename_i hk;exact RI.mono hv λ k hk'=>⟨H.sh hk k hk',rfl⟩
  ·exact h0
 | dead=>exact h0
 | _=>exact RI.easy hv (λ _ _ _ h=>by cases h) (λ _ h=>by cases h)
theorem RPV.back (H:Back Sh ρ h σ keep Sh' ρ' h') {v:Value} {p:PV} (hv:RPV w Sh ρ h v p):RPV w Sh' ρ' h' v (backP σ keep p):=by
 cases p with
 | one c =>
  by_cases hd:c=.dead
  ·subst hd;trivial
  ·exact .of_one (RV.back H (by cases c<;>first|exact hv|exact absurd rfl hd))
 | agg cs =>
  obtain ⟨vs,rfl,hlen,hp⟩:=hv
  refine ⟨vs,rfl,by simpa using hlen,λ i c hc => ?_⟩
  rw[List.getElem?_map]at hc
  cases hci:cs[i]? with
  | none=>rw[hci]at hc;cases hc
  | some c0 =>
   rw[hci]at hc
   cases hc
   obtain ⟨u,hu,hr⟩:=hp i c0 hci
   exact ⟨u,hu,RV.back H hr⟩
theorem RSV.back (H:Back Sh ρ h σ keep Sh' ρ' h') {v:Value} {p:SV} (hv:RSV w Sh ρ h v p):RSV w Sh' ρ' h' v (backS σ keep p):=by
 cases p with
 | pv p=>exact RPV.back H hv
 | tup ps =>
  obtain ⟨vs,rfl,hlen,hp⟩:=hv
  refine ⟨vs,rfl,by simpa using hlen,λ i c hc => ?_⟩
  rw[List.getElem?_map]at hc
  cases hci:ps[i]? with
  | none=>rw[hci]at hc;cases hc
  | some c0 =>
   rw[hci]at hc
   cases hc
   obtain ⟨u,hu,hr⟩:=hp i c0 hci
   exact ⟨u,hu,RPV.back H hr⟩
theorem RB.back {b:Blk} (H:Back Sh ρ h σ keep Sh' ρ' h') {j:Nat} (hj:h j=.live b) (hB:RB w Sh ρ h j b):RB w Sh' ρ' h' (σ j) ⟨b.sz,b.n,b.cs.map (backC σ keep)⟩:=by
 have h1:=(H.ids j (by rw[hj];simp)).1
 unfold RB at hB ⊢
 rw[h1]
 cases hL:ρ j with
 | none=>rw[hL]at hB;simp only at hB ⊢;rw[hB.1];exact ⟨rfl,hB.2⟩
 | some L =>
  rw[hL]at hB
  simp only at hB ⊢
  refine ⟨by simpa using hB.1,by simpa using hB.2.1,hB.2.2.1,λ i c hc => ?_⟩
  rw[List.getElem?_map]at hc
  cases hci:b.cs[i]? with
  | none=>rw[hci]at hc;cases hc
  | some c0 =>
   rw[hci]at hc
   cases hc
   obtain ⟨u,hu,hr⟩:=hB.2.2.2 i c0 hci
   exact ⟨u,hu,RV.back H hr⟩
theorem DC.back (H:Back Sh ρ h σ keep Sh' ρ' h') {d:Option Nat} {u:Value} {c:CV} (hd:DC w Sh ρ h d u c):DC w Sh' ρ' h' d u (backC σ keep c):=by
 cases c with
 | own sz n cs=>exact hd
 | imm sz n cs =>
  have h:=RV.back H hd.2
  cases hk:keep with
  | true=>rw[hk]at h;exact ⟨hd.1,h⟩
  | false=>rw[hk]at h;exact ⟨hd.1,h⟩
 | ip cs =>
  have h:=RV.back H hd.2
  cases hk:keep with
  | true=>rw[hk]at h;exact ⟨hd.1,h⟩
  | false=>rw[hk]at h;exact ⟨hd.1,h⟩
 | _=>exact ⟨hd.1,RV.back H hd.2⟩
theorem RV.incl (hs:∀ k,Sh k->Sh' k) {v:Value} {c:CV} (hv:RV w Sh ρ h v c):RV w Sh' ρ h v c:=by
 cases c<;>simp only[RV]at hv ⊢<;>first|exact hv|exact RI.mono hv λ k hk=>⟨hs k hk,rfl⟩
theorem RPV.incl (hs:∀ k,Sh k->Sh' k) {v:Value} {p:PV} (hv:RPV w Sh ρ h v p):RPV w Sh' ρ h v p:=by
 cases p with
 | one c=>cases c<;>simp only[RPV]at hv ⊢<;>exact hv.incl hs
 | agg cs =>
  obtain ⟨vs,hv,hl,hp⟩:=hv
  exact ⟨vs,hv,hl,λ i c hc=>by obtain ⟨u,hu,hq⟩:=hp i c hc;exact ⟨u,hu,hq.incl hs⟩⟩
theorem RSV.incl (hs:∀ k,Sh k->Sh' k) {v:Value} {p:SV} (hv:RSV w Sh ρ h v p):RSV w Sh' ρ h v p:=by
 cases p with
 | pv p=>exact RPV.incl hs hv
 | tup ps =>
  obtain ⟨vs,hv,hl,hp⟩:=hv
  exact ⟨vs,hv,hl,λ i c hc=>by obtain ⟨u,hu,hq⟩:=hp i c hc;exact ⟨u,hu,hq.incl hs⟩⟩
end
theorem heapOf_not (l:List (Nat×HS)):∀ (h:Nat->HS) (id:Nat),(∀ p ∈ l,p.1≠id)->heapOf h l id=h id:=by
 induction l with
 | nil=>intro h id _;rfl
 | cons q r ih =>
  intro h id hn
  show heapOf (upd h q.1 q.2) r id=h id
  rw[ih _ id (λ p hp=>hn p (List.mem_cons_of_mem _ hp)),upd_ne _ _ (λ he=>hn q (List.mem_cons_self ..) he.symm)]
theorem heapOf_get (l:List (Nat×HS)):∀ (h:Nat->HS) (i:Nat) (p:Nat×HS),l[i]? = some p->(∀ j q,l[j]? = some q->j≠i->q.1≠p.1)->heapOf h l p.1=p.2:=by
 induction l with
 | nil=>intro h i p hp;simp at hp
 | cons q r ih =>
  intro h i p hp hn
  show heapOf (upd h q.1 q.2) r p.1=p.2
  cases i with
  | zero =>
   simp at hp
   subst hp
   rw[heapOf_not r _ _ (λ x hx => ?_),upd_same]
   obtain ⟨j,hj⟩:=List.getElem?_of_mem hx
   exact hn (j+1) x (by simpa using hj) (by omega)
  | succ i=>exact ih _ i p (by simpa using hp) (λ j q hq hne=>hn (j+1) q (by simpa using hq) (by omega))
end Go.Fm
namespace Go.Fm
variable [Globs]
open Classical
def sig (π:List Nat) (k0 nid:Nat) (j:Nat):Nat:=if j < k0 then π.getD j 0 else nid+(j-k0)
def backHp (σ:Nat->Nat) (keep:Bool):Nat->List HS->List (Nat×HS)
 | _,[]=>[]
 | j,s::r=>(σ j,backH σ keep s)::backHp σ keep (j+1) r
theorem backHp_get {σ:Nat->Nat} {keep:Bool}:∀ (l:List HS) (j i:Nat),(backHp σ keep j l)[i]? = (l[i]?).map λ s=>(σ (j+i),backH σ keep s)
 | [],j,i=>by simp[backHp]
 | s::r,j,i=>by
  cases i with
  | zero=>simp[backHp]
  | succ i=>simp only[backHp,List.getElem?_cons_succ,backHp_get r (j+1) i];rw[show j+1+i=j+(i+1) by omega]
def allIn (π:List Nat):List Nat->Bool
 | []=>true
 | x::r=>(ixOf π x).isSome&&allIn π r
theorem allIn_mem {π:List Nat}:∀ {l:List Nat},allIn π l=true->∀ x ∈ l,x ∈ π
 | [],_,x,hx=>by simp at hx
 | y::r,h,x,hx=>by
  simp only[allIn,Bool.and_eq_true]at h
  rcases List.mem_cons.1 hx with rfl|hx
  ·cases hi:ixOf π x with
   | none=>rw[hi]at h;simp at h
   | some j=>exact List.mem_of_getElem? (ixOf_some hi)
  ·exact allIn_mem h.2 x hx
def keepOk:List HS->List HS->Bool
 | [],_=>true
 | .live b::r, .live b'::s=>b.sz==b'.sz&&b.n==b'.n&&keepOk r s
 | .live _::r, .dead::s=>keepOk r s
 | .dead::r, .dead::s=>keepOk r s
 | .deep _::r, .dead::s=>keepOk r s
 | .deep b::r, .deep b'::s=>b.sz==b'.sz&&b.n==b'.n&&keepOk r s
 | _,_=>false
theorem keepOk_get:∀ {bs h1:List HS},keepOk bs h1=true->∀ j,j < bs.length->∀ l,HLe (hOf bs j) l (hOf h1 j) l
 | [],_,_,j,hj,_=>by simp at hj
 | .live b::r, .live b'::s,h,j,hj,l=>by
  simp only[keepOk,Bool.and_eq_true,beq_iff_eq]at h
  cases j with
  | zero=>exact ⟨h.1.1.symm,h.1.2.symm,rfl⟩
  | succ j=>exact keepOk_get h.2 j (by simpa using hj) l
 | .live _::r, .dead::s,h,j,hj,l=>by
  cases j with
  | zero=>trivial
  | succ j=>exact keepOk_get (by simpa [keepOk] using h) j (by simpa using hj) l
 | .deep b::r, .deep b'::s,h,j,hj,l=>by
  simp only[keepOk,Bool.and_eq_true,beq_iff_eq]at h
  cases j with
  | zero=>exact ⟨h.1.1.symm,h.1.2.symm,rfl⟩
  | succ j=>exact keepOk_get h.2 j (by simpa using hj) l
 | .deep _::r, .dead::s,h,j,hj,l=>by
  cases j with
  | zero=>trivial
  | succ j=>exact keepOk_get (by simpa [keepOk] using h) j (by simpa using hj) l
 | .dead::r, .dead::s,h,j,hj,l=>by
  cases j with
  | zero=>trivial
  | succ j=>exact keepOk_get (by simpa [keepOk] using h) j (by simpa using hj) l
 | .no::r,_,h,j,hj,l=>by simp[keepOk]at h
 | .live _::r,[],h,j,hj,l=>by simp[keepOk]at h
 | .live _::r, .no::s,h,j,hj,l=>by simp[keepOk]at h
 | .dead::r,[],h,j,hj,l=>by simp[keepOk]at h
 | .dead::r, .no::s,h,j,hj,l=>by simp[keepOk]at h
 | .dead::r, .live _::s,h,j,hj,l=>by simp[keepOk]at h
def callA (π:List Nat) (nid:Nat) (rd:List Nat) (k0:Nat) (r:SV) (h1:List HS):Action :=
 ⟨rd,backS (sig π k0 nid) (allIn π rd) r,backHp (sig π k0 nid) (allIn π rd) 0 h1⟩
def argsP:List SV->Option (List PV)
 | []=>some []
 | .pv p::r=>(argsP r).map (p::·)
 | _=>none
theorem argsP_some:∀ {l:List SV} {ps:List PV},argsP l=some ps->l=ps.map .pv
 | [],ps,h=>by cases h;rfl
 | .pv p::r,ps,h=>by
  obtain ⟨q,hq,rfl⟩:=Option.map_eq_some_iff.1 h
  rw[argsP_some hq];rfl
 | .tup _::r,ps,h=>by cases h
theorem hOf_ne {l:List HS} {j:Nat} (h:hOf l j≠.no):j < l.length:=by
 apply Classical.byContradiction
 intro hn
 exact h (by simp[hOf,List.getElem?_eq_none (Nat.le_of_not_lt hn)])
theorem hOf_get {l:List HS} {j:Nat} {s:HS} (h:l[j]? = some s):hOf l j=s:=by simp[hOf,h]
def nodB:List Nat->Bool
 | []=>true
 | x::r=>(ixOf r x).isNone&&nodB r
theorem ixOf_mem:∀ {π:List Nat} {x:Nat},x ∈ π->(ixOf π x).isSome=true
 | y::r,x,h=>by
  unfold ixOf
  split
  ·rfl
  ·rename_i hne
   rcases List.mem_cons.1 h with rfl|h
   ·exact absurd rfl hne
   ·simpa using ixOf_mem h
theorem nodB_spec:∀ {π:List Nat},nodB π=true->∀ (i j x:Nat),π[i]? = some x->π[j]? = some x->i=j
 | [],_,i,j,x,h,_=>by simp at h
 | y::r,hn,i,j,x,h,h'=>by
  simp only[nodB,Bool.and_eq_true]at hn
  have key:∀ k,r[k]? = some y->False:=λ k hk=>by
   have:=ixOf_mem (List.mem_of_getElem? hk)
   rw[Option.isNone_iff_eq_none]at hn
   rw[hn.1]at this
   cases this
  cases i with
  | zero =>
   cases j with
   | zero=>rfl
   | succ j=>simp at h h';subst h;exact (key j h').elim
  | succ i =>
   cases j with
   | zero=>simp at h h';subst h';exact (key i h).elim
   | succ j=>rw[nodB_spec hn.2 i j x (by simpa using h) (by simpa using h')]
def Lies (ρ:Rho) (h:Nat->HS) (D:Nat->Nat->Option Nat) (id k:Nat):Prop:=(∃ b L,h id=.live b/\ρ id=some L/\L.b=k)\/∃ b,h id=.deep b/\Occ ρ D id k
theorem Lies.own {w0 w:World} {Sh O:Nat->Prop} {ρ:Rho} {h:Nat->HS} {D:Nat->Nat->Option Nat} {id k:Nat} (H:Lies ρ h D id k) (R:HeapRel w0 Sh O ρ h w) (HD:DeepOk w0 Sh O ρ h w D) :
  k < w.heap.size/\¬ Sh k/\(w0.heap.size<=k\/O k):=by
 rcases H with ⟨b,L,e1,e2,rfl⟩|⟨b,e1,e2⟩
 ·exact R.own id b L e1 e2
 ·exact HD.own id b k e1 e2
theorem Lies.inj {w0 w:World} {Sh O:Nat->Prop} {ρ:Rho} {h:Nat->HS} {D:Nat->Nat->Option Nat} {id id' k:Nat} (H:Lies ρ h D id k) (H':Lies ρ h D id' k) (R:HeapRel w0 Sh O ρ h w) (HD:DeepOk w0 Sh O ρ h w D):id=id':=by
 rcases H with ⟨b,L,e1,e2,rfl⟩|⟨b,e1,e2⟩<;>rcases H' with ⟨b',L',f1,f2,f3⟩|⟨b',f1,f2⟩
 ·exact R.inj id id' b b' L L' e1 f1 e2 f2 f3.symm
 ·exact absurd rfl (HD.apart id' b' id b L _ f1 f2 e1 e2)
 ·exact absurd f3.symm (HD.apart id b id' b' L' k e1 e2 f1 f2)
 ·exact HD.inj id id' b b' k e1 f1 e2 f2
theorem Lies.hO {ρ:Rho} {h:Nat->HS} {D:Nat->Nat->Option Nat} {π:List Nat} {k:Nat} (H:∃ id,id ∈ π/\Lies ρ h D id k):∃ (id:Nat) (b:Blk),id ∈ π/\((∃ L,h id=.live b/\ρ id=some L/\L.b=k)\/(h id=.deep b/\Occ ρ D id k)):=by
 obtain ⟨id,hm,⟨b,L,e1,e2,e3⟩|⟨b,e1,e2⟩⟩:=H
 ·exact ⟨id,b,hm, .inl ⟨L,e1,e2,e3⟩⟩
 ·exact ⟨id,b,hm, .inr ⟨e1,e2⟩⟩
theorem merge {C:Ctx} {ρ ρ2 ρ':Rho} {φ:St} {a:Act} {w w':World} (R:RelAt C ρ φ a w) {D:Nat->Nat->Option Nat} (HD:DeepOk C.w0 C.Sh C.O ρ φ.heap w D) {π:List Nat} {nid:Nat} {Sh2 O2 Sh':Nat->Prop} {bs h1:List HS} {keep:Bool}
  (hnd:∀ (i j x:Nat),π[i]? = some x->π[j]? = some x->i=j) (hπ:bs.length=π.length) (hne:∀ id ∈ π,φ.heap id≠.no) (hfresh:∀ i,bs.length+i < h1.length->φ.heap (nid+i)=.no)
  (hsh:∀ k,C.Sh k->Sh2 k) (hkeep:keep=true->∀ k,Sh2 k->C.Sh k)
  (hO:∀ k,O2 k->∃ (id:Nat) (b:Blk),id ∈ π/\((∃ L,φ.heap id=.live b/\ρ id=some L/\L.b=k)\/(φ.heap id=.deep b/\Occ ρ D id k)))
  (hρ2:∀ j id,π[j]? = some id->ρ2 j=ρ id)
  (hle:∀ j id,π[j]? = some id->∀ l,HLe (φ.heap id) l (hOf h1 j) l)
  (hR:HeapRel w Sh' O2 ρ' (hOf h1) w') (hinit:∀ j,j < bs.length->hOf h1 j≠.no/\ρ' j=ρ2 j)
  (hfr:Fr w O2 w') (hs1:∀ k,Sh2 k->Sh' k) (hs2:∀ k,Sh' k->k < w'.heap.size/\(Sh2 k\/w.heap.size<=k\/O2 k)) :
  ∃ C3 ρ3,Reb C C3/\RelAt C3 ρ3 { φ with heap:=heapOf φ.heap (backHp (sig π bs.length nid) keep 0 h1) } a w' ∧
   ∀ v r,RSV w' Sh' ρ' (hOf h1) v r->RSV w' C3.Sh ρ3 (heapOf φ.heap (backHp (sig π bs.length nid) keep 0 h1)) v (backS (sig π bs.length nid) keep r):=by
 have hk1:bs.length<=h1.length:=by
  apply Nat.le_of_not_lt
  intro hn
  exact (hinit h1.length hn).1 (by simp[hOf])
 let σ:=sig π bs.length nid
 have hσ1:∀ j,j < bs.length->∃ id,π[j]? = some id/\σ j=id:=λ j hj=>by
  have:j < π.length:=by omega
  refine ⟨π[j],List.getElem?_eq_getElem this,?_⟩
  simp[σ,sig,hj,List.getElem?_eq_getElem this]
 have hσ2:∀ j,¬ j < bs.length->σ j=nid+(j-bs.length):=λ j hj=>by simp[σ,sig,hj]
 have hσno:∀ j,j < h1.length->¬ j < bs.length->φ.heap (σ j)=.no:=λ j hj hn=>by
  rw[hσ2 j hn]
  exact hfresh _ (by omega)
 have hinj:∀ j j',j < h1.length->j' < h1.length->σ j=σ j'->j=j':=by
  intro j j' hj hj' he
  by_cases h:j < bs.length<;>by_cases h':j' < bs.length
  ·obtain ⟨id,e1,e2⟩:=hσ1 j h
   obtain ⟨id',e1',e2'⟩:=hσ1 j' h'
   rw[<-e2,he,e2']at e1
   exact hnd j j' _ e1 e1'
  ·obtain ⟨id,e1,e2⟩:=hσ1 j h
   exact absurd (by rw[<-e2,he];exact hσno j' hj' h') (hne id (List.mem_of_getElem? e1))
  ·obtain ⟨id,e1,e2⟩:=hσ1 j' h'
   exact absurd (by rw[<-e2,<-he];exact hσno j hj h) (hne id (List.mem_of_getElem? e1))
  ·rw[hσ2 j h,hσ2 j' h']at he
   omega
 let h3:=heapOf φ.heap (backHp σ keep 0 h1)
 let ρ3:Rho:=λ id=>if hx:∃ j,j < h1.length/\σ j=id then ρ' hx.choose else ρ id
 have hρ3:∀ j,j < h1.length->ρ3 (σ j)=ρ' j:=λ j hj=>by
  have hx:∃ j',j' < h1.length/\σ j'=σ j:=⟨j,hj,rfl⟩
  simp only[ρ3,dif_pos hx]
  rw[hinj _ _ hx.choose_spec.1 hj hx.choose_spec.2]
 have hh3:∀ j,j < h1.length->h3 (σ j)=backH σ keep (hOf h1 j):=λ j hj=>by
  have hg:(backHp σ keep 0 h1)[j]? = some (σ j,backH σ keep (hOf h1 j)):=by
   rw[backHp_get,List.getElem?_eq_getElem hj]
   simp[hOf,hj]
  exact heapOf_get _ _ j _ hg (λ i q hq hne he=>by
   rw[backHp_get]at hq
   cases hi:h1[i]? with
   | none=>rw[hi]at hq;cases hq
   | some s =>
    rw[hi]at hq
    cases hq
    simp only[Nat.zero_add]at he
    exact hne (hinj _ _ (List.getElem?_eq_some_iff.1 hi).1 hj he))
 have hno3:∀ id,(¬ ∃ j,j < h1.length/\σ j=id)->h3 id=φ.heap id/\ρ3 id=ρ id:=λ id hx=>by
  refine ⟨heapOf_not _ _ _ (λ p hp he => ?_),by simp only[ρ3,dif_neg hx]⟩
  obtain ⟨i,hi⟩:=List.getElem?_of_mem hp
  rw[backHp_get]at hi
  cases hi':h1[i]? with
  | none=>rw[hi']at hi;cases hi
  | some s =>
   rw[hi']at hi
   cases hi
   exact hx ⟨i,(List.getElem?_eq_some_iff.1 hi').1,by simpa using he⟩
 let Sh3:Nat->Prop:=λ k=>if keep=true then Sh' k else C.Sh k
 have hC3:∀ k,C.Sh k->Sh3 k:=λ k hk=>by
  simp only[Sh3]
  split
  ·exact hs1 k (hsh k hk)
  ·exact hk
 have h3C:∀ k,Sh3 k->k < w'.heap.size/\(C.Sh k\/w.heap.size<=k\/O2 k):=λ k hk=>by
  simp only[Sh3]at hk
  split at hk
  ·rename_i hkp
   obtain ⟨g1,g2⟩:=hs2 k hk
   exact ⟨g1,g2.imp (hkeep hkp k) id⟩
  ·exact ⟨Nat.lt_of_lt_of_le (R.sh_lt hk) hfr.size, .inl hk⟩
 have hSh':∀ k,Sh3 k->Sh' k:=λ k hk=>by
  simp only[Sh3]at hk
  split at hk
  ·exact hk
  ·exact hs1 k (hsh k hk)
 have hOo:∀ k,O2 k->k < w.heap.size/\¬ C.Sh k/\(C.w0.heap.size<=k\/C.O k):=λ k hk=>by
  obtain ⟨id,b,_,⟨L,e1,e2,rfl⟩|⟨e1,e2⟩⟩:=hO k hk
  ·exact R.hp.own id b L e1 e2
  ·exact HD.own id b k e1 e2
 have hOw:∀ k,O2 k->k < w.heap.size:=λ k hk=>(hOo k hk).1
 have himg:∀ id,id ∈ π->∃ j,j < h1.length/\σ j=id:=λ id hm=>by
  obtain ⟨j,hj⟩:=List.getElem?_of_mem hm
  have hjl:j < bs.length:=by have:=(List.getElem?_eq_some_iff.1 hj).1;omega
  obtain ⟨id2,e4,e5⟩:=hσ1 j hjl
  rw[hj]at e4
  cases e4
  exact ⟨j,by omega,e5⟩
 -- a block that is not among those of the call
 have hout:∀ id b L,(¬ ∃ j,j < h1.length/\σ j=id)->φ.heap id=.live b->ρ id=some L->L.b < w.heap.size/\¬ O2 L.b/\¬ C.Sh L.b:=λ id b L hx hb hL=>by
  obtain ⟨g1,g2,g3⟩:=R.hp.own id b L hb hL
  refine ⟨g1,λ ho => ?_,g2⟩
  obtain ⟨id',b',hm,⟨L',e1,e2,e3⟩|⟨e1,e2⟩⟩:=hO _ ho
  ·have:=R.hp.inj id' id b' b L' L e1 hb e2 hL e3
   subst this
   exact hx (himg _ hm)
  ·exact HD.apart id' b' id b L _ e1 e2 hb hL rfl
 have hlive:∀ j b,j < h1.length->h3 (σ j)=.live b->∃ b0,hOf h1 j=.live b0/\b=⟨b0.sz,b0.n,b0.cs.map (backC σ keep)⟩:=λ j b hj hb=>by
  rw[hh3 j hj]at hb
  cases hs:hOf h1 j with
  | no=>rw[hs]at hb;cases hb
  | dead=>rw[hs]at hb;cases hb
  | live b0=>rw[hs]at hb;cases hb;exact ⟨b0,rfl,rfl⟩
  | deep b0=>rw[hs]at hb;cases hb
 have hdeep:∀ j b,j < h1.length->h3 (σ j)=.deep b->∃ b0,hOf h1 j=.deep b0/\b=⟨b0.sz,b0.n,b0.cs.map (backC σ keep)⟩:=λ j b hj hb=>by
  rw[hh3 j hj]at hb
  cases hs:hOf h1 j with
  | no=>rw[hs]at hb;cases hb
  | dead=>rw[hs]at hb;cases hb
  | live b0=>rw[hs]at hb;cases hb
  | deep b0=>rw[hs]at hb;cases hb;exact ⟨b0,rfl,rfl⟩
 have hB:Back Sh' ρ' (hOf h1) σ keep Sh3 ρ3 h3:=by
  refine ⟨λ hk k h=>by simp only[Sh3,hk,if_true];exact h,λ j hj => ?_⟩
  have hjl:=hOf_ne hj
  refine ⟨hρ3 j hjl,?_⟩
  rw[hh3 j hjl]
  cases hs:hOf h1 j with
  | no=>exact absurd hs hj
  | dead=>trivial
  | live b0=>exact ⟨rfl,rfl,rfl⟩
  | deep b0=>exact ⟨rfl,rfl,rfl⟩
 have hHLe:∀ id,HLe (φ.heap id) (ρ id) (h3 id) (ρ3 id):=λ id=>by
  by_cases hx:∃ j,j < h1.length/\σ j=id
  ·obtain ⟨j,hj,rfl⟩:=hx
   rw[hh3 j hj,hρ3 j hj]
   by_cases hjb:j < bs.length
   ·obtain ⟨id,e1,e2⟩:=hσ1 j hjb
    rw[e2,(hinit j hjb).2,hρ2 j id e1]
    have:=hle j id e1 (ρ id)
    cases hs:φ.heap id with
    | no=>trivial
    | dead =>
     rw[hs]at this
     cases hs':hOf h1 j with
     | dead=>trivial
     | _=>rw[hs']at this;exact this.elim
    | live b =>
     rw[hs]at this
     cases hs':hOf h1 j with
     | dead=>trivial
     | no=>rw[hs']at this;exact this.elim
     | live b'=>rw[hs']at this;exact this
     | deep b'=>rw[hs']at this;exact this
    | deep b =>
     rw[hs]at this
     cases hs':hOf h1 j with
     | dead=>trivial
     | no=>rw[hs']at this;exact this.elim
     | live b'=>rw[hs']at this;exact this
     | deep b'=>rw[hs']at this;exact this
   ·rw[hσno j hj hjb];trivial
  ·rw[(hno3 id hx).1,(hno3 id hx).2];exact HLe.refl _ _
 have hShw:∀ k,C.Sh k->w'.heap[k]? = w.heap[k]? := λ k hk=>hfr.keep k (R.sh_lt hk) (λ ho=>by
  exact (hOo k ho).2.1 hk)
 obtain ⟨D',HD'⟩:=hR.dp
 let D3:Nat->Nat->Option Nat:=λ id=>if hx:∃ j,j < h1.length/\σ j=id then D' hx.choose else D id
 have hD3:∀ j,j < h1.length->D3 (σ j)=D' j:=λ j hj=>by
  have hx:∃ j',j' < h1.length/\σ j'=σ j:=⟨j,hj,rfl⟩
  simp only[D3,dif_pos hx]
  rw[hinj _ _ hx.choose_spec.1 hj hx.choose_spec.2]
 have hD3n:∀ id,(¬ ∃ j,j < h1.length/\σ j=id)->D3 id=D id:=λ id hx=>by simp only[D3,dif_neg hx]
 have hocc:∀ j k,j < h1.length->Occ ρ3 D3 (σ j) k->Occ ρ' D' j k:=λ j k hj h=>by
  unfold Occ at h ⊢
  rw[hρ3 j hj,hD3 j hj]at h
  exact h
 have hoccn:∀ id k,(¬ ∃ j,j < h1.length/\σ j=id)->Occ ρ3 D3 id k->Occ ρ D id k:=λ id k hx h=>by
  unfold Occ at h ⊢
  rw[(hno3 id hx).2,hD3n id hx]at h
  exact h
 have hdo:∀ id b k,(¬ ∃ j,j < h1.length/\σ j=id)->φ.heap id=.deep b->Occ ρ D id k->k < w.heap.size/\¬ O2 k/\¬ Sh3 k:=λ id b k hx hb ho=>by
  obtain ⟨g1,g2,g3⟩:=HD.own id b k hb ho
  have gO:¬ O2 k:=λ h=>by
   obtain ⟨id',b',hm,⟨L',e1,e2,e3⟩|⟨e1,e2⟩⟩:=hO _ h
   ·exact HD.apart id b id' b' L' k hb ho e1 e2 e3.symm
   ·have:=HD.inj id' id b' b k e1 hb e2 ho
    subst this
    exact hx (himg _ hm)
  refine ⟨g1,gO,λ h => ?_⟩
  rcases (h3C _ h).2 with h|h|h
  ·exact g2 h
  ·omega
  ·exact gO h
 have hdown:∀ id b k,h3 id=.deep b->Occ ρ3 D3 id k->k < w'.heap.size/\¬ Sh3 k/\(C.w0.heap.size<=k\/C.O k):=λ id b k hb ho=>by
  by_cases hx:∃ j,j < h1.length/\σ j=id
  ·obtain ⟨j,hj,rfl⟩:=hx
   obtain ⟨b0,e1,e2⟩:=hdeep j b hj hb
   obtain ⟨g1,g2,g3⟩:=HD'.own j b0 k e1 (hocc j k hj ho)
   refine ⟨g1,λ h=>g2 (hSh' _ h),?_⟩
   rcases g3 with g3|g3
   ·exact .inl (Nat.le_trans R.fr.size g3)
   ·exact (hOo _ g3).2.2
  ·have e1:φ.heap id=.deep b:=by rw[<-(hno3 id hx).1];exact hb
   have ho':=hoccn id k hx ho
   obtain ⟨g1,g2,g3⟩:=hdo id b k hx e1 ho'
   exact ⟨Nat.lt_of_lt_of_le g1 hfr.size,g3,(HD.own id b k e1 ho').2.2⟩
 let O3:Nat->Prop:=λ k=>(∃ id b L,h3 id=.live b/\ρ3 id=some L/\L.b=k)\/∃ id b,h3 id=.deep b/\Occ ρ3 D3 id k
 have hown:∀ id b L,h3 id=.live b->ρ3 id=some L->L.b < w'.heap.size/\¬ Sh3 L.b/\(C.w0.heap.size<=L.b\/C.O L.b):=λ id b L hb hL=>by
  by_cases hx:∃ j,j < h1.length/\σ j=id
  ·obtain ⟨j,hj,rfl⟩:=hx
   obtain ⟨b0,e1,e2⟩:=hlive j b hj hb
   rw[hρ3 j hj]at hL
   obtain ⟨g1,g2,g3⟩:=hR.own j b0 L e1 hL
   refine ⟨g1,λ h=>g2 (hSh' _ h),?_⟩
   rcases g3 with g3|g3
   ·exact .inl (Nat.le_trans R.fr.size g3)
   ·exact (hOo _ g3).2.2
  ·obtain ⟨e1,e2⟩:=hno3 id hx
   rw[e1]at hb
   rw[e2]at hL
   obtain ⟨g1,g2,g3⟩:=hout id b L hx hb hL
   refine ⟨Nat.lt_of_lt_of_le g1 hfr.size,λ h => ?_,(R.hp.own id b L hb hL).2.2⟩
   rcases (h3C _ h).2 with h|h|h
   ·exact g3 h
   ·omega
   ·exact g2 h
 let C3:Ctx:={ P:=C.P,w0:=w',Sh:=Sh3,O:=O3,rho0:=C.rho0,k0:=C.k0,nt:=C.nt,old:=λ k hk=>⟨(h3C k hk).1,λ ho=>by
  rcases ho with ⟨id,b,L,e1,e2,rfl⟩|⟨id,b,e1,e2⟩
  ·exact (hown id b L e1 e2).2.1 hk
  ·exact (hdown id b k e1 e2).2.1 hk⟩,gl:=λ g cs hg=>(C.gl g cs hg).mono λ k hk=>⟨hC3 k hk,(R.fr.trans hfr (λ k hk=>(hOo _ hk).2.2)).keep k (C.old k hk).1 (C.old k hk).2⟩ }
 refine ⟨C3,ρ3,⟨rfl,rfl,rfl,rfl,R.fr.trans hfr (λ k hk => ?_),λ k hk => ?_,hC3,λ k hk => ?_⟩,⟨R.defers,R.nt,λ t => ?_,⟨?_,?_,?_,?_⟩,λ id hid => ?_, .refl _ _⟩,λ v r hv=>RSV.back hB hv⟩
 ·exact (hOo _ hk).2.2
 ·rcases hk with ⟨id,b,L,e1,e2,rfl⟩|⟨id,b,e1,e2⟩
  ·exact (hown id b L e1 e2).2.2
  ·exact (hdown id b k e1 e2).2.2
 ·rcases (h3C k hk).2 with h|h|h
  ·exact .inl h
  ·exact .inr (.inl (Nat.le_trans R.fr.size h))
  ·exact .inr ((hOo _ h).2.2)
 ·exact ((R.env t).mono hShw hHLe).incl hC3
 ·intro id b hb
  by_cases hx:∃ j,j < h1.length/\σ j=id
  ·obtain ⟨j,hj,rfl⟩:=hx
   obtain ⟨b0,e1,rfl⟩:=hlive j b hj hb
   exact RB.back hB e1 (hR.blk j b0 e1)
  ·obtain ⟨e1,e2⟩:=hno3 id hx
   have hb0:φ.heap id=.live b:=by rw[<-e1];exact hb
   have hB0:=R.hp.blk id b hb0
   show RB w' Sh3 ρ3 h3 id b
   unfold RB at hB0 ⊢
   rw[e2]
   cases hL:ρ id with
   | none=>rw[hL]at hB0;exact hB0
   | some L =>
    rw[hL]at hB0
    obtain ⟨g1,g2,_⟩:=hout id b L hx hb0 hL
    have hblk:w'.heap[L.b]? = w.heap[L.b]? := hfr.keep _ g1 g2
    refine ⟨hB0.1,hB0.2.1,λ j hj => ?_,λ j c hc => ?_⟩
    ·obtain ⟨f1,f2,f3⟩:=hB0.2.2.1 j hj
     exact ⟨by rw[World.cell?_of_block (w:=w) hblk];exact f1,by simpa only[World.frozen?,hblk] using f2,λ hz k=>by simpa only[World.frozen?,hblk] using f3 hz k⟩
    ·obtain ⟨u,hu,hr⟩:=hB0.2.2.2 j c hc
     exact ⟨u,by rw[World.cell?_of_block (w:=w) hblk];exact hu,(hr.mono hShw hHLe).incl hC3⟩
 ·intro id b L hb hL
  obtain ⟨g1,g2,g3⟩:=hown id b L hb hL
  exact ⟨g1,g2, .inr (.inl ⟨id,b,L,hb,hL,rfl⟩)⟩
 ·intro id id' b b' L L' hb hb' hL hL' he
  by_cases hx:∃ j,j < h1.length/\σ j=id<;>by_cases hx':∃ j,j < h1.length/\σ j=id'
  ·obtain ⟨j,hj,rfl⟩:=hx
   obtain ⟨j',hj',rfl⟩:=hx'
   obtain ⟨b0,e1,_⟩:=hlive j b hj hb
   obtain ⟨b0',e1',_⟩:=hlive j' b' hj' hb'
   rw[hρ3 j hj]at hL
   rw[hρ3 j' hj']at hL'
   rw[hR.inj j j' b0 b0' L L' e1 e1' hL hL' he]
  ·obtain ⟨j,hj,rfl⟩:=hx
   obtain ⟨b0,e1,_⟩:=hlive j b hj hb
   rw[hρ3 j hj]at hL
   obtain ⟨f1,f2⟩:=hno3 id' hx'
   have f1':h3 id'=.live b':=hb'
   rw[f1]at f1'
   have f2':ρ3 id'=some L':=hL'
   rw[f2]at f2'
   obtain ⟨g1,g2,g3⟩:=hout id' b' L' hx' f1' f2'
   rcases (hR.own j b0 L e1 hL).2.2 with g|g
   ·omega
   ·exact absurd (he▸g) g2
  ·obtain ⟨j,hj,rfl⟩:=hx'
   obtain ⟨b0,e1,_⟩:=hlive j b' hj hb'
   rw[hρ3 j hj]at hL'
   obtain ⟨f1,f2⟩:=hno3 id hx
   have f1':h3 id=.live b:=hb
   rw[f1]at f1'
   have f2':ρ3 id=some L:=hL
   rw[f2]at f2'
   obtain ⟨g1,g2,g3⟩:=hout id b L hx f1' f2'
   rcases (hR.own j b0 L' e1 hL').2.2 with g|g
   ·omega
   ·exact absurd (he.symm▸g) g2
  ·obtain ⟨f1,f2⟩:=hno3 id hx
   obtain ⟨f1',f2'⟩:=hno3 id' hx'
   exact R.hp.inj id id' b b' L L' (by rw[<-f1];exact hb) (by rw[<-f1'];exact hb') (by rw[<-f2];exact hL) (by rw[<-f2'];exact hL') he
 ·refine ⟨D3,λ id b hb => ?_,λ id b k hb ho=>⟨(hdown id b k hb ho).1,(hdown id b k hb ho).2.1, .inr (.inr ⟨id,b,hb,ho⟩)⟩,λ id b id' b' L k hb ho hb' hL he => ?_,λ id id' b b' k hb hb' ho ho' => ?_,λ id b p p' k hb hp hp' => ?_,λ id b p L hb hL => ?_⟩
  ·by_cases hx:∃ j,j < h1.length/\σ j=id
   ·obtain ⟨j,hj,rfl⟩:=hx
    obtain ⟨b0,e1,rfl⟩:=hdeep j b hj hb
    have hA:=HD'.at_ j b0 e1
    unfold DeepAt at hA ⊢
    rw[hρ3 j hj,hD3 j hj]
    cases hL:ρ' j with
    | none =>
     rw[hL]at hA
     simp only at hA ⊢
     exact ⟨by rw[hA.1];rfl,hA.2.1,hA.2.2⟩
    | some L =>
     rw[hL]at hA
     simp only at hA ⊢
     obtain ⟨a1,a2,a3,a4,a5⟩:=hA
     refine ⟨by simpa using a1,by simpa using a2,by simpa using a3,a4,λ i c' hc' => ?_⟩
     rw[List.getElem?_map]at hc'
     cases hci:b0.cs[i]? with
     | none=>rw[hci]at hc';cases hc'
     | some c0 =>
      rw[hci]at hc'
      cases hc'
      obtain ⟨u,hu,hr⟩:=a5 i c0 hci
      exact ⟨u,hu,hr.back hB⟩
   ·have e1:φ.heap id=.deep b:=by rw[<-(hno3 id hx).1];exact hb
    have hA:=HD.at_ id b e1
    unfold DeepAt at hA ⊢
    rw[(hno3 id hx).2,hD3n id hx]
    cases hL:ρ id with
    | none=>rw[hL]at hA;exact hA
    | some L =>
     rw[hL]at hA
     obtain ⟨a1,a2,a3,a4,a5⟩:=hA
     have hk:w'.heap[L.b]? = w.heap[L.b]? := by
      obtain ⟨g1,g2,_⟩:=hdo id b L.b hx e1 (.inl ⟨L,hL,rfl⟩)
      exact hfr.keep _ g1 g2
     refine ⟨a1,a2,a3,λ j hj => ?_,λ j c hc => ?_⟩
     ·rw[World.cell?_of_block (w:=w) hk,World.frozen?_of_block (w:=w) hk]
      exact ⟨(a4 j hj).1,(a4 j hj).2.1,λ hz i=>by rw[World.frozen?_of_block (w:=w) hk];exact (a4 j hj).2.2 hz i⟩
     ·obtain ⟨u,hu,hc'⟩:=a5 j c hc
      exact ⟨u,by rw[World.cell?_of_block (w:=w) hk];exact hu,hc'.mono (λ k hk=>by
       obtain ⟨g1,g2,_⟩:=hdo id b k hx e1 (.inr ⟨j,hk⟩)
       exact hfr.keep _ g1 g2) (λ k hk=>⟨hC3 k hk,hShw k hk⟩) hHLe⟩
  ·by_cases hx:∃ j,j < h1.length/\σ j=id<;>by_cases hx':∃ j,j < h1.length/\σ j=id'
   ·obtain ⟨j,hj,rfl⟩:=hx
    obtain ⟨j',hj',rfl⟩:=hx'
    obtain ⟨b0,e1,_⟩:=hdeep j b hj hb
    obtain ⟨b0',e1',_⟩:=hlive j' b' hj' hb'
    have hL':ρ3 (σ j')=some L:=hL
    rw[hρ3 j' hj']at hL'
    exact HD'.apart j b0 j' b0' L k e1 (hocc j k hj ho) e1' hL' he
   ·obtain ⟨j,hj,rfl⟩:=hx
    obtain ⟨b0,e1,_⟩:=hdeep j b hj hb
    obtain ⟨f1,f2⟩:=hno3 id' hx'
    obtain ⟨g1,g2,g3⟩:=hout id' b' L hx' (by rw[<-f1];exact hb') (by rw[<-f2];exact hL)
    rcases (HD'.own j b0 k e1 (hocc j k hj ho)).2.2 with g|g
    ·omega
    ·exact g2 (he▸g)
   ·obtain ⟨j',hj',rfl⟩:=hx'
    obtain ⟨b0',e1',_⟩:=hlive j' b' hj' hb'
    have hL':ρ3 (σ j')=some L:=hL
    rw[hρ3 j' hj']at hL'
    obtain ⟨g1,g2,_⟩:=hdo id b k hx (by rw[<-(hno3 id hx).1];exact hb) (hoccn id k hx ho)
    rcases (hR.own j' b0' L e1' hL').2.2 with g|g
    ·omega
    ·exact g2 (he▸g)
   ·obtain ⟨f1,f2⟩:=hno3 id hx
    obtain ⟨f1',f2'⟩:=hno3 id' hx'
    exact HD.apart id b id' b' L k (by rw[<-f1];exact hb) (hoccn id k hx ho) (by rw[<-f1'];exact hb') (by rw[<-f2'];exact hL) he
  ·by_cases hx:∃ j,j < h1.length/\σ j=id<;>by_cases hx':∃ j,j < h1.length/\σ j=id'
   ·obtain ⟨j,hj,rfl⟩:=hx
    obtain ⟨j',hj',rfl⟩:=hx'
    obtain ⟨b0,e1,_⟩:=hdeep j b hj hb
    obtain ⟨b0',e1',_⟩:=hdeep j' b' hj' hb'
    rw[HD'.inj j j' b0 b0' k e1 e1' (hocc j k hj ho) (hocc j' k hj' ho')]
   ·obtain ⟨j,hj,rfl⟩:=hx
    obtain ⟨b0,e1,_⟩:=hdeep j b hj hb
    obtain ⟨g1,g2,_⟩:=hdo id' b' k hx' (by rw[<-(hno3 id' hx').1];exact hb') (hoccn id' k hx' ho')
    rcases (HD'.own j b0 k e1 (hocc j k hj ho)).2.2 with g|g
    ·omega
    ·exact absurd g g2
   ·obtain ⟨j',hj',rfl⟩:=hx'
    obtain ⟨b0',e1',_⟩:=hdeep j' b' hj' hb'
    obtain ⟨g1,g2,_⟩:=hdo id b k hx (by rw[<-(hno3 id hx).1];exact hb) (hoccn id k hx ho)
    rcases (HD'.own j' b0' k e1' (hocc j' k hj' ho')).2.2 with g|g
    ·omega
    ·exact absurd g g2
   ·obtain ⟨f1,f2⟩:=hno3 id hx
    obtain ⟨f1',f2'⟩:=hno3 id' hx'
    exact HD.inj id id' b b' k (by rw[<-f1];exact hb) (by rw[<-f1'];exact hb') (hoccn id k hx ho) (hoccn id' k hx' ho')
  ·by_cases hx:∃ j,j < h1.length/\σ j=id
   ·obtain ⟨j,hj,rfl⟩:=hx
    obtain ⟨b0,e1,_⟩:=hdeep j b hj hb
    rw[hD3 j hj]at hp hp'
    exact HD'.one j b0 p p' k e1 hp hp'
   ·rw[hD3n id hx]at hp hp'
    exact HD.one id b p p' k (by rw[<-(hno3 id hx).1];exact hb) hp hp'
  ·by_cases hx:∃ j,j < h1.length/\σ j=id
   ·obtain ⟨j,hj,rfl⟩:=hx
    obtain ⟨b0,e1,_⟩:=hdeep j b hj hb
    have hL':ρ3 (σ j)=some L:=hL
    rw[hρ3 j hj]at hL'
    rw[hD3 j hj]
    exact HD'.out j b0 p L e1 hL'
   ·have hL':ρ3 id=some L:=hL
    rw[(hno3 id hx).2]at hL'
    rw[hD3n id hx]
    exact HD.out id b p L (by rw[<-(hno3 id hx).1];exact hb) hL'
 ·obtain ⟨g1,g2⟩:=R.init id hid
  by_cases hx:∃ j,j < h1.length/\σ j=id
  ·obtain ⟨j,hj,rfl⟩:=hx
   by_cases hjb:j < bs.length
   ·obtain ⟨id,e1,e2⟩:=hσ1 j hjb
    refine ⟨?_,?_⟩
    ·show h3 (σ j)≠.no
     rw[hh3 j hj]
     have:=(hinit j hjb).1
     cases hs:hOf h1 j with
     | no=>exact absurd hs this
     | _=>simp[backH]
    ·rw[hρ3 j hj,(hinit j hjb).2,hρ2 j id e1,<-e2,g2]
   ·exact absurd (hσno j hj hjb) g1
  ·obtain ⟨f1,f2⟩:=hno3 id hx
   exact ⟨by show h3 id≠.no;rw[f1];exact g1,by rw[f2,g2]⟩
end Go.Fm
namespace Go.Fm
variable [Globs]
open Classical
theorem call_actx {P:Program} {o:Oper} {φ:St} {nid:Nat} {c:Call} {x:Operand} {f:FuncId} {caps:List CV} {ps1 ps:List PV} {π:List Nat} {fuel:Nat} {rd1 rd2:List Nat} {bs h1:List HS} {r:SV}
  (ho:o.op=.call c) (hc:c.callee=.value x) (hx:φ.ev x=one (.fn f caps)) (hps:argsP (c.args.toList.map φ.ev)=some ps1)
  (hl:lendPs (lendP φ.heap π fuel) (ps1++caps.map .one)=some (rd1,ps)) (hb:lendH φ.heap π fuel π=some (rd2,bs)) (hnd:nodB π=true) (hk:keepOk bs h1=true)
  (hm:Meets P f ps bs r h1):ActX P o φ nid (callA π nid (rd1++rd2) bs.length r h1):=by
 intro C hP φ' a w hag hR hd K Q hK
 obtain ⟨C1,hreb,ρ,R⟩:=hR
 have hevx:φ'.ev x=φ.ev x:=hag.env x (by simp[ho,Op.operands,Call.operands,hc])
 have hevs:c.args.toList.map φ'.ev=c.args.toList.map φ.ev:=List.map_congr_left λ y hy=>hag.env y (by simp only[ho,Op.operands,Call.operands];exact Array.mem_append_right _ (by simpa using hy))
 have hag1:∀ y ∈ rd1++rd2,φ'.heap y=φ.heap y:=hag.hp
 have hl':=lendPs_congr hl (g':=lendP φ'.heap π fuel) (λ c c' r e1 e2=>lendP_congr e1 (λ y hy=>hag1 y (List.mem_append_left _ (e2 y hy))))
 have hb':=lendH_congr hb (h':=φ'.heap) (λ y hy=>hag1 y (List.mem_append_right _ hy))
 obtain ⟨hbl,hbm,hbg⟩:=lendH_some hb'
 have hlen1:bs.length=π.length:=hbl
 -- the callee's value and the arguments
 have hfx:=R.ev x
 rw[hevx,hx]at hfx
 obtain ⟨vsc,hvx,hvl,hvp⟩:=hfx
 have hpm:=argsP_some hps
 have hargs:∀ (i:Nat) (p:PV),(ps1++caps.map .one)[i]? = some p->∃ u:Value,(c.args.toList.map a.eval++vsc)[i]? = some u/\RPV w C1.Sh ρ φ'.heap u p:=by
  have hl1:ps1.length=c.args.toList.length:=by
   have:=congrArg List.length hpm
   simpa using this.symm
  intro i p hp
  by_cases hi:i < ps1.length
  ·rw[List.getElem?_append_left hi]at hp
   rw[List.getElem?_append_left (by simpa [<-hl1] using hi)]
   have hi2:i < c.args.toList.length:=by omega
   refine ⟨a.eval c.args.toList[i],by rw[List.getElem?_map,List.getElem?_eq_getElem hi2];rfl,?_⟩
   have h1:=R.ev c.args.toList[i]
   have h2:φ'.ev c.args.toList[i]=.pv p:=by
    have:(c.args.toList.map φ'.ev)[i]? = some (.pv p):=by rw[hevs,hpm,List.getElem?_map,hp];rfl
    rw[List.getElem?_map,List.getElem?_eq_getElem hi2]at this
    exact Option.some.inj this
   rw[h2]at h1
   exact h1
  ·have hi:=Nat.le_of_not_lt hi
   rw[List.getElem?_append_right hi]at hp
   rw[List.getElem?_append_right (by simpa [<-hl1] using hi)]
   rw[List.getElem?_map]at hp
   cases hci:caps[i-ps1.length]? with
   | none=>rw[hci]at hp;cases hp
   | some c0 =>
    rw[hci]at hp
    cases hp
    obtain ⟨u,hu,id,off,rfl,hr⟩:=hvp _ _ hci
    refine ⟨u,by simpa [<-hl1] using hu,?_⟩
    exact hr
 -- the callee's beginning
 let F:Nat->Prop:=λ id=>id ∈ rd1++rd2
 obtain ⟨D,HD⟩:=R.hp.dp
 let Sh2:Nat->Prop:=λ k=>C1.Sh k\/∃ id,id ∉ π/\F id/\Lies ρ φ'.heap D id k
 let ρ2:Rho:=λ j=>(π[j]?).bind ρ
 let O2:Nat->Prop:=λ k=>∃ id,id ∈ π/\Lies ρ φ'.heap D id k
 have hbs:∀ j id,π[j]? = some id->∀ l,HLe (φ'.heap id) l (hOf bs j) l:=λ j id hj l=>by
  rcases hbg j id hj with ⟨e1,e2⟩|⟨b,cs,r,e1,e2,e3,e4⟩|⟨b,cs,r,e1,e2,e3,e4⟩
  ·rw[e1,hOf_get e2];trivial
  ·rw[e1,hOf_get e2];exact ⟨rfl,rfl,rfl⟩
  ·rw[e1,hOf_get e2];exact ⟨rfl,rfl,rfl⟩
 have hρ2:∀ j id,π[j]? = some id->ρ2 j=ρ id:=λ j id hj=>by simp only[ρ2,hj,Option.bind_some]
 have H:Lent w C1.Sh ρ φ'.heap π F Sh2 ρ2 (hOf bs) :=
  ⟨R.hp.blk,λ k hk=>.inl hk,λ id b L e1 e2 e3 e4=>.inr ⟨id,e2,e3, .inl ⟨b,L,e1,e4,rfl⟩⟩,λ id b e1 e2 e3=>⟨D id,HD.at_ id b e1,λ L hL=>.inr ⟨id,e2,e3, .inr ⟨b,e1, .inl ⟨L,hL,rfl⟩⟩⟩,λ p k hp=>.inr ⟨id,e2,e3, .inr ⟨b,e1, .inr ⟨p,hp⟩⟩⟩⟩,λ j id hj=>⟨hρ2 j id hj,λ _=>hbs j id hj _⟩⟩
 have hold:∀ k,Sh2 k->k < w.heap.size/\¬ O2 k:=λ k hk=>by
  rcases hk with hk|⟨id,e2,e3,e4⟩
  ·exact ⟨R.sh_lt hk,λ ⟨id,e0,e1⟩=>(e1.own R.hp HD).2.1 hk⟩
  ·exact ⟨(e4.own R.hp HD).1,λ ⟨id',g0,g1⟩=>e2 (g1.inj e4 R.hp HD▸g0)⟩
 let C2:Ctx:={ P:=C1.P,w0:=w,Sh:=Sh2,O:=O2,rho0:=ρ2,k0:=bs.length,nt:=0,old:=hold,gl:=λ g cs hg=>(C1.gl g cs hg).mono λ k hk=>⟨.inl hk,R.fr.keep k (C1.old k hk).1 (C1.old k hk).2⟩ }
 have hlive:∀ j b',hOf bs j=.live b'->∃ id b r,π[j]? = some id/\φ'.heap id=.live b/\b'.sz=b.sz/\b'.n=b.n/\lendAll (lendC φ'.heap π fuel) b.cs=some (r,b'.cs)/\∀ y ∈ r,y ∈ rd2:=λ j b' hj=>by
  have hjl:=hOf_ne (l:=bs) (j:=j) (by rw[hj];simp)
  have hjl':j < π.length:=by omega
  rcases hbg j _ (List.getElem?_eq_getElem hjl') with ⟨e1,e2⟩|⟨b,cs,r,e1,e2,e3,e4⟩|⟨b,cs,r,e1,e2,e3,e4⟩
  ·rw[hOf_get e2]at hj;cases hj
  ·rw[hOf_get e2]at hj;cases hj;exact ⟨_,b,r,List.getElem?_eq_getElem hjl',e1,rfl,rfl,e3,e4⟩
  ·rw[hOf_get e2]at hj;cases hj
 have hnd':=nodB_spec hnd
 have hHR:HeapRel w Sh2 O2 ρ2 (hOf bs) w:=by
  refine ⟨λ j b' hj => ?_,λ j b' L hj hL => ?_,λ j j' b b' L L' hj hj' hL hL' he => ?_,_,HD.lent H hb' hnd' (λ y hy=>List.mem_append_right _ hy) λ id b k hm e1 e2=>⟨λ h=>(hold _ h).2 ⟨id,hm, .inr ⟨b,e1,e2⟩⟩, .inr ⟨id,hm, .inr ⟨b,e1,e2⟩⟩⟩⟩
  ·obtain ⟨id,b,r,e0,e1,e2,e3,e4,e5⟩:=hlive j b' hj
   have hB:=R.hp.blk id b e1
   unfold RB at hB ⊢
   rw[hρ2 j id e0]
   obtain ⟨g1,g2⟩:=lendAll_some e4
   cases hL:ρ id with
   | none =>
    rw[hL]at hB
    simp only at hB ⊢
    rw[hB.1]at g1
    exact ⟨List.eq_nil_of_length_eq_zero g1,by rw[e3];exact hB.2⟩
   | some L =>
    rw[hL]at hB
    simp only at hB ⊢
    refine ⟨by rw[g1,e2,e3];exact hB.1,by rw[g1];exact hB.2.1,by rw[e2];exact hB.2.2.1,λ i c' hc' => ?_⟩
    obtain ⟨c0,r0,f1,f2,f3⟩:=g2 i c' hc'
    obtain ⟨u,hu,hr⟩:=hB.2.2.2 i c0 f1
    exact ⟨u,hu,lendC_ok H fuel c0 c' r0 u f2 (λ y hy=>List.mem_append_right _ (e5 y (f3 y hy))) hr⟩
  ·obtain ⟨id,b,r,e0,e1,_⟩:=hlive j b' hj
   rw[hρ2 j id e0]at hL
   obtain ⟨g1,g2,g3⟩:=R.hp.own id b L e1 hL
   have hO:O2 L.b:=⟨id,List.mem_of_getElem? e0, .inl ⟨b,L,e1,hL,rfl⟩⟩
   exact ⟨g1,λ h=>(hold _ h).2 hO, .inr hO⟩
  ·obtain ⟨id,b0,r,e0,e1,_⟩:=hlive j b hj
   obtain ⟨id',b0',r',e0',e1',_⟩:=hlive j' b' hj'
   rw[hρ2 j id e0]at hL
   rw[hρ2 j' id' e0']at hL'
   have:=R.hp.inj id id' b0 b0' L L' e1 e1' hL hL' he
   subst this
   exact hnd' j j' id e0 e0'
 have hbno:∀ id,id < bs.length->hOf bs id≠.no:=λ j hj=>by
  rcases hbg j _ (List.getElem?_eq_getElem (by omega)) with ⟨e1,e2⟩|⟨b,cs,r,e1,e2,e3,e4⟩|⟨b,cs,r,e1,e2,e3,e4⟩
  ·rw[hOf_get e2];simp
  ·rw[hOf_get e2];simp
  ·rw[hOf_get e2];simp
 obtain ⟨hpl,hpg⟩:=lendPs_some hl'
 have hvlen:(c.args.toList.map a.eval++vsc).length=ps.length:=by
  rw[hpl]
  have:=congrArg List.length hpm
  simp only[List.length_map]at this
  simp only[List.length_append,List.length_map,this,hvl]
 have hserve:=hm C2 (c.args.toList.map a.eval++vsc) (hreb.P.trans hP) rfl hvlen (λ i p hp=>by
  obtain ⟨p0,r0,e1,e2,e3⟩:=hpg i p hp
  obtain ⟨u,hu,hr⟩:=hargs i p0 e1
  exact ⟨u,hu,lendP_ok H e2 (λ y hy=>List.mem_append_left _ (e3 y hy)) hr⟩) hHR hbno
 -- the run
 have hrun:(execOp a.eval o).run P w=(callFunc f (c.args.toList.map a.eval++vsc).toArray).run P w:=by
  have:(c.args.toList.map a.eval++vsc).toArray=c.args.map a.eval++vsc.toArray:=by
   apply Array.ext'
   simp
  simp[execOp,ho,resolve,hc,hvx,Deferred.ofValue,invoke,this]
 have hfin:∀ (v:Value) (w':World),(∃ (ρ':Rho) (Sh':Nat->Prop),HeapRel w Sh' O2 ρ' (hOf h1) w'/\RSV w' Sh' ρ' (hOf h1) v r ∧
   (∀ id,id < bs.length->hOf h1 id≠.no/\ρ' id=ρ2 id)/\Fr w O2 w'/\(∀ k,Sh2 k->Sh' k) ∧
   (∀ k,Sh' k->k < w'.heap.size/\(Sh2 k\/w.heap.size<=k\/O2 k)))->K (a.put o.dst v) w':=by
  intro v w' ⟨ρ',Sh',g1,g2,g3,g4,g5,g6⟩
  have hkb:=keepOk_get hk
  obtain ⟨C3,ρ3,hreb3,R3,hv3⟩:=merge R HD (π:=π) (nid:=nid) (Sh2:=Sh2) (O2:=O2) (Sh':=Sh') (bs:=bs) (h1:=h1) (keep:=allIn π (rd1++rd2)) (ρ2:=ρ2) (ρ':=ρ') (w':=w') hnd' hlen1
   (λ id hid=>by
    obtain ⟨j,hj⟩:=List.getElem?_of_mem hid
    rcases hbg j id hj with ⟨e1,_⟩|⟨b,cs,r,e1,_⟩|⟨b,cs,r,e1,_⟩<;>rw[e1]<;>simp)
   (λ i hi=>by
    have hg:(backHp (sig π bs.length nid) (allIn π (rd1++rd2)) 0 h1)[bs.length+i]? = some (nid+i,backH (sig π bs.length nid) (allIn π (rd1++rd2)) h1[bs.length+i]):=by
     rw[backHp_get,List.getElem?_eq_getElem hi]
     simp only[Option.map_some,Nat.zero_add,sig]
     rw[if_neg (by omega),Nat.add_sub_cancel_left]
    exact hag.fresh _ (List.mem_of_getElem? hg) (Nat.le_add_right _ _))
   (λ k hk=>.inl hk)
   (λ hkp k hk=>by
    rcases hk with hk|⟨id,e2,e3,_⟩
    ·exact hk
    ·exact absurd (allIn_mem hkp id e3) e2)
   (λ k h=>Lies.hO h) hρ2
   (λ j id hj l=>by
    have hj':j < bs.length:=by have:=(List.getElem?_eq_some_iff.1 hj).1;omega
    exact HLe.trans (hbs j id hj l) (hkb j hj' l))
   g1 g3 g4 g5 g6
  refine hK _ _ ⟨C3,hreb.trans hreb3,ρ3,?_⟩
  exact R3.put (λ t ht=>by rw[(hreb.trans hreb3).nt];exact hd t ht) (hv3 v r g2)
 unfold Oper.wp
 rw[hrun]
 unfold Serves at hserve
 generalize (callFunc f (c.args.toList.map a.eval++vsc).toArray).run P w=res at hserve ⊢
 cases res with
 | halt h w'=>exact hserve.elim
 | ok n w' =>
  cases n<;>try exact hserve.elim
  ·exact hfin _ _ hserve
  ·rename_i g as
   refine Calls.mono hserve λ e w'' he => ?_
   cases e with
   | returned v=>exact hfin v w'' he
   | panicked ch=>exact he.elim
   | outgrown=>exact he.elim
end Go.Fm
