import Derived.Test.YtmedombacbpofaaGreatDoorML
set_option linter.all false
namespace Go.Proofs.YtmedombacbpofaaGreatDoor
open Go Go.Fm
set_option maxRecDepth 100000
def trD (d:GDef):List GTree:=tr d.Body
structure DfOk (defs:List GDef):Prop where
 n:defs.length<=24
 s:∀ d ∈ defs,shapeB d.Body=true
 c:∀ d ∈ defs,d.Body.any (tooFar defs.length)=false
theorem dfOk {defs:List GDef} (h:defsB defs=true):DfOk defs:=by
 unfold defsB at h
 rw[Bool.and_eq_true,decide_eq_true_eq,List.all_eq_true]at h
 refine ⟨h.1,λ d hd => ?_,λ d hd => ?_⟩
 ·have:=h.2 d hd
  unfold defB at this
  rw[Bool.and_eq_true]at this
  exact this.1
 ·have:=h.2 d hd
  unfold defB at this
  rw[Bool.and_eq_true,Bool.not_eq_true']at this
  exact this.2
theorem dfOk_iff {defs:List GDef} (h:DfOk defs):defsB defs=true:=by
 unfold defsB defB
 rw[Bool.and_eq_true,decide_eq_true_eq,List.all_eq_true]
 refine ⟨h.n,λ d hd => ?_⟩
 rw[h.s d hd,h.c d hd];rfl
theorem pt_of {m:Nat} {o:GOp} (h1:okB o=true) (h2:i32B o.N) (h3:tooFar m o=false):PT m o.Kind o.N:=by
 refine ⟨λ _=>h2,λ hk=>okB_word h1 hk,λ hk=>⟨okB_call h1 hk,?_⟩⟩
 unfold tooFar at h3
 rw[hk]at h3
 simp only[beq_self_eq_true,Bool.true_and,decide_eq_false_iff_not]at h3
 omega
theorem treesOk {defs:List GDef} (hd:DfOk defs) (h32:∀ d ∈ defs,∀ o ∈ d.Body,i32B o.N):TreesOk (defs.map trD):=by
 refine ⟨by rw[List.length_map];exact hd.n,λ T hT => ?_,λ T hT => ?_⟩
 ·obtain ⟨d,hm,rfl⟩:=List.mem_map.1 hT
  have t:=tr_ok (hd.s d hm)
  obtain ⟨h60,hok⟩:=shape_ok (hd.s d hm)
  rw[List.length_map]
  have hfl:flS (trD d)=d.Body:=t.fl
  refine okS_of _ t.gd (by rw[hfl];exact h60) λ o ho => ?_
  rw[hfl]at ho
  have:=List.any_eq_false.1 (hd.c d hm) o ho
  exact pt_of (hok o ho) (h32 d hm o ho) (by simpa using this)
 ·obtain ⟨d,hm,rfl⟩:=List.mem_map.1 hT
  exact (tr_ok (hd.s d hm)).l
theorem means_l0 {defs:List GDef} (hd:DfOk defs) (st:GSt):∀ (f i:Nat) (acc:List (List GTree)),i<=defs.length->defs.length-i < f->acc.length+(defs.length-i)<=100->g_impl_Means_l0 defs (defs.length:Int) f (i:Int) ⟨acc,st⟩=some ⟨acc++(defs.drop i).map trD,st⟩:=by
 intro f
 induction f with
 | zero=>intro i acc h0 h1;omega
 | succ f ih =>
  intro i acc h0 h1 h2
  have hn:=hd.n
  rw[g_impl_Means_l0]
  by_cases hi:i < defs.length
  ·rw[decide_eq_true (by omega),cond_true,getI_nat,List.getElem?_eq_getElem hi,Option.bind_some,(tr_ok (hd.s _ (List.getElem_mem hi))).e,Option.bind_some]
   show ((app acc [tr defs[i].Body]).bind λ v_18=>g_impl_Means_l0 defs (defs.length:Int) f (IntKind.wrap .i64 ((i:Int)+1)) (⟨v_18,st⟩:GMeaning))=_
   rw[app_eq (by simp;omega),Option.bind_some,nxt (by omega),ih (i+1) _ (by omega) (by omega) (by simp;omega),List.drop_eq_getElem_cons hi,List.map_cons,List.append_assoc];rfl
  ·rw[decide_eq_false (by omega),cond_false,List.drop_eq_nil_of_le (by omega),List.map_nil,List.append_nil]
theorem means_ok {defs:List GDef} (hw:DW defs) (hd:DfOk defs) (h32:∀ d ∈ defs,∀ o ∈ d.Body,i32B o.N) {st:GSt} (h:SG st) (hf:st.Fault=0) {k:Int} (hk0:0<=k) (hk1:k < defs.length) :
  g_impl_Means defs k st=some (enterE (defs.map trD) (evE (defs.map trD) bigK) k st)/\SG (enterE (defs.map trD) (evE (defs.map trD) bigK) k st):=by
 have hn:=hd.n
 obtain ⟨e,g,_⟩:=enter_ok (treesOk hd h32) hk0 (by rw[List.length_map];exact hk1) h hf
 refine ⟨?_,g⟩
 unfold g_impl_Means
 rw[defsOk_impl hw,dfOk_iff hd,Option.bind_some,Bool.not_true,cond_false,within_eq,wI64 (by omega) (by omega),decide_eq_true (by omega),goes_of h.b hf,ownS h.b]
 simp only[Option.bind_some,Bool.not_true,cond_false]
 have l:=means_l0 hd st bigK 0 [] (Nat.zero_le _) (by unfold bigK;omega) (by simp;omega)
 rw[List.nil_append,List.drop_zero,show ((0:Nat):Int)=0 from rfl]at l
 rw[l]
 simp only[Option.bind_some]
 rw[e,Option.bind_some,ownS g.b];rfl
end Go.Proofs.YtmedombacbpofaaGreatDoor
namespace Go.Proofs.YtmedombacbpofaaGreatDoor
open Go Go.Fm
set_option maxRecDepth 100000
def reN (r:List Int) (k n:Int):Int:=if k=2 then IntKind.wrap .i32 (ixI (IntKind.wrap .i64 n) r 0) else n
mutual
def reT (r:List Int):GTree->GTree
 | ⟨k,n,ks⟩=>⟨k,reN r k n,reS r ks⟩
def reS (r:List Int):List GTree->List GTree
 | []=>[]
 | t::l=>reT r t::reS r l
end
theorem reOp_eq (r:List Int) (k n:Int):reOp r ⟨k,n⟩=⟨k,reN r k n⟩:=by
 unfold reOp reN
 show (if k=2 then _ else _)=_
 by_cases h:k=2
 ·rw[if_pos h,if_pos h]
 ·rw[if_neg h,if_neg h]
theorem reN_end (r:List Int) (k n:Int):reN r (endsK k) n=n:=by
 have h:endsK k≠2:=by unfold endsK;split<;>omega
 unfold reN
 rw[if_neg h]
mutual
theorem reT_fl (r:List Int):∀ t:GTree,flT (reT r t)=(flT t).map (reOp r)
 | ⟨k,n,ks⟩=>by
  rw[reT,flT,flT,List.map_cons,reOp_eq]
  cases hn:nestB k with
  | true =>
   rw[if_pos rfl,if_pos rfl,List.map_append,reS_fl r ks]
   show _=_::(_++[reOp r ⟨endsK k,0⟩])
   rw[reOp_eq,reN_end]
  | false=>rw[if_neg (by simp),if_neg (by simp)];rfl
theorem reS_fl (r:List Int):∀ l:List GTree,flS (reS r l)=(flS l).map (reOp r)
 | []=>rfl
 | t::l=>by rw[reS,flS,flS,List.map_append,reT_fl r t,reS_fl r l]
end
mutual
theorem reT_gd (r:List Int):∀ t:GTree,gdT t->gdT (reT r t)
 | ⟨k,n,ks⟩,h=>by
  rw[gdT]at h
  rw[reT,gdT]
  exact ⟨h.1,h.2.1,λ e=>by rw[h.2.2.1 e];rfl,reS_gd r ks h.2.2.2⟩
theorem reS_gd (r:List Int):∀ l:List GTree,gdS l->gdS (reS r l)
 | [],h=>trivial
 | t::l,h=>by
  rw[gdS]at h
  rw[reS,gdS]
  exact ⟨reT_gd r t h.1,reS_gd r l h.2⟩
end
theorem tr_re {r:List Int} {b:List GOp} (h:shapeB b=true) (h2:shapeB (b.map (reOp r))=true):tr (b.map (reOp r))=reS r (tr b):=by
 have t:=tr_ok h
 have t2:=tr_ok h2
 exact flS_inj t2.gd (reS_gd r _ t.gd) (by rw[t2.fl,reS_fl,t.fl])
theorem allE_exit {trs:List (List GTree)} {ev:EV} {t:GTree} (h8:t.Kind=8):∀ (a:List GTree) (st:GSt),(allE trs ev (a++[t]) st).1=true\/(allE trs ev (a++[t]) st).2.Fault≠0
 | [],st=>by
  rw[List.nil_append,allE]
  have he:(oneE trs ev t st).1=true\/(oneE trs ev t st).2.Fault≠0:=by
   unfold oneE restE
   rw[h8]
   by_cases h0:st.Fuel=0
   ·rw[if_pos h0];exact .inr (by show (6:Int)≠0;omega)
   ·rw[if_neg h0,if_neg (by omega),if_neg (by omega),if_neg (by omega),if_pos rfl]
    split
    ·exact .inr (by show (11:Int)≠0;omega)
    ·exact .inl rfl
  by_cases e1:(oneE trs ev t st).1=true
  ·rw[if_pos e1];exact .inl rfl
  ·rw[if_neg e1,if_pos (he.resolve_left e1)];exact .inr (he.resolve_left e1)
 | x::a,st=>by
  rw[List.cons_append,allE]
  by_cases e1:(oneE trs ev x st).1=true
  ·rw[if_pos e1];exact .inl rfl
  ·rw[if_neg e1]
   by_cases e2:(oneE trs ev x st).2.Fault=0
   ·rw[if_neg (by simp[e2])]
    exact allE_exit h8 a _
   ·rw[if_pos e2];exact .inr e2
section
variable {defs:List GDef} {kk:Int} {r:List Int}
abbrev TD (defs:List GDef):List (List GTree):=defs.map trD
abbrev TR (defs:List GDef) (r:List Int):List (List GTree):=(r.map (shD defs r)).map trD
def PC (m:Nat) (r:List Int) (k n:Int):Prop:=PT m k n/\(k=2->IntKind.wrap .i64 n ∈ r)
theorem okS_mono {P Q:Int->Int->Prop} (h:∀ k n,P k n->Q k n) {l:List GTree} (hl:OkS P l):OkS Q l:=by
 induction hl with
 | nil=>exact .nil
 | cons a b c d ih1 ih2=>exact .cons (h _ _ a) b ih1 ih2
theorem td_len:(TD defs).length=defs.length:=by rw[List.length_map]
theorem body_ok2 (hd:DG defs) (h32:∀ d ∈ defs,∀ o ∈ d.Body,i32B o.N) (h:IsR defs kk r) {x:Int} (hx:x ∈ r):OkS (PC defs.length r) (tr (bodyAt defs x))/\(tr (bodyAt defs x)).length<=60:=by
 have hv:=h.v x hx
 obtain ⟨d,e1,e2,e3⟩:=hd.at hv.1 hv.2
 have hs:=hd.s d e2
 have t:=tr_ok hs
 obtain ⟨h60,hok⟩:=shape_ok hs
 rw[e3]
 refine ⟨okS_of _ t.gd (by rw[t.fl];exact h60) λ o ho => ?_,t.l⟩
 rw[t.fl]at ho
 refine ⟨⟨λ _=>h32 d e2 o ho,λ hk=>okB_word (hok o ho) hk,λ hk => ?_⟩,λ hk => ?_⟩
 ·have:=h.next hx (y:=IntKind.wrap .i64 o.N) (by
   unfold nx;rw[e3]
   exact List.mem_append_left _ (((callsL_ok (shape_len hs)).m _).2 ⟨o,ho,hk,rfl⟩))
  exact h.v _ this
 ·refine h.next hx ?_
  unfold nx;rw[e3]
  exact List.mem_append_left _ (((callsL_ok (shape_len hs)).m _).2 ⟨o,ho,hk,rfl⟩)
theorem ix_next (h:IsR defs kk r) {x:Int} {j:Nat} (hj:r[j]? = some x) (hx1:x+1 ∈ r):r[j+1]? = some (x+1):=by
 obtain ⟨i,hi,hgi,ei⟩:=h.ix hx1
 have hjl:j < r.length:=(List.getElem?_eq_some_iff.1 hj).1
 have hp:=List.pairwise_iff_getElem.1 h.asc
 have gj:r[j]=x:=by rw[List.getElem?_eq_getElem hjl]at hj;exact Option.some.inj hj
 have gi:r[i]=x+1:=by rw[List.getElem?_eq_getElem hi]at hgi;exact Option.some.inj hgi
 have hij:i=j+1:=by
  rcases Nat.lt_trichotomy i j with hlt|heq|hgt
  ·have:=hp i j hi hjl hlt;omega
  ·subst heq;omega
  ·by_cases h3:i=j+1
   ·exact h3
   ·have hm:j+1 < r.length:=by omega
    have a1:=hp j (j+1) hjl hm (by omega)
    have a2:=hp (j+1) i hm hi (by omega)
    omega
 rw[<-hij];exact hgi
theorem tr_at (h:IsR defs kk r) {j:Nat} {x:Int} (hj:r[j]? = some x):(TR defs r)[j]? = some (tr ((bodyAt defs x).map (reOp r))):=by
 unfold TR
 rw[List.getElem?_map,List.getElem?_map,hj];rfl
theorem td_at {x:Int} (h0:0<=x) (h1:x < defs.length):(TD defs)[x.toNat]? = some (tr (bodyAt defs x)):=by
 unfold TD bodyAt
 rw[List.getElem?_map,List.getElem?_eq_getElem (by omega)];rfl
theorem drop_get {α:Type} {l:List α} {i:Nat} {x:α} (h:l[i]? = some x):l.drop i=x::l.drop (i+1):=by
 obtain ⟨hi,e⟩:=List.getElem?_eq_some_iff.1 h
 rw[List.drop_eq_getElem_cons hi,e]
variable {n:Nat}
def Alike (defs:List GDef) (r:List Int) (n:Nat):Prop:=∀ (l:List GTree) (st:GSt),OkS (PC defs.length r) l->l.length<=60->SG st->st.Fault=0->st.Fuel.toNat < n->evE (TR defs r) n (reS r l) st=evE (TD defs) n l st
theorem enterL_re (hd:DG defs) (h32:∀ d ∈ defs,∀ o ∈ d.Body,i32B o.N) (hT:TreesOk (TD defs)) (h:IsR defs kk r) (A:Alike defs r n):∀ (m:Nat) (x:Int) (j:Nat) (st:GSt),x ∈ r->r[j]? = some x->defs.length-x.toNat < m->SG st->st.Fault=0->st.Fuel.toNat < n →
  enterL (evE (TR defs r) n) ((TR defs r).drop j) st=enterL (evE (TD defs) n) ((TD defs).drop x.toNat) st:=by
 intro m
 induction m with
 | zero=>intro x j st h0 h1 h2;omega
 | succ m ih =>
  intro x j st hx hj hm hs hf hu
  have hv:=h.v x hx
  obtain ⟨d,e1,e2,e3⟩:=hd.at hv.1 hv.2
  obtain ⟨hs1,hs2⟩:=sh_ok hd h hx
  have hsd:=hd.s d e2
  obtain ⟨o1,o2⟩:=body_ok2 hd h32 h hx
  have hsb:shapeB (bodyAt defs x)=true:=by rw[e3];exact hsd
  rw[drop_get (tr_at h hj),drop_get (td_at hv.1 hv.2),enterL,enterL,tr_re hsb hs1,A _ st o1 o2 hs hf hu]
  by_cases hc:(evE (TD defs) n (tr (bodyAt defs x)) st).1=true\/(evE (TD defs) n (tr (bodyAt defs x)) st).2.Fault≠0
  ·rw[if_pos hc,if_pos hc]
  ·rw[if_neg hc,if_neg hc]
   have hok1:OkS (PT (TD defs).length) (tr (bodyAt defs x)):=by
    rw[td_len];exact okS_mono (λ _ _ hp=>hp.1) o1
   obtain ⟨g1,g2⟩:=(evE_ok hT n).g _ st hok1 o2 hs hf hu
   have hub:=hs.b.u
   have hub1:=g1.b.u
   have hf1:(evE (TD defs) n (tr (bodyAt defs x)) st).2.Fault=0:=Decidable.byContradiction λ hz=>hc (.inr hz)
   -- it falls
   have hfall:fallsB (bodyAt defs x)=true:=by
    rw[e3]
    unfold fallsB
    rw[hsd,Bool.true_and,Bool.or_eq_true,decide_eq_true_eq,decide_eq_true_eq]
    by_cases hz:d.Body.length=0
    ·exact .inl hz
    ·right
     cases hl:d.Body.getLast? with
     | none=>rw[List.getLast?_eq_none_iff]at hl;rw[hl]at hz;exact absurd rfl hz
     | some o =>
      refine ⟨o,rfl,λ h8=>hc ?_⟩
      have t:=tr_ok hsd
      obtain ⟨a,tt,ea,et⟩:=last_tree (ts:=tr d.Body) (o:=o) (by rw[t.fl];exact hl) h8
      rw[e3,ea]
      cases n with
      | zero=>omega
      | succ n=>exact allE_exit et a st
   by_cases hlast:x+1 < defs.length
   ·have hx1:x+1 ∈ r:=by
     refine h.next hx ?_
     unfold nx
     rw[hfall,if_pos ⟨rfl,hlast⟩]
     exact List.mem_append_right _ (List.mem_singleton.2 rfl)
    have hnx:=ih (x+1) (j+1) _ hx1 (ix_next h hj hx1) (by omega) g1 hf1 (by omega)
    rw[show (x+1).toNat=x.toNat+1 by omega]at hnx
    exact hnx
   ·have hend:r[j+1]? = none:=by
     cases hq:r[j+1]? with
     | none=>rfl
     | some y =>
      have hy:=h.v y (List.mem_of_getElem? hq)
      obtain ⟨hi,ei⟩:=List.getElem?_eq_some_iff.1 hq
      obtain ⟨hi2,ei2⟩:=List.getElem?_eq_some_iff.1 hj
      have:=List.pairwise_iff_getElem.1 h.asc j (j+1) hi2 hi (by omega)
      omega
    have hjl:r.length<=j+1:=List.getElem?_eq_none_iff.1 hend
    rw[List.drop_eq_nil_of_le (by unfold TR;rw[List.length_map,List.length_map];omega),List.drop_eq_nil_of_le (by rw[td_len];omega)]
    rfl
theorem enterE_re (hd:DG defs) (h32:∀ d ∈ defs,∀ o ∈ d.Body,i32B o.N) (hT:TreesOk (TD defs)) (h:IsR defs kk r) (A:Alike defs r n) {x:Int} {j:Nat} (hx:x ∈ r) (hj:r[j]? = some x) {st:GSt} (hs:SG st) (hf:st.Fault=0) (hu:st.Fuel.toNat < n) :
  enterE (TR defs r) (evE (TR defs r) n) j st=enterE (TD defs) (evE (TD defs) n) x st:=by
 unfold enterE
 by_cases h24:st.Ret.length=24
 ·rw[if_pos h24,if_pos h24]
 ·rw[if_neg h24,if_neg h24,Int.toNat_natCast]
  exact enterL_re hd h32 hT h A _ x j _ hx hj (Nat.lt_succ_self _) (pushRet_g hs h24) hf hu
theorem loopE_re (hT:TreesOk (TD defs)) (A:Alike defs r n) {ks:List GTree} (hk:OkS (PC defs.length r) ks) (hl:ks.length<=60):∀ (f:Nat) (st:GSt),SG st->st.Fuel.toNat < n->loopE (evE (TR defs r) n) (reS r ks) f st=loopE (evE (TD defs) n) ks f st
 | 0,st,_,_=>rfl
 | f+1,st,hs,hu=>by
  rw[loopE,loopE]
  by_cases hf:st.Fault=0
  case neg=>rw[if_pos hf,if_pos hf]
  rw[A ks st hk hl hs hf hu]
  have hok1:OkS (PT (TD defs).length) ks:=by rw[td_len];exact okS_mono (λ _ _ hp=>hp.1) hk
  obtain ⟨g1,g2⟩:=(evE_ok hT n).g _ st hok1 hl hs hf hu
  have hub:=hs.b.u
  have hub1:=g1.b.u
  generalize evE (TD defs) n ks st=q at *
  by_cases h0:q.2.Fuel=0
  ·simp only[h0,if_true]
  ·have g3:=g1.fuel h0
   obtain ⟨n1,n2⟩:=nextS_g g3
   have hfu:(fuelS q.2).Fuel=q.2.Fuel-1:=rfl
   rw[loopE_re hT A hk hl f (nextS (fuelS q.2)).2 n1 (by rw[n2,hfu];omega)]
theorem reS_get (r:List Int) (t:GTree):(reT r t).Kind=t.Kind/\(reT r t).N=reN r t.Kind t.N/\(reT r t).Kids=reS r t.Kids:=by obtain ⟨k,n,ks⟩:=t;rw[reT];exact ⟨rfl,rfl,rfl⟩
theorem oneE_re (hd:DG defs) (h32:∀ d ∈ defs,∀ o ∈ d.Body,i32B o.N) (hT:TreesOk (TD defs)) (h:IsR defs kk r) (A:Alike defs r n) {t:GTree} (hP:PC defs.length r t.Kind t.N) (hl:t.Kids.length<=60) (hk:OkS (PC defs.length r) t.Kids) {st:GSt} (hs:SG st) (hf:st.Fault=0) (hu:st.Fuel.toNat<=n) :
  oneE (TR defs r) (evE (TR defs r) n) (reT r t) st=oneE (TD defs) (evE (TD defs) n) t st:=by
 obtain ⟨r1,r2,r3⟩:=reS_get r t
 unfold oneE
 by_cases h0:st.Fuel=0
 ·rw[if_pos h0,if_pos h0]
 rw[if_neg h0,if_neg h0,r1,r2,r3]
 have hub:=hs.b.u
 have g:=hs.fuel h0
 have hfu:(fuelS st).Fuel=st.Fuel-1:=rfl
 have hf':(fuelS st).Fault=0:=hf
 have hu':(fuelS st).Fuel.toNat < n:=by omega
 generalize fuelS st=s at *
 unfold restE
 by_cases k2:t.Kind=2
 ·rw[k2]
  simp only[show ((2:Int)=0)=False from eq_false (by omega),show ((2:Int)=1)=False from eq_false (by omega),if_false,if_true]
  have hm:=hP.2 k2
  obtain ⟨j,hj,hgj,ej⟩:=h.ix hm
  have hrl:=h.len
  have hdn:=hd.n
  have e:IntKind.wrap .i64 (reN r 2 t.N)=(j:Int):=by
   unfold reN
   rw[if_pos rfl,ej,wI32 (by omega) (by omega),wI64 (by omega) (by omega)]
  rw[e,enterE_re hd h32 hT h A hm hgj g hf' hu']
 ·have e:reN r t.Kind t.N=t.N:=by unfold reN;rw[if_neg k2]
  rw[e,if_neg k2,if_neg k2]
  obtain ⟨f1,f2⟩:=forS_g g
  rw[loopE_re hT A hk hl bigK (forS s) f1 (by rw[f2];exact hu'),A t.Kids s hk hl g hf' hu']
theorem allE_re (hd:DG defs) (h32:∀ d ∈ defs,∀ o ∈ d.Body,i32B o.N) (hT:TreesOk (TD defs)) (h:IsR defs kk r) (A:Alike defs r n):∀ (l:List GTree) (st:GSt),(∀ t ∈ l,PC defs.length r t.Kind t.N/\t.Kids.length<=60/\OkS (PC defs.length r) t.Kids)->SG st->st.Fault=0->st.Fuel.toNat<=n->allE (TR defs r) (evE (TR defs r) n) (reS r l) st=allE (TD defs) (evE (TD defs) n) l st
 | [],st,_,_,_,_=>rfl
 | t::l,st,hl,hs,hf,hu=>by
  obtain ⟨a1,a2,a3⟩:=hl t (List.mem_cons.2 (.inl rfl))
  have e:=oneE_re hd h32 hT h A a1 a2 a3 hs hf hu
  obtain ⟨k,m,ks⟩:=t
  have hok1:OkS (PT (TD defs).length) ks:=by rw[td_len];exact okS_mono (λ _ _ hp=>hp.1) a3
  obtain ⟨_,g1,g2⟩:=oneE_ok hT (evE_ok hT n) (by rw[td_len];exact a1.1) a2 hok1 hs hf hu
  have hub:=hs.b.u
  have hub1:=g1.b.u
  rw[reS,allE,allE,e]
  generalize oneE (TD defs) (evE (TD defs) n) ⟨k,m,ks⟩ st=q at *
  by_cases hq:q.2.Fault=0
  ·rw[allE_re hd h32 hT h A l q.2 (λ t ht=>hl t (List.mem_cons.2 (.inr ht))) g1 hq (by omega)]
  ·simp only[if_pos hq]
theorem alike (hd:DG defs) (h32:∀ d ∈ defs,∀ o ∈ d.Body,i32B o.N) (hT:TreesOk (TD defs)) (h:IsR defs kk r):∀ n,Alike defs r n
 | 0=>λ _ _ _ _ _ _ hu=>absurd hu (by omega)
 | n+1=>λ l st hl _ hs hf hu=>allE_re hd h32 hT h (alike hd h32 hT h n) l st (okS_get hl) hs hf (by omega)
end
end Go.Proofs.YtmedombacbpofaaGreatDoor
namespace Go.Proofs.YtmedombacbpofaaGreatDoor
open Go Go.Fm
set_option maxRecDepth 100000
theorem shake_hand_l1 (r:List Int) (v:Int):∀ (k:Nat) (a b:List GOp) (i:Int),g_impl_Shake_hand_l1 r v k a b i=g_impl_Shake_l1 r v k a b i:=by
 intro k
 induction k with
 | zero=>intro a b i;rfl
 | succ k ih=>intro a b i;rw[g_impl_Shake_hand_l1,g_impl_Shake_l1];simp only[ih]
theorem shake_hand_l0 (defs:List GDef) (r:List Int) (v:Int):∀ (k:Nat) (o:List GDef) (i:Int),g_impl_Shake_hand_l0 defs r v k o i=g_impl_Shake_l0 defs r v k o i:=by
 intro k
 induction k with
 | zero=>intro o i;rfl
 | succ k ih=>intro o i;rw[g_impl_Shake_hand_l0,g_impl_Shake_l0];simp only[ih,shake_hand_l1]
theorem shake_hand (defs:List GDef) (k:Int):g_impl_Shake_hand defs k=g_impl_Shake defs k:=by
 unfold g_impl_Shake_hand g_impl_Shake
 simp only[shake_hand_l0]
theorem at_eq {l:List Int} {v:Int} (hl:l.length<=1000):g_spec_l20At l v=some (ixI v l 0):=by
 unfold g_spec_l20At
 have key:∀ (k n:Nat),n<=l.length->l.length-n < k->∃ o:Unit ⊕ Int,g_spec_l20At_l0 l v k n=some o/\(match o with | .inl _=>ixI v (l.drop n) n = -1 | .inr i=>ixI v (l.drop n) n=i):=by
  intro k
  induction k with
  | zero=>intro n h0 h1;omega
  | succ k ih =>
   intro n h0 h1
   rw[g_spec_l20At_l0]
   by_cases hn:n < l.length
   ·rw[decide_eq_true (by omega),cond_true,getI_nat,List.getElem?_eq_getElem hn,List.drop_eq_getElem_cons hn]
    simp only[Option.bind_some]
    by_cases hk:v=l[n]
    ·rw[show (l[n]==v)=true by simp[hk],cond_true]
     exact ⟨_,rfl,by show ixI v (l[n]::_) n=n;rw[ixI,if_pos hk]⟩
    ·rw[show (l[n]==v)=false by simp;exact λ e=>hk e.symm,cond_false,nxt (by omega)]
     obtain ⟨o,g1,g2⟩:=ih (n+1) (by omega) (by omega)
     refine ⟨o,g1,?_⟩
     have e:ixI v (l[n]::l.drop (n+1)) n=ixI v (l.drop (n+1)) ((n+1:Nat):Int):=by rw[ixI,if_neg hk];rfl
     cases o with
     | inl u=>show ixI v (l[n]::l.drop (n+1)) n = -1;rw[e];exact g2
     | inr i=>show ixI v (l[n]::l.drop (n+1)) n=i;rw[e];exact g2
   ·rw[decide_eq_false (by omega),cond_false,List.drop_eq_nil_of_le (by omega)]
    exact ⟨_,rfl,rfl⟩
 obtain ⟨o,h,g⟩:=key bigK 0 (Nat.zero_le _) (by unfold bigK;omega)
 rw[Int.natCast_zero]at h
 rw[List.drop_zero]at g
 rw[h]
 cases o with
 | inl u=>simp only[Option.bind_some];rw[show ixI v l 0 = -1 from g]
 | inr i=>simp only[Option.bind_some];rw[show ixI v l 0=i from g]
theorem sshake_l1 {r:List Int} (hr:r.length<=1000) {body:List GOp} (hb:body.length<=1000):∀ (k i:Nat) (b:List GOp),i<=body.length->body.length-i < k->b=(body.take i).map (reOp r)++body.drop i →
  g_spec_Shake_hand_l1 r k b (i:Int)=some (body.map (reOp r)):=by
 intro k
 induction k with
 | zero=>intro i b h0 h1;omega
 | succ k ih =>
  intro i b h0 h1 h2
  have hbl:b.length=body.length:=by rw[h2,List.length_append,List.length_map,List.length_take,List.length_drop];omega
  rw[g_spec_Shake_hand_l1]
  by_cases hn:i < body.length
  case neg =>
   rw[decide_eq_false (by omega),cond_false,h2,List.drop_eq_nil_of_le (by omega),List.take_of_length_le (by omega),List.append_nil]
  have hl:((body.take i).map (reOp r)).length=i:=by rw[List.length_map,List.length_take];omega
  have hg:b[i]? = some body[i]:=by
   rw[h2,List.getElem?_append_right (by omega),hl,Nat.sub_self,List.getElem?_drop,Nat.add_zero,List.getElem?_eq_getElem hn]
  have hnext:∀ o,reOp r body[i]=o->b.set i o=(body.take (i+1)).map (reOp r)++body.drop (i+1):=by
   intro o ho
   rw[h2,List.set_append_right _ _ (by omega),hl,Nat.sub_self,List.drop_eq_getElem_cons hn,List.set_cons_zero,List.take_succ_eq_append_getElem hn,List.map_append,List.append_assoc,<-ho]
   rfl
  rw[decide_eq_true (by omega),cond_true,getI_nat,hg,nxt (by omega)]
  simp only[Option.bind_some]
  by_cases hk:body[i].Kind=2
  ·rw[show (body[i].Kind==2)=true by simp[hk],cond_true,at_eq hr]
   simp only[Option.bind_some,Int.toNat_natCast]
   exact ih (i+1) _ (by omega) (by omega) (hnext _ (by unfold reOp;rw[if_pos hk]))
  ·rw[show (body[i].Kind==2)=false by simp[hk],cond_false]
   simp only[Option.bind_some]
   refine ih (i+1) _ (by omega) (by omega) ?_
   rw[<-hnext body[i] (by unfold reOp;rw[if_neg hk])]
   obtain ⟨hib,hbe⟩:=List.getElem?_eq_some_iff.1 hg
   rw[<-hbe,List.set_getElem_self]
theorem sshake_l0 {defs:List GDef} (hw:DW defs) {r:List Int} (hr:r.length<=1000) (hv:∀ x ∈ r,0<=x/\x < defs.length):∀ (k i:Nat) (out:List GDef),i<=r.length->r.length-i < k->out.length<=i →
  g_spec_Shake_hand_l0 defs r k out (i:Int)=some (out++(r.drop i).map (shD defs r)):=by
 intro k
 induction k with
 | zero=>intro i out h0 h1;omega
 | succ k ih =>
  intro i out h0 h1 h2
  rw[g_spec_Shake_hand_l0]
  by_cases hn:i < r.length
  ·have hx:=hv r[i] (List.getElem_mem hn)
   obtain ⟨d,e1,e2,e3⟩:=getI_ex hx.1 hx.2
   have hb:=hw.l d e2
   rw[decide_eq_true (by omega),cond_true,getI_nat,List.getElem?_eq_getElem hn,List.drop_eq_getElem_cons hn,List.map_cons]
   simp only[Option.bind_some]
   rw[e1]
   simp only[Option.bind_some]
   rw[app_eq (by simp;omega)]
   simp only[Option.bind_some,List.nil_append]
   have l1:=sshake_l1 hr hb bigK 0 d.Body (Nat.zero_le _) (by unfold bigK;omega) (by simp)
   rw[show ((0:Nat):Int)=0 from rfl]at l1
   rw[l1]
   simp only[Option.bind_some]
   rw[app_eq (by simp;omega)]
   simp only[Option.bind_some]
   rw[nxt (by omega),ih (i+1) _ (by omega) (by omega) (by simp;omega)]
   have es:(⟨d.Name,d.Body.map (reOp r)⟩:GDef)=shD defs r r[i]:=by unfold shD bodyAt;rw[e3]
   rw[es,List.append_assoc]
   rfl
  ·rw[decide_eq_false (by omega),cond_false,List.drop_eq_nil_of_le (by omega)];simp
theorem shake_both {defs:List GDef} (hw:DW defs) (k:Int):∃ q,g_impl_Shake defs k=some q/\g_spec_Shake_hand defs k=some q ∧
  ((∃ r,DG defs/\(0<=k/\k < defs.length)/\IsR defs k r/\q=(r.map (shD defs r),ixI k r 0))\/(q=([],-1)/\¬ (defsB defs=true/\0<=k/\k < defs.length))):=by
 obtain ⟨r,e1,e2,h⟩:=reach_both hw k
 unfold g_impl_Shake g_spec_Shake_hand
 rw[e1,e2]
 simp only[Option.bind_some]
 rcases h with ⟨hd,hk,h⟩|⟨rfl,hno⟩
 ·have hkr:k ∈ r:=(h.m k).2 .refl
  have hpos:0 < r.length:=List.length_pos_of_mem hkr
  have hl:=h.len
  have hn:=hd.n
  rw[show ((r.length:Int)==0)=false by rw[beq_eq_false_iff_ne];omega,cond_false]
  have l0:=shake_l0 hw (r:=r) (by omega) h.v bigK 0 [] (Nat.zero_le _) (by unfold bigK;omega) (Nat.le_refl _)
  have l1:=sshake_l0 hw (r:=r) (by omega) h.v bigK 0 [] (Nat.zero_le _) (by unfold bigK;omega) (Nat.le_refl _)
  rw[show ((0:Nat):Int)=0 from rfl,List.drop_zero,List.nil_append]at l0 l1
  rw[l0,l1]
  simp only[Option.bind_some]
  rw[index_eq (by omega),at_eq (by omega)]
  exact ⟨_,rfl,rfl, .inl ⟨r,hd,hk,h,rfl⟩⟩
 ·rw[show ((([]:List Int).length:Int)==0)=true from rfl,cond_true]
  refine ⟨([],-1),rfl,?_, .inr ⟨rfl,hno⟩⟩
  rw[at_eq (by simp),show bigK=(bigK-1)+1 from rfl,g_spec_Shake_hand_l0];rfl
end Go.Proofs.YtmedombacbpofaaGreatDoor
namespace Go.Proofs.YtmedombacbpofaaGreatDoor
open Go Go.Fm
set_option maxRecDepth 100000
structure DrD (defs:List GDef):Prop where
 w:DW defs
 i:∀ d ∈ defs,∀ o ∈ d.Body,i32B o.N
theorem names5_impl:∀ s ∈ names5,g_impl_NameOk s=some true:=by
 intro s hs
 unfold names5 at hs
 simp only[List.mem_cons,List.not_mem_nil,or_false]at hs
 rcases hs with rfl|rfl|rfl|rfl|rfl<;>decide +kernel
theorem shake_draw {code:List Int} (hc:code.length<=1048576):Tot (g_spec_DrawShake code) λ r=>DrD r.1:=by
 unfold g_spec_DrawShake
 refine .bind (new_ok hc) λ c h=>.bind (make9_ok h) λ m hm => ?_
 have hl:=hm.1.1
 have hdw:DrD m.1:=⟨⟨by omega,λ d hd=>⟨names5_impl _ (hm.1.2 d hd).nm,names5_ok _ (hm.1.2 d hd).nm⟩,λ d hd=>by have:=(hm.1.2 d hd).l;omega⟩,λ d hd o ho=>((hm.1.2 d hd).b.ok o ho).1.2⟩
 refine .bind (Q:=λ r=>DrD r.1/\Cok r.2) (.bind (once_ok hm.2 (by decide)) λ o ho=>.cond (λ _ => ?_) λ _=>.some ⟨hdw,ho⟩) λ r hr => ?_
 ·refine .bind (any9i ho) λ a ha => ?_
  obtain ⟨d,e1,e2,e3⟩:=getI_ex (xs:=m.1) (i:=0) (by decide) (by omega)
  refine .bindE e1 (.some ⟨⟨⟨?_,λ x hx => ?_,λ x hx => ?_⟩,λ x hx => ?_⟩,ha.2⟩)
  ·show (m.1.set 0 _).length<=1000;rw[List.length_set];omega
  ·rcases List.mem_or_eq_of_mem_set hx with hx|rfl
   ·exact hdw.w.nm x hx
   ·exact hdw.w.nm d e2
  ·rcases List.mem_or_eq_of_mem_set hx with hx|rfl
   ·exact hdw.w.l x hx
   ·exact ha.1.1
  ·rcases List.mem_or_eq_of_mem_set hx with hx|rfl
   ·exact hdw.i x hx
   ·exact ha.1.2
 ·obtain ⟨r1,r2⟩:=r
  obtain ⟨hr1,hr2⟩:=hr
  simp only at hr1 hr2
  have:=hr1.w.n
  show Tot ((g_spec_l01Below (IntKind.wrap .i64 ((r1.length:Int)+2)) r2).bind _) _
  rw[wI64 (by omega) (by omega)]
  exact .bind (below_ok hr2 (by omega)) λ b hb=>.some hr1
theorem re_i32 {r:List Int} {o:GOp} (h:i32B o.N):i32B (reOp r o).N:=by
 unfold reOp
 split
 ·exact i32w _
 ·exact h
theorem law_shake (code:List Int):g_laws_FnShake code=some true:=by
 unfold g_laws_FnShake g_laws_big
 rw[Option.bind_some]
 by_cases hc:code.length<=1048576
 case neg=>rw[decide_eq_true (by omega),cond_true]
 rw[decide_eq_false (by omega),cond_false]
 obtain ⟨b,e1,hb⟩:=shake_draw hc
 obtain ⟨q,e2,hq⟩:=means_draw hc
 obtain ⟨s,s1,s2,hs⟩:=shake_both hb.w b.2
 rw[e1,Option.bind_some,shake_hand,s1,Option.bind_some,s2,Option.bind_some,bne_self',cond_false]
 rcases hs with ⟨r,hd,hk,h,rfl⟩|⟨rfl,hno⟩
 case inr=>rfl
 have hkr:b.2 ∈ r:=(h.m b.2).2 .refl
 obtain ⟨j,hj,hgj,ej⟩:=h.ix hkr
 have hl:=h.len
 have hn:=hd.n
 have hsz:StSz q.2.2:=⟨by have:=hq.r;omega,by have:=hq.v;omega⟩
 have hw2:=sh_DW hb.w h
 have hdB:=sh_defsB hd h
 rw[decide_eq_false (by show ¬ (ixI b.2 r 0 < 0);omega),cond_false,e2,Option.bind_some,spec_st hsz]
 simp only[Option.bind_some]
 rw[defsOk_impl hw2,hdB]
 simp only[Option.bind_some,Bool.not_true,cond_false,cond_true]
 rw[List.length_map,decide_eq_false (p:=((r.length:Int) > (b.1.length:Int))) (by omega),decide_eq_true (p:=((r.length:Int)<=(b.1.length:Int))) (by omega)]
 cases hst:StB q.2.2 with
 | false=>rfl
 | true =>
  rw[Bool.not_true,cond_false]
  by_cases hf:q.2.2.Fault=0
  case neg=>rw[show (q.2.2.Fault != 0)=true by simp[hf],cond_true];rfl
  rw[show (q.2.2.Fault != 0)=false by simp[hf],cond_false,Option.bind_some,cond_false]
  have hg:SG q.2.2:=.of hq.g (stB_iff.1 hst)
  have d1:DfOk b.1:=⟨hd.n,λ d hm=>hd.s d hm,λ d hm=>by
   rw[List.any_eq_false]
   intro o ho
   unfold tooFar
   by_cases hk2:o.Kind=2
   ·have:=hd.c d hm o ho hk2
    rw[decide_eq_false (by omega)];simp
   ·rw[show (o.Kind==2)=false by simp[hk2]];simp⟩
  have d2:DfOk (r.map (shD b.1 r)):=dfOk hdB
  have i2:∀ d ∈ r.map (shD b.1 r),∀ o ∈ d.Body,i32B o.N:=λ d hd' o ho=>by
   obtain ⟨x,hx,rfl⟩:=List.mem_map.1 hd'
   have hv:=h.v x hx
   obtain ⟨d,f1,f2,f3⟩:=hd.at hv.1 hv.2
   change o ∈ (bodyAt b.1 x).map (reOp r) at ho
   obtain ⟨p,hp,rfl⟩:=List.mem_map.1 ho
   rw[f3]at hp
   exact re_i32 (hb.i d f2 p hp)
  obtain ⟨m1,g1⟩:=means_ok hb.w d1 hb.i hg hf hk.1 hk.2
  obtain ⟨m2,g2⟩:=means_ok hw2 d2 i2 hg hf (k:=ixI b.2 r 0) (by omega) (by rw[List.length_map];omega)
  have hT:=treesOk d1 hb.i
  have hub:=hg.b.u
  have he:=enterE_re hd hb.i hT h (alike hd hb.i hT h bigK) hkr hgj hg hf (by unfold bigK;omega)
  rw[ej]at m2 g2
  rw[show ixI b.2 r 0=(j:Int) from ej]
  rw[m2,Option.bind_some,m1,Option.bind_some]
  show (g_laws_sameSt (enterE (TR b.1 r) (evE (TR b.1 r) bigK) j q.2.2) (enterE (TD b.1) (evE (TD b.1) bigK) b.2 q.2.2)).bind _=_
  rw[he,sameG g1];rfl
end Go.Proofs.YtmedombacbpofaaGreatDoor

namespace Go.Proofs.YtmedombacbpofaaGreatDoor
open Go Go.Fm
set_option maxRecDepth 100000
theorem ans_FnShake (x0:List Int) (g0:(λ xs:List Int=>xs.length<=maxLen/\∀ x ∈ xs,(λ n:Int=>(Lit.int .u8 n).wf=true) x) x0) :
  Ans Tryz.prog 5 [.one (.imm 1 x0.length (x0.flatMap (eI .u8)))] [] λ v _=>v=Go.Fm.one (.bool true):=λ hm=>by
 obtain ⟨r,h1,a,b,c,_⟩:=ce_laws_FnShake (x0) true (good_pure rfl rfl) (law_shake x0) hm
 exact ⟨r,h1,a,b⟩
end Go.Proofs.YtmedombacbpofaaGreatDoor
