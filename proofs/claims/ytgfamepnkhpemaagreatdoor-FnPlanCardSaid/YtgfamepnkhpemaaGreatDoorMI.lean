import Derived.Test.YtgfamepnkhpemaaGreatDoorMH
import Derived.Shelf.Sort.Plain
import Derived.Shelf.Slices.In.SortNone
import Derived.Shelf.Strconv.Itoa3
import Derived.Shelf.Strings.OnBuilder
import Derived.Shelf.Spec.SlicesInsertGrow
set_option linter.all false
namespace Go.Fm
open Go.Proofs Go.Sort Go.Shelf
variable [Globs] [Structs] [Tabs]
def PostM (C:Ctx) (bs h1:List HS) (r:SV) (v:Value) (w':World):Prop:=∃ (ρ':Rho) (Sh':Nat->Prop),HeapRel C.w0 Sh' C.O ρ' (hOf h1) w'/\RSV w' Sh' ρ' (hOf h1) v r ∧
   (∀ id,id < bs.length->hOf h1 id≠.no/\ρ' id=C.rho0 id)/\Fr C.w0 C.O w'/\(∀ k,C.Sh k->Sh' k) ∧
   (∀ k,Sh' k->k < w'.heap.size/\(C.Sh k\/C.w0.heap.size<=k\/C.O k))
theorem meets_of {P:Program} {f:FuncId} {ps:List PV} {bs h1:List HS} {r:SV} (he:Enters P f)
  (h:∀ (C:Ctx) (vs:List Value),C.P=P->C.k0=bs.length->vs.length=ps.length →
  (∀ (i:Nat) (p:PV),ps[i]? = some p->∃ u:Value,vs[i]? = some u/\RPV C.w0 C.Sh C.rho0 (hOf bs) u p) →
  HeapRel C.w0 C.Sh C.O C.rho0 (hOf bs) C.w0->(∀ id,id < bs.length->hOf bs id≠.no)->Calls P f vs.toArray C.w0 λ e w'=>∃ v,e=.returned v/\PostM C bs h1 r v w'):Meets P f ps bs r h1:=by
 intro C vs hP hk hlen hargs hheap hno
 unfold Serves
 rw[he vs.toArray C.w0]
 refine (h C vs hP hk hlen hargs hheap hno).mono ?_
 rintro e w' ⟨v,rfl,hp⟩
 exact hp
theorem enc_int (k:IntKind):∀ xs:List Int,xs.flatMap (eI k)=xs.map (CV.int k)
 | []=>rfl
 | x::r=>by rw[List.flatMap_cons,enc_int k r];rfl
end Go.Fm
namespace Go.Fm
open Go.Proofs Go.Sort Go.Shelf
variable [Globs] [Structs] [Tabs]
theorem postM_below {C:Ctx} {r:SV} {v:Value} {w':World} (hb:Go.RowKit.Below C.w0.heap.size C.w0 w') (hr:RSV w' C.Sh C.rho0 (hOf []) v r):PostM C [] [] r v w' :=
 ⟨C.rho0,C.Sh,⟨λ id b h=>by simp[hOf]at h,λ id b L h=>by simp[hOf]at h,λ id id' b b' L L' h=>by simp[hOf]at h⟩,hr,λ id hid=>absurd hid (Nat.not_lt_zero _),
  ⟨hb.os,hb.tape,hb.output,hb.size,λ k hk _=>hb.block k hk⟩,λ k h=>h,λ k h=>⟨Nat.lt_of_lt_of_le (C.old k h).1 hb.size, .inl h⟩⟩
theorem below_grow (w:World) (k:Nat) (os:Array Obj):Go.RowKit.Below w.heap.size w (grow (w.drewN k) os) :=
 ⟨rfl,rfl,rfl,by rw[size_grow];exact Nat.le_add_right _ _,λ j hj=>heap_grow_old _ _ hj⟩
theorem ba_toList (l:List UInt8):(⟨l.toArray⟩:ByteArray).data.toList=l:=by simp
theorem tab_is {P:Program} {w:World} {Sh:Nat->Prop} {g:Nat} {k:IntKind} {xs:List Int} {name:String} (h:TabAt w Sh g (xs.flatMap (eI k))) (hg:P.globalNamed name=some g):Lib.TabIs P w name k xs:=by
 rw[enc_int]at h
 obtain ⟨h1,h2,vs,x,y,h3,h4⟩:=h
 unfold Lib.TabIs World.var?
 rw[hg,Option.bind_some,h3]
 show some vs=_
 congr 1
 cases h1 with
 | ip b off cs vals hs hc hr =>
  refine Array.ext (by simpa using h4) λ j h5 h6 => ?_
  simp only[List.length_map]at h4 hc
  have h7:=hc j (by omega)
  have h8:=hr j (.int k xs[j]) (by rw[List.getElem?_map,List.getElem?_eq_getElem (by omega)];rfl)
  unfold World.cell? at h7
  simp only[h3,Nat.zero_add]at h7
  rw[Array.getElem?_eq_getElem h5]at h7
  have h9:=Option.some.inj h7
  rw[h9]
  generalize vals j=u at h8
  cases h8
  simp
def gItoa (n:Int):Option (List UInt8):=cond (decide (-9223372036854775808<=n/\n<=9223372036854775807)) (some (Lib.itoa n)) none
abbrev itoP:Shp:=⟨[(0, .s (.int .i64) [])],[]⟩
abbrev strR:Shp:=⟨[(0, .s .str [])],[]⟩
theorem good_str (s:List UInt8):Good (lvl0 [] ⟨[],[]⟩) (strR.mkS s):=good_pure rfl rfl
theorem itoa_ans {P:Program} {f:FuncId} {ρ:Ren} (L:LaysM.n171 P ρ) (hf:ρ.f 171=f) {g:Nat} (hg:P.globalNamed "internal/strconv.uint64pow10" = some g) (ht:Globs.tab g=some (Lib.pow10Tab.flatMap (eI .u64))) (a:Int) (r:List UInt8) (h:gItoa a=some r) :
  Ans P f [.one (.int .i64 a)] [] λ v h=>v=.pv (.one (.str r))/\h=[]:=λ hm=>by
 unfold gItoa at h
 by_cases hsz : -9223372036854775808<=a/\a<=9223372036854775807
 case neg=>rw[decide_eq_false hsz]at h;cases h
 rw[decide_eq_true hsz]at h
 cases h
 refine ⟨_,_,meets_of (by rw[<-hf];exact enters_of L.f171 (by kernel_rfl) rfl) ?_,rfl,rfl⟩
 intro C vs hP hk hlen hargs hheap hno
 obtain ⟨u0,h0,r0⟩:=hargs 0 _ rfl
 obtain rfl:vs=[u0]:=by
  match vs,hlen,h0 with
  | [a],_,h0=>simp at h0;rw[h0]
 obtain rfl:u0=.int .i64 a:=by
  have:RI C.w0 C.Sh u0 (.int .i64 a):=r0
  cases this;rfl
 rw[<-hf]
 refine (Any.strconv_Itoa L a hsz.1 hsz.2 C.w0 (tab_is (C.gl g _ ht) hg)).mono ?_
 rintro e w' ⟨rfl,k,os,rfl⟩
 refine ⟨_,rfl,postM_below (below_grow _ _ _) ?_⟩
 have:=RI.str (w:=grow (C.w0.drewN k) os) (Sh:=C.Sh) ⟨(Lib.itoa a).toArray⟩
 rw[ba_toList]at this
 exact this
theorem itoa_ok {P:Program} {f:FuncId} {ρ:Ren} (L:LaysM.n171 P ρ) (hf:ρ.f 171=f) {g:Nat} (hg:P.globalNamed "internal/strconv.uint64pow10" = some g) (ht:Globs.tab g=some (Lib.pow10Tab.flatMap (eI .u64))) :
  ConOk P ⟨f,itoP,strR,false,[],gItoa⟩:=λ a r hG h=>(itoa_ans L hf hg ht a r h).mono λ v h1 ⟨e1,e2⟩=>⟨e1,e2,good_str r⟩
def gJoin (xs:List (List UInt8)) (sep:List UInt8):Option (List UInt8):=cond (decide (xs.length<=140737488355328/\(Lib.join xs sep).length<=140737488355328)) (some (Lib.join xs sep)) none
abbrev joiP:Shp:=⟨[(0, .s (.list .str) []),(1, .s .str [])],[]⟩
theorem ba_map:∀ xs:List (List UInt8),(xs.map λ l=>(⟨l.toArray⟩:ByteArray)).map (·.data.toList)=xs
 | []=>rfl
 | x::r=>by rw[List.map_cons,List.map_cons,ba_map r,ba_toList]
theorem eS_flat:∀ xs:List (List UInt8),xs.flatMap eS=xs.map CV.str
 | []=>rfl
 | x::r=>by rw[List.flatMap_cons,eS_flat r];rfl
theorem join_ans {P:Program} {f:FuncId} {ρ:Ren} (L:Lays.n156 P ρ) (X:Builder.Extra P ρ) (hf:ρ.f 156=f) (xs:List (List UInt8)) (sep r:List UInt8) (h:gJoin xs sep=some r) :
  Ans P f [.one (.imm 1 xs.length (xs.map CV.str)), .one (.str sep)] [] λ v h=>v=.pv (.one (.str r))/\h=[]:=λ hm=>by
 unfold gJoin at h
 by_cases hsz:xs.length<=140737488355328/\(Lib.join xs sep).length<=140737488355328
 case neg=>rw[decide_eq_false hsz]at h;cases h
 rw[decide_eq_true hsz]at h
 cases h
 refine ⟨_,_,meets_of (by rw[<-hf];exact enters_of L.f156 (by kernel_rfl) rfl) ?_,rfl,rfl⟩
 intro C vs hP hk hlen hargs hheap hno
 obtain ⟨u0,h0,r0⟩:=hargs 0 _ rfl
 obtain ⟨u1,h1,r1⟩:=hargs 1 _ rfl
 obtain rfl:vs=[u0,u1]:=by
  match vs,hlen,h0,h1 with
  | [a,b],_,h0,h1=>simp at h0 h1;rw[h0,h1]
 have q1:RI C.w0 C.Sh u1 (.str sep):=r1
 obtain ⟨b,rfl,hb⟩:∃ b:ByteArray,u1=.string b/\b.data.toList=sep:=by cases q1;exact ⟨_,rfl,rfl⟩
 have q0:RI C.w0 C.Sh u0 (.imm 1 xs.length (xs.map CV.str)):=r0
 have fin:∀ w',Go.RowKit.Below C.w0.heap.size C.w0 w'->PostM C [] [] (.pv (.one (.str (Lib.join xs sep)))) (.string ⟨(Lib.join xs sep).toArray⟩) w':=λ w' hw=>by
  refine postM_below hw ?_
  have:=RI.str (w:=w') (Sh:=C.Sh) ⟨(Lib.join xs sep).toArray⟩
  rw[ba_toList]at this
  exact this
 have none:xs=[]->(∃ a c,u0=.slice a 0 c)->Calls P f [u0, .string b].toArray C.w0 λ e w'=>∃ v,e=.returned v/\PostM C [] [] (.pv (.one (.str (Lib.join xs sep)))) v w':=λ hx ⟨a,c,hu⟩=>by
  subst hu
  rw[<-hf]
  refine (Any.strings_Join_none L X a c b C.w0).mono ?_
  rintro e w' ⟨rfl,rfl⟩
  refine ⟨_,rfl,?_⟩
  have:=fin C.w0 (.refl _ _)
  subst hx
  subst hb
  exact this
 generalize hcs:xs.map CV.str=cs at q0
 generalize hn:xs.length=n at q0
 cases q0 with
 | imm0 a cap sz=>exact none (List.eq_nil_of_length_eq_zero hn) ⟨_,_,rfl⟩
 | imm b0 off n cap sz cs vals hs hnc hl hc hr =>
  subst hn
  have hv:∀ j (h:j < xs.length),∃ s:ByteArray,vals j=.string s/\s.data.toList=xs[j]:=λ j h=>by
   have h8:=hr j (.str xs[j]) (by rw[<-hcs,List.getElem?_map,List.getElem?_eq_getElem h];rfl)
   generalize vals j=u at h8
   generalize hx:xs[j]=y at h8
   cases h8
   exact ⟨_,rfl,rfl⟩
  have hbs:∃ bs:List ByteArray,bs.map (·.data.toList)=xs:=⟨xs.map λ l=>⟨l.toArray⟩,ba_map xs⟩
  obtain ⟨bs,hbs⟩:=hbs
  have hlen':bs.length=xs.length:=by rw[<-hbs];simp
  rw[<-hf]
  have hcells:∀ (j:Nat) x,bs[j]? = some x->C.w0.cell? ⟨b0,off+j, .none⟩=some (.string x):=λ j x hx=>by
   have hj:j < xs.length:=by rw[<-hlen'];exact (List.getElem?_eq_some_iff.1 hx).1
   obtain ⟨s,e1,e2⟩:=hv j hj
   rw[hc j (by rw[<-hcs];simpa using hj),e1]
   have:x.data.toList=xs[j]:=by
    have:(bs.map (·.data.toList))[j]? = some x.data.toList:=by rw[List.getElem?_map,hx];rfl
    rw[hbs,List.getElem?_eq_getElem hj]at this
    exact (Option.some.inj this).symm
   have:s=x:=by
    have e3:s.data.toList=x.data.toList:=by rw[e2,this]
    cases s;cases x
    simp only at e3
    rw[Array.toList_inj.1 e3]
   rw[this]
  have:=Any.strings_Join L X b0 off cap bs b C.w0 hcells (C.old b0 hs).1 (by rw[hlen'];exact hsz.1) (by rw[hlen'];exact hnc) (by rw[hbs,hb];exact hsz.2)
  rw[hlen',hbs,hb]at this
  refine this.mono ?_
  rintro e w' ⟨rfl,hw⟩
  exact ⟨_,rfl,fin w' hw⟩
theorem join_ans' {P:Program} {f:FuncId} {ρ:Ren} (L:Lays.n156 P ρ) (X:Builder.Extra P ρ) (hf:ρ.f 156=f) (xs:List (List UInt8)) (sep r:List UInt8) (h:gJoin xs sep=some r) :
  Ans P f [.one (.imm 1 xs.length (xs.flatMap eS)), .one (.str sep)] [] λ v h=>v=.pv (.one (.str r))/\h=[]:=by
 rw[eS_flat];exact join_ans L X hf xs sep r h
theorem joinS_ok {P:Program} {f:FuncId} {ρ:Ren} (L:Lays.n156 P ρ) (X:Builder.Extra P ρ) (hf:ρ.f 156=f) :
  ConOk P ⟨f,joiP,strR,false,[],λ a=>gJoin a.1 a.2⟩:=λ a r hG h =>
 (join_ans' L X hf a.1 a.2 r h).mono λ v h1 ⟨e1,e2⟩=>⟨e1,e2,good_str r⟩
end Go.Fm
namespace Go.Fm
open Go.Proofs Go.Shelf Go.RowKit Go.Lib
variable {P:Program} {ρ:Ren}
structure InsL (P:Program) (ρ:Ren) (nm:String) (sz by_:Nat) (zv:Value):Prop where
 mixed:P.follows .mixedOrders=true
 f22:P.funcs[ρ.f 22]? = some { Body2.n22 ρ with name:=nm }
 hn:(nm == "runtime.NumGoroutine")=false
 ov:∀ (a b:Value) w,(callFunc (ρ.f 29) #[a,b]).run P w=((Extern.SlicesOverlaps.overlaps #[ρ.t 24,ρ.t 24] #[ρ.t 4] #[a,b]).run P w).andThen λ v w=>.ok (.value v) w
 t3:P.underlying (ρ.t 3)=some (TypeDesc.int IntKind.i64)
 a3:∀ w,(isAgg (ρ.t 3)).run P w=.ok false w
 z3:∀ w,(Go.sizeOf (ρ.t 3)).run P w=.ok 1 w
 v3:∀ w,(zeroValue (ρ.t 3)).run P w=.ok (Value.int IntKind.i64 0) w
 t4:P.underlying (ρ.t 4)=some (TypeDesc.bool)
 a4:∀ w,(isAgg (ρ.t 4)).run P w=.ok false w
 z4:∀ w,(Go.sizeOf (ρ.t 4)).run P w=.ok 1 w
 v4:∀ w,(zeroValue (ρ.t 4)).run P w=.ok (Value.bool false) w
 t24:P.underlying (ρ.t 24)=some (TypeDesc.slice (ρ.t 9))
 a24:∀ w,(isAgg (ρ.t 24)).run P w=.ok false w
 z24:∀ w,(Go.sizeOf (ρ.t 24)).run P w=.ok 1 w
 v24:∀ w,(zeroValue (ρ.t 24)).run P w=.ok (Value.slice none 0 0) w
 z9:∀ w,(Go.sizeOf (ρ.t 9)).run P w=.ok sz w
 i9:∃ i,P.info? (ρ.t 9)=some i/\i.zero=some zv/\i.size=sz/\i.bytes=by_
variable {nm:String} {sz by_:Nat} {zv:Value}
theorem setC_some (b:Nat):∀ (vs:List Value) (o:Nat) (w:World) (x:Addr),(w.cell? x).isSome=true->((w.setCells b o vs).cell? x).isSome=true:=by
 letI:Globs:=⟨λ _=>none⟩
 exact Go.Fm.isSome_setCells b
theorem copy_run (L:InsL P ρ nm sz by_ zv) (w:World) (ty:TypeId) (b o n dc:Nat) (a:Addr) (m sc:Nat) (vs:List Value) (hl:vs.length=min m n*sz)
  (hs:∀ j v,vs[j]? = some v->w.cell? (a.add j)=some v) (hc:∀ j,j < vs.length->(w.cell? ⟨b,o+j,none⟩).isSome=true) (hf:∀ j,j < vs.length->w.frozen? ⟨b,o+j,none⟩=false) (h1:∀ v ∈ vs,v.oneCell'=true) :
  (Builtin.copy_ #[ρ.t 24,ρ.t 24] ty #[.slice (some ⟨b,o,none⟩) n dc, .slice (some a) m sc]).run P w=.ok (goInt (min m n)) (w.setCells b o vs):=by
 have hst:(storeCells ⟨b,o,none⟩ vs).run P w=.ok () (w.setCells b o vs):=by
  have:=run_storeCells_cells (P:=P) b o vs 0 w (by simpa using hc) (by simpa using hf) h1
  simpa using this
 have hfc:(Builtin.firstCells sz (Nat.min m n) (.slice (some a) m sc)).run P w=.ok vs.toArray w:=run_firstCells_some w sz (Nat.min m n) a m sc vs hl hs
 have hlen:(Builtin.lenOf (.slice (some a) m sc)).run P w=.ok m w:=rfl
 simp[Builtin.copy_,run_underlying L.t24,hlen,L.z9,hfc,hst,goInt]
 show ((min m n:Nat):Int)=min (m:Int) (n:Int)
 omega
set_option maxHeartbeats 4000000 in
set_option maxRecDepth 100000 in
theorem ins_shift (L:InsL P ρ nm sz by_ zv) (hz:1 < sz) (b off n c vb voff vc:Nat) (cs vs:List Value) (w:World) (hn:0 < n) (hroom:n+1<=c) (hnm:n+1<=4294967296) (hvb:vb≠b)
  (hcl:cs.length=n*sz) (hvl:vs.length=sz)
  (hcs:∀ j v,cs[j]? = some v->w.cell? ⟨b,off+j,none⟩=some v) (hsp:∀ j,j < (n+1)*sz->(w.cell? ⟨b,off+j,none⟩).isSome=true) (hfz:∀ j,j < (n+1)*sz->w.frozen? ⟨b,off+j,none⟩=false)
  (hvs:∀ j v,vs[j]? = some v->w.cell? ⟨vb,voff+j,none⟩=some v) (h1c:∀ v ∈ cs,v.oneCell'=true) (h1v:∀ v ∈ vs,v.oneCell'=true)
  (tA tB:TypeId) (kA kB:Nat) (hsa:w.shape? vb=some (tA,kA)) (hsb:w.shape? b=some (tB,kB)) (hkB:kB≠0) (hfa:w.frozen? ⟨vb,voff,none⟩=false) (hfe:w.frozen? ⟨vb,kA,none⟩=false) :
  Calls P (ρ.f 22) #[.slice (some ⟨b,off,none⟩) n c, .int .i64 0, .slice (some ⟨vb,voff,none⟩) 1 vc] w λ e w' =>
   e=.returned (.slice (some ⟨b,off,none⟩) (n+1) c)/\w'=(w.drew.setCells b (off+sz) cs).setCells b off vs:=by
 have t3:=L.t3;have a3:=L.a3;have z3:=L.z3;have v3:=L.v3;have t4:=L.t4;have a4:=L.a4;have z4:=L.z4;have v4:=L.v4;have t24:=L.t24;have a24:=L.a24;have z24:=L.z24;have v24:=L.v24;have z9:=L.z9
 have u3:=run_underlying L.t3;have u4:=run_underlying L.t4;have u24:=run_underlying L.t24
 have hz1:¬ ((0:Int)=(n:Int)):=by omega
 have hn1:(n+1)*sz=n*sz+sz:=by rw[Nat.add_mul,Nat.one_mul]
 have hov:∀ lb cb,(callFunc (ρ.f 29) #[.slice (some ⟨vb,voff,none⟩) 1 vc, .slice (some ⟨b,off+sz,none⟩) lb cb]).run P w=.ok (.value (.bool false)) w:=λ lb cb=>by
  rw[L.ov,Lib.run_overlaps_apart w (ρ.t 24) (ρ.t 4) (ρ.t 9) L.t24 sz L.z9 ⟨vb,voff,none⟩ ⟨b,off+sz,none⟩ 1 vc lb cb hvb tA tB kA kB hsa hsb hkB hfa hfe]
  rfl
 have mixed:=L.mixed
 have hcp1:∀ ty dc sc,(Builtin.copy_ #[(ρ.t 24),(ρ.t 24)] ty #[.slice (some ⟨b,off+sz,none⟩) n dc, .slice (some ⟨b,off,none⟩) (n+1) sc]).run P w.drew=.ok (goInt n) (w.drew.setCells b (off+sz) cs):=λ ty dc sc=>by
  have:=copy_run L w.drew ty b (off+sz) n dc ⟨b,off,none⟩ (n+1) sc cs (by rw[hcl];congr 1;omega)
   (λ j v hj=>by rw[Addr.add_lit];exact hcs j v hj)
   (λ j hj=>by rw[Nat.add_assoc];exact hsp _ (by omega)) (λ j hj=>by rw[Nat.add_assoc];exact hfz _ (by omega)) h1c
  rw[this];congr 2;omega
 obtain ⟨W1,hW1⟩:∃ W1,W1=w.drew.setCells b (off+sz) cs:=⟨_,rfl⟩
 have hsp1:∀ k,k < (n+1)*sz->(W1.cell? ⟨b,off+k,none⟩).isSome=true:=λ k hk=>by
  rw[hW1]
  exact setC_some b _ _ _ _ (hsp k hk)
 have hcp2:∀ (W:World),(∀ x,W.cell? x=W1.cell? x)->(∀ x,W.frozen? x=W1.frozen? x)->∀ ty dc,(Builtin.copy_ #[(ρ.t 24),(ρ.t 24)] ty #[.slice (some ⟨b,off,none⟩) (n+1) dc, .slice (some ⟨vb,voff,none⟩) 1 vc]).run P W=.ok (goInt 1) (W.setCells b off vs):=λ W hWc hWf ty dc=>by
  have:=copy_run L W ty b off (n+1) dc ⟨vb,voff,none⟩ 1 vc vs (by rw[hvl,show min 1 (n+1)=1 by omega,Nat.one_mul])
   (λ j v hj=>by
    rw[Addr.add_lit,hWc,hW1,World.cell?_setCells_out b _ _ _ _ (λ h _=>absurd h hvb)]
    exact hvs j v hj)
   (λ j hj=>by rw[hWc];exact hsp1 _ (by omega)) (λ j hj=>by rw[hWf,hW1,World.frozen?_setCells];exact hfz _ (by omega)) h1v
  rw[this];congr 2;omega
 rw[<-hW1]at hcp1
 have hw1:IntKind.i64.wrap 1=1:=rfl
 have hb1:(1:Int)<=(n:Int)+1:=by omega
 have hb2:¬ (c=1):=by omega
 have hb4:¬ (c=0):=by omega
 have hb5:(0:Int)<=(n:Int)+1:=by omega
 have hb6:¬ ((c:Int) < (n:Int)+1):=by omega
 have hb7:(n:Int)+1<=(c:Int):=by omega
 have htn:(1:Int).toNat=1:=rfl
 go_enter L.f22,Body2.n22_ntmps ρ
 go_wp2_with (simp only[hov])
 go_region_law_o (refine step_copy_runI rfl _ _ (ρ.t 24) (ρ.t 24) rfl _ _ (by simp[Act.eval,Act.put]) (by simp[Act.eval,Act.put]) (hcp1 _ _ _) ?_)
 go_wp2_with (at_builtin;refine wpList_copy_runI _ rfl _ _ (ρ.t 24) (ρ.t 24) rfl _ _ rfl rfl (hcp2 _ (λ _=>rfl) (λ _=>rfl) _ _) ?_)
 go_ret
 exact ⟨rfl,rfl⟩
set_option maxHeartbeats 4000000 in
set_option maxRecDepth 100000 in
theorem ins_grow (L:InsL P ρ nm sz by_ zv) (hz:1 < sz) (b off n c vb voff vc:Nat) (cs vs:List Value) (w:World) (hn:0 < n) (hnc:n<=c) (hroom:c < n+1) (hbig:(n+1)*by_<=140737488355328) (hnm:n+1<=4294967296)
  (hcl:cs.length=n*sz) (hvl:vs.length=sz) (hzl:zv.cells.size=sz)
  (hcs:∀ j v,cs[j]? = some v->w.cell? ⟨b,off+j,none⟩=some v)
  (hvs:∀ j v,vs[j]? = some v->w.cell? ⟨vb,voff+j,none⟩=some v) (h1c:∀ v ∈ cs,v.oneCell'=true) (h1v:∀ v ∈ vs,v.oneCell'=true) :
  Calls P (ρ.f 22) #[.slice (some ⟨b,off,none⟩) n c, .int .i64 0, .slice (some ⟨vb,voff,none⟩) 1 vc] w λ e w' =>
   e=.returned (.slice (some ⟨w.heap.size,0,none⟩) (n+1) (grownCap w (n+1) c (ρ.t 9))) ∧
   w'=(((w.alloc (.cells (([]:List Value).toArray++Builtin.zeroCells zv.cells (n+1)++Builtin.zeroCells zv.cells (grownCap w (n+1) c (ρ.t 9)-(n+1))) (ρ.t 9))).drew.setCells w.heap.size 0 vs).drew).setCells w.heap.size sz cs:=by
 have t3:=L.t3;have a3:=L.a3;have z3:=L.z3;have v3:=L.v3;have t4:=L.t4;have a4:=L.a4;have z4:=L.z4;have v4:=L.v4;have t24:=L.t24;have a24:=L.a24;have z24:=L.z24;have v24:=L.v24;have z9:=L.z9
 have u3:=run_underlying L.t3;have u4:=run_underlying L.t4;have u24:=run_underlying L.t24
 have mixed:=L.mixed
 obtain ⟨i0,hi0,hz0,hzs,hzb⟩:=L.i9
 have hz1:¬ ((0:Int)=(n:Int)):=by omega
 have hz3:(c:Int) < (n:Int)+1:=by omega
 have hn1:(n+1)*sz=n*sz+sz:=by rw[Nat.add_mul,Nat.one_mul]
 have hnp:0 < n*sz:=Nat.mul_pos hn (by omega)
 have hbw:b < w.heap.size:=block_lt_of_cell (hcs 0 _ (List.getElem?_eq_getElem (by omega)))
 have hvw:vb < w.heap.size:=block_lt_of_cell (hvs 0 _ (List.getElem?_eq_getElem (by omega)))
 have hold:(Builtin.firstCells i0.size 0 (.slice (some ⟨b,off,none⟩) 0 c)).run P w.drew=.ok ([]:List Value).toArray w.drew :=
  run_firstCells_some w.drew i0.size 0 ⟨b,off,none⟩ 0 c [] (by simp) (λ j v hj=>by simp at hj)
 have hrz:∀ ty,(Builtin.append_ #[(ρ.t 24),(ρ.t 3)] ty #[.slice (some ⟨b,off,none⟩) 0 c, .int .i64 ((n:Int)+1)]).run P w =
   .ok (.slice (some ⟨w.heap.size,0,none⟩) (n+1) (grownCap w (n+1) c (ρ.t 9))) (w.drew.alloc (.cells (([]:List Value).toArray++Builtin.zeroCells zv.cells (n+1)++Builtin.zeroCells zv.cells (grownCap w (n+1) c (ρ.t 9)-(n+1))) (ρ.t 9))):=λ ty=>by
  have h:=Lib.run_append_grow_zeros w (ρ.t 24) (ρ.t 3) ty (ρ.t 9) i0 zv .i64 .i64 L.t24 L.t3 hi0 hz0 (some ⟨b,off,none⟩) 0 c [] hold (n+1) (by omega) (by omega) (by omega) (by omega) (by rw[hzb];omega) (by rw[hzb,Nat.zero_add];exact growslice_fits hroom hbig)
  rw[Nat.zero_add]at h
  rw[show ((n:Int)+1)=((n+1:Nat):Int) by omega]
  exact h
 have hGn:n+1<=grownCap w (n+1) c (ρ.t 9):=grownCap_ge w _ _ _
 have hG63:grownCap w (n+1) c (ρ.t 9)<=9223372036854775807:=by
  have:=grownCap_le_maxLen w (n+1) c (ρ.t 9) (by unfold maxLen;omega)
  unfold maxLen at this
  omega
 have hRl:(n+1)*sz<=(([]:List Value).toArray++Builtin.zeroCells zv.cells (n+1)++Builtin.zeroCells zv.cells (grownCap w (n+1) c (ρ.t 9)-(n+1))).size:=by
  simp only[Array.size_append,size_zeroCells,hzl]
  omega
 generalize grownCap w (n+1) c (ρ.t 9)=G at *
 generalize ([]:List Value).toArray++Builtin.zeroCells zv.cells (n+1)++Builtin.zeroCells zv.cells (G-(n+1))=ROW at *
 obtain ⟨W1,hW1⟩:∃ W1,W1=w.drew.alloc (.cells ROW (ρ.t 9)):=⟨_,rfl⟩
 rw[<-hW1]at hrz
 have hN:∀ j,j < (n+1)*sz->(W1.cell? ⟨w.heap.size,j,none⟩).isSome=true:=λ j hj=>by
  rw[hW1,World.cell?_alloc_at (w:=w.drew) ROW _ w.heap.size j rfl,Array.getElem?_eq_getElem (by omega)];rfl
 have hNf:∀ j,W1.frozen? ⟨w.heap.size,j,none⟩=false:=λ j=>by rw[hW1];exact World.frozen?_alloc_at (w:=w.drew) ROW _ w.heap.size j rfl
 have hOb:∀ j v,w.cell? ⟨b,j,none⟩=some v->W1.cell? ⟨b,j,none⟩=some v:=λ j v h=>by rw[hW1,World.cell?_alloc_past (w:=w.drew) _ b j hbw];exact h
 have hOv:∀ j v,w.cell? ⟨vb,j,none⟩=some v->W1.cell? ⟨vb,j,none⟩=some v:=λ j v h=>by rw[hW1,World.cell?_alloc_past (w:=w.drew) _ vb j hvw];exact h
 have hcpA:∀ (W:World),(∀ x,W.cell? x=W1.cell? x)->(∀ x,W.frozen? x=W1.frozen? x)->∀ ty dc,(Builtin.copy_ #[(ρ.t 24),(ρ.t 24)] ty #[.slice (some ⟨w.heap.size,0,none⟩) (n+1) dc, .slice (some ⟨vb,voff,none⟩) 1 vc]).run P W=.ok (goInt 1) (W.setCells w.heap.size 0 vs):=λ W hWc hWf ty dc=>by
  have:=copy_run L W ty w.heap.size 0 (n+1) dc ⟨vb,voff,none⟩ 1 vc vs (by rw[hvl,show min 1 (n+1)=1 by omega,Nat.one_mul])
   (λ j v hj=>by rw[Addr.add_lit,hWc];exact hOv _ v (hvs j v hj))
   (λ j hj=>by rw[hWc,Nat.zero_add];exact hN _ (by omega)) (λ j hj=>by rw[hWf,Nat.zero_add];exact hNf _) h1v
  rw[this];congr 2;omega
 have hbN:b≠w.heap.size:=by omega
 have hcpB:∀ (W:World),(∀ x,W.cell? x=(W1.setCells w.heap.size 0 vs).cell? x)->(∀ x,W.frozen? x=(W1.setCells w.heap.size 0 vs).frozen? x)->∀ ty dc sc,(Builtin.copy_ #[(ρ.t 24),(ρ.t 24)] ty #[.slice (some ⟨w.heap.size,sz,none⟩) n dc, .slice (some ⟨b,off,none⟩) n sc]).run P W=.ok (goInt n) (W.setCells w.heap.size sz cs):=λ W hWc hWf ty dc sc=>by
  have:=copy_run L W ty w.heap.size sz n dc ⟨b,off,none⟩ n sc cs (by rw[hcl,Nat.min_self])
   (λ j v hj=>by
    rw[Addr.add_lit,hWc,World.cell?_setCells_out _ _ _ _ _ (λ h _=>absurd h hbN)]
    exact hOb _ v (hcs j v hj))
   (λ j hj=>by rw[hWc];exact setC_some _ _ _ _ _ (hN _ (by omega)))
   (λ j hj=>by rw[hWf,World.frozen?_setCells];exact hNf _) h1c
  rw[this];congr 2;omega
 subst hW1
 have hE1:∀ x,((w.alloc (.cells ROW (ρ.t 9))).drew).cell? x=(w.drew.alloc (.cells ROW (ρ.t 9))).cell? x:=λ x=>rfl
 have hE2:∀ x,((w.alloc (.cells ROW (ρ.t 9))).drew).frozen? x=(w.drew.alloc (.cells ROW (ρ.t 9))).frozen? x:=λ x=>rfl
 have hF1:∀ x,(((w.alloc (.cells ROW (ρ.t 9))).drew.setCells w.heap.size 0 vs).drew).cell? x=((w.drew.alloc (.cells ROW (ρ.t 9))).setCells w.heap.size 0 vs).cell? x:=λ x=>rfl
 have hF2:∀ x,(((w.alloc (.cells ROW (ρ.t 9))).drew.setCells w.heap.size 0 vs).drew).frozen? x=((w.drew.alloc (.cells ROW (ρ.t 9))).setCells w.heap.size 0 vs).frozen? x:=λ x=>rfl
 have hw1:IntKind.i64.wrap 1=1:=rfl
 have hw2:IntKind.i64.wrap ((n:Int)+1)=(n:Int)+1:=by rw[IntKind.wrap_i64];omega
 have hb1:(1:Int)<=(n:Int)+1:=by omega
 have hGi:¬ (G=0):=by omega
 have hGim:¬ (G=1):=by omega
 have hci:¬ (c=0):=by omega
 have hb5:(0:Int)<=(n:Int)+1:=by omega
 have htn:(1:Int).toNat=1:=rfl
 clear hold hRl
 go_enter L.f22,Body2.n22_ntmps ρ
 go_wp2_with (first
  | (at_builtin;refine Lib.wpList_append_run _ rfl _ _ _ _ rfl _ _ rfl rfl _ _ (hrz _) ?_)
  | (at_builtin;refine wpList_copy_runI _ rfl _ _ (ρ.t 24) (ρ.t 24) rfl _ _ rfl rfl (hcpA _ hE1 hE2 _ _) ?_)
  | (at_builtin;refine wpList_copy_runI _ rfl _ _ (ρ.t 24) (ρ.t 24) rfl _ _ rfl rfl (hcpB _ (λ _=>rfl) (λ _=>rfl) _ _ _) ?_))
 go_region_law_o (refine step_copy_runI rfl _ _ (ρ.t 24) (ρ.t 24) rfl (.slice (some ⟨w.heap.size,sz,none⟩) n (G-1)) (.slice (some ⟨b,off,none⟩) n c) (by simp[Act.eval,Act.put]) (by simp[Act.eval,Act.put]) (hcpB _ hF1 hF2 (ρ.t 3) (G-1) c) ?_)
 go_wp2
 go_ret
 exact ⟨rfl,rfl⟩
set_option maxHeartbeats 4000000 in
set_option maxRecDepth 100000 in
theorem ins_none (L:InsL P ρ nm sz by_ zv) (base:Option Addr) (c vb voff vc:Nat) (w:World) (v':Value) (w':World)
  (hrun:(Builtin.append_ #[(ρ.t 24),(ρ.t 24)] (ρ.t 24) #[.slice base 0 c, .slice (some ⟨vb,voff,none⟩) 1 vc]).run P w=.ok v' w') :
  Calls P (ρ.f 22) #[.slice base 0 c, .int .i64 0, .slice (some ⟨vb,voff,none⟩) 1 vc] w λ e w''=>e=.returned v'/\w''=w':=by
 have t3:=L.t3;have a3:=L.a3;have z3:=L.z3;have v3:=L.v3;have t4:=L.t4;have a4:=L.a4;have z4:=L.z4;have v4:=L.v4;have t24:=L.t24;have a24:=L.a24;have z24:=L.z24;have v24:=L.v24;have z9:=L.z9
 have u3:=run_underlying L.t3;have u4:=run_underlying L.t4;have u24:=run_underlying L.t24
 have mixed:=L.mixed
 go_enter L.f22,Body2.n22_ntmps ρ
 cases base with
 | none =>
  go_wp2_with (at_builtin;refine Lib.wpList_append_run _ rfl _ _ _ _ rfl _ _ rfl rfl _ _ hrun ?_)
  all_goals (go_ret;exact ⟨rfl,rfl⟩)
 | some a =>
  obtain ⟨ab,ao,asp⟩:=a
  go_wp2_with (at_builtin;refine Lib.wpList_append_run _ rfl _ _ _ _ rfl _ _ rfl rfl _ _ hrun ?_)
  all_goals (go_ret;exact ⟨rfl,rfl⟩)
end Go.Fm
namespace Go.Fm
open Go.Proofs Go.Shelf Go.RowKit Go.Lib
variable [Globs]
theorem RelAt.redo {C:Ctx} {ρ:Rho} {φ:St} {a:Act} {w w':World} (R:RelAt C ρ φ a w) (id:Nat) (blk:Blk) (L:Loc) (hb:φ.heap id=.live blk) (hL:ρ id=some L)
  (nid:Nat) (hno:φ.heap nid=.no) (n':Nat) (ns:List CV) (hln:ns.length=n'*blk.sz) (hE:ns.length<=L.e)
  (hk:∀ k,k≠L.b->w'.heap[k]? = w.heap[k]?) (hsize:w'.heap.size=w.heap.size) (hos:w'.os=w.os) (htp:w'.tape=w.tape) (hout:w'.output=w.output)
  (hsome:∀ x,(w.cell? x).isSome=true->(w'.cell? x).isSome=true) (hfz:∀ x,w'.frozen? x=w.frozen? x)
  (hcs:∀ (j:Nat) (c:CV),ns[j]? = some c->∃ u:Value,w'.cell? ⟨L.b,L.o+j,none⟩=some u/\RV w C.Sh ρ φ.heap u c) :
  RelAt C (upd ρ nid (some L)) { φ with heap:=upd (upd φ.heap id .dead) nid (.live ⟨blk.sz,n',ns⟩) } a w':=by
 have hrb:=R.hp.blk id blk hb
 unfold RB at hrb
 rw[hL]at hrb
 obtain ⟨q1,q2,q3,q4⟩:=hrb
 obtain ⟨p1,p2,p3⟩:=R.hp.own id blk L hb hL
 have hne:nid≠id:=λ e=>by rw[e,hb]at hno;cases hno
 have hk0:=R.k0_le hno
 have hle:∀ i,HLe (φ.heap i) (ρ i) (upd (upd φ.heap id .dead) nid (.live ⟨blk.sz,n',ns⟩) i) (upd ρ nid (some L) i):=by
  intro i
  by_cases e:i=nid
  ·subst e;rw[hno];trivial
  ·rw[upd_ne _ _ e,upd_ne _ _ e]
   by_cases e2:i=id
   ·subst e2;rw[hb,upd_same];trivial
   ·rw[upd_ne _ _ e2];exact HLe.refl _ _
 have hsh:∀ k,C.Sh k->w'.heap[k]? = w.heap[k]? := λ k hk'=>hk k (λ e=>p2 (e▸hk'))
 refine R.at L.b nid ⟨p2,p3,by rw[hsize];exact p1⟩ (λ k _ hk'=>hk k hk') (by rw[hsize];exact Nat.le_refl _) hos htp hout hle (λ i hi=>upd_ne _ _ (λ e=>hk0 (e▸hi))) ?_ ?_
 ·intro i b hi hni
  rw[upd_ne _ _ hni]at hi
  by_cases e:i=id
  ·subst e;rw[upd_same]at hi;cases hi
  ·rw[upd_ne _ _ e]at hi
   exact ⟨hi,upd_ne _ _ hni,λ L' hL' he=>e (R.hp.inj i id b blk L' L hi hb hL' hL he)⟩
 ·intro b hi
  rw[upd_same]at hi
  cases hi
  refine ⟨⟨_,upd_same _ _ _,rfl⟩,?_⟩
  unfold RB
  rw[upd_same]
  refine ⟨hln,hE,λ j hj=>⟨hsome _ (q3 j hj).1,by rw[hfz];exact (q3 j hj).2.1,λ hz k=>by rw[hfz];exact (q3 j hj).2.2 hz k⟩,λ j c hc => ?_⟩
  obtain ⟨u,hu,hr⟩:=hcs j c hc
  exact ⟨u,hu,hr.mono hsh hle⟩
theorem vals_of {cs:List CV} {Q:Nat->Value->CV->Prop} (h:∀ (j:Nat) (c:CV),cs[j]? = some c->∃ u,Q j u c):∃ us:List Value,us.length=cs.length/\∀ (j:Nat) (c:CV),cs[j]? = some c->∃ u:Value,us[j]? = some u/\Q j u c:=by
 induction cs generalizing Q with
 | nil=>exact ⟨[],rfl,λ j c hc=>by simp at hc⟩
 | cons c r ih =>
  obtain ⟨u,hu⟩:=h 0 c rfl
  obtain ⟨us,h1,h2⟩:=ih (Q:=λ j=>Q (j+1)) λ j c hc=>h (j+1) c (by simpa using hc)
  refine ⟨u::us,by simp[h1],λ j c' hc => ?_⟩
  cases j with
  | zero=>simp at hc;subst hc;exact ⟨u,rfl,hu⟩
  | succ j =>
   obtain ⟨v,e1,e2⟩:=h2 j c' (by simpa using hc)
   exact ⟨v,by simpa using e1,e2⟩
theorem PostM.of {C:Ctx} {bs h1:List HS} {r:SV} {v:Value} {w':World} {ρ:Rho} {φ:St} {a:Act} (R:RelAt C ρ φ a w') (hh:φ.heap=hOf h1) (hv:RSV w' C.Sh ρ φ.heap v r) (hb:bs.length=C.k0):PostM C bs h1 r v w':=by
 refine ⟨ρ,C.Sh,by rw[<-hh];exact R.hp,by rw[<-hh];exact hv,λ id hid => ?_,R.fr,λ k h=>h,λ k h=>⟨R.sh_lt h, .inl h⟩⟩
 rw[hb]at hid
 rw[<-hh]
 exact R.init id hid
variable {P:Program} {ρ:Ren} {nm:String} {sz by_:Nat} {zv:Value}
theorem get_val {us:List Value} {cs:List CV} {Q:Nat->Value->CV->Prop} (hl:us.length=cs.length) (h:∀ (j:Nat) (c:CV),cs[j]? = some c->∃ u:Value,us[j]? = some u/\Q j u c) {j:Nat} {u:Value} (hu:us[j]? = some u):∃ c,cs[j]? = some c/\Q j u c:=by
 obtain ⟨hj,_⟩:=List.getElem?_eq_some_iff.1 hu
 obtain ⟨v,e1,e2⟩:=h j cs[j] (List.getElem?_eq_getElem (by omega))
 rw[hu]at e1
 cases e1
 exact ⟨_,List.getElem?_eq_getElem (by omega),e2⟩
theorem laid {w:World} {b o:Nat} {vs cs:List Value} (hs:∀ j,j < vs.length+cs.length->(w.cell? ⟨b,o+j,none⟩).isSome=true) (w1:World) (h1:∀ x,w1.cell? x=(w.setCells b (o+vs.length) cs).cell? x) (j:Nat) (u:Value) (hu:(vs++cs)[j]? = some u) :
  (w1.setCells b o vs).cell? ⟨b,o+j,none⟩=some u:=by
 by_cases hj:j < vs.length
 ·rw[List.getElem?_append_left hj]at hu
  obtain ⟨h,e⟩:=List.getElem?_eq_some_iff.1 hu
  rw[World.cell?_setCells_in b vs o w1 (λ i hi=>by rw[h1];exact setC_some _ _ _ _ _ (hs i (by omega))) j hj,e]
 ·rw[List.getElem?_append_right (by omega)]at hu
  obtain ⟨h,e⟩:=List.getElem?_eq_some_iff.1 hu
  rw[World.cell?_setCells_out b vs o w1 _ (λ _ _=>.inr (by show o+vs.length<=o+j;omega)),h1]
  have:=World.cell?_setCells_in b cs (o+vs.length) w (λ i hi=>by rw[Nat.add_assoc];exact hs _ (by omega)) (j-vs.length) h
  rw[show o+vs.length+(j-vs.length)=o+j by omega]at this
  rw[this,e]
theorem laid2 {w:World} {b o:Nat} {vs cs:List Value} (hs:∀ j,j < vs.length+cs.length->(w.cell? ⟨b,o+j,none⟩).isSome=true) (w1:World) (h1:∀ x,w1.cell? x=(w.setCells b o vs).cell? x) (j:Nat) (u:Value) (hu:(vs++cs)[j]? = some u) :
  (w1.setCells b (o+vs.length) cs).cell? ⟨b,o+j,none⟩=some u:=by
 by_cases hj:j < vs.length
 ·rw[List.getElem?_append_left hj]at hu
  obtain ⟨h,e⟩:=List.getElem?_eq_some_iff.1 hu
  rw[World.cell?_setCells_out b cs _ w1 _ (λ _ _=>.inl (by show o+j < o+vs.length;omega)),h1,World.cell?_setCells_in b vs o w (λ i hi=>hs i (by omega)) j hj,e]
 ·rw[List.getElem?_append_right (by omega)]at hu
  obtain ⟨h,e⟩:=List.getElem?_eq_some_iff.1 hu
  have:=World.cell?_setCells_in b cs (o+vs.length) w1 (λ i hi=>by rw[h1,Nat.add_assoc];exact setC_some _ _ _ _ _ (hs _ (by omega))) (j-vs.length) h
  rw[show o+vs.length+(j-vs.length)=o+j by omega]at this
  rw[this,e]
theorem rest_setC (b:Nat) (vs:List Value) (o:Nat) (w:World):(w.setCells b o vs).os=w.os/\(w.setCells b o vs).tape=w.tape/\(w.setCells b o vs).output=w.output/\(w.setCells b o vs).heap.size=w.heap.size/\∀ k,k≠b->(w.setCells b o vs).heap[k]? = w.heap[k]? := by
 obtain ⟨r1,r2,r3⟩:=rest_setCells b vs o w
 exact ⟨r1,r2,r3,size_setCells _ _ _ _,λ k hk=>heap_setCells_other _ _ _ _ _ hk⟩
theorem shape_of_cell {w:World} {b o:Nat} (h:(w.cell? ⟨b,o,none⟩).isSome=true):∃ t k,w.shape? b=some (t,k)/\k≠0:=by
 unfold World.cell? at h
 unfold World.shape?
 split at h
 ·rename_i c t fz e
  simp only at e
  rw[e]
  refine ⟨_,_,rfl,λ h0 => ?_⟩
  have:c = #[]:=Array.eq_empty_of_size_eq_zero h0
  rw[this]at h
  simp at h
 all_goals first|(cases h;done)|skip
end Go.Fm
namespace Go.Fm
open Go.Proofs Go.Shelf Go.RowKit Go.Lib
variable [Globs] [Structs] [Tabs]
variable {P:Program} {ρ:Ren} {nm:String} {sz by_:Nat} {zv:Value}
theorem InsL.kind (L:InsL P ρ nm sz by_ zv):kindF P (ρ.t 24)=.slice (ρ.t 9):=by unfold kindF;rw[L.t24]
theorem InsL.sizeE (L:InsL P ρ nm sz by_ zv):sizeF P (ρ.t 9)=some sz:=by
 obtain ⟨i,h,_,h2,_⟩:=L.i9
 unfold sizeF;rw[h];simp[h2]
theorem InsL.bytesE (L:InsL P ρ nm sz by_ zv):bytesF P (ρ.t 9)=some by_:=by
 obtain ⟨i,h,_,_,h2⟩:=L.i9
 unfold bytesF;rw[h];simp[h2]
theorem InsL.zero (L:InsL P ρ nm sz by_ zv) (h:zv.cells.toList.all (·.oneCell')=true):zeroF P (ρ.t 9)=some (zv.cells.toList.map constCV):=by
 obtain ⟨i,h1,h2,_⟩:=L.i9
 unfold zeroF
 rw[h1,Option.bind_some,h2]
 simp only[h,if_true]
theorem ext_ins (L:InsL P ρ nm sz by_ zv) (hz:1 < sz) (hb:by_<=1024) (hzl:zv.cells.size=sz) (hz1:zv.cells.toList.all (·.oneCell')=true) {f:FuncId} (hf:ρ.f 22=f) {cs vs:List CV} {n:Nat} (hn:n+1<=4294967296) (hcl:cs.length=n*sz) (hvl:vs.length=sz) :
  Ans P f [.one (.arr 0 0 n), .one (.int .i64 0), .one (.arr 1 0 1)] [.live ⟨sz,n,cs⟩, .live ⟨sz,1,vs⟩] λ v h1=>v=one (.arr 2 0 (n+1))/\h1=[.dead, .dead, .live ⟨sz,n+1,vs++cs⟩]:=λ hm=>by
 refine ⟨_,_,meets_of (by rw[<-hf];exact enters_of L.f22 L.hn rfl) ?_,rfl,rfl⟩
 intro C us hP hk hlen hargs hheap hno
 obtain ⟨u0,g0,r0⟩:=hargs 0 _ rfl
 obtain ⟨u1,g1,r1⟩:=hargs 1 _ rfl
 obtain ⟨u2,g2,r2⟩:=hargs 2 _ rfl
 obtain rfl:us=[u0,u1,u2]:=by
  match us,hlen,g0,g1,g2 with
  | [a,b,c],_,g0,g1,g2=>simp at g0 g1 g2;rw[g0,g1,g2]
 have r0:RArr (C.rho0 0) sz n u0 0 n:=r0
 have r2:RArr (C.rho0 1) sz 1 u2 0 1:=r2
 have r1:RI C.w0 C.Sh u1 (.int .i64 0):=r1
 cases r1
 have hb0:=hheap.blk 0 _ rfl
 have hb1:=hheap.blk 1 _ rfl
 -- where the call stands
 have R:RelAt C C.rho0 ⟨λ _=>one .dead,hOf [.live ⟨sz,n,cs⟩, .live ⟨sz,1,vs⟩]⟩ ⟨Array.replicate C.nt undef,[]⟩ C.w0 :=
  ⟨rfl,by simp,λ t=>trivial,hheap,λ id hid=>⟨hno id (by rw[hk]at hid;exact hid),rfl⟩, .refl _ _⟩
 -- the element
 cases hL1:C.rho0 1 with
 | none=>rw[hL1]at r2;exact absurd r2.1 (by decide)
 | some Lv =>
 rw[hL1]at r2
 rcases r2 with ⟨vc,e2',v2,v3,_⟩|⟨h0,_⟩
 case inr=>exact absurd h0 (by decide)
 rw[show Lv.o+0*sz=Lv.o by omega]at e2'
 subst e2'
 unfold RB at hb1
 rw[hL1]at hb1
 obtain ⟨p1,p2,p3,p4⟩:=hb1
 simp only at p1 p2 p4
 obtain ⟨vals,q1,q2⟩:=vals_of p4
 have hvv:∀ j v,vals[j]? = some v->C.w0.cell? ⟨Lv.b,Lv.o+j,none⟩=some v:=λ j v hj=>by
  obtain ⟨c,e1,e2,e3⟩:=get_val q1 q2 hj
  exact e2
 have hvr:∀ (j:Nat) (c:CV),vs[j]? = some c->∃ u:Value,vals[j]? = some u/\RV C.w0 C.Sh C.rho0 (hOf [.live ⟨sz,n,cs⟩, .live ⟨sz,1,vs⟩]) u c:=λ j c hc=>by
  obtain ⟨u,e1,e2,e3⟩:=q2 j c hc
  exact ⟨u,e1,e3⟩
 have hone:∀ v ∈ vals,v.oneCell'=true:=one_of_rel q1 hvr
 have hkl:∀ (ρ':Rho) (h':Nat->HS) (w':World) (v:Value) (hn2:h' 1≠.no) (b2:Blk) (h2:h' 2=.live b2),RSV w' C.Sh ρ' h' v (one (.arr 2 0 (n+1)))->RSV w' C.Sh ρ' (upd h' 1 .dead) v (one (.arr 2 0 (n+1))):=by
  intro ρ' h' w' v hn2 b2 h2 hv
  have:RV w' C.Sh ρ' h' v (.arr 2 0 (n+1)):=hv
  simp only[RV,h2]at this
  show RV w' C.Sh ρ' (upd h' 1 .dead) v (.arr 2 0 (n+1))
  simp only[RV,upd_ne _ _ (show (2:Nat)≠1 by decide),h2]
  exact this
 -- nothing there yet
 have empty:∀ base c,n=0->u0=.slice base 0 c->Calls P f #[u0, .int .i64 0, .slice (some ⟨Lv.b,Lv.o,none⟩) 1 vc] C.w0 λ e w'=>∃ v,e=.returned v/\PostM C [.live ⟨sz,n,cs⟩, .live ⟨sz,1,vs⟩] [.dead, .dead, .live ⟨sz,n+1,vs++cs⟩] (one (.arr 2 0 (n+1))) v w':=by
  intro base c hn0 hu
  subst hn0
  have hc0:cs=[]:=List.eq_nil_of_length_eq_zero (by simpa using hcl)
  obtain ⟨v',w',ρ',e1,e2,e3⟩:=append_arr (P:=P) (nid:=2) (ty:=ρ.t 24) (id:=0) (lo:=0) (n:=0) (m:=1) (b:=⟨sz,0,cs⟩) (ns:=vs) (x:=.slice (some ⟨Lv.b,Lv.o,none⟩) 1 vc) (v:=u0) R rfl rfl rfl (by omega) r0 L.kind (.inl ⟨_,L.kind⟩) L.sizeE L.bytesE (L.zero hz1) hb (by simp[hzl]) (by unfold maxN;omega)
   (by rw[hvl,Nat.one_mul]) (λ w'=>rfl) vals q1 hvr (λ k w' hk' hw'=>by
    refine run_firstCells_some w' sz k ⟨Lv.b,Lv.o,none⟩ 1 vc (vals.take (k*sz)) ?_ λ j v hj => ?_
    ·rw[List.length_take,q1,hvl]
     have:k*sz<=1*sz:=Nat.mul_le_mul_right _ hk'
     omega
    ·rw[List.getElem?_take]at hj
     split at hj
     ·rw[Addr.add_lit,World.cell?_of_block (w:=C.w0) (by rw[hw'])]
      exact hvv j v hj
     ·cases hj)
  rw[<-hf]
  subst hu
  refine (ins_none L base c Lv.b Lv.o vc C.w0 v' w' e1).mono ?_
  rintro e w2 ⟨rfl,rfl⟩
  refine ⟨_,rfl,?_⟩
  have R2:=e2.kill 1 (by simp[upd,hOf])
  refine PostM.of R2 ?_ (hkl _ _ _ _ (by simp[upd,hOf]) _ (by simp[upd];rfl) e3) (by rw[hk])
  funext i
  match i with
  | 0=>rfl
  | 1=>rfl
  | 2=>simp[upd,hOf,hc0]
  | i+3=>simp[upd,hOf]
 cases hL0:C.rho0 0 with
 | none =>
  rw[hL0]at r0
  obtain ⟨e1,a,e2⟩:=r0
  exact empty a 0 e1 e2
 | some Lc =>
  have r0':=r0
  rw[hL0]at r0
  rcases r0 with ⟨cap,e0',c1,c2,_⟩|⟨e1,_,a,e2⟩
  case inr=>exact empty a 0 e1 e2
  rw[show Lc.o+0*sz=Lc.o by omega]at e0'
  subst e0'
  by_cases hn0:n=0
  ·exact empty _ _ hn0 (by rw[hn0])
  clear empty
  unfold RB at hb0
  rw[hL0]at hb0
  obtain ⟨b1,b2,b3,b4⟩:=hb0
  simp only at b1 b2 b4
  obtain ⟨olds,o1,o2⟩:=vals_of b4
  have hov:∀ j v,olds[j]? = some v->C.w0.cell? ⟨Lc.b,Lc.o+j,none⟩=some v:=λ j v hj=>by
   obtain ⟨c,e1,e2,e3⟩:=get_val o1 o2 hj
   exact e2
  have hor:∀ (j:Nat) (c:CV),cs[j]? = some c->∃ u:Value,olds[j]? = some u/\RV C.w0 C.Sh C.rho0 (hOf [.live ⟨sz,n,cs⟩, .live ⟨sz,1,vs⟩]) u c:=λ j c hc=>by
   obtain ⟨u,e1,e2,e3⟩:=o2 j c hc
   exact ⟨u,e1,e3⟩
  have hone0:∀ v ∈ olds,v.oneCell'=true:=one_of_rel o1 hor
  have hbv:Lv.b≠Lc.b:=λ e=>by
   have:=hheap.inj 1 0 _ _ Lv Lc rfl rfl hL1 hL0 e
   omega
  have hn1:(n+1)*sz=n*sz+sz:=by rw[Nat.add_mul,Nat.one_mul]
  have hal:(vals++olds).length=(vs++cs).length:=by rw[List.length_append,List.length_append,q1,o1]
  have har:∀ (j:Nat) (c:CV),(vs++cs)[j]? = some c->∃ u:Value,(vals++olds)[j]? = some u/\RV C.w0 C.Sh C.rho0 (hOf [.live ⟨sz,n,cs⟩, .live ⟨sz,1,vs⟩]) u c:=λ j c hc=>by
   by_cases hj:j < vs.length
   ·rw[List.getElem?_append_left hj]at hc
    obtain ⟨u,e1,e2⟩:=hvr j c hc
    exact ⟨u,by rw[List.getElem?_append_left (by omega)];exact e1,e2⟩
   ·rw[List.getElem?_append_right (by omega)]at hc
    obtain ⟨u,e1,e2⟩:=hor _ c hc
    exact ⟨u,by rw[List.getElem?_append_right (by omega),q1];exact e1,e2⟩
  have hp3:=p3 0 (by omega)
  obtain ⟨tA,kA,sA,_⟩:=shape_of_cell hp3.1
  by_cases hroom:n+1<=cap
  ·have hcE:(n+1)*sz<=Lc.e:=Nat.le_trans (Nat.mul_le_mul_right _ (by omega)) (by rw[Nat.zero_add]at c2;exact c2)
   have hb3:=b3 0 (by omega)
   obtain ⟨tB,kB,sB,nB⟩:=shape_of_cell hb3.1
   rw[<-hf]
   refine (ins_shift L hz Lc.b Lc.o n cap Lv.b Lv.o vc olds vals C.w0 (by omega) hroom hn hbv (by rw[o1,hcl]) (by rw[q1,hvl]) hov (λ j hj=>(b3 j (by omega)).1) (λ j hj=>(b3 j (by omega)).2.1) hvv hone0 hone
    tA tB kA kB sA sB nB (by have:=hp3.2.1;rwa [Nat.add_zero]at this) (hp3.2.2 (by show sz≠1;omega) kA)).mono ?_
   rintro e w2 ⟨rfl,rfl⟩
   refine ⟨_,rfl,?_⟩
   obtain ⟨a1,a2,a3,a4,a5⟩:=rest_setC Lc.b olds (Lc.o+sz) C.w0.drew
   obtain ⟨d1,d2,d3,d4,d5⟩:=rest_setC Lc.b vals Lc.o (C.w0.drew.setCells Lc.b (Lc.o+sz) olds)
   have R1:=R.redo 0 ⟨sz,n,cs⟩ Lc rfl hL0 2 rfl (n+1) (vs++cs) (by rw[List.length_append,hvl,hcl];show sz+n*sz=(n+1)*sz;omega) (by rw[List.length_append];omega) (w':=(C.w0.drew.setCells Lc.b (Lc.o+sz) olds).setCells Lc.b Lc.o vals)
    (λ k hk'=>by rw[d5 k hk',a5 k hk'];rfl) (by rw[d4,a4];rfl) (by rw[d1,a1];rfl) (by rw[d2,a2];rfl) (by rw[d3,a3];rfl)
    (λ x hx=>setC_some _ _ _ _ _ (setC_some _ _ _ _ _ hx)) (λ x=>by rw[World.frozen?_setCells,World.frozen?_setCells];rfl)
    (λ j c hc=>by
     obtain ⟨u,e1,e2⟩:=har j c hc
     refine ⟨u,?_,e2⟩
     exact laid (w:=C.w0.drew) (λ j hj=>by show (C.w0.cell? _).isSome=true;exact (b3 j (by rw[q1,o1,hvl,hcl]at hj;omega)).1) _ (λ x=>by rw[show vals.length=sz by omega]) j u e1)
   have R2:=R1.kill 1 (by simp[upd,hOf])
   refine PostM.of R2 ?_ (hkl _ _ _ _ (by simp[upd,hOf]) _ (by simp[upd];rfl) (arr_new (L:=Lc) rfl hroom (by rw[Nat.zero_add]at c2;exact c2) rfl)) (by rw[hk])
   funext i
   match i with
   | 0=>rfl
   | 1=>rfl
   | 2=>rfl
   | i+3=>rfl
  ·have hbig:(n+1)*by_<=140737488355328:=by
    have:=Nat.mul_le_mul hn hb
    omega
   rw[<-hf]
   refine (ins_grow L hz Lc.b Lc.o n cap Lv.b Lv.o vc olds vals C.w0 (by omega) c1 (by omega) hbig hn (by rw[o1,hcl]) (by rw[q1,hvl]) hzl hov hvv hone0 hone).mono ?_
   rintro e w2 ⟨rfl,rfl⟩
   refine ⟨_,rfl,?_⟩
   have hG:=grownCap_ge C.w0 (n+1) cap (ρ.t 9)
   have hRs:(([]:List Value).toArray++Builtin.zeroCells zv.cells (n+1)++Builtin.zeroCells zv.cells (grownCap C.w0 (n+1) cap (ρ.t 9)-(n+1))).size=grownCap C.w0 (n+1) cap (ρ.t 9)*sz:=by
    simp only[Array.size_append,size_zeroCells,hzl]
    rw[show (([]:List Value).toArray).size=0 from rfl,Nat.zero_add,<-Nat.add_mul]
    congr 1
    omega
   have hGs:(n+1)*sz<=grownCap C.w0 (n+1) cap (ρ.t 9)*sz:=Nat.mul_le_mul_right _ hG
   generalize grownCap C.w0 (n+1) cap (ρ.t 9)=G at *
   generalize ([]:List Value).toArray++Builtin.zeroCells zv.cells (n+1)++Builtin.zeroCells zv.cells (G-(n+1))=ROW at *
   obtain ⟨a1,a2,a3,a4,a5⟩:=rest_setC C.w0.heap.size vals 0 (C.w0.alloc (.cells ROW (ρ.t 9))).drew
   obtain ⟨d1,d2,d3,d4,d5⟩:=rest_setC C.w0.heap.size olds sz ((C.w0.alloc (.cells ROW (ρ.t 9))).drew.setCells C.w0.heap.size 0 vals).drew
   have hs1:∀ j,j < G*sz->((C.w0.alloc (.cells ROW (ρ.t 9))).cell? ⟨C.w0.heap.size,j,none⟩).isSome=true:=λ j hj=>by
    rw[World.cell?_alloc_at (w:=C.w0) ROW _ C.w0.heap.size j rfl,Array.getElem?_eq_getElem (by omega)];rfl
   have hf1:∀ j,(C.w0.alloc (.cells ROW (ρ.t 9))).frozen? ⟨C.w0.heap.size,j,none⟩=false:=λ j=>World.frozen?_alloc_at (w:=C.w0) ROW _ C.w0.heap.size j rfl
   have hsz2:(C.w0.alloc (.cells ROW (ρ.t 9))).heap.size=C.w0.heap.size+1:=by simp
   have R1:=R.new 2 rfl ⟨sz,n+1,vs++cs⟩ (G*sz) (w':=(((C.w0.alloc (.cells ROW (ρ.t 9))).drew.setCells C.w0.heap.size 0 vals).drew).setCells C.w0.heap.size sz olds)
    (λ k hk'=>by rw[d5 k (by omega)];show ((C.w0.alloc (.cells ROW (ρ.t 9))).drew.setCells C.w0.heap.size 0 vals).heap[k]? = _;rw[a5 k (by omega)];exact Go.RowKit.Below.heap_alloc _ _ _ hk')
    (by rw[d4];show _ < ((C.w0.alloc (.cells ROW (ρ.t 9))).drew.setCells C.w0.heap.size 0 vals).heap.size;rw[a4];show _ < (C.w0.alloc (.cells ROW (ρ.t 9))).heap.size;omega)
    (by rw[d1];exact a1) (by rw[d2];exact a2) (by rw[d3];exact a3)
    (by rw[List.length_append,hvl,hcl];show sz+n*sz=(n+1)*sz;omega) (by rw[List.length_append];omega)
    (λ j hj=>⟨setC_some _ _ _ _ _ (setC_some _ _ _ _ _ (hs1 j hj)),by rw[World.frozen?_setCells];show ((C.w0.alloc (.cells ROW (ρ.t 9))).drew.setCells C.w0.heap.size 0 vals).frozen? _=_;rw[World.frozen?_setCells];exact hf1 j,λ _ k=>by rw[World.frozen?_setCells];show ((C.w0.alloc (.cells ROW (ρ.t 9))).drew.setCells C.w0.heap.size 0 vals).frozen? _=_;rw[World.frozen?_setCells];exact hf1 k⟩)
    (λ j c hc=>by
     obtain ⟨u,e1,e2⟩:=har j c hc
     refine ⟨u,?_,e2⟩
     have:=laid2 (w:=(C.w0.alloc (.cells ROW (ρ.t 9))).drew) (b:=C.w0.heap.size) (o:=0) (vs:=vals) (cs:=olds) (λ j hj=>by rw[Nat.zero_add];exact hs1 j (by rw[q1,o1,hvl,hcl]at hj;omega)) ((C.w0.alloc (.cells ROW (ρ.t 9))).drew.setCells C.w0.heap.size 0 vals).drew (λ x=>rfl) j u e1
     rw[Nat.zero_add,Nat.zero_add,show vals.length=sz by omega]at this
     exact this)
   have R2:=(R1.kill 0 (by simp[upd,hOf])).kill 1 (by simp[upd,hOf])
   refine PostM.of R2 ?_ ?_ (by rw[hk])
   ·funext i
    match i with
    | 0=>rfl
    | 1=>rfl
    | 2=>rfl
    | i+3=>rfl
   ·refine hkl _ _ _ _ (by simp[upd,hOf]) ⟨sz,n+1,vs++cs⟩ (by simp[upd]) ?_
    refine RSV.of_one ?_
    show RV _ _ _ (upd (upd _ 2 _) 0 _) _ (.arr 2 0 (n+1))
    simp only[RV,upd_ne _ _ (show (2:Nat)≠0 by decide),upd_same]
    exact .inl ⟨G,by simp,hG,by rw[Nat.zero_add];exact Nat.le_refl _,by omega,by omega⟩
end Go.Fm
namespace Go.Fm
open Go.Proofs Go.Shelf Go.RowKit Go.Lib
variable [Globs] [Structs] [Tabs]
theorem insInfo {P:Program} {e:TypeId} {z:Value} {size bytes:Nat} (h:(P.info? e).map (λ i=>(i.zero,i.size,i.bytes))=some (some z,size,bytes)):∃ i,P.info? e=some i/\i.zero=some z/\i.size=size/\i.bytes=bytes:=info_parts h
abbrev insP (t:Ty):Shp:=⟨[(0, .s (.list t) [(0,0)]),(1, .s (.int .i64) []),(2, .s (.list t) [(0,1)])],[.o, .o]⟩
abbrev insR (t:Ty):Shp:=⟨[(0, .s (.list t) [(0,2)])],[.d, .d, .o]⟩
def gIns {α:Type} (s:List α) (i:Int) (v:List α):Option (List α) :=
 cond (i==0&&(decide (v.length=1)&&decide (s.length < 4294967295))) (some (v++s)) none
theorem ins_ans {P:Program} {ρ:Ren} {nm:String} {by_:Nat} {zv:Value} {t:Ty} {f:FuncId} (L:InsL P ρ nm t.size by_ zv) (hz:1 < t.size) (hb:by_<=1024) (hzl:zv.cells.size=t.size) (hz1:zv.cells.toList.all (·.oneCell')=true) (hf:ρ.f 22=f)
  (hlen:∀ xs:List t.den,(xs.flatMap t.enc).length=xs.length*t.size)
  (a:List t.den×Int×List t.den) (r:List t.den) (hG:Good ⟨[],[],0,[]⟩ ((insP t).mkS a)) (hg:gIns a.1 a.2.1 a.2.2=some r) :
  Ans P f (pvsE ((insP t).mkS a).env) (heapC [] 0 ((insP t).mkS a).heap) λ v h=>v=svOf (pvsE ((insR t).mkS r).env)/\h=heapC (lvl0 [] ((insP t).mkS a)).fb 0 ((insR t).mkS r).heap/\Good (lvl0 [] ((insP t).mkS a)) ((insR t).mkS r):=by
 obtain ⟨s,i,v⟩:=a
 unfold gIns at hg
 cases hc:(i==0&&(decide (v.length=1)&&decide (s.length < 4294967295))) with
 | false=>simp only[hc]at hg;cases hg
 | true =>
  simp only[hc,cond_true]at hg
  cases hg
  simp only[Bool.and_eq_true,beq_iff_eq,decide_eq_true_eq]at hc
  obtain ⟨rfl,hv,hs⟩:=hc
  obtain ⟨x,rfl⟩:=List.length_eq_one_iff.1 hv
  have h:=ext_ins L hz hb hzl hz1 hf (cs:=s.flatMap t.enc) (vs:=[x].flatMap t.enc) (n:=s.length) (by omega) (hlen s) (by rw[hlen,hv,Nat.one_mul])
  show Ans P f [PV.one (.arr 0 0 s.length),PV.one (.int .i64 0),PV.one (.arr 1 0 1)] [HS.live ⟨t.size,s.length,s.flatMap t.enc⟩,HS.live ⟨t.size,1,[x].flatMap t.enc⟩] _
  refine h.mono λ u h1 ⟨g1,g2⟩=>⟨?_,?_,?_⟩
  ·rw[g1]
   rfl
  ·rw[g2]
   show _=[HS.dead,HS.dead,HS.live ⟨t.size,s.length+1,([x]++s).flatMap t.enc⟩]
   rw[List.flatMap_append]
  ·refine ⟨show 2<=3 by decide,λ i hi=>(by cases hi),λ k => ?_,λ j => ?_,λ j t' n xs hj hb => ?_⟩
   ·by_cases hk:k=0
    ·subst hk
     show goodC _ (.arr 2 ([x]++s).length)
     refine ⟨λ h=>(by cases h),λ t' n' xs h => ?_,λ t' css h=>(by cases h)⟩
     have h':(TB.rows t ([x]++s).length ([x]++s))=TB.rows t' n' xs:=h
     injection h' with h1 h2 h3
     exact h2.symm
    ·have:TS.lk (lvl0 [] ((insP t).mkS (s,(0:Int),[x]))) ((insR t).mkS ([x]++s)) k=.pv (.one .dead):=by
      show lkE ([(0,TV.pv (.one (.arr 2 ([x]++s).length)))]++[]) k=_
      rw[List.append_nil]
      unfold lkE
      rw[beq_ne (λ e=>hk e.symm)]
      rfl
     have key:∀ (h:Nat->TB) (v:TV),v=.pv (.one .dead)->goodV h v:=λ h v e=>by subst e;trivial
     exact key _ _ this
   ·match j with
    | 0=>trivial
    | 1=>trivial
    | 2=>exact rfl
    | j+3 =>
     show goodB _ (blkL [] 3 [] j)
     rw[blkL_nil];trivial
   ·match j,hj,hb with
    | 0,_,hb=>cases hb
    | 1,_,hb=>cases hb
theorem ins_ok {P:Program} {ρ:Ren} {nm:String} {by_:Nat} {zv:Value} {t:Ty} {f:FuncId} (L:InsL P ρ nm t.size by_ zv) (hz:1 < t.size) (hb:by_<=1024) (hzl:zv.cells.size=t.size) (hz1:zv.cells.toList.all (·.oneCell')=true) (hf:ρ.f 22=f)
  (hlen:∀ xs:List t.den,(xs.flatMap t.enc).length=xs.length*t.size) :
  ConOk P ⟨f,insP t,insR t,false,[],λ a=>gIns a.1 a.2.1 a.2.2⟩:=λ a r hG hg=>ins_ans L hz hb hzl hz1 hf hlen a r hG hg
end Go.Fm
namespace Go.Fm
variable [Globs]
def idC (m:Nat) (ids:List Nat):List CV:=ids.map λ i=>CV.arr i 0 m
theorem idC_len (m:Nat) (ids:List Nat):(idC m ids).length=ids.length:=by unfold idC;rw[List.length_map]
structure TabInv (H:List HS) (o:Nat) (ids:List Nat) (rs:List (List Int)) (m:Nat):Prop where
 ho:hOf H o=.live ⟨1,ids.length,idC m ids⟩
 len:rs.length=ids.length
 row:∀ (j:Nat) (id:Nat) (r:List Int),ids[j]? = some id->rs[j]? = some r->hOf H id=.live ⟨1,m,r.flatMap (eI .i64)⟩/\r.length=m
 lto:o < H.length
 lt:∀ id ∈ ids,id < H.length/\id≠o
 nd:ids.Nodup
 bd:ids.length<=maxN
theorem tab_nil (m:Nat):TabInv [.live ⟨1,0,[]⟩] 0 [] [] m where
 ho:=rfl
 len:=rfl
 row:=λ j id r h=>by simp at h
 lto:=by simp
 lt:=λ id h=>by simp at h
 nd:=List.nodup_nil
 bd:=Nat.zero_le _
theorem setH_len:∀ (l:List HS) (i:Nat) (h:HS),(setH l i h).length=max l.length (i+1)
 | [],0,h=>rfl
 | [],n+1,h=>by simp only[setH,List.length_cons,setH_len [] n h];simp
 | a::r,0,h=>by simp only[setH,List.length_cons];omega
 | a::r,n+1,h=>by simp only[setH,List.length_cons,setH_len r n h];omega
theorem TabInv.app {H H':List HS} {o:Nat} {ids:List Nat} {rs:List (List Int)} {m:Nat} (I:TabInv H o ids rs m) {z:List Int} {tmp:HS} (hz:z.length=m) (hb:ids.length+1<=maxN) (hl:H'.length=H.length+3)
  (hh:∀ j,hOf H' j=if j=H.length+2 then .live ⟨1,ids.length+1,idC m ids++[CV.arr H.length 0 m]⟩ else if j=o then .dead else if j=H.length+1 then tmp else if j=H.length then .live ⟨1,m,z.flatMap (eI .i64)⟩ else hOf H j) :
  TabInv H' (H.length+2) (ids++[H.length]) (rs++[z]) m where
 ho:=by
  rw[hh,if_pos rfl]
  unfold idC
  rw[List.map_append,List.length_append]
  rfl
 len:=by rw[List.length_append,List.length_append,I.len];rfl
 row:=λ j id r hj hr=>by
  have hlo:=I.lto
  rcases Nat.lt_or_ge j ids.length with h|h
  ·rw[List.getElem?_append_left h]at hj
   rw[List.getElem?_append_left (by rw[I.len];exact h)]at hr
   have hi:=I.lt id (List.mem_of_getElem? hj)
   rw[hh,if_neg (by omega),if_neg hi.2,if_neg (by omega),if_neg (by omega)]
   exact I.row j id r hj hr
  ·rw[List.getElem?_append_right h]at hj
   rw[List.getElem?_append_right (by rw[I.len];exact h),I.len]at hr
   have h0:j-ids.length=0:=by
    rcases Nat.eq_zero_or_pos (j-ids.length) with h0|h0
    ·exact h0
    ·rw[List.getElem?_eq_none (by simp;omega)]at hj;cases hj
   rw[h0]at hj hr
   cases hj
   cases hr
   rw[hh,if_neg (by omega),if_neg (by omega),if_neg (by omega),if_pos rfl]
   exact ⟨rfl,hz⟩
 lto:=by omega
 lt:=λ id hi=>by
  rcases List.mem_append.1 hi with h|h
  ·have:=I.lt id h;omega
  ·simp at h;omega
 nd:=by
  refine List.nodup_append.2 ⟨I.nd,by simp,λ a ha b hb he => ?_⟩
  have:=I.lt a ha
  simp at hb
  omega
 bd:=by rw[List.length_append];exact hb
theorem TabInv.set {H:List HS} {o:Nat} {ids:List Nat} {rs:List (List Int)} {m:Nat} (I:TabInv H o ids rs m) {i id:Nat} {r r':List Int} (hi:ids[i]? = some id) (hr:rs[i]? = some r) (hl:r'.length=r.length) :
  TabInv (setH H id (.live ⟨1,m,r'.flatMap (eI .i64)⟩)) o ids (rs.set i r') m where
 ho:=by rw[hOf_setH,if_neg (λ h=>(I.lt id (List.mem_of_getElem? hi)).2 h.symm)];exact I.ho
 len:=by rw[List.length_set,I.len]
 row:=λ j jd q hj hq=>by
  rw[hOf_setH]
  by_cases h:j=i
  ·subst h
   rw[hi]at hj
   cases hj
   rw[if_pos rfl]
   rw[List.getElem?_set_self (by exact (List.getElem?_eq_some_iff.1 hr).1)]at hq
   cases hq
   exact ⟨rfl,by rw[hl];exact (I.row j id r hi hr).2⟩
  ·have hne:jd≠id:=λ he=>h ((List.getElem?_inj (List.getElem?_eq_some_iff.1 hj).1 I.nd).1 (by rw[hj,hi,he]))
   rw[if_neg hne]
   rw[List.getElem?_set_ne (λ e=>h e.symm)]at hq
   exact I.row j jd q hj hq
 lto:=by rw[setH_len];have:=I.lto;omega
 lt:=λ jd hj=>by rw[setH_len];have:=I.lt jd hj;omega
 nd:=I.nd
 bd:=I.bd
theorem TabInv.get {H:List HS} {o:Nat} {ids:List Nat} {rs:List (List Int)} {m:Nat} (I:TabInv H o ids rs m) {i:Int} {r:List Int} (h:getI rs i=some r):∃ id,ids[i.toNat]? = some id/\rs[i.toNat]? = some r/\hOf H id=.live ⟨1,m,r.flatMap (eI .i64)⟩/\r.length=m/\rowPtr 0 i ids.length 1=some i.toNat/\getC 1 ((idC m ids).drop i.toNat)=some [CV.arr id 0 m]:=by
 obtain ⟨h1,h2,h3⟩:=getI_some h
 rw[I.len]at h2
 have hlt:i.toNat < ids.length:=by omega
 have hid:ids[i.toNat]? = some ids[i.toNat]:=List.getElem?_eq_getElem hlt
 obtain ⟨g1,g2⟩:=I.row _ _ _ hid h3
 refine ⟨ids[i.toNat],hid,h3,g1,g2,?_,?_⟩
 ·unfold rowPtr
  rw[if_pos ⟨h1,h2⟩,Nat.zero_add,Nat.mul_one]
 ·unfold idC
  rw[<-List.map_drop,List.drop_eq_getElem_cons hlt]
  rfl
theorem row_get {r:List Int} {k x:Int} {m:Nat} (h:getI r k=some x) (hm:r.length=m):rowPtr 0 k m 1=some k.toNat/\getC 1 ((r.flatMap (eI .i64)).drop k.toNat)=some [CV.int .i64 x]:=by
 obtain ⟨h1,h2,h3⟩:=getI_some h
 refine ⟨?_,?_⟩
 ·unfold rowPtr
  rw[if_pos ⟨h1,by rw[<-hm];exact h2⟩,Nat.zero_add,Nat.mul_one]
 ·have:=fGet0 (eI_ok .i64) h (m:=1) (by decide) (by decide)
  rw[Nat.mul_one]at this
  rw[this]
  rfl
theorem row_put {r:List Int} {k x:Int} (h:getI r k=some x) (y:Int):putN k.toNat [CV.int .i64 y] (r.flatMap (eI .i64))=some ((r.set k.toNat y).flatMap (eI .i64)):=by
 have:=fPut0 (eI_ok .i64) h (ns:=[CV.int .i64 y]) (y:=y) rfl
 rw[Nat.mul_one]at this
 exact this
theorem lend_rows {h:Nat->HS} {f m:Nat}:∀ (ids:List Nat) (rs:List (List Int)),rs.length=ids.length->(∀ (j:Nat) (id:Nat) (r:List Int),ids[j]? = some id->rs[j]? = some r->h id=.live ⟨1,m,r.flatMap (eI .i64)⟩/\r.length=m) →
  ∃ rd,lendAll (lendC h [] (f+1)) (idC m ids)=some (rd,rs.flatMap (eL (eI .i64) 1))/\riAll (rs.flatMap (eL (eI .i64) 1))=true
 | [],[],_,_=>⟨[],rfl,rfl⟩
 | [],_::_,hl,_=>by simp at hl
 | _::_,[],hl,_=>by simp at hl
 | id::ids,r::rs,hl,hr=>by
  obtain ⟨rd,h1,h2⟩:=lend_rows (h:=h) (f:=f) (m:=m) ids rs (by simpa using hl) (λ j jd q hj hq=>hr (j+1) jd q (by simpa using hj) (by simpa using hq))
  obtain ⟨g1,g2⟩:=hr 0 id r rfl rfl
  have hc:lendC h [] (f+1) (.arr id 0 m)=some ([id], .imm 1 m (r.flatMap (eI .i64))):=by
   rw[lendC_arrW]
   have hw:winC 0 m 1 (r.flatMap (eI .i64))=r.flatMap (eI .i64):=fWin (eI_ok .i64) g2.symm
   simp only[ixOf,g1,hw,fLend (eI_ok .i64) r,fRi (eI_ok .i64) r]
   rfl
  refine ⟨[id]++rd,?_,?_⟩
  ·show (match lendC h [] (f+1) (.arr id 0 m) with|none=>none|some (a,c')=>match lendAll (lendC h [] (f+1)) (idC m ids) with|none=>none|some (b,r')=>some (a++b,c'::r'))=_
   rw[hc,h1]
   simp only[List.flatMap_cons,eL,g2,List.singleton_append]
  ·show ((CV.imm 1 r.length (r.flatMap (eI .i64))).ri&&riAll (rs.flatMap (eL (eI .i64) 1)))=true
   rw[h2]
   rfl
theorem TabInv.shut {H:List HS} {o:Nat} {ids:List Nat} {rs:List (List Int)} {m:Nat} (I:TabInv H o ids rs m):Weak 0 ⟨[(0, .pv (.one (.arr o 0 ids.length)))],H⟩ ⟨[(0, .pv (.one (.imm 1 rs.length (rs.flatMap (eL (eI .i64) 1)))))],[]⟩:=by
 obtain ⟨rd,h1,h2⟩:=lend_rows (h:=hOf H) (f:=7) ids rs I.len I.row
 refine weak_norm (ks:=[0]) (π:=[]) (fuel:=9) ?_
 have hc:lendC (hOf H) [] 9 (.arr o 0 ids.length)=some (o::rd, .imm 1 rs.length (rs.flatMap (eL (eI .i64) 1))):=by
  rw[show (9:Nat)=8+1 from rfl,lendC_arrW]
  have hw:winC 0 ids.length 1 (idC m ids)=idC m ids:=by
   unfold winC
   rw[Nat.zero_mul,List.drop_zero,Nat.mul_one,<-idC_len m ids,List.take_length]
  simp only[ixOf,I.ho,hw,h1,h2,I.len]
  rfl
 simp only[normS,lendE,lendS,lendP,lk,if_true,hc,lendH,nodB,preK,Option.map_some,Bool.and_self]
theorem lk_sub:∀ (env:List (Nat×SV)) (t:Nat),lk env t=one .dead\/∃ p ∈ env,p.1=t/\lk env t=p.2
 | [],t=>.inl rfl
 | p::r,t=>by
  by_cases h:p.1=t
  ·exact .inr ⟨p,List.mem_cons_self ..,h,by simp[lk,h]⟩
  ·rcases lk_sub r t with h1|⟨q,hq,h1,h2⟩
   ·left;simp[lk,h,h1]
   ·exact .inr ⟨q,List.mem_cons_of_mem _ hq,h1,by simp[lk,h,h2]⟩
theorem weak_sub {k0:Nat} {env env':List (Nat×SV)} {H:List HS} (h:∀ p ∈ env',lk env p.1=p.2):Weak k0 ⟨env,H⟩ ⟨env',H⟩:=λ C a w hk R=>by
 obtain ⟨C',hr,ρ,R0⟩:=R
 refine ⟨C',hr,ρ,R0.defers,R0.nt,λ t => ?_,R0.hp,R0.init,R0.fr⟩
 show RSV w C'.Sh ρ (hOf H) (a.tmps.getD t undef) (lk env' t)
 rcases lk_sub env' t with h1|⟨p,hp,h1,h2⟩
 ·rw[h1];trivial
 ·rw[h2,<-h p hp,h1]
  exact R0.env t
theorem bldC_id (cs:List CV):bldC cs=cs:=rfl
theorem bldN_id (n:Nat):bldN n=n:=rfl
theorem setH_end {l:List HS} {n:Nat} {h:HS} (hl:l.length=n):(setH l n h).length=n+1:=by rw[setH_len];omega
theorem winId (m:Nat) (ids:List Nat):winC 0 ids.length 1 (idC m ids)=idC m ids:=by
 unfold winC
 rw[Nat.zero_mul,List.drop_zero,Nat.mul_one,<-idC_len m ids,List.take_length]
theorem winOne (c:CV):winC 0 1 1 [c]=[c]:=rfl
theorem mk_len {z:List Int} {n:Int} (h:mk (0:Int) n=some z):z.length=n.toNat:=by
 obtain ⟨h1,_,_⟩:=mk_some h
 rw[h1,List.length_replicate]
theorem wrap_sm {x:Int} (h1:0<=x) (h2:x < 9223372036854775808):IntKind.wrap .i64 x=x:=by
 simp[IntKind.wrap,IntKind.bits,IntKind.signed];omega
theorem TabInv.ne {H:List HS} {o:Nat} {ids:List Nat} {rs:List (List Int)} {m:Nat} (I:TabInv H o ids rs m) {i:Int} {r:List Int} (h:getI rs i=some r):(IntKind.wrap .i64 (i+1)).toNat≠i.toNat:=by
 obtain ⟨h1,h2,_⟩:=getI_some h
 have hb:=I.bd
 have hm:maxN=4294967296:=rfl
 rw[I.len]at h2
 rw[wrap_sm (by omega) (by omega)]
 omega
def flat1:List Nat->List Nat
 | []=>[]
 | _::_=>[0]
def footF (f:Feet):Feet:=f.map λ p=>(flat1 p.1,flat1 p.2)
theorem anyIn_nil:∀ a:List Nat,anyIn a []=false
 | []=>rfl
 | x::r=>by simp only[anyIn,anyIn_nil r];rfl
theorem anyIn_flat {a b:List Nat} (h:anyIn a b=true):anyIn (flat1 a) (flat1 b)=true:=by
 cases a with
 | nil=>cases h
 | cons x r =>
  cases b with
  | nil=>rw[anyIn_nil]at h;cases h
  | cons y s=>rfl
theorem or6 {a b c d e f d' e' f':Bool} (h1:d=true->d'=true) (h2:e=true->e'=true) (h3:f=true->f'=true) (h:(a || b || c || d' || e' || f')=false):(a || b || c || d || e || f)=false:=by
 revert h1 h2 h3 h
 cases a<;>cases b<;>cases c<;>cases d<;>cases e<;>cases f<;>cases d'<;>cases e'<;>cases f'<;>decide
theorem conf_flat {ops:Array Oper} {o1 o2:Oper} {f1 f2:List Nat×List Nat} (h:conf ops o1 o2 (flat1 f1.1,flat1 f1.2) (flat1 f2.1,flat1 f2.2)=false):conf ops o1 o2 f1 f2=false:=by
 unfold conf at h ⊢
 exact or6 anyIn_flat anyIn_flat anyIn_flat h
theorem rowOk_flat {ops:Array Oper} {m:Nat} {o2:Oper} {f2:List Nat×List Nat}:∀ {os:List Oper} {fs:Feet} {k:Nat},rowOk ops m o2 (flat1 f2.1,flat1 f2.2) os (footF fs) k=true->rowOk ops m o2 f2 os fs k=true
 | [],fs,k,_=>by cases fs<;>rfl
 | _::_,[],k,_=>rfl
 | o::r,f::fs,k,h=>by
  simp only[footF,List.map_cons,rowOk,Bool.and_eq_true,Bool.or_eq_true,Bool.not_eq_true']at h ⊢
  exact ⟨h.1.imp id conf_flat,rowOk_flat h.2⟩
theorem footF_take (n:Nat) (fa:Feet):(footF fa).take n=footF (fa.take n):=by unfold footF;rw[List.map_take]
theorem rowsOk_flat {ops:Array Oper} {all:List Oper} {fa:Feet}:∀ {os:List Oper} {fs:Feet} {ms:List Nat} {k:Nat},rowsOk ops all (footF fa) os (footF fs) ms k=true->rowsOk ops all fa os fs ms k=true
 | [],fs,ms,k,_=>by cases fs<;>cases ms<;>rfl
 | _::_,[],ms,k,_=>by cases ms<;>rfl
 | _::_,_::_,[],k,_=>rfl
 | o::r,f::fs,m::ms,k,h=>by
  simp only[footF,List.map_cons,rowsOk,Bool.and_eq_true]at h ⊢
  refine ⟨?_,rowsOk_flat h.2⟩
  have:=h.1
  rw[<-footF,footF_take]at this
  exact rowOk_flat this
theorem draw_flat {all:List Oper} {f:Feet} (h:drawOk all (footF f)=true):drawOk all f=true:=by
 unfold drawOk at h ⊢
 rw[Bool.and_eq_true]at h ⊢
 exact ⟨h.1,rowsOk_flat h.2⟩
end Go.Fm
