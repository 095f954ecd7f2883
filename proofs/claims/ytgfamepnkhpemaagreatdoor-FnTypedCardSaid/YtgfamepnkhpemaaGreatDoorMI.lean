import Derived.Test.YtgfamepnkhpemaaGreatDoorMH
import Derived.Shelf.Sort.Plain
import Derived.Shelf.Slices.In.SortNone
import Derived.Shelf.Strconv.Itoa3
import Derived.Shelf.Strings.OnBuilder
import Derived.Shelf.Strconv.ToError
import Derived.Shelf.Strconv.ToErrorRange
set_option linter.all false
namespace Go.Fm
open Go.Proofs Go.Sort Go.Shelf
variable [Globs] [Structs] [Tabs]
def PostM (C:Ctx) (bs h1:List HS) (r:SV) (v:Value) (w':World):Prop:=∃ (ρ':Rho) (Sh':Nat->Prop),HeapRel C.w0 Sh' C.O ρ' (hOf h1) w'/\RSV w' Sh' ρ' (hOf h1) v r ∧
   (∀ id,id < bs.length->hOf h1 id≠.no/\ρ' id=C.rho0 id)/\Fr C.w0 C.O w'/\(∀ k,C.Sh k->Sh' k) ∧
   (∀ k,Sh' k->k < w'.heap.size/\(C.Sh k\/C.w0.heap.size<=k\/C.O k))
theorem meets_of {P:Program} {f:FuncId} {ps:List PV} {bs h1:List HS} {r:SV} (he:Enters P f)
  (h:∀ (C:Ctx) (vs:List Value),C.P=P->C.k0=bs.length->vs.length=ps.length →
  (∀ (i:Nat) (p:PV),ps[i]? = some p->∃ u:Value,vs[i]? = some u/\RPV C.w0 C.Sh C.rho0 (hOf bs) u p) →
  HeapRel C.w0 C.Sh C.O C.rho0 (hOf bs) C.w0->(∀ id,id < bs.length->hOf bs id≠.no)->Calls P f vs.toArray C.w0 λ e w'=>∃ v,e=.returned v/\PostM C bs h1 r v w'):Meets P f ps bs r h1:=by
 intro C vs hP hk hlen hargs hheap hno
 unfold Serves
 rw[he vs.toArray C.w0]
 refine (h C vs hP hk hlen hargs hheap hno).mono ?_
 rintro e w' ⟨v,rfl,hp⟩
 exact hp
theorem enc_int (k:IntKind):∀ xs:List Int,xs.flatMap (eI k)=xs.map (CV.int k)
 | []=>rfl
 | x::r=>by rw[List.flatMap_cons,enc_int k r];rfl
end Go.Fm
namespace Go.Fm
open Go.Proofs Go.Sort Go.Shelf
variable [Globs] [Structs] [Tabs]
theorem postM_below {C:Ctx} {r:SV} {v:Value} {w':World} (hb:Go.RowKit.Below C.w0.heap.size C.w0 w') (hr:RSV w' C.Sh C.rho0 (hOf []) v r):PostM C [] [] r v w' :=
 ⟨C.rho0,C.Sh,⟨λ id b h=>by simp[hOf]at h,λ id b L h=>by simp[hOf]at h,λ id id' b b' L L' h=>by simp[hOf]at h⟩,hr,λ id hid=>absurd hid (Nat.not_lt_zero _),
  ⟨hb.os,hb.tape,hb.output,hb.size,λ k hk _=>hb.block k hk⟩,λ k h=>h,λ k h=>⟨Nat.lt_of_lt_of_le (C.old k h).1 hb.size, .inl h⟩⟩
theorem below_grow (w:World) (k:Nat) (os:Array Obj):Go.RowKit.Below w.heap.size w (grow (w.drewN k) os) :=
 ⟨rfl,rfl,rfl,by rw[size_grow];exact Nat.le_add_right _ _,λ j hj=>heap_grow_old _ _ hj⟩
theorem ba_toList (l:List UInt8):(⟨l.toArray⟩:ByteArray).data.toList=l:=by simp
theorem tab_is {P:Program} {w:World} {Sh:Nat->Prop} {g:Nat} {k:IntKind} {xs:List Int} {name:String} (h:TabAt w Sh g (xs.flatMap (eI k))) (hg:P.globalNamed name=some g):Lib.TabIs P w name k xs:=by
 rw[enc_int]at h
 obtain ⟨h1,h2,vs,x,y,h3,h4⟩:=h
 unfold Lib.TabIs World.var?
 rw[hg,Option.bind_some,h3]
 show some vs=_
 congr 1
 cases h1 with
 | ip b off cs vals hs hc hr =>
  refine Array.ext (by simpa using h4) λ j h5 h6 => ?_
  simp only[List.length_map]at h4 hc
  have h7:=hc j (by omega)
  have h8:=hr j (.int k xs[j]) (by rw[List.getElem?_map,List.getElem?_eq_getElem (by omega)];rfl)
  unfold World.cell? at h7
  simp only[h3,Nat.zero_add]at h7
  rw[Array.getElem?_eq_getElem h5]at h7
  have h9:=Option.some.inj h7
  rw[h9]
  generalize vals j=u at h8
  cases h8
  simp
def gItoa (n:Int):Option (List UInt8):=cond (decide (-9223372036854775808<=n/\n<=9223372036854775807)) (some (Lib.itoa n)) none
abbrev itoP:Shp:=⟨[(0, .s (.int .i64) [])],[]⟩
abbrev strR:Shp:=⟨[(0, .s .str [])],[]⟩
theorem good_str (s:List UInt8):Good (lvl0 [] ⟨[],[]⟩) (strR.mkS s):=good_pure rfl rfl
theorem itoa_ans {P:Program} {f:FuncId} {ρ:Ren} (L:LaysM.n171 P ρ) (hf:ρ.f 171=f) {g:Nat} (hg:P.globalNamed "internal/strconv.uint64pow10" = some g) (ht:Globs.tab g=some (Lib.pow10Tab.flatMap (eI .u64))) (a:Int) (r:List UInt8) (h:gItoa a=some r) :
  Ans P f [.one (.int .i64 a)] [] λ v h=>v=.pv (.one (.str r))/\h=[]:=λ hm=>by
 unfold gItoa at h
 by_cases hsz : -9223372036854775808<=a/\a<=9223372036854775807
 case neg=>rw[decide_eq_false hsz]at h;cases h
 rw[decide_eq_true hsz]at h
 cases h
 refine ⟨_,_,meets_of (by rw[<-hf];exact enters_of L.f171 (by kernel_rfl) rfl) ?_,rfl,rfl⟩
 intro C vs hP hk hlen hargs hheap hno
 obtain ⟨u0,h0,r0⟩:=hargs 0 _ rfl
 obtain rfl:vs=[u0]:=by
  match vs,hlen,h0 with
  | [a],_,h0=>simp at h0;rw[h0]
 obtain rfl:u0=.int .i64 a:=by
  have:RI C.w0 C.Sh u0 (.int .i64 a):=r0
  cases this;rfl
 rw[<-hf]
 refine (Any.strconv_Itoa L a hsz.1 hsz.2 C.w0 (tab_is (C.gl g _ ht) hg)).mono ?_
 rintro e w' ⟨rfl,k,os,rfl⟩
 refine ⟨_,rfl,postM_below (below_grow _ _ _) ?_⟩
 have:=RI.str (w:=grow (C.w0.drewN k) os) (Sh:=C.Sh) ⟨(Lib.itoa a).toArray⟩
 rw[ba_toList]at this
 exact this
theorem itoa_ok {P:Program} {f:FuncId} {ρ:Ren} (L:LaysM.n171 P ρ) (hf:ρ.f 171=f) {g:Nat} (hg:P.globalNamed "internal/strconv.uint64pow10" = some g) (ht:Globs.tab g=some (Lib.pow10Tab.flatMap (eI .u64))) :
  ConOk P ⟨f,itoP,strR,false,[],gItoa⟩:=λ a r hG h=>(itoa_ans L hf hg ht a r h).mono λ v h1 ⟨e1,e2⟩=>⟨e1,e2,good_str r⟩
def gJoin (xs:List (List UInt8)) (sep:List UInt8):Option (List UInt8):=cond (decide (xs.length<=140737488355328/\(Lib.join xs sep).length<=140737488355328)) (some (Lib.join xs sep)) none
abbrev joiP:Shp:=⟨[(0, .s (.list .str) []),(1, .s .str [])],[]⟩
theorem ba_map:∀ xs:List (List UInt8),(xs.map λ l=>(⟨l.toArray⟩:ByteArray)).map (·.data.toList)=xs
 | []=>rfl
 | x::r=>by rw[List.map_cons,List.map_cons,ba_map r,ba_toList]
theorem eS_flat:∀ xs:List (List UInt8),xs.flatMap eS=xs.map CV.str
 | []=>rfl
 | x::r=>by rw[List.flatMap_cons,eS_flat r];rfl
theorem join_ans {P:Program} {f:FuncId} {ρ:Ren} (L:Lays.n156 P ρ) (X:Builder.Extra P ρ) (hf:ρ.f 156=f) (xs:List (List UInt8)) (sep r:List UInt8) (h:gJoin xs sep=some r) :
  Ans P f [.one (.imm 1 xs.length (xs.map CV.str)), .one (.str sep)] [] λ v h=>v=.pv (.one (.str r))/\h=[]:=λ hm=>by
 unfold gJoin at h
 by_cases hsz:xs.length<=140737488355328/\(Lib.join xs sep).length<=140737488355328
 case neg=>rw[decide_eq_false hsz]at h;cases h
 rw[decide_eq_true hsz]at h
 cases h
 refine ⟨_,_,meets_of (by rw[<-hf];exact enters_of L.f156 (by kernel_rfl) rfl) ?_,rfl,rfl⟩
 intro C vs hP hk hlen hargs hheap hno
 obtain ⟨u0,h0,r0⟩:=hargs 0 _ rfl
 obtain ⟨u1,h1,r1⟩:=hargs 1 _ rfl
 obtain rfl:vs=[u0,u1]:=by
  match vs,hlen,h0,h1 with
  | [a,b],_,h0,h1=>simp at h0 h1;rw[h0,h1]
 have q1:RI C.w0 C.Sh u1 (.str sep):=r1
 obtain ⟨b,rfl,hb⟩:∃ b:ByteArray,u1=.string b/\b.data.toList=sep:=by cases q1;exact ⟨_,rfl,rfl⟩
 have q0:RI C.w0 C.Sh u0 (.imm 1 xs.length (xs.map CV.str)):=r0
 have fin:∀ w',Go.RowKit.Below C.w0.heap.size C.w0 w'->PostM C [] [] (.pv (.one (.str (Lib.join xs sep)))) (.string ⟨(Lib.join xs sep).toArray⟩) w':=λ w' hw=>by
  refine postM_below hw ?_
  have:=RI.str (w:=w') (Sh:=C.Sh) ⟨(Lib.join xs sep).toArray⟩
  rw[ba_toList]at this
  exact this
 have none:xs=[]->(∃ a c,u0=.slice a 0 c)->Calls P f [u0, .string b].toArray C.w0 λ e w'=>∃ v,e=.returned v/\PostM C [] [] (.pv (.one (.str (Lib.join xs sep)))) v w':=λ hx ⟨a,c,hu⟩=>by
  subst hu
  rw[<-hf]
  refine (Any.strings_Join_none L X a c b C.w0).mono ?_
  rintro e w' ⟨rfl,rfl⟩
  refine ⟨_,rfl,?_⟩
  have:=fin C.w0 (.refl _ _)
  subst hx
  subst hb
  exact this
 generalize hcs:xs.map CV.str=cs at q0
 generalize hn:xs.length=n at q0
 cases q0 with
 | imm0 a cap sz=>exact none (List.eq_nil_of_length_eq_zero hn) ⟨_,_,rfl⟩
 | imm b0 off n cap sz cs vals hs hnc hl hc hr =>
  subst hn
  have hv:∀ j (h:j < xs.length),∃ s:ByteArray,vals j=.string s/\s.data.toList=xs[j]:=λ j h=>by
   have h8:=hr j (.str xs[j]) (by rw[<-hcs,List.getElem?_map,List.getElem?_eq_getElem h];rfl)
   generalize vals j=u at h8
   generalize hx:xs[j]=y at h8
   cases h8
   exact ⟨_,rfl,rfl⟩
  have hbs:∃ bs:List ByteArray,bs.map (·.data.toList)=xs:=⟨xs.map λ l=>⟨l.toArray⟩,ba_map xs⟩
  obtain ⟨bs,hbs⟩:=hbs
  have hlen':bs.length=xs.length:=by rw[<-hbs];simp
  rw[<-hf]
  have hcells:∀ (j:Nat) x,bs[j]? = some x->C.w0.cell? ⟨b0,off+j, .none⟩=some (.string x):=λ j x hx=>by
   have hj:j < xs.length:=by rw[<-hlen'];exact (List.getElem?_eq_some_iff.1 hx).1
   obtain ⟨s,e1,e2⟩:=hv j hj
   rw[hc j (by rw[<-hcs];simpa using hj),e1]
   have:x.data.toList=xs[j]:=by
    have:(bs.map (·.data.toList))[j]? = some x.data.toList:=by rw[List.getElem?_map,hx];rfl
    rw[hbs,List.getElem?_eq_getElem hj]at this
    exact (Option.some.inj this).symm
   have:s=x:=by
    have e3:s.data.toList=x.data.toList:=by rw[e2,this]
    cases s;cases x
    simp only at e3
    rw[Array.toList_inj.1 e3]
   rw[this]
  have:=Any.strings_Join L X b0 off cap bs b C.w0 hcells (C.old b0 hs).1 (by rw[hlen'];exact hsz.1) (by rw[hlen'];exact hnc) (by rw[hbs,hb];exact hsz.2)
  rw[hlen',hbs,hb]at this
  refine this.mono ?_
  rintro e w' ⟨rfl,hw⟩
  exact ⟨_,rfl,fin w' hw⟩
theorem join_ans' {P:Program} {f:FuncId} {ρ:Ren} (L:Lays.n156 P ρ) (X:Builder.Extra P ρ) (hf:ρ.f 156=f) (xs:List (List UInt8)) (sep r:List UInt8) (h:gJoin xs sep=some r) :
  Ans P f [.one (.imm 1 xs.length (xs.flatMap eS)), .one (.str sep)] [] λ v h=>v=.pv (.one (.str r))/\h=[]:=by
 rw[eS_flat];exact join_ans L X hf xs sep r h
theorem joinS_ok {P:Program} {f:FuncId} {ρ:Ren} (L:Lays.n156 P ρ) (X:Builder.Extra P ρ) (hf:ρ.f 156=f) :
  ConOk P ⟨f,joiP,strR,false,[],λ a=>gJoin a.1 a.2⟩:=λ a r hG h =>
 (join_ans' L X hf a.1 a.2 r h).mono λ v h1 ⟨e1,e2⟩=>⟨e1,e2,good_str r⟩
end Go.Fm
namespace Go.Fm
open Go.Proofs Go.Sort Go.Shelf
variable [Globs] [Structs] [Tabs]
def gToErr (fn s:List UInt8) (base bits n:Int):Option Int:=cond ((n==1 || n==2)&&decide (s.length<=281474976710656)) (some (-1)) none
abbrev toeP:Shp:=⟨[(0, .s .str []),(1, .s .str []),(2, .s (.int .i64) []),(3, .s (.int .i64) []),(4, .s .err [])],[]⟩
abbrev errR:Shp:=⟨[(0, .s .err [])],[]⟩
theorem good_err (n:Int):Good (lvl0 [] ⟨[],[]⟩) (errR.mkS n):=good_pure rfl rfl
theorem err_cell {C:Ctx} {g:Nat} (ht:Globs.tab g=some [CV.opq]):∃ ev,C.w0.cell? ⟨g,0,none⟩=some ev/\(ev=.nilIface\/∃ te pe,ev=.iface te pe):=by
 obtain ⟨h1,_⟩:=C.gl g _ ht
 generalize hc:[CV.opq]=cs at h1
 cases h1 with
 | ip b off cs vals hs hv hr =>
  subst hc
  have h2:=hv 0 (by simp)
  have h3:=hr 0 .opq rfl
  rw[Nat.zero_add]at h2
  refine ⟨_,h2, .inr ?_⟩
  generalize vals 0=v at h3
  cases h3
  exact ⟨_,_,rfl⟩
theorem toErr_ans {P:Program} {f:FuncId} {ρ:Ren} (L:LaysC.n245 P ρ) (hf:ρ.f 245=f) (hT:ρ.t 167=StTy.errT) (h15:Globs.tab (ρ.g 15)=some [CV.opq]) (h16:Globs.tab (ρ.g 16)=some [CV.opq]) (fn s:List UInt8) (base bits n r:Int) (h:gToErr fn s base bits n=some r) :
  Ans P f [.one (.str fn), .one (.str s), .one (.int .i64 base), .one (.int .i64 bits), .one (errC n)] [] λ v h=>v=.pv (.one (errC r))/\h=[]:=λ hm=>by
 unfold gToErr at h
 cases hc:(n==1 || n==2)&&decide (s.length<=281474976710656) with
 | false=>rw[hc]at h;cases h
 | true =>
 rw[hc]at h
 cases h
 rw[Bool.and_eq_true,Bool.or_eq_true,decide_eq_true_eq]at hc
 obtain ⟨hn,hl⟩:=hc
 have en:errC n=.ifc StTy.errT n:=by
  rcases hn with hn|hn
  ·rw[eq_of_beq hn];rfl
  ·rw[eq_of_beq hn];rfl
 rw[en]
 refine ⟨_,_,meets_of (by rw[<-hf];exact enters_of L.f245 (by kernel_rfl) rfl) ?_,rfl,rfl⟩
 intro C vs hP hk hlen hargs hheap hno
 obtain ⟨u0,h0,r0⟩:=hargs 0 _ rfl
 obtain ⟨u1,h1,r1⟩:=hargs 1 _ rfl
 obtain ⟨u2,h2,r2⟩:=hargs 2 _ rfl
 obtain ⟨u3,h3,r3⟩:=hargs 3 _ rfl
 obtain ⟨u4,h4,r4⟩:=hargs 4 _ rfl
 obtain rfl:vs=[u0,u1,u2,u3,u4]:=by
  match vs,hlen,h0,h1,h2,h3,h4 with
  | [a,b,c,d,e],_,h0,h1,h2,h3,h4=>simp at h0 h1 h2 h3 h4;rw[h0,h1,h2,h3,h4]
 have q0:RI C.w0 C.Sh u0 (.str fn):=r0
 have q1:RI C.w0 C.Sh u1 (.str s):=r1
 have q2:RI C.w0 C.Sh u2 (.int .i64 base):=r2
 have q3:RI C.w0 C.Sh u3 (.int .i64 bits):=r3
 have q4:RI C.w0 C.Sh u4 (.ifc StTy.errT n):=r4
 obtain ⟨b0,rfl,hb0⟩:∃ b:ByteArray,u0=.string b/\b.data.toList=fn:=by cases q0;exact ⟨_,rfl,rfl⟩
 obtain ⟨b1,rfl,hb1⟩:∃ b:ByteArray,u1=.string b/\b.data.toList=s:=by cases q1;exact ⟨_,rfl,rfl⟩
 obtain rfl:u2=.int .i64 base:=by cases q2;rfl
 obtain rfl:u3=.int .i64 bits:=by cases q3;rfl
 obtain rfl:u4=.iface StTy.errT (.int .i64 n):=by cases q4;rfl
 have hsz:b1.size<=281474976710656:=by
  have:b1.size=s.length:=by rw[<-hb1,Array.length_toList];rfl
  omega
 obtain ⟨e15,c15,v15⟩:=err_cell (C:=C) h15
 obtain ⟨e16,c16,v16⟩:=err_cell (C:=C) h16
 rw[<-hf,<-hT]
 rcases hn with hn|hn
 ·obtain rfl:n=1:=eq_of_beq hn
  refine (Any.strconv_toError_range L b0 b1 base bits e16 C.w0 hsz c16 v16).mono ?_
  rintro e w' ⟨N,rfl,_,_,hw⟩
  exact ⟨_,rfl,postM_below hw (RI.opq _ _)⟩
 ·obtain rfl:n=2:=eq_of_beq hn
  refine (Any.strconv_toError_syntax L b0 b1 base bits e15 C.w0 hsz c15 v15).mono ?_
  rintro e w' ⟨N,rfl,_,_,hw⟩
  exact ⟨_,rfl,postM_below hw (RI.opq _ _)⟩
theorem toErr_ok {P:Program} {f:FuncId} {ρ:Ren} (L:LaysC.n245 P ρ) (hf:ρ.f 245=f) (hT:ρ.t 167=StTy.errT) (h15:Globs.tab (ρ.g 15)=some [CV.opq]) (h16:Globs.tab (ρ.g 16)=some [CV.opq]) :
  ConOk P ⟨f,toeP,errR,false,[],λ a=>gToErr a.1 a.2.1 a.2.2.1 a.2.2.2.1 a.2.2.2.2⟩:=λ a r hG h =>
 (toErr_ans L hf hT h15 h16 a.1 a.2.1 a.2.2.1 a.2.2.2.1 a.2.2.2.2 r h).mono λ v h1 ⟨e1,e2⟩=>⟨e1,e2,good_err r⟩
end Go.Fm
