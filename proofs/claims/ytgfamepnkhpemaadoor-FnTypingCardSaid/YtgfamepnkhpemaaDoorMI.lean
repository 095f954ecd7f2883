import Derived.Test.YtgfamepnkhpemaaDoorMH
import Derived.Shelf.Sort.Plain
import Derived.Shelf.Slices.In.SortNone
import Derived.Shelf.Strconv.Itoa3
import Derived.Shelf.Strings.OnBuilder
import Derived.Shelf.Strconv.ToError
import Derived.Shelf.Strconv.ToErrorRange
set_option linter.all false
namespace Go.Fm
open Go.Proofs Go.Sort Go.Shelf
variable [Globs] [Structs] [Tabs]
def PostM (C:Ctx) (bs h1:List HS) (r:SV) (v:Value) (w':World):Prop:=∃ (ρ':Rho) (Sh':Nat->Prop),HeapRel C.w0 Sh' C.O ρ' (hOf h1) w'/\RSV w' Sh' ρ' (hOf h1) v r ∧
   (∀ id,id < bs.length->hOf h1 id≠.no/\ρ' id=C.rho0 id)/\Fr C.w0 C.O w'/\(∀ k,C.Sh k->Sh' k) ∧
   (∀ k,Sh' k->k < w'.heap.size/\(C.Sh k\/C.w0.heap.size<=k\/C.O k))
theorem meets_of {P:Program} {f:FuncId} {ps:List PV} {bs h1:List HS} {r:SV} (he:Enters P f)
  (h:∀ (C:Ctx) (vs:List Value),C.P=P->C.k0=bs.length->vs.length=ps.length →
  (∀ (i:Nat) (p:PV),ps[i]? = some p->∃ u:Value,vs[i]? = some u/\RPV C.w0 C.Sh C.rho0 (hOf bs) u p) →
  HeapRel C.w0 C.Sh C.O C.rho0 (hOf bs) C.w0->(∀ id,id < bs.length->hOf bs id≠.no)->Calls P f vs.toArray C.w0 λ e w'=>∃ v,e=.returned v/\PostM C bs h1 r v w'):Meets P f ps bs r h1:=by
 intro C vs hP hk hlen hargs hheap hno
 unfold Serves
 rw[he vs.toArray C.w0]
 refine (h C vs hP hk hlen hargs hheap hno).mono ?_
 rintro e w' ⟨v,rfl,hp⟩
 exact hp
theorem enc_int (k:IntKind):∀ xs:List Int,xs.flatMap (eI k)=xs.map (CV.int k)
 | []=>rfl
 | x::r=>by rw[List.flatMap_cons,enc_int k r];rfl
end Go.Fm
namespace Go.Fm
open Go.Proofs Go.Sort Go.Shelf
variable [Globs] [Structs] [Tabs]
theorem postM_below {C:Ctx} {r:SV} {v:Value} {w':World} (hb:Go.RowKit.Below C.w0.heap.size C.w0 w') (hr:RSV w' C.Sh C.rho0 (hOf []) v r):PostM C [] [] r v w' :=
 ⟨C.rho0,C.Sh,⟨λ id b h=>by simp[hOf]at h,λ id b L h=>by simp[hOf]at h,λ id id' b b' L L' h=>by simp[hOf]at h⟩,hr,λ id hid=>absurd hid (Nat.not_lt_zero _),
  ⟨hb.os,hb.tape,hb.output,hb.size,λ k hk _=>hb.block k hk⟩,λ k h=>h,λ k h=>⟨Nat.lt_of_lt_of_le (C.old k h).1 hb.size, .inl h⟩⟩
theorem below_grow (w:World) (k:Nat) (os:Array Obj):Go.RowKit.Below w.heap.size w (grow (w.drewN k) os) :=
 ⟨rfl,rfl,rfl,by rw[size_grow];exact Nat.le_add_right _ _,λ j hj=>heap_grow_old _ _ hj⟩
theorem ba_toList (l:List UInt8):(⟨l.toArray⟩:ByteArray).data.toList=l:=by simp
theorem tab_is {P:Program} {w:World} {Sh:Nat->Prop} {g:Nat} {k:IntKind} {xs:List Int} {name:String} (h:TabAt w Sh g (xs.flatMap (eI k))) (hg:P.globalNamed name=some g):Lib.TabIs P w name k xs:=by
 rw[enc_int]at h
 obtain ⟨h1,h2,vs,x,y,h3,h4⟩:=h
 unfold Lib.TabIs World.var?
 rw[hg,Option.bind_some,h3]
 show some vs=_
 congr 1
 cases h1 with
 | ip b off cs vals hs hc hr =>
  refine Array.ext (by simpa using h4) λ j h5 h6 => ?_
  simp only[List.length_map]at h4 hc
  have h7:=hc j (by omega)
  have h8:=hr j (.int k xs[j]) (by rw[List.getElem?_map,List.getElem?_eq_getElem (by omega)];rfl)
  unfold World.cell? at h7
  simp only[h3,Nat.zero_add]at h7
  rw[Array.getElem?_eq_getElem h5]at h7
  have h9:=Option.some.inj h7
  rw[h9]
  generalize vals j=u at h8
  cases h8
  simp
def gItoa (n:Int):Option (List UInt8):=cond (decide (-9223372036854775808<=n/\n<=9223372036854775807)) (some (Lib.itoa n)) none
abbrev itoP:Shp:=⟨[(0, .s (.int .i64) [])],[]⟩
abbrev strR:Shp:=⟨[(0, .s .str [])],[]⟩
theorem good_str (s:List UInt8):Good (lvl0 [] ⟨[],[]⟩) (strR.mkS s):=good_pure rfl rfl
theorem itoa_ans {P:Program} {f:FuncId} {ρ:Ren} (L:LaysM.n171 P ρ) (hf:ρ.f 171=f) {g:Nat} (hg:P.globalNamed "internal/strconv.uint64pow10" = some g) (ht:Globs.tab g=some (Lib.pow10Tab.flatMap (eI .u64))) (a:Int) (r:List UInt8) (h:gItoa a=some r) :
  Ans P f [.one (.int .i64 a)] [] λ v h=>v=.pv (.one (.str r))/\h=[]:=λ hm=>by
 unfold gItoa at h
 by_cases hsz : -9223372036854775808<=a/\a<=9223372036854775807
 case neg=>rw[decide_eq_false hsz]at h;cases h
 rw[decide_eq_true hsz]at h
 cases h
 refine ⟨_,_,meets_of (by rw[<-hf];exact enters_of L.f171 (by kernel_rfl) rfl) ?_,rfl,rfl⟩
 intro C vs hP hk hlen hargs hheap hno
 obtain ⟨u0,h0,r0⟩:=hargs 0 _ rfl
 obtain rfl:vs=[u0]:=by
  match vs,hlen,h0 with
  | [a],_,h0=>simp at h0;rw[h0]
 obtain rfl:u0=.int .i64 a:=by
  have:RI C.w0 C.Sh u0 (.int .i64 a):=r0
  cases this;rfl
 rw[<-hf]
 refine (Any.strconv_Itoa L a hsz.1 hsz.2 C.w0 (tab_is (C.gl g _ ht) hg)).mono ?_
 rintro e w' ⟨rfl,k,os,rfl⟩
 refine ⟨_,rfl,postM_below (below_grow _ _ _) ?_⟩
 have:=RI.str (w:=grow (C.w0.drewN k) os) (Sh:=C.Sh) ⟨(Lib.itoa a).toArray⟩
 rw[ba_toList]at this
 exact this
theorem itoa_ok {P:Program} {f:FuncId} {ρ:Ren} (L:LaysM.n171 P ρ) (hf:ρ.f 171=f) {g:Nat} (hg:P.globalNamed "internal/strconv.uint64pow10" = some g) (ht:Globs.tab g=some (Lib.pow10Tab.flatMap (eI .u64))) :
  ConOk P ⟨f,itoP,strR,false,[],gItoa⟩:=λ a r hG h=>(itoa_ans L hf hg ht a r h).mono λ v h1 ⟨e1,e2⟩=>⟨e1,e2,good_str r⟩
end Go.Fm
namespace Go.Fm
open Go.Proofs Go.Sort Go.Shelf
variable [Globs] [Structs] [Tabs]
def gToErr (fn s:List UInt8) (base bits n:Int):Option Int:=cond ((n==1 || n==2)&&decide (s.length<=281474976710656)) (some (-1)) none
abbrev toeP:Shp:=⟨[(0, .s .str []),(1, .s .str []),(2, .s (.int .i64) []),(3, .s (.int .i64) []),(4, .s .err [])],[]⟩
abbrev errR:Shp:=⟨[(0, .s .err [])],[]⟩
theorem good_err (n:Int):Good (lvl0 [] ⟨[],[]⟩) (errR.mkS n):=good_pure rfl rfl
theorem err_cell {C:Ctx} {g:Nat} (ht:Globs.tab g=some [CV.opq]):∃ ev,C.w0.cell? ⟨g,0,none⟩=some ev/\(ev=.nilIface\/∃ te pe,ev=.iface te pe):=by
 obtain ⟨h1,_⟩:=C.gl g _ ht
 generalize hc:[CV.opq]=cs at h1
 cases h1 with
 | ip b off cs vals hs hv hr =>
  subst hc
  have h2:=hv 0 (by simp)
  have h3:=hr 0 .opq rfl
  rw[Nat.zero_add]at h2
  refine ⟨_,h2, .inr ?_⟩
  generalize vals 0=v at h3
  cases h3
  exact ⟨_,_,rfl⟩
theorem toErr_ans {P:Program} {f:FuncId} {ρ:Ren} (L:LaysC.n245 P ρ) (hf:ρ.f 245=f) (hT:ρ.t 167=StTy.errT) (h15:Globs.tab (ρ.g 15)=some [CV.opq]) (h16:Globs.tab (ρ.g 16)=some [CV.opq]) (fn s:List UInt8) (base bits n r:Int) (h:gToErr fn s base bits n=some r) :
  Ans P f [.one (.str fn), .one (.str s), .one (.int .i64 base), .one (.int .i64 bits), .one (errC n)] [] λ v h=>v=.pv (.one (errC r))/\h=[]:=λ hm=>by
 unfold gToErr at h
 cases hc:(n==1 || n==2)&&decide (s.length<=281474976710656) with
 | false=>rw[hc]at h;cases h
 | true =>
 rw[hc]at h
 cases h
 rw[Bool.and_eq_true,Bool.or_eq_true,decide_eq_true_eq]at hc
 obtain ⟨hn,hl⟩:=hc
 have en:errC n=.ifc StTy.errT n:=by
  rcases hn with hn|hn
  ·rw[eq_of_beq hn];rfl
  ·rw[eq_of_beq hn];rfl
 rw[en]
 refine ⟨_,_,meets_of (by rw[<-hf];exact enters_of L.f245 (by kernel_rfl) rfl) ?_,rfl,rfl⟩
 intro C vs hP hk hlen hargs hheap hno
 obtain ⟨u0,h0,r0⟩:=hargs 0 _ rfl
 obtain ⟨u1,h1,r1⟩:=hargs 1 _ rfl
 obtain ⟨u2,h2,r2⟩:=hargs 2 _ rfl
 obtain ⟨u3,h3,r3⟩:=hargs 3 _ rfl
 obtain ⟨u4,h4,r4⟩:=hargs 4 _ rfl
 obtain rfl:vs=[u0,u1,u2,u3,u4]:=by
  match vs,hlen,h0,h1,h2,h3,h4 with
  | [a,b,c,d,e],_,h0,h1,h2,h3,h4=>simp at h0 h1 h2 h3 h4;rw[h0,h1,h2,h3,h4]
 have q0:RI C.w0 C.Sh u0 (.str fn):=r0
 have q1:RI C.w0 C.Sh u1 (.str s):=r1
 have q2:RI C.w0 C.Sh u2 (.int .i64 base):=r2
 have q3:RI C.w0 C.Sh u3 (.int .i64 bits):=r3
 have q4:RI C.w0 C.Sh u4 (.ifc StTy.errT n):=r4
 obtain ⟨b0,rfl,hb0⟩:∃ b:ByteArray,u0=.string b/\b.data.toList=fn:=by cases q0;exact ⟨_,rfl,rfl⟩
 obtain ⟨b1,rfl,hb1⟩:∃ b:ByteArray,u1=.string b/\b.data.toList=s:=by cases q1;exact ⟨_,rfl,rfl⟩
 obtain rfl:u2=.int .i64 base:=by cases q2;rfl
 obtain rfl:u3=.int .i64 bits:=by cases q3;rfl
 obtain rfl:u4=.iface StTy.errT (.int .i64 n):=by cases q4;rfl
 have hsz:b1.size<=281474976710656:=by
  have:b1.size=s.length:=by rw[<-hb1,Array.length_toList];rfl
  omega
 obtain ⟨e15,c15,v15⟩:=err_cell (C:=C) h15
 obtain ⟨e16,c16,v16⟩:=err_cell (C:=C) h16
 rw[<-hf,<-hT]
 rcases hn with hn|hn
 ·obtain rfl:n=1:=eq_of_beq hn
  refine (Any.strconv_toError_range L b0 b1 base bits e16 C.w0 hsz c16 v16).mono ?_
  rintro e w' ⟨N,rfl,_,_,hw⟩
  exact ⟨_,rfl,postM_below hw (RI.opq _ _)⟩
 ·obtain rfl:n=2:=eq_of_beq hn
  refine (Any.strconv_toError_syntax L b0 b1 base bits e15 C.w0 hsz c15 v15).mono ?_
  rintro e w' ⟨N,rfl,_,_,hw⟩
  exact ⟨_,rfl,postM_below hw (RI.opq _ _)⟩
theorem toErr_ok {P:Program} {f:FuncId} {ρ:Ren} (L:LaysC.n245 P ρ) (hf:ρ.f 245=f) (hT:ρ.t 167=StTy.errT) (h15:Globs.tab (ρ.g 15)=some [CV.opq]) (h16:Globs.tab (ρ.g 16)=some [CV.opq]) :
  ConOk P ⟨f,toeP,errR,false,[],λ a=>gToErr a.1 a.2.1 a.2.2.1 a.2.2.2.1 a.2.2.2.2⟩:=λ a r hG h =>
 (toErr_ans L hf hT h15 h16 a.1 a.2.1 a.2.2.1 a.2.2.2.1 a.2.2.2.2 r h).mono λ v h1 ⟨e1,e2⟩=>⟨e1,e2,good_err r⟩
end Go.Fm
