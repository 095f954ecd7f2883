import Derived.Test.YtofjeimkphojaaaGreatDoorMH
import Derived.Shelf.Sort.Plain
import Derived.Shelf.Slices.In.SortNone
import Derived.Shelf.Strconv.Itoa3
import Derived.Shelf.Strings.OnBuilder
set_option linter.all false
namespace Go.Fm
open Go.Proofs Go.Sort Go.Shelf
variable [Globs] [Structs] [Tabs]
def PostM (C:Ctx) (bs h1:List HS) (r:SV) (v:Value) (w':World):Prop:=∃ (ρ':Rho) (Sh':Nat->Prop),HeapRel C.w0 Sh' C.O ρ' (hOf h1) w'/\RSV w' Sh' ρ' (hOf h1) v r ∧
   (∀ id,id < bs.length->hOf h1 id≠.no/\ρ' id=C.rho0 id)/\Fr C.w0 C.O w'/\(∀ k,C.Sh k->Sh' k) ∧
   (∀ k,Sh' k->k < w'.heap.size/\(C.Sh k\/C.w0.heap.size<=k\/C.O k))
theorem meets_of {P:Program} {f:FuncId} {ps:List PV} {bs h1:List HS} {r:SV} (he:Enters P f)
  (h:∀ (C:Ctx) (vs:List Value),C.P=P->C.k0=bs.length->vs.length=ps.length →
  (∀ (i:Nat) (p:PV),ps[i]? = some p->∃ u:Value,vs[i]? = some u/\RPV C.w0 C.Sh C.rho0 (hOf bs) u p) →
  HeapRel C.w0 C.Sh C.O C.rho0 (hOf bs) C.w0->(∀ id,id < bs.length->hOf bs id≠.no)->Calls P f vs.toArray C.w0 λ e w'=>∃ v,e=.returned v/\PostM C bs h1 r v w'):Meets P f ps bs r h1:=by
 intro C vs hP hk hlen hargs hheap hno
 unfold Serves
 rw[he vs.toArray C.w0]
 refine (h C vs hP hk hlen hargs hheap hno).mono ?_
 rintro e w' ⟨v,rfl,hp⟩
 exact hp
theorem enc_int (k:IntKind):∀ xs:List Int,xs.flatMap (eI k)=xs.map (CV.int k)
 | []=>rfl
 | x::r=>by rw[List.flatMap_cons,enc_int k r];rfl
end Go.Fm
namespace Go.Fm
open Go.Proofs Go.Sort Go.Shelf
variable [Globs] [Structs] [Tabs]
theorem postM_below {C:Ctx} {r:SV} {v:Value} {w':World} (hb:Go.RowKit.Below C.w0.heap.size C.w0 w') (hr:RSV w' C.Sh C.rho0 (hOf []) v r):PostM C [] [] r v w' :=
 ⟨C.rho0,C.Sh,⟨λ id b h=>by simp[hOf]at h,λ id b L h=>by simp[hOf]at h,λ id id' b b' L L' h=>by simp[hOf]at h⟩,hr,λ id hid=>absurd hid (Nat.not_lt_zero _),
  ⟨hb.os,hb.tape,hb.output,hb.size,λ k hk _=>hb.block k hk⟩,λ k h=>h,λ k h=>⟨Nat.lt_of_lt_of_le (C.old k h).1 hb.size, .inl h⟩⟩
theorem below_grow (w:World) (k:Nat) (os:Array Obj):Go.RowKit.Below w.heap.size w (grow (w.drewN k) os) :=
 ⟨rfl,rfl,rfl,by rw[size_grow];exact Nat.le_add_right _ _,λ j hj=>heap_grow_old _ _ hj⟩
theorem ba_toList (l:List UInt8):(⟨l.toArray⟩:ByteArray).data.toList=l:=by simp
theorem tab_is {P:Program} {w:World} {Sh:Nat->Prop} {g:Nat} {k:IntKind} {xs:List Int} {name:String} (h:TabAt w Sh g (xs.flatMap (eI k))) (hg:P.globalNamed name=some g):Lib.TabIs P w name k xs:=by
 rw[enc_int]at h
 obtain ⟨h1,h2,vs,x,y,h3,h4⟩:=h
 unfold Lib.TabIs World.var?
 rw[hg,Option.bind_some,h3]
 show some vs=_
 congr 1
 cases h1 with
 | ip b off cs vals hs hc hr =>
  refine Array.ext (by simpa using h4) λ j h5 h6 => ?_
  simp only[List.length_map]at h4 hc
  have h7:=hc j (by omega)
  have h8:=hr j (.int k xs[j]) (by rw[List.getElem?_map,List.getElem?_eq_getElem (by omega)];rfl)
  unfold World.cell? at h7
  simp only[h3,Nat.zero_add]at h7
  rw[Array.getElem?_eq_getElem h5]at h7
  have h9:=Option.some.inj h7
  rw[h9]
  generalize vals j=u at h8
  cases h8
  simp
def gItoa (n:Int):Option (List UInt8):=cond (decide (-9223372036854775808<=n/\n<=9223372036854775807)) (some (Lib.itoa n)) none
abbrev itoP:Shp:=⟨[(0, .s (.int .i64) [])],[]⟩
abbrev strR:Shp:=⟨[(0, .s .str [])],[]⟩
theorem good_str (s:List UInt8):Good (lvl0 [] ⟨[],[]⟩) (strR.mkS s):=good_pure rfl rfl
theorem itoa_ans {P:Program} {f:FuncId} {ρ:Ren} (L:LaysM.n171 P ρ) (hf:ρ.f 171=f) {g:Nat} (hg:P.globalNamed "internal/strconv.uint64pow10" = some g) (ht:Globs.tab g=some (Lib.pow10Tab.flatMap (eI .u64))) (a:Int) (r:List UInt8) (h:gItoa a=some r) :
  Ans P f [.one (.int .i64 a)] [] λ v h=>v=.pv (.one (.str r))/\h=[]:=λ hm=>by
 unfold gItoa at h
 by_cases hsz : -9223372036854775808<=a/\a<=9223372036854775807
 case neg=>rw[decide_eq_false hsz]at h;cases h
 rw[decide_eq_true hsz]at h
 cases h
 refine ⟨_,_,meets_of (by rw[<-hf];exact enters_of L.f171 (by kernel_rfl) rfl) ?_,rfl,rfl⟩
 intro C vs hP hk hlen hargs hheap hno
 obtain ⟨u0,h0,r0⟩:=hargs 0 _ rfl
 obtain rfl:vs=[u0]:=by
  match vs,hlen,h0 with
  | [a],_,h0=>simp at h0;rw[h0]
 obtain rfl:u0=.int .i64 a:=by
  have:RI C.w0 C.Sh u0 (.int .i64 a):=r0
  cases this;rfl
 rw[<-hf]
 refine (Any.strconv_Itoa L a hsz.1 hsz.2 C.w0 (tab_is (C.gl g _ ht) hg)).mono ?_
 rintro e w' ⟨rfl,k,os,rfl⟩
 refine ⟨_,rfl,postM_below (below_grow _ _ _) ?_⟩
 have:=RI.str (w:=grow (C.w0.drewN k) os) (Sh:=C.Sh) ⟨(Lib.itoa a).toArray⟩
 rw[ba_toList]at this
 exact this
theorem itoa_ok {P:Program} {f:FuncId} {ρ:Ren} (L:LaysM.n171 P ρ) (hf:ρ.f 171=f) {g:Nat} (hg:P.globalNamed "internal/strconv.uint64pow10" = some g) (ht:Globs.tab g=some (Lib.pow10Tab.flatMap (eI .u64))) :
  ConOk P ⟨f,itoP,strR,false,[],gItoa⟩:=λ a r hG h=>(itoa_ans L hf hg ht a r h).mono λ v h1 ⟨e1,e2⟩=>⟨e1,e2,good_str r⟩
end Go.Fm
