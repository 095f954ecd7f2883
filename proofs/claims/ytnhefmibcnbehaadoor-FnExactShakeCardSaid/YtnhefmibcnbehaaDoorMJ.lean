import Derived.Test.YtnhefmibcnbehaaDoorMI
import Derived.Shelf.Sort.Plain
import Derived.Shelf.Slices.In.SortNone
set_option linter.all false
namespace Go.Fm
open Go.Proofs Go.Sort Go.Shelf
variable [Globs] [Structs] [Tabs]
def sortI (xs:List Int):List Int:=xs.mergeSort λ x y=>decide (x<=y)
theorem sortI_len (xs:List Int):(sortI xs).length=xs.length:=List.length_mergeSort _
theorem get_toArray (xs:List Int) {j:Nat} (h:j < xs.length):xs.toArray[j]! = xs[j]:=by
 rw[getElem!_pos _ _ (by simpa using h)];simp
def PostM (C:Ctx) (bs h1:List HS) (r:SV) (v:Value) (w':World):Prop:=∃ (ρ':Rho) (Sh':Nat->Prop),HeapRel C.w0 Sh' C.O ρ' (hOf h1) w'/\RSV w' Sh' ρ' (hOf h1) v r ∧
   (∀ id,id < bs.length->hOf h1 id≠.no/\ρ' id=C.rho0 id)/\Fr C.w0 C.O w'/\(∀ k,C.Sh k->Sh' k) ∧
   (∀ k,Sh' k->k < w'.heap.size/\(C.Sh k\/C.w0.heap.size<=k\/C.O k))
theorem meets_of {P:Program} {f:FuncId} {ps:List PV} {bs h1:List HS} {r:SV} (he:Enters P f)
  (h:∀ (C:Ctx) (vs:List Value),C.P=P->C.k0=bs.length->vs.length=ps.length →
  (∀ (i:Nat) (p:PV),ps[i]? = some p->∃ u:Value,vs[i]? = some u/\RPV C.w0 C.Sh C.rho0 (hOf bs) u p) →
  HeapRel C.w0 C.Sh C.O C.rho0 (hOf bs) C.w0->(∀ id,id < bs.length->hOf bs id≠.no)->Calls P f vs.toArray C.w0 λ e w'=>∃ v,e=.returned v/\PostM C bs h1 r v w'):Meets P f ps bs r h1:=by
 intro C vs hP hk hlen hargs hheap hno
 unfold Serves
 rw[he vs.toArray C.w0]
 refine (h C vs hP hk hlen hargs hheap hno).mono ?_
 rintro e w' ⟨v,rfl,hp⟩
 exact hp
theorem heap_onBlock (w:World) (b:Nat) (f:Array Value->Array Value) {k:Nat} (h:k≠b):(mapBlock w b f).heap[k]? = w.heap[k]? := by
 unfold mapBlock
 simp only[Array.getElem?_modify]
 rw[if_neg (Ne.symm h)]
theorem ext_sort {P:Program} {f:FuncId} {ρ:Ren} (L:Lays.n189 P ρ) (hf:ρ.f 189=f) {xs:List Int} (hsz:xs.length < 4611686018427387904) :
  Ans P f [.one (.arr 0 0 xs.length)] [.live ⟨1,xs.length,xs.map (CV.int .i64)⟩] λ v h1=>v=.tup []/\h1=[.live ⟨1,xs.length,(sortI xs).map (CV.int .i64)⟩]:=λ hm=>by
 refine ⟨_,_,meets_of (by rw[<-hf];exact enters_of L.f189 (by kernel_rfl) rfl) ?_,rfl,rfl⟩
 intro C vs hP hk hlen hargs hheap hno
 obtain ⟨u0,h0,r0⟩:=hargs 0 _ rfl
 obtain rfl:vs=[u0]:=by
  match vs,hlen,h0 with
  | [a],_,h0=>simp at h0;rw[h0]
 have hb:=hheap.blk 0 _ rfl
 have r1:RArr (C.rho0 0) 1 xs.length u0 0 xs.length:=r0
 have hno':∀ id,id < 1->hOf [.live ⟨1,xs.length,(sortI xs).map (CV.int .i64)⟩] id≠.no/\C.rho0 id=C.rho0 id:=λ id hid=>by
  have:id=0:=by omega
  subst this;exact ⟨by simp[hOf],rfl⟩
 have none:xs=[]->(∃ p cap,u0=.slice p 0 cap)->Calls P f #[u0] C.w0 λ e w'=>∃ v,e=.returned v/\PostM C [.live ⟨1,xs.length,xs.map (CV.int .i64)⟩] [.live ⟨1,xs.length,(sortI xs).map (CV.int .i64)⟩] (.tup []) v w':=λ hx ⟨p,cap,hu⟩=>by
  subst hu
  rw[<-hf]
  refine (Any.slices_Sort_int_none L p cap C.w0).mono ?_
  rintro e w' ⟨rfl,rfl⟩
  refine ⟨_,rfl,C.rho0,C.Sh,?_,⟨[],rfl,rfl,λ i p h=>by simp at h⟩,hno', .refl _ _,λ k h=>h,λ k h=>⟨(C.old k h).1, .inl h⟩⟩
  have:sortI xs=xs:=by subst hx;simp[sortI]
  rw[this];exact hheap
 cases hL:C.rho0 0 with
 | none =>
  rw[hL]at r1
  obtain ⟨e1,a,e2⟩:=r1
  exact none (List.eq_nil_of_length_eq_zero e1) ⟨_,_,e2⟩
 | some Lc =>
  rw[hL]at r1
  rcases r1 with ⟨cap,e1,e2,e3,_⟩|⟨e1,_,a,e2⟩
  case inr=>exact none (List.eq_nil_of_length_eq_zero e1) ⟨_,_,e2⟩
  unfold RB at hb
  rw[hL]at hb
  obtain ⟨b1,b2,b3,b4⟩:=hb
  simp only[List.length_map]at b1 b2 b4
  obtain ⟨o1,o2,o3⟩:=hheap.own 0 _ Lc rfl hL
  rw[show Lc.o+0*1=Lc.o by omega]at e1
  have hcell:∀ j (h:j < xs.length),C.w0.cell? ⟨Lc.b,Lc.o+j, .none⟩=some (.int .i64 xs[j]):=λ j h=>by
   obtain ⟨u,q1,q2⟩:=b4 j (.int .i64 xs[j]) (by rw[List.getElem?_map,List.getElem?_eq_getElem h];rfl)
   rw[q1]
   cases q2;rfl
  have hH:Holds (Value.int .i64) C.w0 Lc.b Lc.o xs.toArray:=λ j hj=>by
   have hj:j < xs.length:=by simpa using hj
   rw[get_toArray xs hj]
   exact ⟨hcell j hj,(b3 j (by omega)).2.1⟩
  subst e1
  rw[<-hf]
  refine (Any.slices_Sort_int L Lc.b Lc.o cap xs C.w0 hH o1 hsz).mono ?_
  rintro e w' ⟨rfl,n,os,rfl⟩
  refine ⟨_,rfl,?_⟩
  show PostM C _ _ _ _ (grow (putRow (Value.int .i64) (Sort.ahead C.w0 n) Lc.b Lc.o (sortI xs).toArray) os)
  have hsl:(sortI xs).toArray.size=xs.toArray.size:=by simp[sortI_len]
  generalize hw1:putRow (Value.int .i64) (Sort.ahead C.w0 n) Lc.b Lc.o (sortI xs).toArray=w1
  have hsize:w1.heap.size=C.w0.heap.size:=by rw[<-hw1,size_putRow];rfl
  have hH1:Holds (Value.int .i64) w1 Lc.b Lc.o (sortI xs).toArray:=by
   rw[<-hw1]
   exact holds_putRow (Value.int .i64) (Sort.ahead C.w0 n) Lc.b Lc.o xs.toArray (sortI xs).toArray (λ j hj=>hH j hj) hsl
  have hk1:∀ k,k≠Lc.b->w1.heap[k]? = C.w0.heap[k]? := λ k h=>by
   rw[<-hw1];exact heap_onBlock _ _ _ h
  have hg:∀ k,k < C.w0.heap.size->(grow w1 os).heap[k]? = w1.heap[k]? := λ k h=>heap_grow_old _ _ (by rw[hsize];exact h)
  have hfr:∀ a:Addr,a.block=Lc.b->(grow w1 os).frozen? a=C.w0.frozen? a:=λ a ha=>by
   rw[frozen?_grow _ _ _ (by rw[hsize,ha];exact o1),<-hw1,frozen?_putRow];rfl
  have hout:∀ a:Addr,a.block=Lc.b->(a.off < Lc.o\/Lc.o+xs.length<=a.off)->(grow w1 os).cell? a=C.w0.cell? a:=λ a ha hx=>by
   rw[cell?_grow _ _ _ (by rw[hsize,ha];exact o1),<-hw1,cell?_putRow_other _ _ _ _ _ _ (.inr (by rw[hsl];simpa using hx))];rfl
  have hin:∀ j (h:j < xs.length),(grow w1 os).cell? ⟨Lc.b,Lc.o+j, .none⟩=some (.int .i64 ((sortI xs)[j]'(by rw[sortI_len];exact h))):=λ j h=>by
   have h':j < (sortI xs).length:=by rw[sortI_len];exact h
   have:=(hH1 j (by rw[hsl];simpa using h)).1
   rw[get_toArray _ h']at this
   rw[cell?_grow _ _ _ (by rw[hsize];exact o1)];exact this
  have hSh:∀ k,C.Sh k->(grow w1 os).heap[k]? = C.w0.heap[k]? := λ k h=>by
   rw[hg k (C.old k h).1,hk1 k (λ e=>o2 (e▸h))]
  refine ⟨C.rho0,C.Sh,⟨?_,?_,?_,_, .none λ id b hid=>by match id,hid with|0,hid=>cases hid⟩,⟨[],rfl,rfl,λ i p h=>by simp at h⟩,hno',⟨?_,?_,?_,?_,?_⟩,λ k h=>h,λ k h=>⟨?_, .inl h⟩⟩
  ·intro id b hid
   match id,hid with
   | 0,hid =>
    cases hid
    unfold RB
    rw[hL]
    simp only[List.length_map,sortI_len]
    refine ⟨b1,b2,λ j hj=>⟨?_,by rw[hfr _ rfl];exact (b3 j hj).2.1,λ hz=>absurd rfl hz⟩,λ j c hc => ?_⟩
    ·by_cases hx:j < xs.length
     ·rw[hin j hx];rfl
     ·rw[hout _ rfl (.inr (by show Lc.o+xs.length<=Lc.o+j;omega))];exact (b3 j hj).1
    ·rw[List.getElem?_map]at hc
     cases hq:(sortI xs)[j]? with
     | none=>rw[hq]at hc;cases hc
     | some y =>
      rw[hq]at hc
      cases hc
      obtain ⟨hj,hy⟩:=List.getElem?_eq_some_iff.1 hq
      refine ⟨_,hin j (by rw[sortI_len]at hj;exact hj),?_⟩
      rw[hy];exact RI.int _ _
  ·intro id b L' hid hL'
   match id,hid with
   | 0,hid =>
    rw[hL]at hL';cases hL'
    exact ⟨by rw[size_grow,hsize];omega,o2,o3⟩
  ·intro id id' b b' L1 L2 h1 h2 _ _ _
   match id,id',h1,h2 with
   | 0,0,_,_=>rfl
  ·rw[<-hw1];rfl
  ·rw[<-hw1];rfl
  ·rw[<-hw1];rfl
  ·rw[size_grow,hsize];omega
  ·intro k h1 h2
   rw[hg k h1,hk1 k]
   rintro rfl
   rcases o3 with o3|o3
   ·omega
   ·exact h2 o3
  ·rw[size_grow,hsize];have:=(C.old k h).1;omega
theorem enc_int (k:IntKind):∀ xs:List Int,xs.flatMap (eI k)=xs.map (CV.int k)
 | []=>rfl
 | x::r=>by rw[List.flatMap_cons,enc_int k r];rfl
abbrev srtP:Shp:=⟨[(0, .s (.list (.int .i64)) [(0,0)])],[.o]⟩
abbrev srtR:Shp:=⟨[],[.r (.int .i64)]⟩
def gSort (xs:List Int):Option (List Int):=cond (decide (xs.length < 4611686018427387904)) (some (sortI xs)) none
theorem sort_ans {P:Program} {f:FuncId} {ρ:Ren} (L:Lays.n189 P ρ) (hf:ρ.f 189=f) (a r:List Int) (hG:Good ⟨[],[],0,[]⟩ (srtP.mkS a)) (hg:gSort a=some r) :
  Ans P f (pvsE (srtP.mkS a).env) (heapC [] 0 (srtP.mkS a).heap) λ v h=>v=svOf (pvsE (srtR.mkS r).env)/\h=heapC (lvl0 [] (srtP.mkS a)).fb 0 (srtR.mkS r).heap/\Good (lvl0 [] (srtP.mkS a)) (srtR.mkS r):=by
 unfold gSort at hg
 by_cases hsz:a.length < 4611686018427387904
 case neg=>rw[decide_eq_false hsz]at hg;cases hg
 rw[decide_eq_true hsz]at hg
 cases hg
 have h:=ext_sort L hf hsz
 rw[<-enc_int,<-enc_int]at h
 refine h.mono λ v h1 ⟨e1,e2⟩=>⟨e1,?_,?_⟩
 ·rw[e2]
  show _=[HS.live ⟨1,(sortI a).length,(sortI a).flatMap (eI .i64)⟩]
  rw[sortI_len]
 ·refine ⟨Nat.le_refl _,λ i hi=>(by cases hi),λ t => ?_,λ j => ?_,λ j t n xs hj hb => ?_,λ j t n xs o hj hb => ?_⟩
  ·exact trivial
  ·match j with
   | 0=>exact rfl
   | j+1 =>
    show goodB _ (blkL [] 1 [] j)
    rw[blkL_nil];trivial
  ·match j,hj,hb with
   | 0,_,hb =>
    have hb':(TB.rows (.int .i64) (sortI a).length (sortI a))=TB.rows t n xs:=hb
    injection hb' with h1 h2 h3
    subst h2
    show some (some a.length)=_
    rw[sortI_len]
  ·match j,hj,hb with
   | 0,_,hb =>
    have hb':(TB.rows (.int .i64) (sortI a).length (sortI a))=TB.deep t n xs o:=hb
    cases hb'
theorem sort_ok {P:Program} {f:FuncId} {ρ:Ren} (L:Lays.n189 P ρ) (hf:ρ.f 189=f) :
  ConOk P ⟨f,srtP,srtR,false,[],gSort⟩:=λ a r hG hg=>sort_ans L hf a r hG hg
end Go.Fm
