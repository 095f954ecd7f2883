import Derived.Test.YtnhefmibcnbehaaDoorMI
import Derived.Shelf.Sort.Plain
import Derived.Shelf.Slices.In.SortNone
import Derived.Shelf.Spec.SlicesInsertGrow
set_option linter.all false
namespace Go.Fm
open Go.Proofs Go.Sort Go.Shelf
variable [Globs] [Structs] [Tabs]
def sortI (xs:List Int):List Int:=xs.mergeSort λ x y=>decide (x<=y)
def PostM (C:Ctx) (bs h1:List HS) (r:SV) (v:Value) (w':World):Prop:=∃ (ρ':Rho) (Sh':Nat->Prop),HeapRel C.w0 Sh' C.O ρ' (hOf h1) w'/\RSV w' Sh' ρ' (hOf h1) v r ∧
   (∀ id,id < bs.length->hOf h1 id≠.no/\ρ' id=C.rho0 id)/\Fr C.w0 C.O w'/\(∀ k,C.Sh k->Sh' k) ∧
   (∀ k,Sh' k->k < w'.heap.size/\(C.Sh k\/C.w0.heap.size<=k\/C.O k))
theorem meets_of {P:Program} {f:FuncId} {ps:List PV} {bs h1:List HS} {r:SV} (he:Enters P f)
  (h:∀ (C:Ctx) (vs:List Value),C.P=P->C.k0=bs.length->vs.length=ps.length →
  (∀ (i:Nat) (p:PV),ps[i]? = some p->∃ u:Value,vs[i]? = some u/\RPV C.w0 C.Sh C.rho0 (hOf bs) u p) →
  HeapRel C.w0 C.Sh C.O C.rho0 (hOf bs) C.w0->(∀ id,id < bs.length->hOf bs id≠.no)->Calls P f vs.toArray C.w0 λ e w'=>∃ v,e=.returned v/\PostM C bs h1 r v w'):Meets P f ps bs r h1:=by
 intro C vs hP hk hlen hargs hheap hno
 unfold Serves
 rw[he vs.toArray C.w0]
 refine (h C vs hP hk hlen hargs hheap hno).mono ?_
 rintro e w' ⟨v,rfl,hp⟩
 exact hp
def gSort (xs:List Int):Option (List Int):=cond (decide (xs.length < 4611686018427387904)) (some (sortI xs)) none
end Go.Fm
namespace Go.Fm
open Go.Proofs Go.Shelf Go.RowKit Go.Lib
variable {P:Program} {ρ:Ren}
structure InsL (P:Program) (ρ:Ren) (nm:String) (sz by_:Nat) (zv:Value):Prop where
 mixed:P.follows .mixedOrders=true
 f22:P.funcs[ρ.f 22]? = some { Body2.n22 ρ with name:=nm }
 hn:(nm == "runtime.NumGoroutine")=false
 ov:∀ (a b:Value) w,(callFunc (ρ.f 29) #[a,b]).run P w=((Extern.SlicesOverlaps.overlaps #[ρ.t 24,ρ.t 24] #[ρ.t 4] #[a,b]).run P w).andThen λ v w=>.ok (.value v) w
 t3:P.underlying (ρ.t 3)=some (TypeDesc.int IntKind.i64)
 a3:∀ w,(isAgg (ρ.t 3)).run P w=.ok false w
 z3:∀ w,(Go.sizeOf (ρ.t 3)).run P w=.ok 1 w
 v3:∀ w,(zeroValue (ρ.t 3)).run P w=.ok (Value.int IntKind.i64 0) w
 t4:P.underlying (ρ.t 4)=some (TypeDesc.bool)
 a4:∀ w,(isAgg (ρ.t 4)).run P w=.ok false w
 z4:∀ w,(Go.sizeOf (ρ.t 4)).run P w=.ok 1 w
 v4:∀ w,(zeroValue (ρ.t 4)).run P w=.ok (Value.bool false) w
 t24:P.underlying (ρ.t 24)=some (TypeDesc.slice (ρ.t 9))
 a24:∀ w,(isAgg (ρ.t 24)).run P w=.ok false w
 z24:∀ w,(Go.sizeOf (ρ.t 24)).run P w=.ok 1 w
 v24:∀ w,(zeroValue (ρ.t 24)).run P w=.ok (Value.slice none 0 0) w
 z9:∀ w,(Go.sizeOf (ρ.t 9)).run P w=.ok sz w
 i9:∃ i,P.info? (ρ.t 9)=some i/\i.zero=some zv/\i.size=sz/\i.bytes=by_
variable {nm:String} {sz by_:Nat} {zv:Value}
theorem setC_some (b:Nat):∀ (vs:List Value) (o:Nat) (w:World) (x:Addr),(w.cell? x).isSome=true->((w.setCells b o vs).cell? x).isSome=true:=by
 letI:Globs:=⟨λ _=>none⟩
 exact Go.Fm.isSome_setCells b
end Go.Fm
namespace Go.Fm
open Go.Proofs Go.Shelf Go.RowKit Go.Lib
variable [Globs]
theorem RelAt.redo {C:Ctx} {ρ:Rho} {φ:St} {a:Act} {w w':World} (R:RelAt C ρ φ a w) (id:Nat) (blk:Blk) (L:Loc) (hb:φ.heap id=.live blk) (hL:ρ id=some L)
  (nid:Nat) (hno:φ.heap nid=.no) (n':Nat) (ns:List CV) (hln:ns.length=n'*blk.sz) (hE:ns.length<=L.e)
  (hk:∀ k,k≠L.b->w'.heap[k]? = w.heap[k]?) (hsize:w'.heap.size=w.heap.size) (hos:w'.os=w.os) (htp:w'.tape=w.tape) (hout:w'.output=w.output)
  (hsome:∀ x,(w.cell? x).isSome=true->(w'.cell? x).isSome=true) (hfz:∀ x,w'.frozen? x=w.frozen? x)
  (hcs:∀ (j:Nat) (c:CV),ns[j]? = some c->∃ u:Value,w'.cell? ⟨L.b,L.o+j,none⟩=some u/\RV w C.Sh ρ φ.heap u c) :
  RelAt C (upd ρ nid (some L)) { φ with heap:=upd (upd φ.heap id .dead) nid (.live ⟨blk.sz,n',ns⟩) } a w':=by
 have hrb:=R.hp.blk id blk hb
 unfold RB at hrb
 rw[hL]at hrb
 obtain ⟨q1,q2,q3,q4⟩:=hrb
 obtain ⟨p1,p2,p3⟩:=R.hp.own id blk L hb hL
 have hne:nid≠id:=λ e=>by rw[e,hb]at hno;cases hno
 have hk0:=R.k0_le hno
 have hle:∀ i,HLe (φ.heap i) (ρ i) (upd (upd φ.heap id .dead) nid (.live ⟨blk.sz,n',ns⟩) i) (upd ρ nid (some L) i):=by
  intro i
  by_cases e:i=nid
  ·subst e;rw[hno];trivial
  ·rw[upd_ne _ _ e,upd_ne _ _ e]
   by_cases e2:i=id
   ·subst e2;rw[hb,upd_same];trivial
   ·rw[upd_ne _ _ e2];exact HLe.refl _ _
 have hsh:∀ k,C.Sh k->w'.heap[k]? = w.heap[k]? := λ k hk'=>hk k (λ e=>p2 (e▸hk'))
 refine R.at L.b nid ⟨p2,p3,by rw[hsize];exact p1⟩ (λ k _ hk'=>hk k hk') (by rw[hsize];exact Nat.le_refl _) hos htp hout hle (λ i hi=>upd_ne _ _ (λ e=>hk0 (e▸hi))) ?_ ?_ (.inr ⟨id,blk,L,hb,hL,rfl⟩) ?_
 rotate_left 2
 ·intro i b hi
  by_cases e1:i=nid
  ·subst e1;rw[upd_same]at hi;cases hi
  ·rw[upd_ne _ _ e1]at hi
   by_cases e:i=id
   ·subst e;rw[upd_same]at hi;cases hi
   ·rw[upd_ne _ _ e]at hi;exact ⟨hi,upd_ne _ _ e1⟩
 ·intro i b hi hni
  rw[upd_ne _ _ hni]at hi
  by_cases e:i=id
  ·subst e;rw[upd_same]at hi;cases hi
  ·rw[upd_ne _ _ e]at hi
   exact ⟨hi,upd_ne _ _ hni,λ L' hL' he=>e (R.hp.inj i id b blk L' L hi hb hL' hL he)⟩
 ·intro b hi
  rw[upd_same]at hi
  cases hi
  refine ⟨⟨_,upd_same _ _ _,rfl⟩,?_⟩
  unfold RB
  rw[upd_same]
  refine ⟨hln,hE,λ j hj=>⟨hsome _ (q3 j hj).1,by rw[hfz];exact (q3 j hj).2.1,λ hz k=>by rw[hfz];exact (q3 j hj).2.2 hz k⟩,λ j c hc => ?_⟩
  obtain ⟨u,hu,hr⟩:=hcs j c hc
  exact ⟨u,hu,hr.mono hsh hle⟩
theorem vals_of {cs:List CV} {Q:Nat->Value->CV->Prop} (h:∀ (j:Nat) (c:CV),cs[j]? = some c->∃ u,Q j u c):∃ us:List Value,us.length=cs.length/\∀ (j:Nat) (c:CV),cs[j]? = some c->∃ u:Value,us[j]? = some u/\Q j u c:=by
 induction cs generalizing Q with
 | nil=>exact ⟨[],rfl,λ j c hc=>by simp at hc⟩
 | cons c r ih =>
  obtain ⟨u,hu⟩:=h 0 c rfl
  obtain ⟨us,h1,h2⟩:=ih (Q:=λ j=>Q (j+1)) λ j c hc=>h (j+1) c (by simpa using hc)
  refine ⟨u::us,by simp[h1],λ j c' hc => ?_⟩
  cases j with
  | zero=>simp at hc;subst hc;exact ⟨u,rfl,hu⟩
  | succ j =>
   obtain ⟨v,e1,e2⟩:=h2 j c' (by simpa using hc)
   exact ⟨v,by simpa using e1,e2⟩
theorem PostM.of {C:Ctx} {bs h1:List HS} {r:SV} {v:Value} {w':World} {ρ:Rho} {φ:St} {a:Act} (R:RelAt C ρ φ a w') (hh:φ.heap=hOf h1) (hv:RSV w' C.Sh ρ φ.heap v r) (hb:bs.length=C.k0):PostM C bs h1 r v w':=by
 refine ⟨ρ,C.Sh,by rw[<-hh];exact R.hp,by rw[<-hh];exact hv,λ id hid => ?_,R.fr,λ k h=>h,λ k h=>⟨R.sh_lt h, .inl h⟩⟩
 rw[hb]at hid
 rw[<-hh]
 exact R.init id hid
variable {P:Program} {ρ:Ren} {nm:String} {sz by_:Nat} {zv:Value}
theorem get_val {us:List Value} {cs:List CV} {Q:Nat->Value->CV->Prop} (hl:us.length=cs.length) (h:∀ (j:Nat) (c:CV),cs[j]? = some c->∃ u:Value,us[j]? = some u/\Q j u c) {j:Nat} {u:Value} (hu:us[j]? = some u):∃ c,cs[j]? = some c/\Q j u c:=by
 obtain ⟨hj,_⟩:=List.getElem?_eq_some_iff.1 hu
 obtain ⟨v,e1,e2⟩:=h j cs[j] (List.getElem?_eq_getElem (by omega))
 rw[hu]at e1
 cases e1
 exact ⟨_,List.getElem?_eq_getElem (by omega),e2⟩
theorem laid {w:World} {b o:Nat} {vs cs:List Value} (hs:∀ j,j < vs.length+cs.length->(w.cell? ⟨b,o+j,none⟩).isSome=true) (w1:World) (h1:∀ x,w1.cell? x=(w.setCells b (o+vs.length) cs).cell? x) (j:Nat) (u:Value) (hu:(vs++cs)[j]? = some u) :
  (w1.setCells b o vs).cell? ⟨b,o+j,none⟩=some u:=by
 by_cases hj:j < vs.length
 ·rw[List.getElem?_append_left hj]at hu
  obtain ⟨h,e⟩:=List.getElem?_eq_some_iff.1 hu
  rw[World.cell?_setCells_in b vs o w1 (λ i hi=>by rw[h1];exact setC_some _ _ _ _ _ (hs i (by omega))) j hj,e]
 ·rw[List.getElem?_append_right (by omega)]at hu
  obtain ⟨h,e⟩:=List.getElem?_eq_some_iff.1 hu
  rw[World.cell?_setCells_out b vs o w1 _ (λ _ _=>.inr (by show o+vs.length<=o+j;omega)),h1]
  have:=World.cell?_setCells_in b cs (o+vs.length) w (λ i hi=>by rw[Nat.add_assoc];exact hs _ (by omega)) (j-vs.length) h
  rw[show o+vs.length+(j-vs.length)=o+j by omega]at this
  rw[this,e]
theorem rest_setC (b:Nat) (vs:List Value) (o:Nat) (w:World):(w.setCells b o vs).os=w.os/\(w.setCells b o vs).tape=w.tape/\(w.setCells b o vs).output=w.output/\(w.setCells b o vs).heap.size=w.heap.size/\∀ k,k≠b->(w.setCells b o vs).heap[k]? = w.heap[k]? := by
 obtain ⟨r1,r2,r3⟩:=rest_setCells b vs o w
 exact ⟨r1,r2,r3,size_setCells _ _ _ _,λ k hk=>heap_setCells_other _ _ _ _ _ hk⟩
end Go.Fm
namespace Go.Fm
open Go.Proofs Go.Shelf Go.RowKit Go.Lib
variable [Globs] [Structs] [Tabs]
variable {P:Program} {ρ:Ren} {nm:String} {sz by_:Nat} {zv:Value}
end Go.Fm
namespace Go.Fm
open Go.Proofs Go.Shelf Go.RowKit Go.Lib
variable {P:Program}
theorem copy_runG {tS e:TypeId} {sz:Nat} (hu:P.underlying tS=some (.slice e)) (hz:∀ w,(Go.sizeOf e).run P w=.ok sz w) (w:World) (ty:TypeId) (b o n dc:Nat) (a:Addr) (m sc:Nat) (vs:List Value) (hl:vs.length=min m n*sz)
  (hs:∀ j v,vs[j]? = some v->w.cell? (a.add j)=some v) (hc:∀ j,j < vs.length->(w.cell? ⟨b,o+j,none⟩).isSome=true) (hf:∀ j,j < vs.length->w.frozen? ⟨b,o+j,none⟩=false) (h1:∀ v ∈ vs,v.oneCell'=true) :
  (Builtin.copy_ #[tS,tS] ty #[.slice (some ⟨b,o,none⟩) n dc, .slice (some a) m sc]).run P w=.ok (goInt (min m n)) (w.setCells b o vs):=by
 have hst:(storeCells ⟨b,o,none⟩ vs).run P w=.ok () (w.setCells b o vs):=by
  have:=run_storeCells_cells (P:=P) b o vs 0 w (by simpa using hc) (by simpa using hf) h1
  simpa using this
 have hfc:(Builtin.firstCells sz (Nat.min m n) (.slice (some a) m sc)).run P w=.ok vs.toArray w:=run_firstCells_some w sz (Nat.min m n) a m sc vs hl hs
 have hlen:(Builtin.lenOf (.slice (some a) m sc)).run P w=.ok m w:=rfl
 simp[Builtin.copy_,run_underlying hu,hlen,hz,hfc,hst,goInt]
 show ((min m n:Nat):Int)=min (m:Int) (n:Int)
 omega
theorem copy_none {tS e:TypeId} {sz:Nat} (hu:P.underlying tS=some (.slice e)) (hz:∀ w,(Go.sizeOf e).run P w=.ok sz w) (w:World) (ty:TypeId) (b o n dc:Nat) (A:Option Addr) (sc:Nat) :
  (Builtin.copy_ #[tS,tS] ty #[.slice (some ⟨b,o,none⟩) n dc, .slice A 0 sc]).run P w=.ok (goInt 0) w:=by
 have hfc:(Builtin.firstCells sz 0 (.slice A 0 sc)).run P w=.ok ([]:List Value).toArray w:=by
  cases A with
  | none=>exact run_firstCells_none w sz 0 0 sc
  | some a=>exact run_firstCells_some w sz 0 a 0 sc [] (by simp) (λ j v h=>by simp at h)
 have hlen:(Builtin.lenOf (.slice A 0 sc)).run P w=.ok 0 w:=rfl
 simp[Builtin.copy_,run_underlying hu,hlen,hz,hfc,goInt,storeCells]
theorem wpList_clearI (w:World) {ops:Array Oper} {rest:List Oper} {o:Oper} {a:Act} {Q:Exit->Act->World->Prop} (hgd:o.guard=none) (x:Operand) (t:TypeId)
  (ho:o.op=.call { callee:=.builtin .clear,args := #[x],argTypes := #[t] }) (v:Value) (hx:a.eval x=v) {v':Value} {w':World}
  (hr:(Builtin.clear_ #[t] o.type #[v]).run P w=.ok v' w') (h:wpList P ops Q rest (a.put o.dst v') w'):wpList P ops Q (o::rest) a w :=
 wpList_plain hgd λ _ hK=>by
  unfold Oper.wp execOp
  simp only[ho,resolve,invoke,builtin,Sem.run_bind,Sem.run_pure,Result.andThen_ok,List.map_toArray,List.map_cons,List.map_nil,hx,hr]
  exact hK _ _ h
end Go.Fm
namespace Go.Fm
open Go.Proofs Go.Shelf Go.RowKit Go.Lib
structure RepL (P:Program) (f:FuncId) (fn:Func) (tS e:TypeId) (sz by_:Nat) (zv:Value):Prop where
 hf:P.funcs[f]? = some fn
 hn:(fn.name == "runtime.NumGoroutine")=false
 hb:∃ c,fn.body=some c
 t:P.underlying tS=some (TypeDesc.slice e)
 z:∀ w,(Go.sizeOf e).run P w=.ok sz w
 i:∃ i,P.info? e=some i/\i.zero=some zv/\i.size=sz/\i.bytes=by_
 fin:∀ (b off i m d c vc:Nat) (A:Option Addr) (w W1 W2:World),0 < d->i+m+d<=c->i+m+d<=4294967296 →
  (Builtin.append_ #[tS,tS] tS #[.slice (some ⟨b,off,none⟩) i c, .slice A m vc]).run P w=.ok (.slice (some ⟨b,off,none⟩) (i+m) c) W1 →
  (Builtin.clear_ #[tS] 0 #[.slice (some ⟨b,off+(i+m)*sz,none⟩) d (c-(i+m))]).run P W1=.ok (.tuple #[]) W2 →
  Calls P f #[.slice (some ⟨b,off,none⟩) (i+m+d) c, .int .i64 i, .int .i64 ((i:Int)+m+d), .slice A m vc] w λ e w'=>e=.returned (.slice (some ⟨b,off,none⟩) (i+m) c)/\w'=W2
 mid:∀ (b off i m d q c vc:Nat) (A:Option Addr) (w W1 W2 W3:World),0 < d->0 < q->i+m+d+q<=c->i+m+d+q<=4294967296 →
  (∀ dl dc,dl=m+q->(Builtin.copy_ #[tS,tS] 3 #[.slice (some ⟨b,off+i*sz,none⟩) dl dc, .slice A m vc]).run P w.drew=.ok (goInt m) W1) →
  (∀ dl dc sl sc,dl=q->sl=q->(Builtin.copy_ #[tS,tS] 3 #[.slice (some ⟨b,off+(i+m)*sz,none⟩) dl dc, .slice (some ⟨b,off+(i+m+d)*sz,none⟩) sl sc]).run P W1.drew=.ok (goInt q) W2) →
  (∀ dl dc,dl=d->(Builtin.clear_ #[tS] 0 #[.slice (some ⟨b,off+(i+m+q)*sz,none⟩) dl dc]).run P W2=.ok (.tuple #[]) W3) →
  Calls P f #[.slice (some ⟨b,off,none⟩) (i+m+d+q) c, .int .i64 i, .int .i64 ((i:Int)+m+d), .slice A m vc] w λ e w'=>e=.returned (.slice (some ⟨b,off,none⟩) (i+m+q) c)/\w'=W3
variable {P:Program} {f:FuncId} {fn:Func} {tS e:TypeId} {sz by_:Nat} {zv:Value}
theorem RepL.zeroE (L:RepL P f fn tS e sz by_ zv) (w:World):(zeroValue e).run P w=.ok zv w:=by
 obtain ⟨i,h1,h2,_⟩:=L.i
 simp[zeroValue,typeInfo,h1,h2]
theorem clear_run (L:RepL P f fn tS e sz by_ zv) (hzl:zv.cells.size=sz) (h1:∀ v ∈ zv.cells.toList,v.oneCell'=true) (w:World) (ty:TypeId) (b o d dc:Nat) (hd:0 < d) (hc:∀ j,j < d*sz->(w.cell? ⟨b,o+j,none⟩).isSome=true) (hf:∀ j,j < d*sz->w.frozen? ⟨b,o+j,none⟩=false) :
  (Builtin.clear_ #[tS] ty #[.slice (some ⟨b,o,none⟩) d dc]).run P w=.ok (.tuple #[]) (w.setCells b o (Builtin.zeroCells zv.cells d).toList):=by
 have hl:(Builtin.zeroCells zv.cells d).toList.length=d*sz:=by rw[Array.length_toList,size_zeroCells,hzl]
 have hst:(storeCells ⟨b,o,none⟩ (Builtin.zeroCells zv.cells d).toList).run P w=.ok () (w.setCells b o (Builtin.zeroCells zv.cells d).toList):=by
  have:=run_storeCells_cells (P:=P) b o (Builtin.zeroCells zv.cells d).toList 0 w (by simpa [hl] using hc) (by simpa [hl] using hf) (λ v hv=>by
   simp only[Builtin.zeroCells,Array.toList_map,List.mem_map]at hv
   obtain ⟨x,hx,rfl⟩:=hv
   rw[Array.mem_toList_iff,Array.mem_range]at hx
   have hp:0 < zv.cells.size:=Nat.pos_of_ne_zero λ e=>by rw[e]at hx;simp at hx
   have hlt:x % zv.cells.size < zv.cells.size:=Nat.mod_lt _ hp
   rw[getElem!_pos zv.cells _ hlt]
   exact h1 _ (by simp))
  simpa using this
 obtain ⟨d',rfl⟩:∃ d',d=d'+1:=⟨d-1,by omega⟩
 simp only[Builtin.clear_,Sem.run_bind,run_underlying L.t,Result.andThen_ok,List.getElem?_toArray,List.getElem?_cons_zero,L.zeroE,hst,Sem.run_pure]
theorem laid3 {w w1 w2:World} {b o p:Nat} {olds vals tl zs:List Value} (hp:p<=olds.length) (ho:∀ j v,olds[j]? = some v->w.cell? ⟨b,o+j,none⟩=some v) (hs:∀ j,j < p+vals.length+tl.length->(w.cell? ⟨b,o+j,none⟩).isSome=true)
  (h1:∀ x,w1.cell? x=(w.setCells b (o+p) vals).cell? x) (h2:∀ x,w2.cell? x=(w1.setCells b (o+(p+vals.length)) tl).cell? x) (j:Nat) (u:Value) (hu:(olds.take p++vals++tl)[j]? = some u) :
  (w2.setCells b (o+(p+vals.length+tl.length)) zs).cell? ⟨b,o+j,none⟩=some u:=by
 have htl:(olds.take p).length=p:=by rw[List.length_take];omega
 have hj:j < p+vals.length+tl.length:=by
  have:=(List.getElem?_eq_some_iff.1 hu).1
  simp only[List.length_append,htl]at this
  exact this
 rw[World.cell?_setCells_out b zs _ w2 _ (λ _ _=>.inl (by show o+j < _;omega)),h2]
 by_cases a:j < p+vals.length
 ·rw[World.cell?_setCells_out b tl _ w1 _ (λ _ _=>.inl (by show o+j < _;omega)),h1]
  rw[List.getElem?_append_left (by rw[List.length_append,htl];exact a)]at hu
  by_cases c:j < p
  ·rw[List.getElem?_append_left (by omega),List.getElem?_take,if_pos c]at hu
   rw[World.cell?_setCells_out b vals _ w _ (λ _ _=>.inl (by show o+j < _;omega))]
   exact ho j u hu
  ·rw[List.getElem?_append_right (by omega),htl]at hu
   obtain ⟨h,e⟩:=List.getElem?_eq_some_iff.1 hu
   have:=World.cell?_setCells_in b vals (o+p) w (λ i hi=>by rw[Nat.add_assoc];exact hs _ (by omega)) (j-p) h
   rw[show o+p+(j-p)=o+j by omega]at this
   rw[this,e]
 ·rw[List.getElem?_append_right (by rw[List.length_append,htl];omega),List.length_append,htl]at hu
  obtain ⟨h,e⟩:=List.getElem?_eq_some_iff.1 hu
  have:=World.cell?_setCells_in b tl (o+(p+vals.length)) w1 (λ i hi=>by rw[h1,Nat.add_assoc];exact setC_some _ _ _ _ _ (hs _ (by omega))) (j-(p+vals.length)) h
  rw[show o+(p+vals.length)+(j-(p+vals.length))=o+j by omega]at this
  rw[this,e]
end Go.Fm
namespace Go.Fm
open Go.Proofs Go.Shelf Go.RowKit Go.Lib
variable [Globs] [Structs] [Tabs]
variable {P:Program} {f:FuncId} {fn:Func} {tS e:TypeId} {sz by_:Nat} {zv:Value}
theorem ext_rep (L:RepL P f fn tS e sz by_ zv) (hzl:zv.cells.size=sz) (hz1:∀ v ∈ zv.cells.toList,v.oneCell'=true) {cs vs:List CV} {i m d q:Nat} (hd:0 < d) (hn:i+m+d+q<=4294967296) (hcl:cs.length=(i+m+d+q)*sz) (hvl:vs.length=m*sz) :
  Ans P f [.one (.arr 0 0 (i+m+d+q)), .one (.int .i64 i), .one (.int .i64 ((i:Int)+m+d)), .one (.arr 1 0 m)] [.live ⟨sz,i+m+d+q,cs⟩, .live ⟨sz,m,vs⟩]
   λ v h1=>v=one (.arr 2 0 (i+m+q))/\h1=[.dead, .dead, .live ⟨sz,i+m+q,cs.take (i*sz)++vs++cs.drop ((i+m+d)*sz)⟩]:=λ hm=>by
 obtain ⟨cb,hcb⟩:=L.hb
 refine ⟨_,_,meets_of (enters_of L.hf L.hn hcb) ?_,rfl,rfl⟩
 intro C us hP hk hlen hargs hheap hno
 obtain ⟨u0,g0,r0⟩:=hargs 0 _ rfl
 obtain ⟨u1,g1,r1⟩:=hargs 1 _ rfl
 obtain ⟨u2,g2,r2⟩:=hargs 2 _ rfl
 obtain ⟨u3,g3,r3⟩:=hargs 3 _ rfl
 obtain rfl:us=[u0,u1,u2,u3]:=by
  match us,hlen,g0,g1,g2,g3 with
  | [a,b,c,d],_,g0,g1,g2,g3=>simp at g0 g1 g2 g3;rw[g0,g1,g2,g3]
 have r0:RArr (C.rho0 0) sz (i+m+d+q) u0 0 (i+m+d+q):=r0
 have r3:RArr (C.rho0 1) sz m u3 0 m:=r3
 have r1:RI C.w0 C.Sh u1 (.int .i64 i):=r1
 have r2:RI C.w0 C.Sh u2 (.int .i64 ((i:Int)+m+d)):=r2
 cases r1
 cases r2
 have hb0:=hheap.blk 0 _ rfl
 have hb1:=hheap.blk 1 _ rfl
 have R:RelAt C C.rho0 ⟨λ _=>one .dead,hOf [.live ⟨sz,i+m+d+q,cs⟩, .live ⟨sz,m,vs⟩]⟩ ⟨Array.replicate C.nt undef,[]⟩ C.w0 :=
  ⟨rfl,by simp,λ t=>trivial,hheap,λ id hid=>⟨hno id (by rw[hk]at hid;exact hid),rfl⟩, .refl _ _⟩
 -- the list
 cases hL0:C.rho0 0 with
 | none=>rw[hL0]at r0;have:=r0.1;omega
 | some Lc =>
 rw[hL0]at r0
 rcases r0 with ⟨cap,e0,c1,c2,_⟩|⟨e1,_⟩
 case inr=>omega
 rw[show Lc.o+0*sz=Lc.o by omega]at e0
 subst e0
 unfold RB at hb0
 rw[hL0]at hb0
 obtain ⟨b1,b2,b3,b4⟩:=hb0
 simp only at b1 b2 b4
 obtain ⟨olds,o1,o2⟩:=vals_of b4
 have hov:∀ j v,olds[j]? = some v->C.w0.cell? ⟨Lc.b,Lc.o+j,none⟩=some v:=λ j v hj=>by
  obtain ⟨c,e1,e2,e3⟩:=get_val o1 o2 hj
  exact e2
 have hor:∀ (j:Nat) (c:CV),cs[j]? = some c->∃ u:Value,olds[j]? = some u/\RV C.w0 C.Sh C.rho0 (hOf [.live ⟨sz,i+m+d+q,cs⟩, .live ⟨sz,m,vs⟩]) u c:=λ j c hc=>by
  obtain ⟨u,e1,e2,e3⟩:=o2 j c hc
  exact ⟨u,e1,e3⟩
 have hone0:∀ v ∈ olds,v.oneCell'=true:=one_of_rel o1 hor
 -- what is put
 have src:∃ (A:Option Addr) (vc:Nat) (vals:List Value),u3=.slice A m vc/\vals.length=m*sz/\(∀ (j:Nat) (c:CV),vs[j]? = some c->∃ u:Value,vals[j]? = some u/\RV C.w0 C.Sh C.rho0 (hOf [.live ⟨sz,i+m+d+q,cs⟩, .live ⟨sz,m,vs⟩]) u c) ∧
   ((m=0/\vals=[])\/∃ vb vo,A=some ⟨vb,vo,none⟩/\vb≠Lc.b/\∀ j v,vals[j]? = some v->C.w0.cell? ⟨vb,vo+j,none⟩=some v):=by
  have nil:m=0->(∃ (a:Option Addr) (cap':Nat),u3=Value.slice a 0 cap')->∃ (A:Option Addr) (vc:Nat) (vals:List Value),u3=.slice A m vc/\vals.length=m*sz/\(∀ (j:Nat) (c:CV),vs[j]? = some c->∃ u:Value,vals[j]? = some u/\RV C.w0 C.Sh C.rho0 (hOf [.live ⟨sz,i+m+d+q,cs⟩, .live ⟨sz,m,vs⟩]) u c) ∧
   ((m=0/\vals=[])\/∃ vb vo,A=some ⟨vb,vo,none⟩/\vb≠Lc.b/\∀ j v,vals[j]? = some v->C.w0.cell? ⟨vb,vo+j,none⟩=some v):=by
   rintro h0 ⟨a,cap',ha⟩
   refine ⟨a,cap',[],by rw[ha,h0],by rw[h0];simp,λ j c hc => ?_, .inl ⟨h0,rfl⟩⟩
   have:vs=[]:=List.eq_nil_of_length_eq_zero (by rw[hvl,h0];simp)
   rw[this]at hc;simp at hc
  cases hL1:C.rho0 1 with
  | none=>rw[hL1]at r3;obtain ⟨h0,a,ha⟩:=r3;exact nil h0 ⟨a,0,ha⟩
  | some Lv =>
   rw[hL1]at r3
   rcases r3 with ⟨vc,e2',v2,v3,_⟩|⟨h0,_,a,ha⟩
   case inr=>exact nil h0 ⟨a,0,ha⟩
   rw[show Lv.o+0*sz=Lv.o by omega]at e2'
   unfold RB at hb1
   rw[hL1]at hb1
   obtain ⟨p1,p2,p3,p4⟩:=hb1
   simp only at p1 p2 p4
   obtain ⟨vals,q1,q2⟩:=vals_of p4
   refine ⟨_,vc,vals,e2',by rw[q1,hvl],λ j c hc => ?_, .inr ⟨Lv.b,Lv.o,rfl,λ e => ?_,λ j v hj => ?_⟩⟩
   ·obtain ⟨u,e1,e2,e3⟩:=q2 j c hc
    exact ⟨u,e1,e3⟩
   ·have:=hheap.inj 1 0 _ _ Lv Lc rfl rfl hL1 hL0 e
    omega
   ·obtain ⟨c,e1,e2,e3⟩:=get_val q1 q2 hj
    exact e2
 obtain ⟨A,vc,vals,rfl,hvals,hvr,hsrc⟩:=src
 have hone:∀ v ∈ vals,v.oneCell'=true:=one_of_rel (by rw[hvals,hvl]) hvr
 -- numbers
 have n1:(i+m+d+q)*sz=i*sz+m*sz+d*sz+q*sz:=by rw[Nat.add_mul,Nat.add_mul,Nat.add_mul]
 have n2:(i+m+d)*sz=i*sz+m*sz+d*sz:=by rw[Nat.add_mul,Nat.add_mul]
 have n3:(i+m)*sz=i*sz+m*sz:=Nat.add_mul ..
 have n4:(i+m+q)*sz=i*sz+m*sz+q*sz:=by rw[Nat.add_mul,Nat.add_mul]
 have hE:(i+m+d+q)*sz<=Lc.e:=Nat.le_trans (Nat.mul_le_mul_right _ c1) (by rw[Nat.zero_add]at c2;exact c2)
 have hsome:∀ j,j < (i+m+d+q)*sz->(C.w0.cell? ⟨Lc.b,Lc.o+j,none⟩).isSome=true:=λ j hj=>(b3 j (by omega)).1
 have hfz:∀ j,j < (i+m+d+q)*sz->C.w0.frozen? ⟨Lc.b,Lc.o+j,none⟩=false:=λ j hj=>(b3 j (by omega)).2.1
 have hol:olds.length=(i+m+d+q)*sz:=by rw[o1,hcl]
 have hdl:(olds.drop ((i+m+d)*sz)).length=q*sz:=by rw[List.length_drop,hol];omega
 have htl:(olds.take (i*sz)).length=i*sz:=by rw[List.length_take,hol];omega
 have hclt:(cs.take (i*sz)).length=i*sz:=by rw[List.length_take,hcl];omega
 -- what comes out
 have har:∀ (j:Nat) (c:CV),(cs.take (i*sz)++vs++cs.drop ((i+m+d)*sz))[j]? = some c->∃ u:Value,(olds.take (i*sz)++vals++olds.drop ((i+m+d)*sz))[j]? = some u/\RV C.w0 C.Sh C.rho0 (hOf [.live ⟨sz,i+m+d+q,cs⟩, .live ⟨sz,m,vs⟩]) u c:=λ j c hc=>by
  by_cases hj:j < i*sz+m*sz
  ·rw[List.getElem?_append_left (by rw[List.length_append,hclt,hvl];exact hj)]at hc
   rw[List.getElem?_append_left (by rw[List.length_append,htl,hvals];exact hj)]
   by_cases hj2:j < i*sz
   ·rw[List.getElem?_append_left (by omega),List.getElem?_take,if_pos hj2]at hc
    rw[List.getElem?_append_left (by omega),List.getElem?_take,if_pos hj2]
    exact hor j c hc
   ·rw[List.getElem?_append_right (by omega),hclt]at hc
    rw[List.getElem?_append_right (by omega),htl]
    exact hvr _ c hc
  ·rw[List.getElem?_append_right (by rw[List.length_append,hclt,hvl];omega),List.length_append,hclt,hvl,List.getElem?_drop]at hc
   rw[List.getElem?_append_right (by rw[List.length_append,htl,hvals];omega),List.length_append,htl,hvals,List.getElem?_drop]
   exact hor _ c hc
 have fin:∀ (w1 w2:World) (zs:List Value),(∀ x,w1.cell? x=(C.w0.setCells Lc.b (Lc.o+i*sz) vals).cell? x)->(∀ x,w2.cell? x=(w1.setCells Lc.b (Lc.o+(i*sz+vals.length)) (olds.drop ((i+m+d)*sz))).cell? x) →
   (∀ x,w2.frozen? x=C.w0.frozen? x)->w2.os=C.w0.os->w2.tape=C.w0.tape->w2.output=C.w0.output->w2.heap.size=C.w0.heap.size->(∀ k,k≠Lc.b->w2.heap[k]? = C.w0.heap[k]?) →
   PostM C [.live ⟨sz,i+m+d+q,cs⟩, .live ⟨sz,m,vs⟩] [.dead, .dead, .live ⟨sz,i+m+q,cs.take (i*sz)++vs++cs.drop ((i+m+d)*sz)⟩] (one (.arr 2 0 (i+m+q))) (.slice (some ⟨Lc.b,Lc.o,none⟩) (i+m+q) cap) (w2.setCells Lc.b (Lc.o+(i+m+q)*sz) zs):=by
  intro w1 w2 zs h1 h2 h3 h4 h5 h6 h7 h8
  obtain ⟨a1,a2,a3,a4,a5⟩:=rest_setC Lc.b zs (Lc.o+(i+m+q)*sz) w2
  have R1:=R.redo 0 ⟨sz,i+m+d+q,cs⟩ Lc rfl hL0 2 rfl (i+m+q) (cs.take (i*sz)++vs++cs.drop ((i+m+d)*sz)) (by rw[List.length_append,List.length_append,hclt,hvl,List.length_drop,hcl];show _=(i+m+q)*sz;omega) (by rw[List.length_append,List.length_append,hclt,hvl,List.length_drop,hcl];omega) (w':=w2.setCells Lc.b (Lc.o+(i+m+q)*sz) zs)
   (λ k hk'=>by rw[a5 k hk',h8 k hk']) (by rw[a4,h7]) (by rw[a1,h4]) (by rw[a2,h5]) (by rw[a3,h6])
   (λ x hx=>setC_some _ _ _ _ _ (by rw[h2];exact setC_some _ _ _ _ _ (by rw[h1];exact setC_some _ _ _ _ _ hx))) (λ x=>by rw[World.frozen?_setCells,h3])
   (λ j c hc=>by
    obtain ⟨u,e1,e2⟩:=har j c hc
    refine ⟨u,?_,e2⟩
    have:=laid3 (w:=C.w0) (w1:=w1) (w2:=w2) (b:=Lc.b) (o:=Lc.o) (p:=i*sz) (olds:=olds) (vals:=vals) (tl:=olds.drop ((i+m+d)*sz)) (zs:=zs) (by rw[hol];omega) hov (λ j hj=>hsome j (by rw[hvals,hdl]at hj;omega)) h1 h2 j u e1
    rw[hvals,hdl,<-n4]at this
    exact this)
  have R2:=R1.kill 1 (by simp[upd,hOf])
  refine PostM.of R2 ?_ ?_ (by rw[hk])
  ·funext j
   match j with
   | 0=>rfl
   | 1=>rfl
   | 2=>rfl
   | j+3=>rfl
  ·refine RSV.of_one ?_
   show RV _ _ _ (upd (upd (upd _ 0 _) 2 _) 1 _) _ (.arr 2 0 (i+m+q))
   simp only[RV,upd_ne _ _ (show (2:Nat)≠1 by decide),upd_same]
   exact .inl ⟨cap,by simp,by omega,c2,by omega,by omega⟩
 -- what is copied
 have cpV:∀ (W:World),(∀ x,W.cell? x=C.w0.cell? x)->(∀ x,W.frozen? x=C.w0.frozen? x)->∀ ty dl dc,m<=dl->(Builtin.copy_ #[tS,tS] ty #[.slice (some ⟨Lc.b,Lc.o+i*sz,none⟩) dl dc, .slice A m vc]).run P W=.ok (goInt m) (W.setCells Lc.b (Lc.o+i*sz) vals):=by
  intro W hc hf' ty dl dc hdl'
  rcases hsrc with ⟨rfl,rfl⟩|⟨vb,vo,rfl,hvb,hvv⟩
  ·exact copy_none L.t L.z W ty _ _ _ _ _ _
  ·have:=copy_runG L.t L.z W ty Lc.b (Lc.o+i*sz) dl dc ⟨vb,vo,none⟩ m vc vals (by rw[hvals,Nat.min_eq_left hdl']) (λ j v hj=>by rw[Addr.add_lit,hc];exact hvv j v hj)
    (λ j hj=>by rw[hc,Nat.add_assoc];exact hsome _ (by omega)) (λ j hj=>by rw[hf',Nat.add_assoc];exact hfz _ (by omega)) hone
   rw[this];congr 2;omega
 have hfirst:(Builtin.firstCells sz m (.slice A m vc)).run P C.w0=.ok vals.toArray C.w0:=by
  rcases hsrc with ⟨rfl,rfl⟩|⟨vb,vo,rfl,hvb,hvv⟩
  ·cases A with
   | none=>exact run_firstCells_none C.w0 sz 0 0 vc
   | some a=>exact run_firstCells_some C.w0 sz 0 a 0 vc [] (by simp) (λ j v h=>by simp at h)
  ·exact run_firstCells_some C.w0 sz m ⟨vb,vo,none⟩ m vc vals hvals (λ j v hj=>by rw[Addr.add_lit];exact hvv j v hj)
 obtain ⟨s1,s2,s3,s4,s5⟩:=rest_setC Lc.b vals (Lc.o+i*sz) C.w0
 by_cases hq:q=0
 ·subst hq
  have happ:(Builtin.append_ #[tS,tS] tS #[.slice (some ⟨Lc.b,Lc.o,none⟩) i cap, .slice A m vc]).run P C.w0=.ok (.slice (some ⟨Lc.b,Lc.o,none⟩) (i+m) cap) (C.w0.setCells Lc.b (Lc.o+i*sz) vals):=by
   obtain ⟨ti,t1,t2,t3,t4⟩:=L.i
   have:=run_append_fits (P:=P) (ty:=tS) L.t L.t (λ k h=>nomatch h) t1 (b:=Lc.b) (o:=Lc.o) (n:=i) (cap:=cap) (m:=m) (x:=.slice A m vc) (news:=vals) C.w0 (λ w'=>rfl) (by rw[t3];exact hfirst) (by omega)
    (by rw[t3];have:=run_storeCells_cells (P:=P) Lc.b (Lc.o+i*sz) vals 0 C.w0 (λ j hj=>by rw[Nat.add_zero,Nat.add_assoc];exact hsome _ (by omega)) (λ j hj=>by rw[Nat.add_zero,Nat.add_assoc];exact hfz _ (by omega)) hone;simpa using this)
   rw[t3]at this
   exact this
  have hclr:=clear_run L hzl hz1 (C.w0.setCells Lc.b (Lc.o+i*sz) vals) 0 Lc.b (Lc.o+(i+m)*sz) d (cap-(i+m)) hd (λ j hj=>setC_some _ _ _ _ _ (by rw[Nat.add_assoc];exact hsome _ (by omega))) (λ j hj=>by rw[World.frozen?_setCells,Nat.add_assoc];exact hfz _ (by omega))
  refine (L.fin Lc.b Lc.o i m d cap vc A C.w0 _ _ hd (by omega) (by omega) happ hclr).mono ?_
  rintro e' w' ⟨rfl,rfl⟩
  refine ⟨_,rfl,?_⟩
  have hnil:olds.drop ((i+m+d)*sz)=[]:=List.drop_eq_nil_of_le (by rw[hol];exact Nat.le_refl _)
  exact fin _ (C.w0.setCells Lc.b (Lc.o+i*sz) vals) _ (λ x=>rfl) (λ x=>by rw[hnil];rfl) (λ x=>World.frozen?_setCells ..) s1 s2 s3 s4 s5
 ·have hq0:0 < q:=by omega
  have hW1:=cpV C.w0.drew (λ x=>rfl) (λ x=>rfl)
  obtain ⟨d1,d2,d3,d4,d5⟩:=rest_setC Lc.b vals (Lc.o+i*sz) C.w0.drew
  have hcp2:∀ ty dl dc sl sc,dl=q->sl=q->(Builtin.copy_ #[tS,tS] ty #[.slice (some ⟨Lc.b,Lc.o+(i+m)*sz,none⟩) dl dc, .slice (some ⟨Lc.b,Lc.o+(i+m+d)*sz,none⟩) sl sc]).run P (C.w0.drew.setCells Lc.b (Lc.o+i*sz) vals).drew=.ok (goInt q) ((C.w0.drew.setCells Lc.b (Lc.o+i*sz) vals).drew.setCells Lc.b (Lc.o+(i+m)*sz) (olds.drop ((i+m+d)*sz))):=by
   rintro ty dl dc sl sc rfl rfl
   have:=copy_runG L.t L.z (C.w0.drew.setCells Lc.b (Lc.o+i*sz) vals).drew ty Lc.b (Lc.o+(i+m)*sz) sl dc ⟨Lc.b,Lc.o+(i+m+d)*sz,none⟩ sl sc (olds.drop ((i+m+d)*sz)) (by rw[hdl,Nat.min_self])
    (λ j v hj=>by
     rw[Addr.add_lit]
     show (C.w0.drew.setCells Lc.b (Lc.o+i*sz) vals).cell? _=_
     rw[World.cell?_setCells_out Lc.b vals _ _ _ (λ _ _=>.inr (by show Lc.o+i*sz+vals.length<=Lc.o+(i+m+d)*sz+j;omega))]
     rw[List.getElem?_drop]at hj
     have:=hov _ v hj
     rw[<-Nat.add_assoc]at this
     exact this)
    (λ j hj=>by
     show ((C.w0.drew.setCells Lc.b (Lc.o+i*sz) vals).cell? _).isSome=true
     refine setC_some _ _ _ _ _ ?_
     rw[Nat.add_assoc]
     exact hsome _ (by omega))
    (λ j hj=>by
     show (C.w0.drew.setCells Lc.b (Lc.o+i*sz) vals).frozen? _=false
     rw[World.frozen?_setCells,Nat.add_assoc];exact hfz _ (by omega)) (λ v hv=>hone0 v (List.mem_of_mem_drop hv))
   rw[this];congr 2;omega
  obtain ⟨f1,f2,f3,f4,f5⟩:=rest_setC Lc.b (olds.drop ((i+m+d)*sz)) (Lc.o+(i+m)*sz) (C.w0.drew.setCells Lc.b (Lc.o+i*sz) vals).drew
  have hclr:∀ dl dc,dl=d->_:=λ dl dc (h:dl=d)=>clear_run L hzl hz1 ((C.w0.drew.setCells Lc.b (Lc.o+i*sz) vals).drew.setCells Lc.b (Lc.o+(i+m)*sz) (olds.drop ((i+m+d)*sz))) 0 Lc.b (Lc.o+(i+m+q)*sz) d dc hd
   (λ j hj=>setC_some _ _ _ _ _ (by show ((C.w0.drew.setCells Lc.b (Lc.o+i*sz) vals).cell? _).isSome=true;refine setC_some _ _ _ _ _ ?_;rw[Nat.add_assoc];exact hsome _ (by omega)))
   (λ j hj=>by rw[World.frozen?_setCells];show (C.w0.drew.setCells Lc.b (Lc.o+i*sz) vals).frozen? _=false;rw[World.frozen?_setCells,Nat.add_assoc];exact hfz _ (by omega))
  refine (L.mid Lc.b Lc.o i m d q cap vc A C.w0 _ _ _ hd hq0 (by omega) hn (λ dl dc h=>hW1 3 dl dc (by omega)) (λ dl dc sl sc h1 h2=>hcp2 3 dl dc sl sc h1 h2) (λ dl dc h=>by subst h;exact hclr dl dc rfl)).mono ?_
  rintro e' w' ⟨rfl,rfl⟩
  refine ⟨_,rfl,?_⟩
  exact fin (C.w0.drew.setCells Lc.b (Lc.o+i*sz) vals).drew _ _ (λ x=>by rw[<-drew_setCells];rfl) (λ x=>by rw[hvals,<-n3]) (λ x=>by rw[World.frozen?_setCells];exact World.frozen?_setCells ..) (f1.trans d1) (f2.trans d2) (f3.trans d3) (f4.trans d4) (λ k hk'=>(f5 k hk').trans (d5 k hk'))
end Go.Fm
namespace Go.Fm
open Go.Proofs Go.Shelf Go.RowKit Go.Lib
variable [Globs] [Structs] [Tabs]
theorem insInfo {P:Program} {e:TypeId} {z:Value} {size bytes:Nat} (h:(P.info? e).map (λ i=>(i.zero,i.size,i.bytes))=some (some z,size,bytes)):∃ i,P.info? e=some i/\i.zero=some z/\i.size=size/\i.bytes=bytes:=info_parts h
end Go.Fm
namespace Go.Fm
open Go.Proofs Go.Shelf Go.RowKit Go.Lib
variable [Globs] [Structs] [Tabs]
abbrev repP (t:Ty):Shp:=⟨[(0, .s (.list t) [(0,0)]),(1, .s (.int .i64) []),(2, .s (.int .i64) []),(3, .s (.list t) [(0,1)])],[.o, .o]⟩
abbrev repR (t:Ty):Shp:=⟨[(0, .s (.list t) [(0,2)])],[.d, .d, .o]⟩
def gRep {α:Type} (s:List α) (i j:Int) (v:List α):Option (List α) :=
 cond (decide (0<=i)&&(decide (i+(v.length:Int) < j)&&(decide (j<=(s.length:Int))&&decide (s.length<=4294967296)))) (some (s.take i.toNat++v++s.drop j.toNat)) none
theorem repT {t:Ty} (hlen:∀ xs:List t.den,(xs.flatMap t.enc).length=xs.length*t.size) (s:List t.den) (n:Nat) (h:n<=s.length):(s.flatMap t.enc).take (n*t.size)=(s.take n).flatMap t.enc:=by
 have e:s.flatMap t.enc=(s.take n).flatMap t.enc++(s.drop n).flatMap t.enc:=by rw[<-List.flatMap_append,List.take_append_drop]
 rw[e,List.take_left' (by rw[hlen,List.length_take,Nat.min_eq_left h])]
theorem repD {t:Ty} (hlen:∀ xs:List t.den,(xs.flatMap t.enc).length=xs.length*t.size) (s:List t.den) (n:Nat) (h:n<=s.length):(s.flatMap t.enc).drop (n*t.size)=(s.drop n).flatMap t.enc:=by
 have e:s.flatMap t.enc=(s.take n).flatMap t.enc++(s.drop n).flatMap t.enc:=by rw[<-List.flatMap_append,List.take_append_drop]
 rw[e,List.drop_left' (by rw[hlen,List.length_take,Nat.min_eq_left h])]
theorem rep_ans {P:Program} {f:FuncId} {fn:Func} {tS e:TypeId} {by_:Nat} {zv:Value} {t:Ty} (L:RepL P f fn tS e t.size by_ zv) (hzl:zv.cells.size=t.size) (hz1:zv.cells.toList.all (·.oneCell')=true)
  (hlen:∀ xs:List t.den,(xs.flatMap t.enc).length=xs.length*t.size)
  (a:List t.den×Int×Int×List t.den) (r:List t.den) (hG:Good ⟨[],[],0,[]⟩ ((repP t).mkS a)) (hg:gRep a.1 a.2.1 a.2.2.1 a.2.2.2=some r) :
  Ans P f (pvsE ((repP t).mkS a).env) (heapC [] 0 ((repP t).mkS a).heap) λ v h=>v=svOf (pvsE ((repR t).mkS r).env)/\h=heapC (lvl0 [] ((repP t).mkS a)).fb 0 ((repR t).mkS r).heap/\Good (lvl0 [] ((repP t).mkS a)) ((repR t).mkS r):=by
 obtain ⟨s,i,j,v⟩:=a
 unfold gRep at hg
 cases hc:(decide (0<=i)&&(decide (i+(v.length:Int) < j)&&(decide (j<=(s.length:Int))&&decide (s.length<=4294967296)))) with
 | false=>simp only[hc]at hg;cases hg
 | true =>
  simp only[hc,cond_true]at hg
  cases hg
  simp only[Bool.and_eq_true,decide_eq_true_eq]at hc
  obtain ⟨c1,c2,c3,c4⟩:=hc
  obtain ⟨i,rfl⟩:∃ n:Nat,i=n:=⟨i.toNat,by omega⟩
  obtain ⟨d,rfl⟩:∃ d:Nat,j=(i:Int)+(v.length:Int)+d:=⟨(j-i-v.length).toNat,by omega⟩
  obtain ⟨q,hs⟩:∃ q,s.length=i+v.length+d+q:=⟨s.length-(i+v.length+d),by omega⟩
  have h:=ext_rep L hzl (List.all_eq_true.1 hz1) (cs:=s.flatMap t.enc) (vs:=v.flatMap t.enc) (i:=i) (m:=v.length) (d:=d) (q:=q) (by omega) (by omega) (by rw[hlen,hs]) (hlen v)
  rw[<-hs,repT hlen s i (by omega),repD hlen s (i+v.length+d) (by omega),<-List.flatMap_append,<-List.flatMap_append]at h
  have hr:i+v.length+q=(s.take ((i:Nat):Int).toNat++v++s.drop ((i:Int)+(v.length:Int)+d).toNat).length:=by
   rw[List.length_append,List.length_append,List.length_take,List.length_drop,hs];omega
  have hl2:s.take i++v++s.drop (i+v.length+d)=s.take ((i:Nat):Int).toNat++v++s.drop ((i:Int)+(v.length:Int)+d).toNat:=by
   rw[Int.toNat_natCast,show ((i:Int)+(v.length:Int)+d).toNat=i+v.length+d by omega]
  rw[hl2,hr]at h
  generalize (s.take ((i:Nat):Int).toNat++v++s.drop ((i:Int)+(v.length:Int)+d).toNat)=R at h
  show Ans P f [PV.one (.arr 0 0 s.length),PV.one (.int .i64 i),PV.one (.int .i64 ((i:Int)+(v.length:Int)+d)),PV.one (.arr 1 0 v.length)] [HS.live ⟨t.size,s.length,s.flatMap t.enc⟩,HS.live ⟨t.size,v.length,v.flatMap t.enc⟩] _
  refine h.mono λ u h1 ⟨g1,g2⟩=>⟨?_,?_,?_⟩
  ·rw[g1];rfl
  ·rw[g2];rfl
  ·refine ⟨show 2<=3 by decide,λ i hi=>(by cases hi),λ k => ?_,λ j => ?_,λ j t' n xs hj hb => ?_,λ j t' n xs o hj hb => ?_⟩
   ·by_cases hk:k=0
    ·subst hk
     show goodC _ (.arr 2 R.length)
     refine ⟨λ h=>(by cases h),λ t' n' xs h => ?_,λ t' css h=>(by cases h),λ t' n' xs o h=>(by cases h)⟩
     have h':(TB.rows t R.length R)=TB.rows t' n' xs:=h
     injection h' with h1 h2 h3
     exact h2.symm
    ·have:TS.lk (lvl0 [] ((repP t).mkS (s,((i:Nat):Int),((i:Nat):Int)+((v.length:Nat):Int)+((d:Nat):Int),v))) ((repR t).mkS R) k=.pv (.one .dead):=by
      show lkE ([(0,TV.pv (.one (.arr 2 R.length)))]++[]) k=_
      rw[List.append_nil]
      unfold lkE
      rw[beq_ne (λ e=>hk e.symm)]
      rfl
     have key:∀ (h:Nat->TB) (v:TV),v=.pv (.one .dead)->goodV h v:=λ h v e=>by subst e;trivial
     exact key _ _ this
   ·match j with
    | 0=>trivial
    | 1=>trivial
    | 2=>exact rfl
    | j+3 =>
     show goodB _ (blkL [] 3 [] j)
     rw[blkL_nil];trivial
   ·match j,hj,hb with
    | 0,_,hb=>cases hb
    | 1,_,hb=>cases hb
   ·match j,hj,hb with
    | 0,_,hb=>cases hb
    | 1,_,hb=>cases hb
theorem rep_ok {P:Program} {f:FuncId} {fn:Func} {tS e:TypeId} {by_:Nat} {zv:Value} {t:Ty} (L:RepL P f fn tS e t.size by_ zv) (hzl:zv.cells.size=t.size) (hz1:zv.cells.toList.all (·.oneCell')=true)
  (hlen:∀ xs:List t.den,(xs.flatMap t.enc).length=xs.length*t.size) :
  ConOk P ⟨f,repP t,repR t,false,[],λ a=>gRep a.1 a.2.1 a.2.2.1 a.2.2.2⟩:=λ a r hG hg=>rep_ans L hzl hz1 hlen a r hG hg
end Go.Fm
