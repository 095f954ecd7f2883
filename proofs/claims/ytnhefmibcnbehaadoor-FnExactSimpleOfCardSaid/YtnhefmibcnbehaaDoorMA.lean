import Derived.Calls
import Derived.Tactics
import Derived.Below
import Derived.Orders
import Derived.Laws.IdiomCopy
import Derived.Laws.Cells
import Derived.Laws.Entries
import Derived.ChangeKeysEq
import Derived.Lib.Strings
import Derived.IntWalk
import Derived.Laws.MakeOwn
set_option linter.all false
namespace Go.Fm
inductive CV where
 | int (k:IntKind) (n:Int)
 | bool (b:Bool)
 | str (s:List UInt8)
 | imm (sz n:Nat) (cs:List CV)
 | ip (cs:List CV)
 | arr (id lo n:Nat)
 | emp
 | ptr (id off:Nat)
 | fn (f:FuncId) (caps:List CV)
 | opq
 | nilp
 | nili
 | ifc (t:TypeId) (n:Int)
 | anyb (n:Nat)
 | own (sz n:Nat) (cs:List CV)
 | dead
inductive PV where
 | one (c:CV)
 | agg (cs:List CV)
inductive SV where
 | pv (p:PV)
 | tup (ps:List PV)
structure Blk where
 sz:Nat
 n:Nat
 cs:List CV
inductive HS where
 | no
 | dead
 | live (b:Blk)
 | deep (b:Blk)
structure St where
 env:Nat->SV
 heap:Nat->HS
structure Loc where
 b:Nat
 o:Nat
 e:Nat
abbrev Rho:=Nat->Option Loc
abbrev one (c:CV):SV:=.pv (.one c)
class Globs where
 tab:Nat->Option (List CV)
variable [Globs]
inductive RI (w:World) (Sh:Nat->Prop):Value->CV->Prop where
 | int (k:IntKind) (n:Int):RI w Sh (.int k n) (.int k n)
 | bool (b:Bool):RI w Sh (.bool b) (.bool b)
 | str (s:ByteArray):RI w Sh (.string s) (.str s.data.toList)
 | imm0 (a:Option Addr) (cap sz:Nat):RI w Sh (.slice a 0 cap) (.imm sz 0 [])
 | imm (b off n cap sz:Nat) (cs:List CV) (vals:Nat->Value) (hs:Sh b) (hnc:n<=cap) (hl:cs.length=n*sz)
   (hc:∀ j,j < cs.length->w.cell? ⟨b,off+j,none⟩=some (vals j)) (hr:∀ j c,cs[j]? = some c->RI w Sh (vals j) c) :
   RI w Sh (.slice (some ⟨b,off,none⟩) n cap) (.imm sz n cs)
 | ip (b off:Nat) (cs:List CV) (vals:Nat->Value) (hs:Sh b)
   (hc:∀ j,j < cs.length->w.cell? ⟨b,off+j,none⟩=some (vals j)) (hr:∀ j c,cs[j]? = some c->RI w Sh (vals j) c) :
   RI w Sh (.pointer (some ⟨b,off,none⟩)) (.ip cs)
 | emp (a:Option Addr):RI w Sh (.slice a 0 0) .emp
 | opq (t:TypeId) (v:Value):RI w Sh (.iface t v) .opq
 | nilp:RI w Sh (.pointer none) .nilp
 | nili:RI w Sh .nilIface .nili
 | ifc (t:TypeId) (n:Int):RI w Sh (.iface t (.int .i64 n)) (.ifc t n)
 | anyb (b:Bool) (n:Nat) (h:b=true->n=0):RI w Sh (.bool b) (.anyb n)
theorem RI.one {w:World} {Sh:Nat->Prop} {v:Value} {c:CV} (h:RI w Sh v c):v.oneCell'=true:=by
 cases h<;>rfl
theorem RI.mono {w w':World} {Sh Sh':Nat->Prop} {v:Value} {c:CV} (h:RI w Sh v c) (hw:∀ k,Sh k->Sh' k/\w'.heap[k]? = w.heap[k]?):RI w' Sh' v c:=by
 induction h with
 | int k n=>exact .int k n
 | bool b=>exact .bool b
 | str s=>exact .str s
 | imm0 a cap sz=>exact .imm0 a cap sz
 | imm b off n cap sz cs vals hs hnc hl hc _ ih =>
  exact .imm b off n cap sz cs vals (hw b hs).1 hnc hl (λ j hj=>by rw[World.cell?_of_block (w:=w) (hw b hs).2];exact hc j hj) ih
 | ip b off cs vals hs hc _ ih =>
  exact .ip b off cs vals (hw b hs).1 (λ j hj=>by rw[World.cell?_of_block (w:=w) (hw b hs).2];exact hc j hj) ih
 | emp a=>exact .emp a
 | opq t v=>exact .opq t v
 | nilp=>exact .nilp
 | nili=>exact .nili
 | ifc t n=>exact .ifc t n
 | anyb b n h=>exact .anyb b n h
def TabAt (w:World) (Sh:Nat->Prop) (g:Nat) (cs:List CV):Prop :=
 RI w Sh (.pointer (some ⟨g,0,none⟩)) (.ip cs)/\Sh g/\∃ vs x y,w.heap[g]? = some (.cells vs x y)/\vs.size=cs.length
theorem TabAt.mono {w w':World} {Sh Sh':Nat->Prop} {g:Nat} {cs:List CV} (h:TabAt w Sh g cs) (hw:∀ k,Sh k->Sh' k/\w'.heap[k]? = w.heap[k]?):TabAt w' Sh' g cs:=by
 obtain ⟨h1,h2,vs,x,y,h3,h4⟩:=h
 exact ⟨h1.mono hw,(hw g h2).1,vs,x,y,(hw g h2).2.trans h3,h4⟩
def RArr:Option Loc->Nat->Nat->Value->Nat->Nat->Prop
 | none,_,_,v,_,n=>n=0/\∃ a,v=.slice a 0 0
 | some L,sz,bn,v,lo,n=>(∃ cap,v=.slice (some ⟨L.b,L.o+lo*sz,none⟩) n cap/\n<=cap/\(lo+cap)*sz<=L.e/\lo+n<=bn/\bn<=lo+cap)\/(n=0/\bn<=lo/\∃ a,v=.slice a 0 0)
theorem RArr.one {L:Option Loc} {sz bn lo n:Nat} {v:Value} (h:RArr L sz bn v lo n):v.oneCell'=true:=by
 cases L with
 | none=>obtain ⟨_,a,rfl⟩:=h;rfl
 | some L=>rcases h with ⟨c,rfl,_⟩|⟨_,_,a,rfl⟩<;>rfl
def RPtr (ρ:Rho) (h:Nat->HS) (v:Value) (id off:Nat):Prop :=
 match h id with
 | .no=>False
 | .dead=>v.oneCell'=true
 | .live _=>∃ L,ρ id=some L/\v=.pointer (some ⟨L.b,L.o+off,none⟩)
 | .deep _=>∃ L,ρ id=some L/\v=.pointer (some ⟨L.b,L.o+off,none⟩)
def CV.bare:CV->Bool
 | .int .. | .bool _ | .str _ | .opq | .nili | .ifc ..=>true
 | _=>false
def RV (w:World) (Sh:Nat->Prop) (ρ:Rho) (h:Nat->HS) (v:Value):CV->Prop
 | .arr id lo n=>match h id with
  | .no=>False
  | .dead=>v.oneCell'=true
  | .live blk=>RArr (ρ id) blk.sz blk.n v lo n
  | .deep blk=>RArr (ρ id) blk.sz blk.n v lo n
 | .ptr id off=>RPtr ρ h v id off
 | .fn f caps=>∃ vs:List Value,v=.func (.func f) #[] vs.toArray/\vs.length=caps.length ∧
   ∀ (i:Nat) (c:CV),caps[i]? = some c->∃ u:Value,vs[i]? = some u/\∃ id off,c=CV.ptr id off/\RPtr ρ h u id off
 | .dead=>v.oneCell'=true
 | c=>RI w Sh v c
theorem RPtr.one {ρ:Rho} {h:Nat->HS} {v:Value} {id off:Nat} (hr:RPtr ρ h v id off):v.oneCell'=true:=by
 unfold RPtr at hr
 split at hr
 ·exact hr.elim
 ·exact hr
 ·obtain ⟨L,_,rfl⟩:=hr;rfl
 ·obtain ⟨L,_,rfl⟩:=hr;rfl
theorem RV.one {w:World} {Sh:Nat->Prop} {ρ:Rho} {h:Nat->HS} {v:Value} {c:CV} (hr:RV w Sh ρ h v c):v.oneCell'=true:=by
 cases c<;>simp only[RV]at hr<;>try exact hr.one
 case arr id lo n =>
  split at hr
  ·exact hr.elim
  ·exact hr
  ·exact hr.one
  ·exact hr.one
 case fn f caps=>obtain ⟨vs,rfl,_⟩:=hr;rfl
 case dead=>exact hr
def HLe (s:HS) (l:Option Loc) (s':HS) (l':Option Loc):Prop :=
 match s,s' with
 | .no,_=>True
 | .dead, .dead=>True
 | .live _, .dead=>True
 | .deep _, .dead=>True
 | .live b, .live b'=>b'.sz=b.sz/\b'.n=b.n/\l'=l
 | .deep b, .deep b'=>b'.sz=b.sz/\b'.n=b.n/\l'=l
 | .live b, .deep b'=>b'.sz=b.sz/\b'.n=b.n/\l'=l
 | .deep b, .live b'=>b'.sz=b.sz/\b'.n=b.n/\l'=l
 | _,_=>False
theorem HLe.trans {s1 s2 s3:HS} {l:Option Loc} (h1:HLe s1 l s2 l) (h2:HLe s2 l s3 l):HLe s1 l s3 l:=by
 cases s1 with
 | no=>trivial
 | dead=>cases s2 with
  | dead=>exact h2
  | _=>exact h1.elim
 | live b=>cases s2 with
  | no=>exact h1.elim
  | dead=>cases s3 with
   | dead=>trivial
   | _=>exact h2.elim
  | live b2=>cases s3 with
   | no=>exact h2.elim
   | dead=>trivial
   | live b3=>exact ⟨h2.1.trans h1.1,h2.2.1.trans h1.2.1,rfl⟩
   | deep b3=>exact ⟨h2.1.trans h1.1,h2.2.1.trans h1.2.1,rfl⟩
  | deep b2=>cases s3 with
   | no=>exact h2.elim
   | dead=>trivial
   | live b3=>exact ⟨h2.1.trans h1.1,h2.2.1.trans h1.2.1,rfl⟩
   | deep b3=>exact ⟨h2.1.trans h1.1,h2.2.1.trans h1.2.1,rfl⟩
 | deep b=>cases s2 with
  | no=>exact h1.elim
  | dead=>cases s3 with
   | dead=>trivial
   | _=>exact h2.elim
  | live b2=>cases s3 with
   | no=>exact h2.elim
   | dead=>trivial
   | live b3=>exact ⟨h2.1.trans h1.1,h2.2.1.trans h1.2.1,rfl⟩
   | deep b3=>exact ⟨h2.1.trans h1.1,h2.2.1.trans h1.2.1,rfl⟩
  | deep b2=>cases s3 with
   | no=>exact h2.elim
   | dead=>trivial
   | live b3=>exact ⟨h2.1.trans h1.1,h2.2.1.trans h1.2.1,rfl⟩
   | deep b3=>exact ⟨h2.1.trans h1.1,h2.2.1.trans h1.2.1,rfl⟩
theorem HLe.refl (s:HS) (l:Option Loc):HLe s l s l:=by cases s<;>simp[HLe]
theorem RPtr.mono {ρ ρ':Rho} {h h':Nat->HS} {v:Value} {id off:Nat} (hr:RPtr ρ h v id off) (hh:∀ id,HLe (h id) (ρ id) (h' id) (ρ' id)):RPtr ρ' h' v id off:=by
 have h1:=hr.one
 have h2:=hh id
 unfold RPtr at hr ⊢
 cases hs:h id with
 | no=>rw[hs]at hr;exact hr.elim
 | dead =>
  rw[hs]at h2
  cases hs':h' id with
  | no=>rw[hs']at h2;exact h2.elim
  | dead=>exact h1
  | live b=>rw[hs']at h2;exact h2.elim
  | deep b=>rw[hs']at h2;exact h2.elim
 | live b =>
  rw[hs]at h2 hr
  cases hs':h' id with
  | no=>rw[hs']at h2;exact h2.elim
  | dead=>exact h1
  | live b'=>rw[hs']at h2;obtain ⟨L,hL,hv⟩:=hr;exact ⟨L,by rw[h2.2.2];exact hL,hv⟩
  | deep b'=>rw[hs']at h2;obtain ⟨L,hL,hv⟩:=hr;exact ⟨L,by rw[h2.2.2];exact hL,hv⟩
 | deep b =>
  rw[hs]at h2 hr
  cases hs':h' id with
  | no=>rw[hs']at h2;exact h2.elim
  | dead=>exact h1
  | live b'=>rw[hs']at h2;obtain ⟨L,hL,hv⟩:=hr;exact ⟨L,by rw[h2.2.2];exact hL,hv⟩
  | deep b'=>rw[hs']at h2;obtain ⟨L,hL,hv⟩:=hr;exact ⟨L,by rw[h2.2.2];exact hL,hv⟩
theorem RV.mono {w w':World} {Sh:Nat->Prop} {ρ ρ':Rho} {h h':Nat->HS} {v:Value} {c:CV} (hr:RV w Sh ρ h v c)
  (hw:∀ k,Sh k->w'.heap[k]? = w.heap[k]?) (hh:∀ id,HLe (h id) (ρ id) (h' id) (ρ' id)):RV w' Sh ρ' h' v c:=by
 have h1:=hr.one
 cases c<;>simp only[RV]at hr ⊢<;>try exact hr.mono (λ k hk=>⟨hk,hw k hk⟩)
 case arr id lo n =>
  have h2:=hh id
  cases hs:h id with
  | no=>rw[hs]at hr;exact hr.elim
  | dead =>
   rw[hs]at h2
   cases hs':h' id with
   | no=>rw[hs']at h2;exact h2.elim
   | dead=>exact h1
   | live b=>rw[hs']at h2;exact h2.elim
   | deep b=>rw[hs']at h2;exact h2.elim
  | live b =>
   rw[hs]at h2 hr
   cases hs':h' id with
   | no=>rw[hs']at h2;exact h2.elim
   | dead=>exact h1
   | live b'=>rw[hs']at h2;simp only at hr ⊢;rw[h2.1,h2.2.1,h2.2.2];exact hr
   | deep b'=>rw[hs']at h2;simp only at hr ⊢;rw[h2.1,h2.2.1,h2.2.2];exact hr
  | deep b =>
   rw[hs]at h2 hr
   cases hs':h' id with
   | no=>rw[hs']at h2;exact h2.elim
   | dead=>exact h1
   | live b'=>rw[hs']at h2;simp only at hr ⊢;rw[h2.1,h2.2.1,h2.2.2];exact hr
   | deep b'=>rw[hs']at h2;simp only at hr ⊢;rw[h2.1,h2.2.1,h2.2.2];exact hr
 case ptr id off=>exact hr.mono hh
 case fn f caps =>
  obtain ⟨vs,hv,hl,hp⟩:=hr
  exact ⟨vs,hv,hl,λ i c hc=>by obtain ⟨u,hu,id,off,he,hq⟩:=hp i c hc;exact ⟨u,hu,id,off,he,hq.mono hh⟩⟩
 case dead=>exact h1
def RPV (w:World) (Sh:Nat->Prop) (ρ:Rho) (h:Nat->HS) (v:Value):PV->Prop
 | .one .dead=>True
 | .one c=>RV w Sh ρ h v c
 | .agg cs=>∃ vs:List Value,v=.agg vs.toArray/\vs.length=cs.length/\∀ (i:Nat) (c:CV),cs[i]? = some c->∃ u:Value,vs[i]? = some u/\RV w Sh ρ h u c
def RSV (w:World) (Sh:Nat->Prop) (ρ:Rho) (h:Nat->HS) (v:Value):SV->Prop
 | .pv p=>RPV w Sh ρ h v p
 | .tup ps=>∃ vs:List Value,v=.tuple vs.toArray/\vs.length=ps.length/\∀ (i:Nat) (p:PV),ps[i]? = some p->∃ u:Value,vs[i]? = some u/\RPV w Sh ρ h u p
theorem RPV.mono {w w':World} {Sh:Nat->Prop} {ρ ρ':Rho} {h h':Nat->HS} {v:Value} {p:PV} (hr:RPV w Sh ρ h v p)
  (hw:∀ k,Sh k->w'.heap[k]? = w.heap[k]?) (hh:∀ id,HLe (h id) (ρ id) (h' id) (ρ' id)):RPV w' Sh ρ' h' v p:=by
 cases p with
 | one c=>cases c<;>simp only[RPV]at hr ⊢<;>exact RV.mono hr hw hh
 | agg cs =>
  obtain ⟨vs,hv,hl,hp⟩:=hr
  exact ⟨vs,hv,hl,λ i c hc=>by obtain ⟨u,hu,hq⟩:=hp i c hc;exact ⟨u,hu,hq.mono hw hh⟩⟩
theorem RSV.mono {w w':World} {Sh:Nat->Prop} {ρ ρ':Rho} {h h':Nat->HS} {v:Value} {p:SV} (hr:RSV w Sh ρ h v p)
  (hw:∀ k,Sh k->w'.heap[k]? = w.heap[k]?) (hh:∀ id,HLe (h id) (ρ id) (h' id) (ρ' id)):RSV w' Sh ρ' h' v p:=by
 cases p with
 | pv p=>exact RPV.mono hr hw hh
 | tup ps =>
  obtain ⟨vs,hv,hl,hp⟩:=hr
  exact ⟨vs,hv,hl,λ i c hc=>by obtain ⟨u,hu,hq⟩:=hp i c hc;exact ⟨u,hu,hq.mono hw hh⟩⟩
theorem RPV.of_one {w:World} {Sh:Nat->Prop} {ρ:Rho} {h:Nat->HS} {v:Value} {c:CV} (hr:RV w Sh ρ h v c):RPV w Sh ρ h v (.one c):=by
 cases c<;>first|exact hr|trivial
theorem RSV.of_one {w:World} {Sh:Nat->Prop} {ρ:Rho} {h:Nat->HS} {v:Value} {c:CV} (hr:RV w Sh ρ h v c):RSV w Sh ρ h v (Fm.one c):=RPV.of_one hr
def RB (w:World) (Sh:Nat->Prop) (ρ:Rho) (h:Nat->HS) (id:Nat) (blk:Blk):Prop :=
 match ρ id with
 | none=>blk.cs=[]/\blk.n=0
 | some L=>blk.cs.length=blk.n*blk.sz/\blk.cs.length<=L.e ∧
   (∀ j,j < L.e->(w.cell? ⟨L.b,L.o+j,none⟩).isSome=true/\w.frozen? ⟨L.b,L.o+j,none⟩=false/\(blk.sz≠1->∀ k,w.frozen? ⟨L.b,k,none⟩=false)) ∧
   ∀ (j:Nat) (c:CV),blk.cs[j]? = some c->∃ u:Value,w.cell? ⟨L.b,L.o+j,none⟩=some u/\RV w Sh ρ h u c
structure Ctx [Globs] where
 P:Program
 w0:World
 Sh:Nat->Prop
 O:Nat->Prop
 rho0:Rho
 k0:Nat
 nt:Nat
 old:∀ k,Sh k->k < w0.heap.size/\¬ O k
 gl:∀ g cs,Globs.tab g=some cs->TabAt w0 Sh g cs
structure Fr (w0:World) (O:Nat->Prop) (w:World):Prop where
 os:w.os=w0.os
 tape:w.tape=w0.tape
 output:w.output=w0.output
 size:w0.heap.size<=w.heap.size
 keep:∀ k,k < w0.heap.size->¬ O k->w.heap[k]? = w0.heap[k]?
theorem Fr.refl (w0:World) (O:Nat->Prop):Fr w0 O w0:=⟨rfl,rfl,rfl,Nat.le_refl _,λ _ _ _=>rfl⟩
def DC (w:World) (Sh:Nat->Prop) (ρ:Rho) (h:Nat->HS) (d:Option Nat) (u:Value):CV->Prop
 | .own sz n cs=>(∀ c,c ∈ cs->CV.bare c=true)/\cs.length=n*sz/\((d=none/\n=0/\∃ a,u=.slice a 0 0)\/∃ k o cap,d=some k/\u=.slice (some ⟨k,o,none⟩) n cap/\n<=cap ∧
   (∀ j,j < cap*sz->(w.cell? ⟨k,o+j,none⟩).isSome=true/\w.frozen? ⟨k,o+j,none⟩=false/\(sz≠1->∀ i,w.frozen? ⟨k,i,none⟩=false)) ∧
   ∀ (j:Nat) (c:CV),cs[j]? = some c->∃ v:Value,w.cell? ⟨k,o+j,none⟩=some v/\RI w (λ _=>False) v c)
 | c=>d=none/\RV w Sh ρ h u c
def DeepAt (w:World) (Sh:Nat->Prop) (ρ:Rho) (h:Nat->HS) (id:Nat) (d:Nat->Option Nat) (blk:Blk):Prop :=
 match ρ id with
 | none=>blk.cs=[]/\blk.n=0/\∀ p,d p=none
 | some L=>blk.cs.length=blk.n*blk.sz/\blk.cs.length<=L.e/\(∀ p,blk.cs.length<=p->d p=none) ∧
   (∀ j,j < L.e->(w.cell? ⟨L.b,L.o+j,none⟩).isSome=true/\w.frozen? ⟨L.b,L.o+j,none⟩=false/\(blk.sz≠1->∀ k,w.frozen? ⟨L.b,k,none⟩=false)) ∧
   ∀ (j:Nat) (c:CV),blk.cs[j]? = some c->∃ u:Value,w.cell? ⟨L.b,L.o+j,none⟩=some u/\DC w Sh ρ h (d j) u c
def Occ (ρ:Rho) (D:Nat->Nat->Option Nat) (id k:Nat):Prop:=(∃ L,ρ id=some L/\k=L.b)\/∃ p,D id p=some k
structure DeepOk (w0:World) (Sh O:Nat->Prop) (ρ:Rho) (h:Nat->HS) (w:World) (D:Nat->Nat->Option Nat):Prop where
 at_:∀ id b,h id=.deep b->DeepAt w Sh ρ h id (D id) b
 own:∀ id b k,h id=.deep b->Occ ρ D id k->k < w.heap.size/\¬ Sh k/\(w0.heap.size<=k\/O k)
 apart:∀ id b id' b' L k,h id=.deep b->Occ ρ D id k->h id'=.live b'->ρ id'=some L->k≠L.b
 inj:∀ id id' b b' k,h id=.deep b->h id'=.deep b'->Occ ρ D id k->Occ ρ D id' k->id=id'
 one:∀ id b p p' k,h id=.deep b->D id p=some k->D id p'=some k->p=p'
 out:∀ id b p L,h id=.deep b->ρ id=some L->D id p≠some L.b
structure HeapRel (w0:World) (Sh O:Nat->Prop) (ρ:Rho) (h:Nat->HS) (w:World):Prop where
 blk:∀ id b,h id=.live b->RB w Sh ρ h id b
 own:∀ id b L,h id=.live b->ρ id=some L->L.b < w.heap.size/\¬ Sh L.b/\(w0.heap.size<=L.b\/O L.b)
 inj:∀ id id' b b' L L',h id=.live b->h id'=.live b'->ρ id=some L->ρ id'=some L'->L.b=L'.b->id=id'
 dp:∃ D,DeepOk w0 Sh O ρ h w D
theorem RV.incl0 {w:World} {Sh Sh':Nat->Prop} {ρ:Rho} {h:Nat->HS} (hs:∀ k,Sh k->Sh' k) {v:Value} {c:CV} (hv:RV w Sh ρ h v c):RV w Sh' ρ h v c:=by
 cases c<;>first|exact hv|exact RI.mono hv λ k hk=>⟨hs k hk,rfl⟩
theorem DC.mono {w w':World} {Sh Sh':Nat->Prop} {ρ ρ':Rho} {h h':Nat->HS} {d:Option Nat} {u:Value} {c:CV} (H:DC w Sh ρ h d u c) (hw:∀ k,d=some k->w'.heap[k]? = w.heap[k]?)
  (hs:∀ k,Sh k->Sh' k/\w'.heap[k]? = w.heap[k]?) (hh:∀ id,HLe (h id) (ρ id) (h' id) (ρ' id)):DC w' Sh' ρ' h' d u c:=by
 cases c with
 | own sz n cs =>
  obtain ⟨h1,h2,h3⟩:=H
  refine ⟨h1,h2,?_⟩
  rcases h3 with h3|⟨k,o,cap,e,h4,h5,h6,h7⟩
  ·exact .inl h3
  ·have hk:=hw k e
   refine .inr ⟨k,o,cap,e,h4,h5,λ j hj => ?_,λ j c hc => ?_⟩
   ·rw[World.cell?_of_block (w:=w) hk,World.frozen?_of_block (w:=w) hk]
    exact ⟨(h6 j hj).1,(h6 j hj).2.1,λ hz i=>by rw[World.frozen?_of_block (w:=w) hk];exact (h6 j hj).2.2 hz i⟩
   ·obtain ⟨v,hv,hr⟩:=h7 j c hc
    exact ⟨v,by rw[World.cell?_of_block (w:=w) hk];exact hv,hr.mono λ k hk=>hk.elim⟩
 | _=>exact ⟨H.1,(H.2.mono (λ k hk=>(hs k hk).2) hh).incl0 λ k hk=>(hs k hk).1⟩
theorem DeepOk.keep {w0 w0' w w':World} {Sh Sh' O O':Nat->Prop} {ρ ρ':Rho} {h h':Nat->HS} {D:Nat->Nat->Option Nat} (H:DeepOk w0 Sh O ρ h w D)
  (hd:∀ id b,h' id=.deep b->h id=.deep b/\ρ' id=ρ id) (hle:∀ id,HLe (h id) (ρ id) (h' id) (ρ' id))
  (hw:∀ id b k,h' id=.deep b->Occ ρ D id k->w'.heap[k]? = w.heap[k]?) (hsz:w.heap.size<=w'.heap.size)
  (hsS:∀ k,Sh k->Sh' k/\w'.heap[k]? = w.heap[k]?) (hsh:∀ id b k,h' id=.deep b->Occ ρ D id k->¬ Sh' k/\(w0'.heap.size<=k\/O' k))
  (hl:∀ id b' L,h' id=.live b'->ρ' id=some L->w.heap.size<=L.b\/∃ id2 b2 L2,h id2=.live b2/\ρ id2=some L2/\L2.b=L.b):DeepOk w0' Sh' O' ρ' h' w' D:=by
 have occ:∀ {id:Nat} {b:Blk} {k:Nat},h' id=.deep b->Occ ρ' D id k->Occ ρ D id k:=λ hb ho=>by
  rcases ho with ⟨L,hL,e⟩|ho
  ·rw[(hd _ _ hb).2]at hL;exact .inl ⟨L,hL,e⟩
  ·exact .inr ho
 refine ⟨λ id b hb => ?_,λ id b k hb ho => ?_,λ id b id' b' L k hb ho hl' hL => ?_,λ id id' b b' k hb hb' ho ho' => ?_,λ id b p p' k hb=>H.one id b p p' k (hd id b hb).1,λ id b p L hb hL => ?_⟩
 ·obtain ⟨h1,h2⟩:=hd id b hb
  have ha:=H.at_ id b h1
  unfold DeepAt at ha ⊢
  rw[h2]
  cases hL:ρ id with
  | none=>rw[hL]at ha;exact ha
  | some L =>
   rw[hL]at ha
   obtain ⟨q1,q2,q3,q4,q5⟩:=ha
   have hk:=hw id b L.b hb (.inl ⟨L,hL,rfl⟩)
   refine ⟨q1,q2,q3,λ j hj => ?_,λ j c hc => ?_⟩
   ·rw[World.cell?_of_block (w:=w) hk,World.frozen?_of_block (w:=w) hk]
    exact ⟨(q4 j hj).1,(q4 j hj).2.1,λ hz i=>by rw[World.frozen?_of_block (w:=w) hk];exact (q4 j hj).2.2 hz i⟩
   ·obtain ⟨u,hu,hc'⟩:=q5 j c hc
    exact ⟨u,by rw[World.cell?_of_block (w:=w) hk];exact hu,hc'.mono (λ k hk=>hw id b k hb (.inr ⟨j,hk⟩)) hsS hle⟩
 ·obtain ⟨p1,p2,p3⟩:=H.own id b k (hd id b hb).1 (occ hb ho)
  obtain ⟨q1,q2⟩:=hsh id b k hb (occ hb ho)
  exact ⟨Nat.lt_of_lt_of_le p1 hsz,q1,q2⟩
 ·have ho':=occ hb ho
  rcases hl id' b' L hl' hL with h1|⟨id2,b2,L2,h1,h2,h3⟩
  ·have:=(H.own id b k (hd id b hb).1 ho').1
   exact λ e=>by omega
  ·exact h3▸H.apart id b id2 b2 L2 k (hd id b hb).1 ho' h1 h2
 ·exact H.inj id id' b b' k (hd id b hb).1 (hd id' b' hb').1 (occ hb ho) (occ hb' ho')
 ·rw[(hd id b hb).2]at hL
  exact H.out id b p L (hd id b hb).1 hL
theorem DeepOk.none {w0 w:World} {Sh O:Nat->Prop} {ρ:Rho} {h:Nat->HS} (hn:∀ id b,h id≠.deep b):DeepOk w0 Sh O ρ h w λ _ _=>.none :=
 ⟨λ id b hb=>absurd hb (hn id b),λ id b k hb=>absurd hb (hn id b),λ id b _ _ _ k hb=>absurd hb (hn id b),λ id _ b _ k hb=>absurd hb (hn id b),λ id b _ _ k hb=>absurd hb (hn id b),λ id b _ _ hb=>absurd hb (hn id b)⟩
structure RelAt (C:Ctx) (ρ:Rho) (φ:St) (a:Act) (w:World):Prop where
 defers:a.defers=[]
 nt:a.tmps.size=C.nt
 env:∀ t,RSV w C.Sh ρ φ.heap (a.tmps.getD t undef) (φ.env t)
 hp:HeapRel C.w0 C.Sh C.O ρ φ.heap w
 init:∀ id,id < C.k0->φ.heap id≠.no/\ρ id=C.rho0 id
 fr:Fr C.w0 C.O w
def Rel (C:Ctx) (φ:St) (a:Act) (w:World):Prop:=∃ ρ,RelAt C ρ φ a w
def upd {α:Type} (f:Nat->α) (i:Nat) (v:α):Nat->α:=λ j=>if j=i then v else f j
theorem upd_same {α:Type} (f:Nat->α) (i:Nat) (v:α):upd f i v i=v:=by simp[upd]
theorem upd_ne {α:Type} (f:Nat->α) {i j:Nat} (v:α) (h:j≠i):upd f i v j=f j:=by simp[upd,h]
def St.put (φ:St) (d:Option Nat) (v:SV):St:=match d with|some d=>{ φ with env:=upd φ.env d v }|none=>φ
theorem RelAt.put {C:Ctx} {ρ:Rho} {φ:St} {a:Act} {w:World} (R:RelAt C ρ φ a w) {d:Option Nat} {v:Value} {sv:SV}
  (hd:∀ t,d=some t->t < C.nt) (hv:RSV w C.Sh ρ φ.heap v sv):RelAt C ρ (φ.put d sv) (a.put d v) w:=by
 cases d with
 | none=>exact R
 | some d =>
  refine ⟨R.defers,by simp[Act.put,R.nt],λ t => ?_,R.hp,R.init,R.fr⟩
  have hdn:d < a.tmps.size:=by rw[R.nt];exact hd d rfl
  by_cases h:t=d
  ·subst h
   simp only[Act.put,St.put,upd_same,Array.getD_eq_getD_getElem?,Array.getElem?_setIfInBounds_self_of_lt hdn,Option.getD_some]
   exact hv
  ·simp only[Act.put,St.put,upd_ne _ _ h,Array.getD_eq_getD_getElem?,Array.getElem?_setIfInBounds_ne (Ne.symm h)]
   rw[<-Array.getD_eq_getD_getElem?]
   exact R.env t
theorem RelAt.turn {C:Ctx} {ρ ρ':Rho} {φ:St} {h':Nat->HS} {a:Act} {w w':World} (R:RelAt C ρ φ a w)
  (hsh:∀ k,C.Sh k->w'.heap[k]? = w.heap[k]?) (hle:∀ id,HLe (φ.heap id) (ρ id) (h' id) (ρ' id))
  (hp:HeapRel C.w0 C.Sh C.O ρ' h' w') (hinit:∀ id,id < C.k0->ρ' id=ρ id) (hfr:Fr C.w0 C.O w'):RelAt C ρ' { φ with heap:=h' } a w':=by
 refine ⟨R.defers,R.nt,λ t=>(R.env t).mono hsh hle,hp,λ id hid=>⟨?_,?_⟩,hfr⟩
 ·have h1:=(R.init id hid).1
  have h2:=hle id
  intro h3
  have h3':h' id=.no:=h3
  rw[h3']at h2
  cases h4:φ.heap id with
  | no=>exact h1 h4
  | dead=>rw[h4]at h2;exact h2
  | live b=>rw[h4]at h2;exact h2
  | deep b=>rw[h4]at h2;exact h2
 ·rw[hinit id hid];exact (R.init id hid).2
end Go.Fm
namespace Go.Fm
variable [Globs]
theorem RelAt.sh_lt {C:Ctx} {ρ:Rho} {φ:St} {a:Act} {w:World} (R:RelAt C ρ φ a w) {k:Nat} (h:C.Sh k):k < w.heap.size :=
 Nat.lt_of_lt_of_le (C.old k h).1 R.fr.size
theorem RelAt.at {C:Ctx} {ρ ρ':Rho} {φ:St} {h':Nat->HS} {a:Act} {w w':World} (R:RelAt C ρ φ a w) (B tid:Nat)
  (hB:¬ C.Sh B/\(C.w0.heap.size<=B\/C.O B)/\B < w'.heap.size)
  (hw:∀ k,k < w.heap.size->k≠B->w'.heap[k]? = w.heap[k]?) (hsz:w.heap.size<=w'.heap.size)
  (hos:w'.os=w.os) (htp:w'.tape=w.tape) (hout:w'.output=w.output)
  (hle:∀ id,HLe (φ.heap id) (ρ id) (h' id) (ρ' id)) (hinit:∀ id,id < C.k0->ρ' id=ρ id)
  (hoth:∀ id b,h' id=.live b->id≠tid->φ.heap id=.live b/\ρ' id=ρ id/\∀ L,ρ id=some L->L.b≠B)
  (htid:∀ b,h' tid=.live b->(∃ L,ρ' tid=some L/\L.b=B)/\RB w' C.Sh ρ' h' tid b)
  (hBd:w.heap.size<=B\/∃ id b L,φ.heap id=.live b/\ρ id=some L/\L.b=B) (hdeep:∀ id b,h' id=.deep b->φ.heap id=.deep b/\ρ' id=ρ id) :
  RelAt C ρ' { φ with heap:=h' } a w':=by
 have hsh:∀ k,C.Sh k->w'.heap[k]? = w.heap[k]? := λ k hk=>hw k (R.sh_lt hk) (λ e=>hB.1 (e▸hk))
 refine R.turn hsh hle ⟨?_,?_,?_,?_⟩ hinit ⟨hos.trans R.fr.os,htp.trans R.fr.tape,hout.trans R.fr.output,Nat.le_trans R.fr.size hsz,?_⟩
 ·intro id b hb
  by_cases e:id=tid
  ·subst e;exact (htid b hb).2
  ·obtain ⟨h1,h2,h3⟩:=hoth id b hb e
   have hrb:=R.hp.blk id b h1
   unfold RB at hrb ⊢
   rw[h2]
   cases hL:ρ id with
   | none=>rw[hL]at hrb;exact hrb
   | some L =>
    rw[hL]at hrb
    obtain ⟨q1,q2,q3,q4⟩:=hrb
    have hne:=h3 L hL
    have hlt:=(R.hp.own id b L h1 hL).1
    have hc:∀ j,w'.cell? ⟨L.b,L.o+j,none⟩=w.cell? ⟨L.b,L.o+j,none⟩:=λ j=>World.cell?_of_block (w:=w) (hw L.b hlt hne)
    have hf:∀ j,w'.frozen? ⟨L.b,j,none⟩=w.frozen? ⟨L.b,j,none⟩:=λ j=>World.frozen?_of_block (w:=w) (hw L.b hlt hne)
    refine ⟨q1,q2,λ j hj => ?_,λ j c hc' => ?_⟩
    ·rw[hc j,hf];exact ⟨(q3 j hj).1,(q3 j hj).2.1,λ hz k=>by rw[hf];exact (q3 j hj).2.2 hz k⟩
    ·obtain ⟨u,hu,hr⟩:=q4 j c hc'
     exact ⟨u,by rw[hc j];exact hu,hr.mono hsh hle⟩
 ·intro id b L hb hL
  by_cases e:id=tid
  ·subst e
   obtain ⟨⟨L',hL',hLb⟩,_⟩:=htid b hb
   rw[hL]at hL'
   cases hL'
   rw[hLb]
   exact ⟨hB.2.2,hB.1,hB.2.1⟩
  ·obtain ⟨h1,h2,h3⟩:=hoth id b hb e
   rw[h2]at hL
   obtain ⟨p1,p2,p3⟩:=R.hp.own id b L h1 hL
   exact ⟨Nat.lt_of_lt_of_le p1 hsz,p2,p3⟩
 ·intro id id' b b' L L' hb hb' hL hL' he
  by_cases e:id=tid
  ·by_cases e':id'=tid
   ·rw[e,e']
   ·subst e
    obtain ⟨⟨L1,hL1,hLb⟩,_⟩:=htid b hb
    rw[hL]at hL1;cases hL1
    obtain ⟨h1,h2,h3⟩:=hoth id' b' hb' e'
    rw[h2]at hL'
    exact absurd (he.symm.trans hLb) (h3 L' hL')
  ·obtain ⟨h1,h2,h3⟩:=hoth id b hb e
   rw[h2]at hL
   by_cases e':id'=tid
   ·subst e'
    obtain ⟨⟨L1,hL1,hLb⟩,_⟩:=htid b' hb'
    rw[hL']at hL1;cases hL1
    exact absurd (he.trans hLb) (h3 L hL)
   ·obtain ⟨h1',h2',h3'⟩:=hoth id' b' hb' e'
    rw[h2']at hL'
    exact R.hp.inj id id' b b' L L' h1 h1' hL hL' he
 ·obtain ⟨D,H⟩:=R.hp.dp
  have hne:∀ id b k,h' id=.deep b->Occ ρ D id k->k≠B:=λ id b k hb ho e=>by
   obtain ⟨h1,_⟩:=hdeep id b hb
   rcases hBd with h|⟨i2,b2,L2,h2,h3,h4⟩
   ·have:=(H.own id b k h1 ho).1;omega
   ·exact H.apart id b i2 b2 L2 k h1 ho h2 h3 (e.trans h4.symm)
  refine ⟨D,H.keep hdeep hle (λ id b k hb ho=>hw k (H.own id b k (hdeep id b hb).1 ho).1 (hne id b k hb ho)) hsz (λ k hk=>⟨hk,hsh k hk⟩) (λ id b k hb ho=>(H.own id b k (hdeep id b hb).1 ho).2) λ id b' L hb hL => ?_⟩
  by_cases e:id=tid
  ·subst e
   obtain ⟨⟨L1,hL1,hLb⟩,_⟩:=htid b' hb
   rw[hL]at hL1;cases hL1
   rw[hLb]
   exact hBd
  ·obtain ⟨h1,h2,_⟩:=hoth id b' hb e
   rw[h2]at hL
   exact .inr ⟨id,b',L,h1,hL,rfl⟩
 ·intro k hk hO
  by_cases e:k=B
  ·subst e;rcases hB.2.1 with h|h
   ·omega
   ·exact absurd h hO
  ·rw[hw k (Nat.lt_of_lt_of_le hk R.fr.size) e];exact R.fr.keep k hk hO
theorem RelAt.k0_le {C:Ctx} {ρ:Rho} {φ:St} {a:Act} {w:World} (R:RelAt C ρ φ a w) {nid:Nat} (h:φ.heap nid=.no):¬ nid < C.k0 :=
 λ hlt=>(R.init nid hlt).1 h
theorem hle_upd_no {h:Nat->HS} {ρ:Rho} {nid:Nat} (hno:h nid=.no) (s:HS) (l:Option Loc):∀ id,HLe (h id) (ρ id) (upd h nid s id) (upd ρ nid l id):=by
 intro id
 by_cases e:id=nid
 ·subst e;rw[hno];trivial
 ·rw[upd_ne _ _ e,upd_ne _ _ e];exact HLe.refl _ _
theorem RelAt.new {C:Ctx} {ρ:Rho} {φ:St} {a:Act} {w w':World} (R:RelAt C ρ φ a w) (nid:Nat) (hno:φ.heap nid=.no) (blk:Blk) (E:Nat)
  (hw:∀ k,k < w.heap.size->w'.heap[k]? = w.heap[k]?) (hsz:w.heap.size < w'.heap.size)
  (hos:w'.os=w.os) (htp:w'.tape=w.tape) (hout:w'.output=w.output)
  (hl:blk.cs.length=blk.n*blk.sz) (hE:blk.cs.length<=E)
  (hex:∀ j,j < E->(w'.cell? ⟨w.heap.size,j,none⟩).isSome=true/\w'.frozen? ⟨w.heap.size,j,none⟩=false/\(blk.sz≠1->∀ k,w'.frozen? ⟨w.heap.size,k,none⟩=false))
  (hcs:∀ j c,blk.cs[j]? = some c->∃ u,w'.cell? ⟨w.heap.size,j,none⟩=some u/\RV w C.Sh ρ φ.heap u c) :
  RelAt C (upd ρ nid (some ⟨w.heap.size,0,E⟩)) { φ with heap:=upd φ.heap nid (.live blk) } a w':=by
 have hk:=R.k0_le hno
 have hle:=hle_upd_no (ρ:=ρ) hno (.live blk) (some ⟨w.heap.size,0,E⟩)
 have hnsh:¬ C.Sh w.heap.size:=λ h=>Nat.lt_irrefl _ (R.sh_lt h)
 refine R.at w.heap.size nid ⟨hnsh, .inl R.fr.size,hsz⟩ (λ k hk' _=>hw k hk') (Nat.le_of_lt hsz) hos htp hout hle (λ id hid=>upd_ne _ _ (λ e=>hk (e▸hid))) ?_ ?_ (.inl (Nat.le_refl _)) (λ id b hb => ?_)
 ·intro id b hb hne
  rw[upd_ne _ _ hne]at hb
  refine ⟨hb,upd_ne _ _ hne,λ L hL => ?_⟩
  have:=(R.hp.own id b L hb hL).1
  omega
 ·intro b hb
  rw[upd_same]at hb
  cases hb
  refine ⟨⟨_,upd_same _ _ _,rfl⟩,?_⟩
  unfold RB
  rw[upd_same]
  refine ⟨hl,hE,λ j hj => ?_,λ j c hc => ?_⟩
  ·simpa using hex j hj
  ·obtain ⟨u,hu,hr⟩:=hcs j c hc
   exact ⟨u,by simpa using hu,hr.mono (λ k hk'=>hw k (R.sh_lt hk')) hle⟩
 ·by_cases e:id=nid
  ·subst e;rw[upd_same]at hb;cases hb
  ·rw[upd_ne _ _ e]at hb;exact ⟨hb,upd_ne _ _ e⟩
theorem RelAt.newNone {C:Ctx} {ρ:Rho} {φ:St} {a:Act} {w:World} (R:RelAt C ρ φ a w) (nid:Nat) (hno:φ.heap nid=.no) (sz:Nat) :
  RelAt C (upd ρ nid none) { φ with heap:=upd φ.heap nid (.live ⟨sz,0,[]⟩) } a w:=by
 have hk:=R.k0_le hno
 have hle:=hle_upd_no (ρ:=ρ) hno (.live ⟨sz,0,[]⟩) none
 refine R.turn (λ _ _=>rfl) hle ⟨?_,?_,?_,?_⟩ (λ id hid=>upd_ne _ _ (λ e=>hk (e▸hid))) R.fr
 ·intro id b hb
  by_cases e:id=nid
  ·subst e
   rw[upd_same]at hb
   cases hb
   unfold RB
   rw[upd_same]
   exact ⟨rfl,rfl⟩
  ·rw[upd_ne _ _ e]at hb
   have hrb:=R.hp.blk id b hb
   unfold RB at hrb ⊢
   rw[upd_ne _ _ e]
   cases hL:ρ id with
   | none=>rw[hL]at hrb;exact hrb
   | some L =>
    rw[hL]at hrb
    obtain ⟨q1,q2,q3,q4⟩:=hrb
    exact ⟨q1,q2,q3,λ j c hc=>by obtain ⟨u,hu,hr⟩:=q4 j c hc;exact ⟨u,hu,hr.mono (λ _ _=>rfl) hle⟩⟩
 ·intro id b L hb hL
  by_cases e:id=nid
  ·subst e;rw[upd_same]at hL;cases hL
  ·rw[upd_ne _ _ e]at hb hL;exact R.hp.own id b L hb hL
 ·intro id id' b b' L L' hb hb' hL hL' he
  by_cases e:id=nid
  ·subst e;rw[upd_same]at hL;cases hL
  ·by_cases e':id'=nid
   ·subst e';rw[upd_same]at hL';cases hL'
   ·rw[upd_ne _ _ e]at hb hL;rw[upd_ne _ _ e']at hb' hL'
    exact R.hp.inj id id' b b' L L' hb hb' hL hL' he
 ·obtain ⟨D,H⟩:=R.hp.dp
  have hd:∀ id b,upd φ.heap nid (.live ⟨sz,0,[]⟩) id=.deep b->φ.heap id=.deep b/\upd ρ nid none id=ρ id:=λ id b hb=>by
   by_cases e:id=nid
   ·subst e;rw[upd_same]at hb;cases hb
   ·rw[upd_ne _ _ e]at hb;exact ⟨hb,upd_ne _ _ e⟩
  refine ⟨D,H.keep hd hle (λ _ _ _ _ _=>rfl) (Nat.le_refl _) (λ _ h=>⟨h,rfl⟩) (λ id b k hb ho=>(H.own id b k (hd id b hb).1 ho).2) λ id b' L hb hL => ?_⟩
  by_cases e:id=nid
  ·subst e;rw[upd_same]at hL;cases hL
  ·rw[upd_ne _ _ e]at hb hL
   exact .inr ⟨id,b',L,hb,hL,rfl⟩
theorem heap_setCells_other (b:Nat):∀ (vs:List Value) (o:Nat) (w:World) (k:Nat),k≠b->(w.setCells b o vs).heap[k]? = w.heap[k]?
 | [],_,_,_,_=>rfl
 | v::r,o,w,k,h=>by
  simp only[World.setCells]
  rw[heap_setCells_other b r (o+1) _ k h,Go.RowKit.Below.heap_setCell _ _ _ _ h]
theorem size_setCells (b:Nat):∀ (vs:List Value) (o:Nat) (w:World),(w.setCells b o vs).heap.size=w.heap.size
 | [],_,_=>rfl
 | v::r,o,w=>by simp only[World.setCells];rw[size_setCells b r];simp
theorem rest_setCells (b:Nat):∀ (vs:List Value) (o:Nat) (w:World),(w.setCells b o vs).os=w.os/\(w.setCells b o vs).tape=w.tape/\(w.setCells b o vs).output=w.output
 | [],_,_=>⟨rfl,rfl,rfl⟩
 | v::r,o,w=>by
  simp only[World.setCells]
  obtain ⟨h1,h2,h3⟩:=rest_setCells b r (o+1) (w.setCell ⟨b,o,none⟩ v)
  exact ⟨h1,h2,h3⟩
theorem isSome_setCells (b:Nat):∀ (vs:List Value) (o:Nat) (w:World) (x:Addr),(w.cell? x).isSome=true->((w.setCells b o vs).cell? x).isSome=true
 | [],_,_,_,h=>h
 | v::r,o,w,x,h=>by
  simp only[World.setCells]
  refine isSome_setCells b r (o+1) _ x ?_
  by_cases e:(⟨b,o,none⟩:Addr)=x
  ·subst e
   obtain ⟨u,hu⟩:=Option.isSome_iff_exists.1 h
   rw[World.cell?_setCell_same w _ _ hu];rfl
  ·rw[World.cell?_setCell_other _ _ _ _ e];exact h
def over (cs:List CV) (off:Nat) (ns:List CV):List CV:=cs.take off++ns++cs.drop (off+ns.length)
theorem over_length {cs ns:List CV} {off:Nat} (h:off+ns.length<=cs.length):(over cs off ns).length=cs.length:=by
 simp[over];omega
theorem over_get {cs ns:List CV} {off j:Nat} (h:off+ns.length<=cs.length) :
  (over cs off ns)[j]? = if off<=j/\j < off+ns.length then ns[j-off]? else cs[j]? := by
 unfold over
 have ht:(cs.take off).length=off:=by simp;omega
 by_cases h1:j < off
 ·rw[if_neg (by omega),List.append_assoc,List.getElem?_append_left (by omega),List.getElem?_take,if_pos h1]
 ·by_cases h2:j < off+ns.length
  ·rw[if_pos (by omega),List.append_assoc,List.getElem?_append_right (by omega),ht,List.getElem?_append_left (by omega)]
  ·rw[if_neg (by omega),List.getElem?_append_right (by simp;omega),List.getElem?_drop]
   congr 1
   simp
   omega
theorem RelAt.store {C:Ctx} {ρ:Rho} {φ:St} {a:Act} {w:World} (R:RelAt C ρ φ a w) (id:Nat) (blk:Blk) (L:Loc) (hb:φ.heap id=.live blk) (hL:ρ id=some L)
  (off:Nat) (vs:List Value) (ns:List CV) (hl:vs.length=ns.length) (ho:off+ns.length<=blk.cs.length)
  (hr:∀ (j:Nat) (c:CV),ns[j]? = some c->∃ u:Value,vs[j]? = some u/\RV w C.Sh ρ φ.heap u c) :
  RelAt C ρ { φ with heap:=upd φ.heap id (.live ⟨blk.sz,blk.n,over blk.cs off ns⟩) } a (w.setCells L.b (L.o+off) vs):=by
 have hrb:=R.hp.blk id blk hb
 unfold RB at hrb
 rw[hL]at hrb
 obtain ⟨q1,q2,q3,q4⟩:=hrb
 obtain ⟨p1,p2,p3⟩:=R.hp.own id blk L hb hL
 have hle:∀ i,HLe (φ.heap i) (ρ i) (upd φ.heap id (.live ⟨blk.sz,blk.n,over blk.cs off ns⟩) i) (ρ i):=by
  intro i
  by_cases e:i=id
  ·subst e;rw[hb,upd_same];exact ⟨rfl,rfl,rfl⟩
  ·rw[upd_ne _ _ e];exact HLe.refl _ _
 obtain ⟨r1,r2,r3⟩:=rest_setCells L.b vs (L.o+off) w
 have hsh:∀ k,C.Sh k->(w.setCells L.b (L.o+off) vs).heap[k]? = w.heap[k]? := λ k hk=>heap_setCells_other _ _ _ _ _ (λ e=>p2 (e▸hk))
 refine R.at L.b id ⟨p2,p3,by rw[size_setCells];exact p1⟩ (λ k _ hk=>heap_setCells_other _ _ _ _ _ hk) (by rw[size_setCells];exact Nat.le_refl _) r1 r2 r3 hle (λ _ _=>rfl) ?_ ?_ (.inr ⟨id,blk,L,hb,hL,rfl⟩) (λ i b hi => ?_)
 ·intro i b hi hne
  rw[upd_ne _ _ hne]at hi
  exact ⟨hi,rfl,λ L' hL' he=>hne (R.hp.inj i id b blk L' L hi hb hL' hL he)⟩
 ·intro b hi
  rw[upd_same]at hi
  cases hi
  refine ⟨⟨L,hL,rfl⟩,?_⟩
  unfold RB
  rw[hL]
  refine ⟨by rw[over_length ho];exact q1,by rw[over_length ho];exact q2,λ j hj=>⟨isSome_setCells _ _ _ _ _ (q3 j hj).1,by rw[World.frozen?_setCells];exact (q3 j hj).2.1,λ hz k=>by rw[World.frozen?_setCells];exact (q3 j hj).2.2 hz k⟩,λ j c hc => ?_⟩
  simp only at hc
  rw[over_get ho]at hc
  split at hc
  ·rename_i hin
   obtain ⟨u,hu,hru⟩:=hr (j-off) c hc
   obtain ⟨hlt,hget⟩:=List.getElem?_eq_some_iff.1 hu
   have:=World.cell?_setCells_in L.b vs (L.o+off) w (λ i hi=>by rw[Nat.add_assoc];exact (q3 (off+i) (by omega)).1) (j-off) hlt
   rw[show L.o+off+(j-off)=L.o+j by omega]at this
   exact ⟨u,by rw[this,hget],hru.mono hsh hle⟩
  ·rename_i hout
   obtain ⟨u,hu,hru⟩:=q4 j c hc
   refine ⟨u,?_,hru.mono hsh hle⟩
   rw[World.cell?_setCells_out L.b vs (L.o+off) w _ (λ _ _=>by simp only;omega)]
   exact hu
 ·by_cases e:i=id
  ·subst e;rw[upd_same]at hi;cases hi
  ·rw[upd_ne _ _ e]at hi;exact ⟨hi,rfl⟩
theorem RelAt.grow {C:Ctx} {ρ:Rho} {φ:St} {a:Act} {w:World} (R:RelAt C ρ φ a w) (id:Nat) (blk:Blk) (L:Loc) (hb:φ.heap id=.live blk) (hL:ρ id=some L)
  (nid:Nat) (hno:φ.heap nid=.no) (lo n m cap:Nat) (hlo:lo+n<=blk.n) (hcap:(lo+cap)*blk.sz<=L.e) (hnm:n+m<=cap)
  (vs:List Value) (ns:List CV) (hl:vs.length=ns.length) (hns:ns.length=m*blk.sz)
  (hr:∀ (j:Nat) (c:CV),ns[j]? = some c->∃ u:Value,vs[j]? = some u/\RV w C.Sh ρ φ.heap u c) :
  RelAt C (upd ρ nid (some ⟨L.b,L.o+lo*blk.sz,L.e-lo*blk.sz⟩))
   { φ with heap:=upd (upd φ.heap id .dead) nid (.live ⟨blk.sz,n+m,(blk.cs.drop (lo*blk.sz)).take (n*blk.sz)++ns⟩) } a
   (w.setCells L.b (L.o+lo*blk.sz+n*blk.sz) vs):=by
 have hrb:=R.hp.blk id blk hb
 unfold RB at hrb
 rw[hL]at hrb
 obtain ⟨q1,q2,q3,q4⟩:=hrb
 obtain ⟨p1,p2,p3⟩:=R.hp.own id blk L hb hL
 have hne:nid≠id:=λ e=>by rw[e,hb]at hno;cases hno
 have hk:=R.k0_le hno
 have hle:∀ i,HLe (φ.heap i) (ρ i) (upd (upd φ.heap id .dead) nid (.live ⟨blk.sz,n+m,(blk.cs.drop (lo*blk.sz)).take (n*blk.sz)++ns⟩) i) (upd ρ nid (some ⟨L.b,L.o+lo*blk.sz,L.e-lo*blk.sz⟩) i):=by
  intro i
  by_cases e:i=nid
  ·subst e;rw[hno];trivial
  ·rw[upd_ne _ _ e,upd_ne _ _ e]
   by_cases e2:i=id
   ·subst e2;rw[hb,upd_same];trivial
   ·rw[upd_ne _ _ e2];exact HLe.refl _ _
 obtain ⟨r1,r2,r3⟩:=rest_setCells L.b vs (L.o+lo*blk.sz+n*blk.sz) w
 have hsh:∀ k,C.Sh k->(w.setCells L.b (L.o+lo*blk.sz+n*blk.sz) vs).heap[k]? = w.heap[k]? := λ k hk=>heap_setCells_other _ _ _ _ _ (λ e=>p2 (e▸hk))
 have hm1:lo*blk.sz+n*blk.sz<=blk.cs.length:=by rw[q1,<-Nat.add_mul];exact Nat.mul_le_mul_right _ hlo
 have hm2:lo*blk.sz+n*blk.sz+m*blk.sz<=L.e:=by
  refine Nat.le_trans ?_ hcap
  rw[<-Nat.add_mul,<-Nat.add_mul]
  exact Nat.mul_le_mul_right _ (by omega)
 refine R.at L.b nid ⟨p2,p3,by rw[size_setCells];exact p1⟩ (λ k _ hk=>heap_setCells_other _ _ _ _ _ hk) (by rw[size_setCells];exact Nat.le_refl _) r1 r2 r3 hle (λ i hi=>upd_ne _ _ (λ e=>hk (e▸hi))) ?_ ?_ (.inr ⟨id,blk,L,hb,hL,rfl⟩) (λ i b hi => ?_)
 ·intro i b hi hni
  rw[upd_ne _ _ hni]at hi
  by_cases e:i=id
  ·subst e;rw[upd_same]at hi;cases hi
  ·rw[upd_ne _ _ e]at hi
   exact ⟨hi,upd_ne _ _ hni,λ L' hL' he=>e (R.hp.inj i id b blk L' L hi hb hL' hL he)⟩
 ·intro b hi
  rw[upd_same]at hi
  cases hi
  refine ⟨⟨_,upd_same _ _ _,rfl⟩,?_⟩
  unfold RB
  rw[upd_same]
  have ht:((blk.cs.drop (lo*blk.sz)).take (n*blk.sz)).length=n*blk.sz:=by simp;omega
  refine ⟨by simp only[List.length_append,ht,hns,Nat.add_mul],by simp only[List.length_append,ht,hns];omega,λ j hj => ?_,λ j c hc => ?_⟩
  ·simp only at hj ⊢
   rw[show L.o+lo*blk.sz+j=L.o+(lo*blk.sz+j) by omega]
   exact ⟨isSome_setCells _ _ _ _ _ (q3 (lo*blk.sz+j) (by omega)).1,by rw[World.frozen?_setCells];exact (q3 (lo*blk.sz+j) (by omega)).2.1,λ hz k=>by rw[World.frozen?_setCells];exact (q3 (lo*blk.sz+j) (by omega)).2.2 hz k⟩
  ·simp only at hc ⊢
   by_cases hj:j < n*blk.sz
   ·rw[List.getElem?_append_left (by omega),List.getElem?_take,if_pos hj,List.getElem?_drop]at hc
    obtain ⟨u,hu,hru⟩:=q4 _ c hc
    refine ⟨u,?_,hru.mono hsh hle⟩
    rw[World.cell?_setCells_out L.b vs _ w _ (λ _ _=>by simp only;omega),Nat.add_assoc]
    exact hu
   ·rw[List.getElem?_append_right (by omega),ht]at hc
    obtain ⟨u,hu,hru⟩:=hr (j-n*blk.sz) c hc
    obtain ⟨hlt,hget⟩:=List.getElem?_eq_some_iff.1 hu
    have:=World.cell?_setCells_in L.b vs (L.o+lo*blk.sz+n*blk.sz) w (λ i hi=>by
     rw[show L.o+lo*blk.sz+n*blk.sz+i=L.o+(lo*blk.sz+n*blk.sz+i) by omega]
     exact (q3 (lo*blk.sz+n*blk.sz+i) (by omega)).1) (j-n*blk.sz) hlt
    rw[show L.o+lo*blk.sz+n*blk.sz+(j-n*blk.sz)=L.o+lo*blk.sz+j by omega]at this
    exact ⟨u,by rw[this,hget],hru.mono hsh hle⟩
 ·by_cases e:i=nid
  ·subst e;rw[upd_same]at hi;cases hi
  ·rw[upd_ne _ _ e]at hi
   by_cases e2:i=id
   ·subst e2;rw[upd_same]at hi;cases hi
   ·rw[upd_ne _ _ e2]at hi;exact ⟨hi,upd_ne _ _ e⟩
theorem RelAt.kill {C:Ctx} {ρ:Rho} {φ:St} {a:Act} {w:World} (R:RelAt C ρ φ a w) (id:Nat) (hno:φ.heap id≠.no) :
  RelAt C ρ { φ with heap:=upd φ.heap id .dead } a w:=by
 have hle:∀ i,HLe (φ.heap i) (ρ i) (upd φ.heap id .dead i) (ρ i):=by
  intro i
  by_cases e:i=id
  ·subst e
   rw[upd_same]
   cases h:φ.heap i with
   | no=>exact absurd h hno
   | dead=>trivial
   | live b=>trivial
   | deep b=>trivial
  ·rw[upd_ne _ _ e];exact HLe.refl _ _
 have hlv:∀ i b,upd φ.heap id .dead i=.live b->φ.heap i=.live b:=by
  intro i b h
  by_cases e:i=id
  ·subst e;rw[upd_same]at h;cases h
  ·rwa [upd_ne _ _ e]at h
 refine R.turn (λ _ _=>rfl) hle ⟨λ i b h => ?_,λ i b L h hL=>R.hp.own i b L (hlv i b h) hL,λ i i' b b' L L' h h'=>R.hp.inj i i' b b' L L' (hlv i b h) (hlv i' b' h'),?_⟩ (λ _ _=>rfl) R.fr
 rotate_left
 ·obtain ⟨D,H⟩:=R.hp.dp
  have hd:∀ i b,upd φ.heap id .dead i=.deep b->φ.heap i=.deep b/\ρ i=ρ i:=λ i b hb=>by
   by_cases e:i=id
   ·subst e;rw[upd_same]at hb;cases hb
   ·rw[upd_ne _ _ e]at hb;exact ⟨hb,rfl⟩
  exact ⟨D,H.keep hd hle (λ _ _ _ _ _=>rfl) (Nat.le_refl _) (λ _ h=>⟨h,rfl⟩) (λ i b k hb ho=>(H.own i b k (hd i b hb).1 ho).2) λ i b' L hb hL=>.inr ⟨i,b',L,hlv i b' hb,hL,rfl⟩⟩
 have hrb:=R.hp.blk i b (hlv i b h)
 unfold RB at hrb ⊢
 cases hL:ρ i with
 | none=>rw[hL]at hrb;exact hrb
 | some L =>
  rw[hL]at hrb
  obtain ⟨q1,q2,q3,q4⟩:=hrb
  exact ⟨q1,q2,q3,λ j c hc=>by obtain ⟨u,hu,hr⟩:=q4 j c hc;exact ⟨u,hu,hr.mono (λ _ _=>rfl) hle⟩⟩
end Go.Fm
namespace Go.Fm
variable [Globs]
inductive TK where
 | int (k:IntKind)
 | bool
 | str
 | slice (e:TypeId)
 | tarr (n:Nat) (e:TypeId)
 | agg
 | iface
 | other
def allSized (P:Program) (t:TypeId):Bool:=match P.underlying t with|some (.struct fs)=>fs.toList.all λ f=>(P.info? f.type).isSome|_=>false
def kindF (P:Program) (t:TypeId):TK :=
 match P.underlying t with
 | some (.int k)=>.int k
 | some .bool=>.bool
 | some .string=>.str
 | some (.slice e)=>.slice e
 | some (.struct _)=>.agg
 | some (.interface _)=>.iface
 | some (.array n e)=>.tarr n e
 | _=>.other
def sizeF (P:Program) (t:TypeId):Option Nat:=(P.info? t).map (·.size)
def bytesF (P:Program) (t:TypeId):Option Nat:=(P.info? t).map (·.bytes)
def aggF (P:Program) (t:TypeId):Option Bool:=(P.underlying t).map λ | .struct _ | .array _ _=>true|_=>false
def foffF (P:Program) (t:TypeId) (f:Nat):Option (Nat×TypeId) :=
 match P.underlying t with
 | some (.struct fs)=>(fs[f]?).map λ d=>(d.offset,d.type)
 | _=>none
def constCV:Value->CV
 | .int k n=>.int k n
 | .bool b=>.bool b
 | .string s=>.str s.data.toList
 | .slice _ 0 0=>.emp
 | .pointer none=>.nilp
 | .nilIface=>.nili
 | _=>.dead
def constSV:Value->SV
 | .agg vs=>if vs.toList.all (·.oneCell') then .pv (.agg (vs.toList.map constCV)) else one .dead
 | v=>one (constCV v)
def zeroF (P:Program) (t:TypeId):Option (List CV) :=
 match (P.info? t).bind (·.zero) with
 | some v=>if v.cells.toList.all (·.oneCell') then some (v.cells.toList.map constCV) else none
 | none=>none
def St.ev (φ:St):Operand->SV
 | .tmp t=>φ.env t
 | .const v=>constSV v
 | .func f=>one (.fn f [])
 | .global g=>match Globs.tab g with|some cs=>one (.ip cs)|none=>one .dead
structure Action where
 rd:List Nat
 val:SV
 hp:List (Nat×HS)
def heapOf (h:Nat->HS) (l:List (Nat×HS)):Nat->HS:=l.foldl (λ h p=>upd h p.1 p.2) h
def St.app (φ:St) (d:Option Nat) (A:Action):St:=({ φ with heap:=heapOf φ.heap A.hp }:St).put d A.val
def SV.kI:SV->(IntKind->Int->Prop)->Prop | .pv (.one (.int k n)),K=>K k n|_,_=>False
def SV.kB:SV->(Bool->Prop)->Prop | .pv (.one (.bool b)),K=>K b|_,_=>False
def SV.kS:SV->(List UInt8->Prop)->Prop | .pv (.one (.str l)),K=>K l|_,_=>False
def SV.kA:SV->(List CV->Prop)->Prop | .pv (.agg cs),K=>K cs|_,_=>False
def SV.kT:SV->(List PV->Prop)->Prop | .tup ps,K=>K ps|_,_=>False
def SV.kC:SV->(List CV->Prop)->Prop
 | .pv (.one .dead),_=>False
 | .pv (.one c),K=>K [c]
 | .pv (.agg cs),K=>K cs
 | _,_=>False
def kO {α:Type}:Option α->(α->Prop)->Prop|some x,K=>K x|none,_=>False
def kLive:HS->(Blk->Prop)->Prop | .live b,K=>K b|_,_=>False
def SV.kPtr:SV->(Nat->Nat->Prop)->(List CV->Prop)->Prop
 | .pv (.one (.ptr id off)),K,_=>K id off
 | .pv (.one (.ip cs)),_,K=>K cs
 | _,_,_=>False
def pvOf (b:Bool) (cs:List CV):PV:=if b then .agg cs else .one (cs.headD .dead)
def bytesB (k:IntKind) (n:Int):BitVec k.bits:=BitVec.ofInt k.bits n
def binI (op:BinOp) (k:IntKind) (a b:Int) (K:CV->Prop):Prop :=
 match op with
 | .add=>K (.int k (k.wrap (a+b)))
 | .sub=>K (.int k (k.wrap (a-b)))
 | .mul=>K (.int k (k.wrap (a*b)))
 | .quo=>b≠0/\K (.int k (k.wrap (a.tdiv b)))
 | .rem=>b≠0/\K (.int k (a.tmod b))
 | .and=>K (.int k (k.wrap (bytesB k a &&& bytesB k b).toNat))
 | .or=>K (.int k (k.wrap (bytesB k a ||| bytesB k b).toNat))
 | .xor=>K (.int k (k.wrap (bytesB k a ^^^ bytesB k b).toNat))
 | .eql=>K (.bool (a==b))
 | .neq=>K (.bool (a != b))
 | .lss=>K (.bool (a < b))
 | .leq=>K (.bool (a<=b))
 | .gtr=>K (.bool (a > b))
 | .geq=>K (.bool (a ≥ b))
 | _=>False
def shI (op:BinOp) (k:IntKind) (a b:Int) (K:CV->Prop):Prop :=
 match op with
 | .shl=>0<=b/\K (.int k (k.wrap (a*2 ^ (min b.toNat k.bits))))
 | .shr=>0<=b/\K (.int k (a.fdiv (2 ^ (min b.toNat k.bits))))
 | _=>False
def eqCs:List Nat->List CV->List CV->Option Bool
 | [],[],[]=>some true
 | 0::ks, .int k a::r, .int k' b::s=>if k=k' then (eqCs ks r s).map ((a==b)&&·) else none
 | 1::ks, .bool a::r, .bool b::s=>(eqCs ks r s).map ((a==b)&&·)
 | 2::ks, .str a::r, .str b::s=>(eqCs ks r s).map ((a==b)&&·)
 | _,_,_=>none
def flatL (P:Program):Nat->List Field->Option (List Nat)
 | _,[]=>some []
 | i,f::fs=>if f.name ≠ "_" ∧ f.offset=i then
   (match P.underlying f.type with
   | some (.int _)=>(flatL P (i+1) fs).map (0::·)
   | some .bool=>(flatL P (i+1) fs).map (1::·)
   | some .string=>(flatL P (i+1) fs).map (2::·)
   | _=>none) else none
def flatF (P:Program) (t:TypeId):Option (List Nat) :=
 match P.underlying t with
 | some (.struct fs)=>if P.stoodInHeld t=false/\P.eqGuardType P.depth t=false then flatL P 0 fs.toList else none
 | some (.int .i64)=>(match P.info? t with|some i=>if i.comparable then some [3] else none|none=>none)
 | _=>none
def kBin (P:Program) (op:BinOp) (t:TypeId):SV->SV->(CV->Prop)->Prop
 | .pv (.one (.int k a)), .pv (.one (.int k' b)),K =>
  (match op with
  | .shl | .shr=>shI op k a b K
  | _=>k=k'/\binI op k a b K)
 | .pv (.one (.str a)), .pv (.one (.str b)),K =>
  (match op with
  | .add=>a.length+b.length < 2 ^ 62/\K (.str (a++b))
  | .eql=>K (.bool (a==b))
  | .neq=>K (.bool (a != b))
  | _=>False)
 | .pv (.one (.bool a)), .pv (.one (.bool b)),K =>
  (match op,kindF P t with
  | .eql, .bool=>K (.bool (a==b))
  | .neq, .bool=>K (.bool (a != b))
  | _,_=>False)
 | .pv (.one .opq), .pv (.one .nili),K =>
  (match op,kindF P t with
  | .eql, .iface=>K (.bool false)
  | .neq, .iface=>K (.bool true)
  | _,_=>False)
 | .pv (.agg a), .pv (.agg b),K =>
  (match op with
  | .eql=>kO (flatF P t) λ ks=>kO (eqCs ks a b) λ r=>K (.bool r)
  | .neq=>kO (flatF P t) λ ks=>kO (eqCs ks a b) λ r=>K (.bool (!r))
  | _=>False)
 | _,_,_=>False
def kUn (u:UnOp):SV->(CV->Prop)->Prop
 | .pv (.one (.bool b)),K=>(match u with | .not=>K (.bool (!b))|_=>False)
 | .pv (.one (.int k a)),K=>(match u with
  | .neg=>K (.int k (k.wrap (0-a)))
  | .xor=>K (.int k (k.wrap (bytesB k (if k.signed then -1 else k.max) ^^^ bytesB k a).toNat))
  | _=>False)
 | _,_=>False
def SV.kSl:SV->(Nat->Nat->Nat->Prop)->(Nat->Nat->List CV->Prop)->Prop->Prop
 | .pv (.one (.arr id lo n)),K,_,_=>K id lo n
 | .pv (.one (.imm sz n cs)),_,K,_=>K sz n cs
 | .pv (.one .emp),_,_,K=>K
 | _,_,_,_=>False
def St.kLen (φ:St):SV->(List Nat->Nat->Prop)->Prop
 | .pv (.one (.arr id _ n)),K=>kLive (φ.heap id) λ _=>K [id] n
 | .pv (.one (.imm _ n _)),K=>K [] n
 | .pv (.one .emp),K=>K [] 0
 | _,_=>False
def St.bd (φ:St) (x:Option Operand) (d:Nat) (K:Int->Prop):Prop :=
 match x with
 | none=>K d
 | some x=>(φ.ev x).kI λ _ i=>K i
def partsOf (φ:St) (size:Nat):Nat->List (Nat×Operand)->(List CV->Prop)->Prop
 | _,[],K=>K []
 | i,(j,x)::r,K=>j=i/\(φ.ev x).kC λ cs=>cs.length=size/\partsOf φ size (i+1) r λ ds=>K (cs++ds)
def fillF (P:Program) (φ:St) (t:TypeId):List CV->List (Nat×Operand)->(List CV->Prop)->Prop
 | cs,[],K=>K cs
 | cs,(f,x)::r,K=>kO (foffF P t f) λ q=>(φ.ev x).kC λ ns=>sizeF P q.2=some ns.length/\q.1+ns.length<=cs.length/\fillF P φ t (over cs q.1 ns) r K
def maxN:Nat:=2 ^ 32
def St.cells (φ:St) (size:Nat):SV->(List Nat->Nat->List CV->Prop)->Prop
 | .pv (.one (.arr id lo n)),K=>kLive (φ.heap id) λ b=>b.sz=size/\lo+n<=b.n/\K [id] n ((b.cs.drop (lo*size)).take (n*size))
 | .pv (.one (.imm sz n cs)),K=>sz=size/\K [] n cs
 | .pv (.one .emp),K=>K [] 0 []
 | .pv (.one (.str l)),K=>size=1/\K [] l.length (l.map λ b=>.int .u8 b.toNat)
 | _,_=>False
def capsOf (φ:St):List Operand->(List CV->Prop)->Prop
 | [],K=>K []
 | x::r,K=>(match φ.ev x with
  | .pv (.one (.ptr id off))=>capsOf φ r λ cs=>K (.ptr id off::cs)
  | _=>False)
def bytesCs:List CV->Option (List UInt8)
 | []=>some []
 | .int .u8 n::r=>(bytesCs r).map (UInt8.ofNat n.toNat::·)
 | _=>none
def notStr:SV->Bool
 | .pv (.one (.str _))=>false
 | _=>true
def isU8 (P:Program) (t:TypeId):Bool:=match kindF P t with | .int .u8=>true|_=>false
def builtinF (P:Program) (b:Builtin) (ats:List TypeId) (xs:List SV) (φ:St) (nid:Nat) (K:Action->Prop):Prop :=
 match b,ats,xs with
 | .len,[t],[x]=>(match kindF P t with
  | .str=>x.kS λ l=>K ⟨[],one (.int .i64 l.length),[]⟩
  | .slice _=>φ.kLen x λ rd n=>K ⟨rd,one (.int .i64 n),[]⟩
  | _=>False)
 | .cap,[t],[x]=>(match kindF P t,x with
  | .slice _, .pv (.one .emp)=>K ⟨[],one (.int .i64 (0:Nat)),[]⟩
  | _,_=>False)
 | .append,t::t2::_,[x,y] =>
  (match kindF P t,kindF P t2 with
  | .slice e, .slice _ | .slice e, .str=>kO (sizeF P e) λ size=>kO (bytesF P e) λ by_=>kO (zeroF P e) λ z=>by_<=1024/\z.length=size/\φ.cells size y λ rd m ns =>
    (match x with
    | .pv (.one (.arr id lo n))=>kLive (φ.heap id) λ b=>b.sz=size/\lo+n<=b.n/\n+m<=maxN ∧
      K ⟨id::rd,one (.arr nid 0 (n+m)),[(id, .dead),(nid, .live ⟨size,n+m,(b.cs.drop (lo*size)).take (n*size)++ns⟩)]⟩
    | .pv (.one .emp)=>m<=maxN/\K ⟨rd,one (.arr nid 0 m),[(nid, .live ⟨size,m,ns⟩)]⟩
    | _=>False)
  | .slice e, .int _=>kO (sizeF P e) λ size=>kO (bytesF P e) λ by_=>kO (zeroF P e) λ z=>(by_<=1024/\z.length=size) ∧
    (match x with
    | .pv (.one .emp)=>y.kI λ k n=>(k=.i64/\0<=n/\n<=maxN)/\K ⟨[],one (.arr nid 0 n.toNat),[(nid, .live ⟨size,n.toNat,(List.replicate n.toNat z).flatten⟩)]⟩
    | _=>False)
  | _,_=>False)
 | .max,_,[x,y]=>x.kI λ k a=>y.kI λ k' b=>k=k'/\K ⟨[],one (.int k (if a < b then b else a)),[]⟩
 | .copy,t::t2::_,[x,y] =>
  (match kindF P t,kindF P t2 with
  | .slice e, .slice _ | .slice e, .str=>kO (sizeF P e) λ size=>φ.cells size y λ rd m ns =>
    (match x with
    | .pv (.one (.arr id lo n))=>kLive (φ.heap id) λ b=>b.sz=size/\lo+n<=b.n ∧
      K ⟨id::rd,one (.int .i64 (min m n:Nat)),[(id, .live ⟨size,b.n,over b.cs (lo*size) (ns.take (min m n*size))⟩)]⟩
    | .pv (.one .emp)=>K ⟨rd,one (.int .i64 0),[]⟩
    | _=>False)
  | _,_=>False)
 | .clear,[t],[x] =>
  (match kindF P t with
  | .slice e=>kO (sizeF P e) λ size=>kO (zeroF P e) λ z =>
    (match x with
    | .pv (.one (.arr id lo n))=>kLive (φ.heap id) λ b=>b.sz=size/\z.length=size/\lo+n<=b.n ∧
      K ⟨[id], .tup [],[(id, .live ⟨size,b.n,over b.cs (lo*size) (List.replicate n z).flatten⟩)]⟩
    | .pv (.one .emp)=>K ⟨[], .tup [],[]⟩
    | _=>False)
  | _=>False)
 | _,_,_=>False
def act (P:Program) (o:Oper) (φ:St) (nid:Nat) (K:Action->Prop):Prop :=
 match o.op with
 | .move x | .assign x=>K ⟨[],φ.ev x,[]⟩
 | .pick c a b=>(φ.ev c).kB λ t=>K ⟨[],cond t (φ.ev a) (φ.ev b),[]⟩
 | .extract x i=>(φ.ev x).kT λ ps=>kO ps[i]? λ p=>K ⟨[], .pv p,[]⟩
 | .unOp u _ x=>kUn u (φ.ev x) λ c=>K ⟨[],one c,[]⟩
 | .binOp op t x y _=>kBin P op t (φ.ev x) (φ.ev y) λ c=>K ⟨[],one c,[]⟩
 | .convert s d x=>(match kindF P s,kindF P d with
  | .int _, .int k=>(φ.ev x).kI λ _ n=>K ⟨[],one (.int k (k.wrap n)),[]⟩
  | .str, .str=>(φ.ev x).kS λ l=>K ⟨[],one (.str l),[]⟩
  | .str, .slice e=>isU8 P e=true/\(φ.ev x).kS λ l=>l.length<=maxN/\K ⟨[],one (.arr nid 0 l.length),[(nid, .live ⟨1,l.length,l.map λ b=>.int .u8 b.toNat⟩)]⟩
  | .slice e, .str=>isU8 P e=true/\notStr (φ.ev x)=true/\φ.cells 1 (φ.ev x) λ rd n cs=>kO (bytesCs cs) λ l=>K ⟨rd,one (.str l),[]⟩
  | _,_=>False)
 | .field t x f=>kO (foffF P t f) λ q=>kO (sizeF P q.2) λ size=>kO (aggF P q.2) λ b=>(φ.ev x).kA λ cs=>q.1+size<=cs.length/\(b=false->size=1)/\K ⟨[], .pv (pvOf b ((cs.drop q.1).take size)),[]⟩
 | .fieldAddr t x f=>kO (foffF P t f) λ q=>kO (sizeF P q.2) λ size=>size≠0 ∧
   (φ.ev x).kPtr (λ id off=>kLive (φ.heap id) λ _=>K ⟨[id],one (.ptr id (off+q.1)),[]⟩) (λ cs=>K ⟨[],one (.ip (cs.drop q.1)),[]⟩)
 | .load t x=>kO (sizeF P t) λ size=>kO (aggF P t) λ b=>(b=false->size=1) ∧
   (φ.ev x).kPtr (λ id off=>kLive (φ.heap id) λ bl=>off+size<=bl.cs.length/\K ⟨[id], .pv (pvOf b ((bl.cs.drop off).take size)),[]⟩)
    (λ cs=>size<=cs.length/\K ⟨[], .pv (pvOf b (cs.take size)),[]⟩)
 | .store t x v=>kO (sizeF P t) λ size=>(φ.ev v).kC λ ns=>ns.length=size ∧
   (φ.ev x).kPtr (λ id off=>kLive (φ.heap id) λ bl=>off+ns.length<=bl.cs.length/\K ⟨[id],one .dead,[(id, .live ⟨bl.sz,bl.n,over bl.cs off ns⟩)]⟩) (λ _=>False)
 | .alloc t=>kO (zeroF P t) λ cs=>K ⟨[],one (.ptr nid 0),[(nid, .live ⟨1,cs.length,cs⟩)]⟩
 | .box t v=>(φ.ev v).kC λ cs=>K ⟨[],one (.ptr nid 0),[(nid, .live ⟨1,cs.length,cs⟩)]⟩
 | .build t ps=>(match kindF P t with
  | .agg=>allSized P t=true/\kO (zeroF P t) λ z=>fillF P φ t z ps.toList λ cs=>K ⟨[], .pv (.agg cs),[]⟩
  | _=>False)
 | .buildSlice t n ps=>(match kindF P t with
  | .slice e=>kO (sizeF P e) λ size=>n*size<=4096/\size≠0/\n=ps.size/\partsOf φ size 0 ps.toList λ cs=>(zeroF P e).isSome=true/\K ⟨[],one (.arr nid 0 n),[(nid, .live ⟨size,n,cs⟩)]⟩
  | _=>False)
 | .makeSlice t l c=>(match kindF P t with
  | .slice e=>kO (sizeF P e) λ size=>kO (zeroF P e) λ z=>kO (bytesF P e) λ by_=>by_<=1024/\z.length=size ∧
    (φ.ev l).kI λ k1 n=>(φ.ev c).kI λ k2 m=>k1=.i64/\k2=.i64/\m=n/\0<=n/\n<=maxN ∧
     K ⟨[],one (.arr nid 0 n.toNat),[(nid, .live ⟨size,n.toNat,(List.replicate n.toNat z).flatten⟩)]⟩
  | _=>False)
 | .index t x i=>(match kindF P t with
  | .str=>(φ.ev x).kS λ l=>(φ.ev i).kI λ _ i=>(0<=i/\i < l.length)/\K ⟨[],one (.int .u8 (l.getD i.toNat 0).toNat),[]⟩
  | _=>False)
 | .indexAddr t x i=>(match kindF P t with
  | .slice e=>kO (sizeF P e) λ size=>(φ.ev i).kI λ _ i=>(φ.ev x).kSl
    (λ id lo n=>kLive (φ.heap id) λ b=>b.sz=size/\(0<=i/\i < n)/\K ⟨[id],one (.ptr id ((lo+i.toNat)*size)),[]⟩)
    (λ sz n cs=>sz=size/\(0<=i/\i < n)/\K ⟨[],one (.ip (cs.drop (i.toNat*size))),[]⟩) False
  | .tarr n e=>kO (sizeF P e) λ size=>(φ.ev i).kI λ _ i=>(φ.ev x).kPtr
    (λ id off=>kLive (φ.heap id) λ _=>(0<=i/\i < n)/\K ⟨[id],one (.ptr id (off+i.toNat*size)),[]⟩)
    (λ cs=>(0<=i/\i < n)/\K ⟨[],one (.ip (cs.drop (i.toNat*size))),[]⟩)
  | _=>False)
 | .slice t x lo hi none=>(match kindF P t with
  | .str=>(φ.ev x).kS λ l=>φ.bd lo 0 λ a=>φ.bd hi l.length λ b=>(0<=a/\a<=b/\b<=l.length)/\K ⟨[],one (.str ((l.drop a.toNat).take (b.toNat-a.toNat))),[]⟩
  | .slice e=>kO (sizeF P e) λ size=>(φ.ev x).kSl
    (λ id l n=>kLive (φ.heap id) λ bl=>bl.sz=size/\φ.bd lo 0 λ a=>φ.bd hi n λ b=>(0<=a/\a<=b/\b<=n)/\K ⟨[id],one (.arr id (l+a.toNat) (b.toNat-a.toNat)),[]⟩)
    (λ sz n cs=>sz=size/\φ.bd lo 0 λ a=>φ.bd hi n λ b=>(0<=a/\a<=b/\b<=n)/\K ⟨[],one (.imm sz (b.toNat-a.toNat) ((cs.drop (a.toNat*sz)).take ((b.toNat-a.toNat)*sz))),[]⟩)
    (φ.bd lo 0 λ a=>φ.bd hi 0 λ b=>(a=0/\b=0)/\K ⟨[],one .emp,[]⟩)
  | .tarr m e=>kO (sizeF P e) λ size=>(φ.ev x).kPtr
    (λ id off=>kLive (φ.heap id) λ bl=>(bl.sz=size/\bl.n=m/\off=0)/\φ.bd lo 0 λ a=>φ.bd hi m λ b=>(0<=a/\a<=b/\b<=m)/\K ⟨[id],one (.arr id a.toNat (b.toNat-a.toNat)),[]⟩)
    (λ _=>False)
  | _=>False)
 | .makeFunc (.func f) first caps=>first.size=0/\capsOf φ caps.toList λ cs=>K ⟨[],one (.fn f cs),[]⟩
 | .nilCheck x=>(φ.ev x).kPtr (λ id off=>kLive (φ.heap id) λ _=>K ⟨[id],one (.ptr id off),[]⟩) (λ cs=>K ⟨[],one (.ip cs),[]⟩)
 | .call c=>(match c.callee with
  | .builtin b=>builtinF P b c.argTypes.toList (c.args.toList.map φ.ev) φ nid K
  | _=>False)
 | _=>False
end Go.Fm
namespace Go.Fm
variable [Globs]
structure Agree (φ φ':St) (o:Oper) (nid:Nat) (A:Action):Prop where
 env:∀ x ∈ o.op.operands,φ'.ev x=φ.ev x
 hp:∀ id ∈ A.rd,φ'.heap id=φ.heap id
 fresh:∀ p ∈ A.hp,nid<=p.1->φ'.heap p.1=.no
 fin:∃ N,∀ j,N<=j->φ'.heap j=.no
def ActOk (P:Program) (o:Oper) (φ:St) (nid:Nat) (A:Action):Prop :=
 ∀ (C:Ctx),C.P=P->∀ φ' a w,Agree φ φ' o nid A->Rel C φ' a w->(∀ d,o.dst=some d->d < C.nt) →
  ∀ (K:Act->World->Prop) (Q:Exit->Act->World->Prop),(∀ a' w',Rel C (φ'.app o.dst A) a' w'->K a' w')->o.wp P a w K Q
def Goes (P:Program) (o:Oper) (C:Ctx) (φ':St) (a:Act) (w:World) (ρ:Rho) (A:Action):Prop :=
 ∃ v w' ρ',((execOp a.eval o).run P w=.ok (.value v) w'\/(execOp a.eval o).run P w=.ok .skip w'/\v=undef) ∧
  RelAt C ρ' { φ' with heap:=heapOf φ'.heap A.hp } a w'/\RSV w' C.Sh ρ' (heapOf φ'.heap A.hp) v A.val
theorem ActOk.mk {P:Program} {o:Oper} {φ:St} {nid:Nat} {A:Action}
  (h:∀ (C:Ctx) (φ':St) (a:Act) (w:World) (ρ:Rho),C.P=P->Agree φ φ' o nid A->RelAt C ρ φ' a w->Goes P o C φ' a w ρ A):ActOk P o φ nid A:=by
 intro C hP φ' a w hag hR hd K Q hK
 obtain ⟨ρ,R⟩:=hR
 obtain ⟨v,w',ρ',hrun,R',hv⟩:=h C φ' a w ρ hP hag R
 have hr:=R'.put hd hv
 unfold Oper.wp
 rcases hrun with hrun|⟨hrun,rfl⟩
 ·rw[hrun]
  exact hK _ _ ⟨ρ',hr⟩
 ·rw[hrun]
  exact hK _ _ ⟨ρ',hr⟩
theorem ActOk.quiet {P:Program} {o:Oper} {φ:St} {nid:Nat} {rd:List Nat} {sv:SV}
  (h:∀ (C:Ctx) (φ':St) (a:Act) (w:World) (ρ:Rho),C.P=P->Agree φ φ' o nid ⟨rd,sv,[]⟩->RelAt C ρ φ' a w →
   ∃ v,(execOp a.eval o).run P w=.ok (.value v) w/\RSV w C.Sh ρ φ'.heap v sv):ActOk P o φ nid ⟨rd,sv,[]⟩ :=
 .mk λ C φ' a w ρ hP hag R=>by
  obtain ⟨v,hrun,hv⟩:=h C φ' a w ρ hP hag R
  exact ⟨v,w,ρ, .inl hrun,R,hv⟩
theorem constCV_ok (w:World) (Sh:Nat->Prop) (ρ:Rho) (h:Nat->HS) (v:Value) (hv:v.oneCell'=true):RV w Sh ρ h v (constCV v):=by
 unfold constCV
 split
 ·exact .int _ _
 ·exact .bool _
 ·exact .str _
 ·exact .emp _
 ·exact .nilp
 ·exact .nili
 ·exact hv
theorem constSV_ok (w:World) (Sh:Nat->Prop) (ρ:Rho) (h:Nat->HS) (v:Value):RSV w Sh ρ h v (constSV v):=by
 unfold constSV
 split
 ·rename_i vs
  split
  ·rename_i ha
   refine ⟨vs.toList,rfl,by simp,λ i c hc => ?_⟩
   rw[List.getElem?_map]at hc
   cases hu:vs.toList[i]? with
   | none=>rw[hu]at hc;cases hc
   | some u =>
    rw[hu]at hc
    cases hc
    exact ⟨u,rfl,constCV_ok _ _ _ _ _ (List.all_eq_true.1 ha u (List.mem_of_getElem? hu))⟩
  ·trivial
 ·rename_i hn
  cases v with
  | agg vs=>exact absurd rfl (hn vs)
  | tuple vs=>trivial
  | _=>exact RSV.of_one (constCV_ok _ _ _ _ _ rfl)
theorem RelAt.ev {C:Ctx} {ρ:Rho} {φ:St} {a:Act} {w:World} (R:RelAt C ρ φ a w) (x:Operand):RSV w C.Sh ρ φ.heap (a.eval x) (φ.ev x):=by
 cases x with
 | tmp t=>exact R.env t
 | const v=>exact constSV_ok _ _ _ _ _
 | global g =>
  show RSV w C.Sh ρ φ.heap (.pointer (some ⟨g,0,none⟩)) (match Globs.tab g with|some cs=>Fm.one (.ip cs)|none=>Fm.one .dead)
  cases hg:Globs.tab g with
  | none=>trivial
  | some cs=>exact (C.gl g cs hg).1.mono λ k hk=>⟨hk,R.fr.keep k (C.old k hk).1 (C.old k hk).2⟩
 | func f =>
  refine RSV.of_one ?_
  exact ⟨[],rfl,rfl,λ i c hc=>by simp at hc⟩
section elim
variable {w:World} {Sh:Nat->Prop} {ρ:Rho} {h:Nat->HS} {v:Value}
theorem RSV.int {k:IntKind} {n:Int} (hv:RSV w Sh ρ h v (Fm.one (.int k n))):v=.int k n:=by cases hv;rfl
theorem RSV.bool {b:Bool} (hv:RSV w Sh ρ h v (Fm.one (.bool b))):v=.bool b:=by cases hv;rfl
theorem RSV.str {l:List UInt8} (hv:RSV w Sh ρ h v (Fm.one (.str l))):∃ s:ByteArray,v=.string s/\s.data.toList=l:=by cases hv;exact ⟨_,rfl,rfl⟩
theorem SV.kI_elim {x:SV} {K:IntKind->Int->Prop} (h:x.kI K):∃ k n,x=Fm.one (.int k n)/\K k n:=by
 unfold SV.kI at h;split at h
 ·exact ⟨_,_,rfl,h⟩
 ·exact h.elim
theorem SV.kB_elim {x:SV} {K:Bool->Prop} (h:x.kB K):∃ b,x=Fm.one (.bool b)/\K b:=by
 unfold SV.kB at h;split at h
 ·exact ⟨_,rfl,h⟩
 ·exact h.elim
theorem SV.kS_elim {x:SV} {K:List UInt8->Prop} (h:x.kS K):∃ l,x=Fm.one (.str l)/\K l:=by
 unfold SV.kS at h;split at h
 ·exact ⟨_,rfl,h⟩
 ·exact h.elim
theorem SV.kA_elim {x:SV} {K:List CV->Prop} (h:x.kA K):∃ cs,x=.pv (.agg cs)/\K cs:=by
 unfold SV.kA at h;split at h
 ·exact ⟨_,rfl,h⟩
 ·exact h.elim
theorem SV.kT_elim {x:SV} {K:List PV->Prop} (h:x.kT K):∃ ps,x=.tup ps/\K ps:=by
 unfold SV.kT at h;split at h
 ·exact ⟨_,rfl,h⟩
 ·exact h.elim
theorem kO_elim {α:Type} {x:Option α} {K:α->Prop} (h:kO x K):∃ y,x=some y/\K y:=by
 unfold kO at h;split at h
 ·exact ⟨_,rfl,h⟩
 ·exact h.elim
theorem kLive_elim {x:HS} {K:Blk->Prop} (h:kLive x K):∃ y,x=.live y/\K y:=by
 unfold kLive at h;split at h
 ·exact ⟨_,rfl,h⟩
 ·exact h.elim
theorem SV.kPtr_elim {x:SV} {K:Nat->Nat->Prop} {K2:List CV->Prop} (h:x.kPtr K K2):(∃ id off,x=Fm.one (.ptr id off)/\K id off)\/(∃ cs,x=Fm.one (.ip cs)/\K2 cs):=by
 unfold SV.kPtr at h;split at h
 ·exact .inl ⟨_,_,rfl,h⟩
 ·exact .inr ⟨_,rfl,h⟩
 ·exact h.elim
theorem SV.kSl_elim {x:SV} {K:Nat->Nat->Nat->Prop} {K2:Nat->Nat->List CV->Prop} {K3:Prop} (h:x.kSl K K2 K3) :
  (∃ id lo n,x=Fm.one (.arr id lo n)/\K id lo n)\/(∃ sz n cs,x=Fm.one (.imm sz n cs)/\K2 sz n cs)\/(x=Fm.one .emp/\K3):=by
 unfold SV.kSl at h;split at h
 ·exact .inl ⟨_,_,_,rfl,h⟩
 ·exact .inr (.inl ⟨_,_,_,rfl,h⟩)
 ·exact .inr (.inr ⟨rfl,h⟩)
 ·exact h.elim
theorem SV.kC_elim {x:SV} {K:List CV->Prop} (hx:x.kC K):∃ cs,K cs/\∀ (w:World) (Sh:Nat->Prop) (ρ:Rho) (h:Nat->HS) (v:Value),RSV w Sh ρ h v x →
  v.cells.size=cs.length/\∀ (i:Nat) (c:CV),cs[i]? = some c->∃ u:Value,v.cells.toList[i]? = some u/\RV w Sh ρ h u c:=by
 unfold SV.kC at hx;split at hx
 ·exact hx.elim
 ·rename_i c hc
  refine ⟨[c],hx,λ w Sh ρ h v hv => ?_⟩
  have hv':RV w Sh ρ h v c:=by
   cases c<;>first|exact hv|exact absurd rfl hc
  have h1:=hv'.one
  have hcs:v.cells = #[v]:=by cases v<;>simp_all [Value.oneCell',Value.cells]
  rw[hcs]
  refine ⟨rfl,λ i c' hc' => ?_⟩
  cases i with
  | zero=>simp at hc';subst hc';exact ⟨v,rfl,hv'⟩
  | succ i=>simp at hc'
 ·rename_i cs
  refine ⟨cs,hx,λ w Sh ρ h v hv => ?_⟩
  obtain ⟨vs,rfl,hl,hp⟩:=hv
  exact ⟨by simp[Value.cells,hl],λ i c hc=>by simpa [Value.cells] using hp i c hc⟩
 ·exact hx.elim
end elim
section quiet
variable {P:Program} {o:Oper} {φ:St} {nid:Nat}
theorem ok_move {x:Operand} (ho:o.op=.move x\/o.op=.assign x):ActOk P o φ nid ⟨[],φ.ev x,[]⟩ :=
 .quiet λ C φ' a w ρ hP hag R=>by
  refine ⟨a.eval x,?_,?_⟩
  ·rcases ho with ho|ho<;>simp[execOp,ho]
  ·rw[<-hag.env x (by rcases ho with ho|ho<;>simp[ho,Op.operands])];exact R.ev x
theorem ok_pick {c x y:Operand} {b:Bool} (ho:o.op=.pick c x y) (hc:φ.ev c=one (.bool b)):ActOk P o φ nid ⟨[],cond b (φ.ev x) (φ.ev y),[]⟩ :=
 .quiet λ C φ' a w ρ hP hag R=>by
  have e1:=hag.env c (by simp[ho,Op.operands])
  have e2:=hag.env x (by simp[ho,Op.operands])
  have e3:=hag.env y (by simp[ho,Op.operands])
  have hv:=R.ev c
  rw[e1,hc]at hv
  refine ⟨if b then a.eval x else a.eval y,?_,?_⟩
  ·simp[execOp,ho,hv.bool,asBool]
  ·cases b
   ·simpa [<-e3] using R.ev y
   ·simpa [<-e2] using R.ev x
theorem ok_extract {x:Operand} {i:Nat} {ps:List PV} {p:PV} (ho:o.op=.extract x i) (hc:φ.ev x=.tup ps) (hp:ps[i]? = some p):ActOk P o φ nid ⟨[], .pv p,[]⟩ :=
 .quiet λ C φ' a w ρ hP hag R=>by
  have hv:=R.ev x
  rw[hag.env x (by simp[ho,Op.operands]),hc]at hv
  obtain ⟨vs,he,hl,hq⟩:=hv
  obtain ⟨u,hu,hr⟩:=hq i p hp
  refine ⟨u,?_,hr⟩
  simp[execOp,ho,he,Instr.extract,hu]
theorem RSV.of_RI {w:World} {Sh:Nat->Prop} {ρ:Rho} {h:Nat->HS} {v:Value} {c:CV} (hr:RI w Sh v c):RSV w Sh ρ h v (Fm.one c):=by
 cases hr with
 | int k n=>exact RI.int k n
 | bool b=>exact RI.bool b
 | str s=>exact RI.str s
 | imm0 a cap sz=>exact RI.imm0 a cap sz
 | imm b off n cap sz cs vals h1 h2 h3 h4 h5=>exact RI.imm b off n cap sz cs vals h1 h2 h3 h4 h5
 | ip b off cs vals h1 h2 h3=>exact RI.ip b off cs vals h1 h2 h3
 | emp a=>exact RI.emp a
 | opq t v=>exact RI.opq t v
 | nilp=>exact RI.nilp
 | nili=>exact RI.nili
 | ifc t n=>exact RI.ifc t n
 | anyb b n h=>exact RI.anyb b n h
theorem ok_un {u:UnOp} {t:TypeId} {x:Operand} {K:CV->Prop} (ho:o.op=.unOp u t x) (h:kUn u (φ.ev x) K):∃ c,ActOk P o φ nid ⟨[],one c,[]⟩/\K c:=by
 unfold kUn at h
 split at h
 ·rename_i b hb
  cases u<;>simp only at h<;>try exact h.elim
  refine ⟨_, .quiet λ C φ' a w ρ hP hag R => ?_,h⟩
  have hv:=R.ev x
  rw[hag.env x (by simp[ho,Op.operands]),hb]at hv
  exact ⟨_,by simp[execOp,ho,hv.bool,Op.unary], .of_RI (.bool _)⟩
 ·rename_i k n hb
  cases u<;>simp only at h<;>try exact h.elim
  ·refine ⟨_, .quiet λ C φ' a w ρ hP hag R => ?_,h⟩
   have hv:=R.ev x
   rw[hag.env x (by simp[ho,Op.operands]),hb]at hv
   exact ⟨_,by simp[execOp,ho,hv.int,Op.unary,Op.intArith], .of_RI (.int _ _)⟩
  ·refine ⟨_, .quiet λ C φ' a w ρ hP hag R => ?_,h⟩
   have hv:=R.ev x
   rw[hag.env x (by simp[ho,Op.operands]),hb]at hv
   refine ⟨.int k (k.wrap (bytesB k (if k.signed then -1 else k.max) ^^^ bytesB k n).toNat),?_, .of_RI (.int _ _)⟩
   simp only[execOp,ho,hv.int,Op.unary,Op.intBits,Sem.run_bind,Sem.run_pure,Result.andThen_ok,bytesB]
 ·exact h.elim
theorem kindF_underlying {t:TypeId} {e:TypeId} (h:kindF P t=.slice e):P.underlying t=some (.slice e):=by
 unfold kindF at h;split at h<;>first|(cases h;done)|(rename_i h';cases h;exact h')
theorem kindF_tarr {t:TypeId} {n:Nat} {e:TypeId} (h:kindF P t=.tarr n e):P.underlying t=some (.array n e):=by
 unfold kindF at h;split at h<;>first|(cases h;done)|(rename_i h';cases h;exact h')
theorem kindF_str {t:TypeId} (h:kindF P t=.str):P.underlying t=some .string:=by
 unfold kindF at h;split at h<;>first|(cases h;done)|assumption
theorem kindF_bool {t:TypeId} (h:kindF P t=.bool):P.underlying t=some .bool:=by
 unfold kindF at h;split at h<;>first|(cases h;done)|assumption
theorem kindF_int {t:TypeId} {k:IntKind} (h:kindF P t=.int k):P.underlying t=some (.int k):=by
 unfold kindF at h;split at h<;>first|(cases h;done)|(rename_i h';cases h;exact h')
theorem kindF_iface {t:TypeId} (h:kindF P t=.iface):∃ ms,P.underlying t=some (.interface ms):=by
 unfold kindF at h;split at h<;>first|(cases h;done)|exact ⟨_,by assumption⟩
theorem kindF_agg {t:TypeId} (h:kindF P t=.agg):∃ fs,P.underlying t=some (.struct fs):=by
 unfold kindF at h;split at h<;>first|(cases h;done)|exact ⟨_,by assumption⟩
theorem sizeF_run {t:TypeId} {n:Nat} (h:sizeF P t=some n) (w:World):(sizeOf t).run P w=.ok n w:=by
 unfold sizeF at h
 obtain ⟨i,hi,he⟩:=Option.map_eq_some_iff.1 h
 simp[sizeOf,typeInfo,hi,he]
theorem aggF_run {t:TypeId} {b:Bool} (h:aggF P t=some b) (w:World):(isAgg t).run P w=.ok b w:=by
 unfold aggF at h
 obtain ⟨d,hd,he⟩:=Option.map_eq_some_iff.1 h
 simp only[isAgg,Sem.run_bind,run_underlying hd,Result.andThen_ok]
 cases d<;>simp_all
theorem binI_ok {op:BinOp} {k:IntKind} {a b:Int} {K:CV->Prop} (h:binI op k a b K) (t:TypeId) (hs:op≠.shl/\op≠.shr) :
  ∃ c,K c/\∃ v,(∀ w,(binOp op t (.int k a) (.int k b)).run P w=.ok v w)/\∀ w Sh,RI w Sh v c:=by
 cases op<;>simp only[binI]at h
 case add=>exact ⟨_,h, .int k (k.wrap (a+b)),λ w=>by simp[binOp_add,Op.intArith],λ w Sh=>.int _ _⟩
 case sub=>exact ⟨_,h, .int k (k.wrap (a-b)),λ w=>by simp[binOp_sub,Op.intArith],λ w Sh=>.int _ _⟩
 case mul=>exact ⟨_,h, .int k (k.wrap (a*b)),λ w=>by simp[binOp_mul,Op.intArith],λ w Sh=>.int _ _⟩
 case quo=>exact ⟨_,h.2, .int k (k.wrap (a.tdiv b)),λ w=>by simp[binOp_quo,Op.intDiv,h.1],λ w Sh=>.int _ _⟩
 case rem=>exact ⟨_,h.2, .int k (a.tmod b),λ w=>by simp[binOp_rem,Op.intDiv,h.1],λ w Sh=>.int _ _⟩
 case and=>exact ⟨_,h, .int k (k.wrap (bytesB k a &&& bytesB k b).toNat),λ w=>by simp only[binOp_and,Op.intBits,Sem.run_pure,bytesB],λ w Sh=>.int _ _⟩
 case or=>exact ⟨_,h, .int k (k.wrap (bytesB k a ||| bytesB k b).toNat),λ w=>by simp only[binOp_or,Op.intBits,Sem.run_pure,bytesB],λ w Sh=>.int _ _⟩
 case xor=>exact ⟨_,h, .int k (k.wrap (bytesB k a ^^^ bytesB k b).toNat),λ w=>by simp only[binOp_xor,Op.intBits,Sem.run_pure,bytesB],λ w Sh=>.int _ _⟩
 case eql=>exact ⟨_,h, .bool (a==b),λ w=>by simp[binOp_eql],λ w Sh=>.bool _⟩
 case neq=>exact ⟨_,h, .bool (a != b),λ w=>by simp[binOp_neq],λ w Sh=>.bool _⟩
 case lss=>exact ⟨_,h, .bool (a < b),λ w=>by simp[binOp_lss],λ w Sh=>.bool _⟩
 case leq=>exact ⟨_,h, .bool (a<=b),λ w=>by simp[binOp_leq],λ w Sh=>.bool _⟩
 case gtr=>exact ⟨_,h, .bool (a > b),λ w=>by simp[binOp_gtr],λ w Sh=>.bool _⟩
 case geq=>exact ⟨_,h, .bool (a ≥ b),λ w=>by simp[binOp_geq],λ w Sh=>.bool _⟩
theorem eqGuard_ints (op:BinOp) (t:TypeId) (x y:Operand) (k:IntKind) (a:Int) (v:Value) (w:World):(eqGuard op t x y (.int k a) v).run P w=.ok () w:=by
 rw[eqGuard_at_int];rfl
theorem bytes_toList (s:ByteArray):s.toList=s.data.toList:=Lib.toList_data s
theorem ok_bin_int {op:BinOp} {t yt:TypeId} {x y:Operand} {K:CV->Prop} {k k':IntKind} {a b:Int} (ho:o.op=.binOp op t x y yt)
  (hx:φ.ev x=one (.int k a)) (hy:φ.ev y=one (.int k' b)) (h:kBin P op t (one (.int k a)) (one (.int k' b)) K):∃ c,ActOk P o φ nid ⟨[],one c,[]⟩/\K c:=by
 simp only[kBin]at h
 have key:∀ c v,K c->(∀ w,(binOp op t (.int k a) (.int k' b)).run P w=.ok v w)->(∀ w Sh,RI w Sh v c)->∃ c,ActOk P o φ nid ⟨[],one c,[]⟩/\K c:=by
  intro c v hK hr hi
  refine ⟨c, .quiet λ C φ' a w ρ hP hag R=>⟨v,?_, .of_RI (hi _ _)⟩,hK⟩
  have h1:=R.ev x
  have h2:=R.ev y
  rw[hag.env x (by simp[ho,Op.operands]),hx]at h1
  rw[hag.env y (by simp[ho,Op.operands]),hy]at h2
  simp only[execOp,ho,h1.int,h2.int,Sem.run_bind,eqGuard_ints,Result.andThen_ok,hr,Sem.run_pure]
 by_cases hs:op=.shl\/op=.shr
 ·rcases hs with rfl|rfl
  ·simp only[shI]at h
   refine key _ (.int k (k.wrap (a*2 ^ (min b.toNat k.bits)))) h.2 (λ w => ?_) (λ w Sh=>.int _ _)
   simp[binOp_shl,Op.shift,Int.not_lt.2 h.1]
  ·simp only[shI]at h
   refine key _ (.int k (a.fdiv (2 ^ (min b.toNat k.bits)))) h.2 (λ w => ?_) (λ w Sh=>.int _ _)
   simp[binOp_shr,Op.shift,Int.not_lt.2 h.1]
 ·have hs':op≠.shl/\op≠.shr:=⟨λ e=>hs (.inl e),λ e=>hs (.inr e)⟩
  have h2:k=k'/\binI op k a b K:=by
   cases op<;>first|exact h|exact absurd rfl hs'.1|exact absurd rfl hs'.2
  obtain ⟨rfl,h3⟩:=h2
  obtain ⟨c,hK,v,hr,hi⟩:=binI_ok (P:=P) h3 t hs'
  exact key c v hK hr hi
theorem ok_bin_str {op:BinOp} {t yt:TypeId} {x y:Operand} {K:CV->Prop} {a b:List UInt8} (ho:o.op=.binOp op t x y yt)
  (hx:φ.ev x=one (.str a)) (hy:φ.ev y=one (.str b)) (h:kBin P op t (one (.str a)) (one (.str b)) K):∃ c,ActOk P o φ nid ⟨[],one c,[]⟩/\K c:=by
 simp only[kBin]at h
 have key:∀ c,K c->(∀ s1 s2:ByteArray,s1.data.toList=a->s2.data.toList=b->∃ v,(∀ w,(binOp op t (.string s1) (.string s2)).run P w=.ok v w)/\(∀ w Sh,RI w Sh v c))->∃ c,ActOk P o φ nid ⟨[],one c,[]⟩/\K c:=by
  intro c hK hr
  refine ⟨c, .quiet λ C φ' ac w ρ hP hag R => ?_,hK⟩
  have h1:=R.ev x
  have h2:=R.ev y
  rw[hag.env x (by simp[ho,Op.operands]),hx]at h1
  rw[hag.env y (by simp[ho,Op.operands]),hy]at h2
  obtain ⟨s1,e1,l1⟩:=h1.str
  obtain ⟨s2,e2,l2⟩:=h2.str
  obtain ⟨v,hv,hi⟩:=hr s1 s2 l1 l2
  refine ⟨v,?_, .of_RI (hi _ _)⟩
  simp only[execOp,ho,e1,e2,Sem.run_bind,eqGuard_at_string,Sem.run_pure,Result.andThen_ok,hv]
 cases op<;>simp only at h<;>try exact h.elim
 case add =>
  refine key _ h.2 λ s1 s2 l1 l2=>⟨.string (s1++s2),λ w => ?_,λ w Sh => ?_⟩
  ·have e1:s1.size=a.length:=by rw[<-l1,Array.length_toList];rfl
   have e2:s2.size=b.length:=by rw[<-l2,Array.length_toList];rfl
   have h62:a.length+b.length < 2 ^ 62:=h.1
   simp only[binOp,Op.stringOp,e1,e2,IntKind.max_i64]
   rw[if_neg (by omega)]
   rfl
  ·have:=RI.str (w:=w) (Sh:=Sh) (s1++s2)
   rw[ByteArray.data_append,Array.toList_append,l1,l2]at this
   exact this
 case eql =>
  refine key _ h λ s1 s2 l1 l2=>⟨.bool (a==b),λ w => ?_,λ w Sh=>.bool _⟩
  simp only[binOp,Op.stringOp,bytes_toList,l1,l2,Sem.run_pure]
 case neq =>
  refine key _ h λ s1 s2 l1 l2=>⟨.bool (a != b),λ w => ?_,λ w Sh=>.bool _⟩
  simp only[binOp,Op.stringOp,bytes_toList,l1,l2,Sem.run_pure,bne]
theorem ok_field {t:TypeId} {x:Operand} {f:Nat} {q:Nat×TypeId} {size:Nat} {b:Bool} {cs:List CV} (ho:o.op=.field t x f) (hq:foffF P t f=some q)
  (hs:sizeF P q.2=some size) (hb:aggF P q.2=some b) (hx:φ.ev x=.pv (.agg cs)) (hl:q.1+size<=cs.length) (h1:b=false->size=1) :
  ActOk P o φ nid ⟨[], .pv (pvOf b ((cs.drop q.1).take size)),[]⟩ :=
 .quiet λ C φ' a w ρ hP hag R=>by
  have hv:=R.ev x
  rw[hag.env x (by simp[ho,Op.operands]),hx]at hv
  obtain ⟨vs,he,hvl,hp⟩:=hv
  unfold foffF at hq
  split at hq
  ·rename_i fs hu
   obtain ⟨fd,hf,rfl⟩:=Option.map_eq_some_iff.1 hq
   cases b with
   | true =>
    refine ⟨.agg (vs.toArray.extract fd.offset (fd.offset+size)),?_,?_⟩
    ·simp only[execOp,ho,he,Instr.field,Sem.run_bind,run_underlying hu,Result.andThen_ok,hf,asAgg,part,aggF_run hb,sizeF_run hs,if_true,Sem.run_pure]
    ·refine ⟨(vs.drop fd.offset).take size,by simp,by simp;omega,λ i c hc => ?_⟩
     simp only[List.getElem?_take,List.getElem?_drop]at hc ⊢
     split at hc
     ·rename_i hi
      rw[if_pos hi]
      exact hp _ c hc
     ·cases hc
   | false =>
    have hsz:=h1 rfl
    subst hsz
    have hlt:fd.offset < cs.length:=by simp only at hl;omega
    obtain ⟨u,hu',hr⟩:=hp fd.offset cs[fd.offset] (List.getElem?_eq_getElem hlt)
    refine ⟨u,?_,?_⟩
    ·have:vs.toArray[fd.offset]? = some u:=by simpa using hu'
     simp only[execOp,ho,he,Instr.field,Sem.run_bind,run_underlying hu,Result.andThen_ok,hf,asAgg,part,aggF_run hb,Bool.false_eq_true,if_false,this,Sem.run_pure]
    ·have:(cs.drop fd.offset).take 1=[cs[fd.offset]]:=by
      rw[List.drop_eq_getElem_cons hlt];rfl
     simp only[this,pvOf,Bool.false_eq_true,if_false,List.headD_cons]
     exact RSV.of_one hr
  ·cases hq
end quiet
end Go.Fm
namespace Go.Fm
variable [Globs]
variable {P:Program} {o:Oper} {φ:St} {nid:Nat}
theorem fieldPlace_run {fd:Field} {size:Nat} (hs:sizeF P fd.type=some size) (h0:size≠0) (a:Addr) (w:World) :
  (fieldPlace a fd).run P w=.ok (a.add fd.offset) w:=by
 simp[fieldPlace,sizeF_run hs,h0]
theorem add_lit (b o n:Nat):Addr.add ⟨b,o,none⟩ n=⟨b,o+n,none⟩:=Addr.add_lit b o n
theorem RSV.ptr {w:World} {Sh:Nat->Prop} {ρ:Rho} {h:Nat->HS} {v:Value} {id off:Nat} {b:Blk} (hv:RSV w Sh ρ h v (Fm.one (.ptr id off))) (hb:h id=.live b) :
  ∃ L,ρ id=some L/\v=.pointer (some ⟨L.b,L.o+off,none⟩):=by
 have hv':RPtr ρ h v id off:=hv
 unfold RPtr at hv'
 rw[hb]at hv'
 exact hv'
theorem RSV.ip {w:World} {Sh:Nat->Prop} {ρ:Rho} {h:Nat->HS} {v:Value} {cs:List CV} (hv:RSV w Sh ρ h v (Fm.one (.ip cs))):RI w Sh v (.ip cs):=hv
theorem RSV.arr {w:World} {Sh:Nat->Prop} {ρ:Rho} {h:Nat->HS} {v:Value} {id lo n:Nat} {b:Blk} (hv:RSV w Sh ρ h v (Fm.one (.arr id lo n))) (hb:h id=.live b) :
  RArr (ρ id) b.sz b.n v lo n:=by
 have hv':RV w Sh ρ h v (.arr id lo n):=hv
 simp only[RV]at hv'
 rw[hb]at hv'
 exact hv'
theorem RSV.imm {w:World} {Sh:Nat->Prop} {ρ:Rho} {h:Nat->HS} {v:Value} {sz n:Nat} {cs:List CV} (hv:RSV w Sh ρ h v (Fm.one (.imm sz n cs))):RI w Sh v (.imm sz n cs):=hv
theorem RSV.emp {w:World} {Sh:Nat->Prop} {ρ:Rho} {h:Nat->HS} {v:Value} (hv:RSV w Sh ρ h v (Fm.one .emp)):∃ a,v=.slice a 0 0:=by cases hv;exact ⟨_,rfl⟩
theorem RI.ip_drop {w:World} {Sh:Nat->Prop} {b off:Nat} {cs:List CV} (hv:RI w Sh (.pointer (some ⟨b,off,none⟩)) (.ip cs)) (k:Nat):RI w Sh (.pointer (some ⟨b,off+k,none⟩)) (.ip (cs.drop k)):=by
 cases hv with
 | ip _ _ _ vals hs hc hr =>
  refine .ip b (off+k) _ (λ j=>vals (k+j)) hs (λ j hj => ?_) (λ j c hj => ?_)
  ·simp at hj
   rw[Nat.add_assoc]
   exact hc _ (by omega)
  ·rw[List.getElem?_drop]at hj
   exact hr _ _ hj
theorem ok_fieldAddr_ip {t:TypeId} {x:Operand} {f:Nat} {q:Nat×TypeId} {size:Nat} {cs:List CV} (ho:o.op=.fieldAddr t x f) (hq:foffF P t f=some q)
  (hs:sizeF P q.2=some size) (h0:size≠0) (hx:φ.ev x=one (.ip cs)):ActOk P o φ nid ⟨[],one (.ip (cs.drop q.1)),[]⟩ :=
 .quiet λ C φ' a w ρ hP hag R=>by
  have hv:=R.ev x
  rw[hag.env x (by simp[ho,Op.operands]),hx]at hv
  have hv:=hv.ip
  unfold foffF at hq
  split at hq
  ·rename_i fs hu
   obtain ⟨fd,hf,rfl⟩:=Option.map_eq_some_iff.1 hq
   generalize hev:a.eval x=v at hv
   cases hv with
   | ip b off _ vals hsh hc hr =>
    refine ⟨.pointer (some ⟨b,off+fd.offset,none⟩),?_,RSV.of_RI ((RI.ip b off cs vals hsh hc hr).ip_drop _)⟩
    simp only[execOp,ho,hev,Instr.fieldAt,Sem.run_bind,run_underlying hu,Result.andThen_ok,hf,Instr.sureAddr,Sem.run_pure,fieldPlace_run hs h0,add_lit]
  ·cases hq
theorem ok_fieldAddr {t:TypeId} {x:Operand} {f:Nat} {q:Nat×TypeId} {size id off:Nat} {b:Blk} (ho:o.op=.fieldAddr t x f) (hq:foffF P t f=some q)
  (hs:sizeF P q.2=some size) (h0:size≠0) (hx:φ.ev x=one (.ptr id off)) (hb:φ.heap id=.live b):ActOk P o φ nid ⟨[id],one (.ptr id (off+q.1)),[]⟩ :=
 .quiet λ C φ' a w ρ hP hag R=>by
  have hv:=R.ev x
  rw[hag.env x (by simp[ho,Op.operands]),hx]at hv
  have hb':φ'.heap id=.live b:=(hag.hp id (by simp)).trans hb
  obtain ⟨L,hL,he⟩:=hv.ptr hb'
  unfold foffF at hq
  split at hq
  ·rename_i fs hu
   obtain ⟨fd,hf,rfl⟩:=Option.map_eq_some_iff.1 hq
   refine ⟨.pointer (some ⟨L.b,L.o+(off+fd.offset),none⟩),?_,?_⟩
   ·simp only[execOp,ho,he,Instr.fieldAt,Sem.run_bind,run_underlying hu,Result.andThen_ok,hf,Instr.sureAddr,Sem.run_pure,fieldPlace_run hs h0,add_lit,Nat.add_assoc]
   ·show RPtr ρ φ'.heap _ id (off+fd.offset)
    unfold RPtr
    rw[hb']
    exact ⟨L,hL,rfl⟩
  ·cases hq
theorem ok_nilCheck_ip {x:Operand} {cs:List CV} (ho:o.op=.nilCheck x) (hx:φ.ev x=one (.ip cs)):ActOk P o φ nid ⟨[],one (.ip cs),[]⟩ :=
 .quiet λ C φ' a w ρ hP hag R=>by
  have hv:=R.ev x
  rw[hag.env x (by simp[ho,Op.operands]),hx]at hv
  refine ⟨a.eval x,?_,hv⟩
  have hv:=hv.ip
  generalize he:a.eval x=v at hv
  cases hv with
  | ip b off _ vals hsh hc hr=>simp[execOp,ho,he]
theorem ok_nilCheck {x:Operand} {id off:Nat} {b:Blk} (ho:o.op=.nilCheck x) (hx:φ.ev x=one (.ptr id off)) (hb:φ.heap id=.live b):ActOk P o φ nid ⟨[id],one (.ptr id off),[]⟩ :=
 .quiet λ C φ' a w ρ hP hag R=>by
  have hv:=R.ev x
  rw[hag.env x (by simp[ho,Op.operands]),hx]at hv
  have hb':φ'.heap id=.live b:=(hag.hp id (by simp)).trans hb
  refine ⟨a.eval x,?_,hv⟩
  obtain ⟨L,hL,he⟩:=hv.ptr hb'
  simp[execOp,ho,he]
theorem load_run {t:TypeId} {size:Nat} {b:Bool} (hs:sizeF P t=some size) (hb:aggF P t=some b) (h1:b=false->size=1) {w:World} {Sh:Nat->Prop} {ρ:Rho} {h:Nat->HS}
  (B off:Nat) (cs:List CV) (hl:cs.length=size) (hc:∀ j c,cs[j]? = some c->∃ u,w.cell? ⟨B,off+j,none⟩=some u/\RV w Sh ρ h u c) :
  ∃ v,(loadVar t ⟨B,off,none⟩).run P w=.ok v w/\RSV w Sh ρ h v (.pv (pvOf b cs)):=by
 cases b with
 | true =>
  have hf:∀ j,∃ u,j < size->w.cell? ⟨B,off+j,none⟩=some u/\∀ c,cs[j]? = some c->RV w Sh ρ h u c:=by
   intro j
   by_cases hj:j < size
   ·obtain ⟨u,hu,hr⟩:=hc j cs[j] (List.getElem?_eq_getElem (by omega))
    exact ⟨u,λ _=>⟨hu,λ c hc'=>by rw[List.getElem?_eq_getElem (by omega)]at hc';cases hc';exact hr⟩⟩
   ·exact ⟨undef,λ h=>absurd h hj⟩
  obtain ⟨f,hf⟩:=Classical.axiomOfChoice hf
  refine ⟨.agg ((List.range size).map f).toArray,?_,(List.range size).map f,rfl,by simp[hl],λ i c hi => ?_⟩
  ·simp only[loadVar,Sem.run_bind,aggF_run hb,Result.andThen_ok,if_true,sizeF_run hs]
   rw[run_loadCells w ⟨B,off,none⟩ size f (λ j hj=>by rw[add_lit];exact (hf j hj).1)]
   simp
  ·have hi':i < size:=by rw[<-hl];exact (List.getElem?_eq_some_iff.1 hi).1
   exact ⟨f i,by simp[hi'],(hf i hi').2 c hi⟩
 | false =>
  have hsz:=h1 rfl
  subst hsz
  obtain ⟨c,rfl⟩:=List.length_eq_one_iff.1 hl
  obtain ⟨u,hu,hr⟩:=hc 0 c rfl
  refine ⟨u,?_,?_⟩
  ·simp only[Nat.add_zero]at hu
   simp only[loadVar,Sem.run_bind,aggF_run hb,Result.andThen_ok,Bool.false_eq_true,if_false,run_load,hu]
  ·simp only[pvOf,Bool.false_eq_true,if_false,List.headD_cons]
   exact RSV.of_one hr
theorem RV.of_RI {w:World} {Sh:Nat->Prop} {ρ:Rho} {h:Nat->HS} {v:Value} {c:CV} (hr:RI w Sh v c):RV w Sh ρ h v c:=by
 cases hr with
 | int k n=>exact RI.int k n
 | bool b=>exact RI.bool b
 | str s=>exact RI.str s
 | imm0 a cap sz=>exact RI.imm0 a cap sz
 | imm b off n cap sz cs vals h1 h2 h3 h4 h5=>exact RI.imm b off n cap sz cs vals h1 h2 h3 h4 h5
 | ip b off cs vals h1 h2 h3=>exact RI.ip b off cs vals h1 h2 h3
 | emp a=>exact RI.emp a
 | opq t v=>exact RI.opq t v
 | nilp=>exact RI.nilp
 | nili=>exact RI.nili
 | ifc t n=>exact RI.ifc t n
 | anyb b n h=>exact RI.anyb b n h
theorem ok_load {t:TypeId} {x:Operand} {size id off:Nat} {b:Bool} {bl:Blk} (ho:o.op=.load t x) (hs:sizeF P t=some size) (hb:aggF P t=some b) (h1:b=false->size=1)
  (hx:φ.ev x=one (.ptr id off)) (hl:φ.heap id=.live bl) (hle:off+size<=bl.cs.length):ActOk P o φ nid ⟨[id], .pv (pvOf b ((bl.cs.drop off).take size)),[]⟩ :=
 .quiet λ C φ' a w ρ hP hag R=>by
  have hv:=R.ev x
  rw[hag.env x (by simp[ho,Op.operands]),hx]at hv
  have hl':φ'.heap id=.live bl:=(hag.hp id (by simp)).trans hl
  obtain ⟨L,hL,he⟩:=hv.ptr hl'
  have hrb:=R.hp.blk id bl hl'
  unfold RB at hrb
  rw[hL]at hrb
  obtain ⟨q1,q2,q3,q4⟩:=hrb
  obtain ⟨v,hrun,hr⟩:=load_run (P:=P) hs hb h1 (w:=w) (Sh:=C.Sh) (ρ:=ρ) (h:=φ'.heap) L.b (L.o+off) ((bl.cs.drop off).take size) (by simp;omega) (λ j c hc=>by
   rw[List.getElem?_take]at hc
   split at hc
   ·rw[List.getElem?_drop]at hc
    rw[Nat.add_assoc]
    exact q4 _ c hc
   ·cases hc)
  refine ⟨v,?_,hr⟩
  simp only[execOp,ho,he,Instr.loadAt,Instr.sureAddr,Sem.run_bind,Sem.run_pure,Result.andThen_ok,hrun]
theorem ok_load_ip {t:TypeId} {x:Operand} {size:Nat} {b:Bool} {cs:List CV} (ho:o.op=.load t x) (hs:sizeF P t=some size) (hb:aggF P t=some b) (h1:b=false->size=1)
  (hx:φ.ev x=one (.ip cs)) (hle:size<=cs.length):ActOk P o φ nid ⟨[], .pv (pvOf b (cs.take size)),[]⟩ :=
 .quiet λ C φ' a w ρ hP hag R=>by
  have hv:=R.ev x
  rw[hag.env x (by simp[ho,Op.operands]),hx]at hv
  have hv:=hv.ip
  generalize he:a.eval x=v at hv
  cases hv with
  | ip B off _ vals hsh hc hr =>
   obtain ⟨v,hrun,hr⟩:=load_run (P:=P) hs hb h1 (w:=w) (Sh:=C.Sh) (ρ:=ρ) (h:=φ'.heap) B off (cs.take size) (by simp;omega) (λ j c hj=>by
    rw[List.getElem?_take]at hj
    split at hj
    ·exact ⟨vals j,hc j (List.getElem?_eq_some_iff.1 hj).1, .of_RI (hr j c hj)⟩
    ·cases hj)
   refine ⟨v,?_,hr⟩
   simp only[execOp,ho,he,Instr.loadAt,Instr.sureAddr,Sem.run_bind,Sem.run_pure,Result.andThen_ok,hrun]
theorem ok_index_str {t:TypeId} {x ix:Operand} {l:List UInt8} {k:IntKind} {i:Int} (ho:o.op=.index t x ix) (ht:kindF P t=.str)
  (hx:φ.ev x=one (.str l)) (hi:φ.ev ix=one (.int k i)) (h0:0<=i/\i < l.length):ActOk P o φ nid ⟨[],one (.int .u8 (l.getD i.toNat 0).toNat),[]⟩ :=
 .quiet λ C φ' a w ρ hP hag R=>by
  have hv:=R.ev x
  rw[hag.env x (by simp[ho,Op.operands]),hx]at hv
  have hw:=R.ev ix
  rw[hag.env ix (by simp[ho,Op.operands]),hi]at hw
  obtain ⟨s,he,hs⟩:=hv.str
  have hlen:i.toNat < s.size:=by
   have:s.size=l.length:=by rw[<-hs,Array.length_toList];rfl
   omega
  refine ⟨.int .u8 (l.getD i.toNat 0).toNat,?_, .of_RI (.int _ _)⟩
  have hg:s[i.toNat]? = some (l.getD i.toNat 0):=by
   rw[getElem?_pos s i.toNat hlen]
   subst hs
   have h2:i.toNat < s.data.toList.length:=by rw[Array.length_toList];exact hlen
   rw[List.getD_eq_getElem?_getD,List.getElem?_eq_getElem h2]
   rfl
  simp only[execOp,ho,he,hw.int,Instr.index,asIntOf,Sem.run_bind,Sem.run_pure,Result.andThen_ok,run_underlying (kindF_str ht),if_pos h0.1,hg]
theorem ok_indexAddr {t e:TypeId} {x ix:Operand} {k:IntKind} {i:Int} {id lo n size:Nat} {b:Blk} (ho:o.op=.indexAddr t x ix) (ht:kindF P t=.slice e) (hs:sizeF P e=some size)
  (hx:φ.ev x=one (.arr id lo n)) (hi:φ.ev ix=one (.int k i)) (hb:φ.heap id=.live b) (hz:b.sz=size) (h0:0<=i/\i < n):ActOk P o φ nid ⟨[id],one (.ptr id ((lo+i.toNat)*size)),[]⟩ :=
 .quiet λ C φ' a w ρ hP hag R=>by
  have hv:=R.ev x
  rw[hag.env x (by simp[ho,Op.operands]),hx]at hv
  have hw:=R.ev ix
  rw[hag.env ix (by simp[ho,Op.operands]),hi]at hw
  have hb':φ'.heap id=.live b:=(hag.hp id (by simp)).trans hb
  have hr:=hv.arr hb'
  cases hL:ρ id with
  | none=>rw[hL]at hr;obtain ⟨h,_⟩:=hr;omega
  | some L =>
   rw[hL]at hr
   rcases hr with ⟨cap,he,h1,h2,h3⟩|⟨h,_⟩
   ·refine ⟨.pointer (some ⟨L.b,L.o+(lo+i.toNat)*size,none⟩),?_,?_⟩
    ·simp only[execOp,ho,he,hw.int,run_indexAt_slice,Instr.indexAt,asIntOf,Sem.run_bind,Sem.run_pure,Result.andThen_ok,run_underlying (kindF_underlying ht),if_pos h0,sizeF_run hs,add_lit,hz]
     simp[h0,Nat.add_mul,Nat.add_assoc,sizeF_run hs,add_lit]
    ·show RPtr ρ φ'.heap _ id _
     unfold RPtr
     rw[hb']
     exact ⟨L,hL,rfl⟩
   ·omega
theorem ok_indexAddr_imm {t e:TypeId} {x ix:Operand} {k:IntKind} {i:Int} {sz n size:Nat} {cs:List CV} (ho:o.op=.indexAddr t x ix) (ht:kindF P t=.slice e) (hs:sizeF P e=some size)
  (hx:φ.ev x=one (.imm sz n cs)) (hi:φ.ev ix=one (.int k i)) (hz:sz=size) (h0:0<=i/\i < n):ActOk P o φ nid ⟨[],one (.ip (cs.drop (i.toNat*size))),[]⟩ :=
 .quiet λ C φ' a w ρ hP hag R=>by
  have hv:=R.ev x
  rw[hag.env x (by simp[ho,Op.operands]),hx]at hv
  have hw:=R.ev ix
  rw[hag.env ix (by simp[ho,Op.operands]),hi]at hw
  have hv:=hv.imm
  subst hz
  generalize he:a.eval x=v at hv
  cases hv with
  | imm0 a cap=>omega
  | imm B off _ cap _ _ vals hsh hnc hl hc hr =>
   refine ⟨.pointer (some ⟨B,off+i.toNat*sz,none⟩),?_,RSV.of_RI ((RI.ip B off cs vals hsh hc hr).ip_drop _)⟩
   simp only[execOp,ho,he,hw.int,Instr.indexAt,asIntOf,Sem.run_bind,Sem.run_pure,Result.andThen_ok,run_underlying (kindF_underlying ht)]
   simp[h0,sizeF_run hs,add_lit]
theorem ok_indexAddr_tip {t e:TypeId} {x ix:Operand} {k:IntKind} {i:Int} {n size:Nat} {cs:List CV} (ho:o.op=.indexAddr t x ix) (ht:kindF P t=.tarr n e) (hs:sizeF P e=some size)
  (hx:φ.ev x=one (.ip cs)) (hi:φ.ev ix=one (.int k i)) (h0:0<=i/\i < n):ActOk P o φ nid ⟨[],one (.ip (cs.drop (i.toNat*size))),[]⟩ :=
 .quiet λ C φ' a w ρ hP hag R=>by
  have hv:=R.ev x
  rw[hag.env x (by simp[ho,Op.operands]),hx]at hv
  have hw:=R.ev ix
  rw[hag.env ix (by simp[ho,Op.operands]),hi]at hw
  have hv:=hv.ip
  generalize he:a.eval x=v at hv
  cases hv with
  | ip b off _ vals hsh hc hr =>
   refine ⟨.pointer (some ⟨b,off+i.toNat*size,none⟩),?_,RSV.of_RI ((RI.ip b off cs vals hsh hc hr).ip_drop _)⟩
   simp only[execOp,ho,he,hw.int,Instr.indexAt,asIntOf,Sem.run_bind,Sem.run_pure,Result.andThen_ok,run_underlying (kindF_tarr ht),Instr.sureAddr]
   simp[h0,sizeF_run hs,add_lit]
theorem ok_indexAddr_tptr {t e:TypeId} {x ix:Operand} {k:IntKind} {i:Int} {n size id off:Nat} {b:Blk} (ho:o.op=.indexAddr t x ix) (ht:kindF P t=.tarr n e) (hs:sizeF P e=some size)
  (hx:φ.ev x=one (.ptr id off)) (hi:φ.ev ix=one (.int k i)) (hb:φ.heap id=.live b) (h0:0<=i/\i < n):ActOk P o φ nid ⟨[id],one (.ptr id (off+i.toNat*size)),[]⟩ :=
 .quiet λ C φ' a w ρ hP hag R=>by
  have hv:=R.ev x
  rw[hag.env x (by simp[ho,Op.operands]),hx]at hv
  have hw:=R.ev ix
  rw[hag.env ix (by simp[ho,Op.operands]),hi]at hw
  have hb':φ'.heap id=.live b:=(hag.hp id (by simp)).trans hb
  obtain ⟨L,hL,he⟩:=hv.ptr hb'
  refine ⟨.pointer (some ⟨L.b,L.o+(off+i.toNat*size),none⟩),?_,?_⟩
  ·simp only[execOp,ho,he,hw.int,Instr.indexAt,asIntOf,Sem.run_bind,Sem.run_pure,Result.andThen_ok,run_underlying (kindF_tarr ht),Instr.sureAddr]
   simp[h0,sizeF_run hs,add_lit,Nat.add_assoc]
  ·show RPtr ρ φ'.heap _ id (off+i.toNat*size)
   unfold RPtr
   rw[hb']
   exact ⟨L,hL,rfl⟩
end Go.Fm
namespace Go.Fm
variable [Globs]
variable {P:Program} {o:Oper} {φ:St} {nid:Nat}
theorem bd_elim {x:Option Operand} {d:Nat} {K:Int->Prop} (h:φ.bd x d K):∃ i:Int,K i/\((x=none/\i=d)\/∃ y k,x=some y/\φ.ev y=one (.int k i)):=by
 unfold St.bd at h
 split at h
 ·exact ⟨d,h, .inl ⟨rfl,rfl⟩⟩
 ·rename_i y
  obtain ⟨k,n,hy,hK⟩:=SV.kI_elim h
  exact ⟨n,hK, .inr ⟨y,k,rfl,hy⟩⟩
theorem sliceBound_run {k:IntKind} {i:Int} {y:Nat} {code:BoundsCode} (h:0<=i/\i<=y) (w:World):(Instr.sliceBound (.int k i) y code).run P w=.ok i.toNat w:=by
 simp[Instr.sliceBound,asIntOf,h]
theorem bounds_run {isS:Bool} {len cap:Nat} {lo hi:Option Operand} {a b:Int} {ac:Act} {w:World}
  (ha:(lo=none/\a=0)\/∃ y k,lo=some y/\ac.eval y=.int k a) (hb:(hi=none/\b=len)\/∃ y k,hi=some y/\ac.eval y=.int k b)
  (h0:0<=a) (hab:a<=b) (hbn:b<=cap) :
  (Instr.sliceBounds isS len cap (lo.map ac.eval) (hi.map ac.eval) none).run P w=.ok (a.toNat,b.toNat,cap) w:=by
 unfold Instr.sliceBounds
 have s1:∀ (k:IntKind) (code:BoundsCode),(Instr.sliceBound (.int k b) cap code).run P w=.ok b.toNat w:=λ k code=>sliceBound_run ⟨by omega,hbn⟩ w
 have s2:∀ (k:IntKind) (code:BoundsCode),(Instr.sliceBound (.int k a) b.toNat code).run P w=.ok a.toNat w:=λ k code=>sliceBound_run ⟨h0,by omega⟩ w
 rcases ha with ⟨rfl,rfl⟩|⟨y,k,rfl,hy⟩
 ·rcases hb with ⟨rfl,rfl⟩|⟨y2,k2,rfl,hy2⟩
  ·simp
  ·simp[hy2,s1]
 ·rcases hb with ⟨rfl,rfl⟩|⟨y2,k2,rfl,hy2⟩
  ·simp only[Int.toNat_natCast]at s2
   simp[hy,s2]
  ·simp[hy,hy2,s1,s2]
theorem bd_ok {C:Ctx} {φ':St} {ac:Act} {w:World} {ρ:Rho} (R:RelAt C ρ φ' ac w) {x:Option Operand} {d:Nat} {i:Int}
  (hag:∀ y,x=some y->φ'.ev y=φ.ev y) (h:(x=none/\i=d)\/∃ y k,x=some y/\φ.ev y=one (.int k i)) :
  (x=none/\i=d)\/∃ y k,x=some y/\ac.eval y=.int k i:=by
 rcases h with h|⟨y,k,h1,h2⟩
 ·exact .inl h
 ·refine .inr ⟨y,k,h1,?_⟩
  have hv:=R.ev y
  rw[hag y h1,h2]at hv
  exact hv.int
theorem ok_slice_str {t:TypeId} {x:Operand} {lo hi:Option Operand} {l:List UInt8} {a b:Int} (ho:o.op=.slice t x lo hi none) (ht:kindF P t=.str)
  (hx:φ.ev x=one (.str l)) (ha:(lo=none/\a=(0:Nat))\/∃ y k,lo=some y/\φ.ev y=one (.int k a)) (hb:(hi=none/\b=l.length)\/∃ y k,hi=some y/\φ.ev y=one (.int k b))
  (h:0<=a/\a<=b/\b<=l.length):ActOk P o φ nid ⟨[],one (.str ((l.drop a.toNat).take (b.toNat-a.toNat))),[]⟩ :=
 .quiet λ C φ' ac w ρ hP hag R=>by
  have hv:=R.ev x
  rw[hag.env x (by simp[ho,Op.operands]),hx]at hv
  obtain ⟨s,he,hs⟩:=hv.str
  have hsz:s.size=l.length:=by rw[<-hs,Array.length_toList];rfl
  have ha':=bd_ok R (λ y hy=>hag.env y (by simp[ho,Op.operands,hy])) ha
  have hb':=bd_ok R (λ y hy=>hag.env y (by simp[ho,Op.operands,hy])) hb
  refine ⟨.string (s.extract a.toNat b.toNat),?_,?_⟩
  ·have hr:=bounds_run (P:=P) (isS:=false) (len:=s.size) (cap:=s.size) (w:=w) (by simpa using ha') (by rw[hsz];exact hb') h.1 h.2.1 (by rw[hsz];exact h.2.2)
   simp only[execOp,ho,he,Instr.sliceAt,Instr.slice,Sem.run_bind,run_underlying (kindF_str ht),Result.andThen_ok,Option.map_none,Option.isSome_none,Bool.false_eq_true,if_false,Sem.run_pure,Sem.run_ite]
   rw[hr]
   rfl
  ·have:=RI.str (w:=w) (Sh:=C.Sh) (s.extract a.toNat b.toNat)
   rw[ByteArray.data_extract,Array.toList_extract,hs]at this
   have e:(l.extract a.toNat b.toNat)=(l.drop a.toNat).take (b.toNat-a.toNat):=by simp[List.extract_eq_take_drop]
   rw[e]at this
   exact .of_RI this
theorem RArr.view {L:Option Loc} {sz bn lo n:Nat} {v:Value} (h:RArr L sz bn v lo n):∃ a cap,v=.slice a n cap/\n<=cap ∧
  (∀ (l hgh:Nat),l<=hgh->hgh<=n->∀ a',a'=(if cap=l then a else a.map (·.add (l*sz)))->RArr L sz bn (.slice a' (hgh-l) (cap-l)) (lo+l) (hgh-l)):=by
 cases L with
 | none =>
  obtain ⟨rfl,a,rfl⟩:=h
  refine ⟨a,0,rfl,Nat.le_refl _,λ l hgh h1 h2 a' _=>⟨by omega,a',?_⟩⟩
  have h3:hgh=0:=by omega
  have h4:l=0:=by omega
  simp[h3,h4]
 | some L =>
  rcases h with ⟨cap,rfl,h1,h2,h3,h4⟩|⟨rfl,h4,a,rfl⟩
  ·refine ⟨_,cap,rfl,h1,λ l hgh hl hh a' ha' => ?_⟩
   by_cases e:cap=l
   ·right
    refine ⟨by omega,by omega,a',?_⟩
    rw[show hgh-l=0 by omega,show cap-l=0 by omega]
   ·left
    rw[if_neg e]at ha'
    refine ⟨cap-l,?_,by omega,?_,by omega,by omega⟩
    ·rw[ha']
     simp only[Option.map_some,add_lit,Nat.add_mul,Nat.add_assoc]
    ·rw[show lo+l+(cap-l)=lo+cap by omega];exact h2
  ·refine ⟨a,0,rfl,Nat.le_refl _,λ l hgh h1 h2 a' _=>.inr ⟨by omega,by omega,a',?_⟩⟩
   rw[show hgh-l=0 by omega,show 0-l=0 by omega]
theorem slice_run {t e:TypeId} {size:Nat} (ht:kindF P t=.slice e) (hs:sizeF P e=some size) {A:Option Addr} {n cap:Nat} {lo hi:Option Operand} {a b:Int} {ac:Act} {w:World} (hnc:n<=cap)
  (ha:(lo=none/\a=(0:Nat))\/∃ y k,lo=some y/\ac.eval y=.int k a) (hb:(hi=none/\b=n)\/∃ y k,hi=some y/\ac.eval y=.int k b) (h:0<=a/\a<=b/\b<=n) :
  (Instr.sliceAt t (.slice A n cap) (lo.map ac.eval) (hi.map ac.eval) none).run P w =
   .ok (.slice (if cap=a.toNat then A else A.map (·.add (a.toNat*size))) (b.toNat-a.toNat) (cap-a.toNat)) w:=by
 have hr:=bounds_run (P:=P) (isS:=true) (len:=n) (cap:=cap) (w:=w) (by simpa using ha) hb h.1 h.2.1 (by omega)
 simp only[Instr.sliceAt,Instr.slice,Sem.run_bind,run_underlying (kindF_underlying ht),Result.andThen_ok,hr,sizeF_run hs,Sem.run_pure]
theorem ok_slice_arr {t e:TypeId} {x:Operand} {lo hi:Option Operand} {id l n size:Nat} {bl:Blk} {a b:Int} (ho:o.op=.slice t x lo hi none) (ht:kindF P t=.slice e) (hs:sizeF P e=some size)
  (hx:φ.ev x=one (.arr id l n)) (hb0:φ.heap id=.live bl) (hz:bl.sz=size) (ha:(lo=none/\a=(0:Nat))\/∃ y k,lo=some y/\φ.ev y=one (.int k a)) (hb:(hi=none/\b=n)\/∃ y k,hi=some y/\φ.ev y=one (.int k b))
  (h:0<=a/\a<=b/\b<=n):ActOk P o φ nid ⟨[id],one (.arr id (l+a.toNat) (b.toNat-a.toNat)),[]⟩ :=
 .quiet λ C φ' ac w ρ hP hag R=>by
  have hv:=R.ev x
  rw[hag.env x (by simp[ho,Op.operands]),hx]at hv
  have hb':φ'.heap id=.live bl:=(hag.hp id (by simp)).trans hb0
  have hr:=hv.arr hb'
  rw[hz]at hr
  obtain ⟨A,cap,he,hnc,hview⟩:=hr.view
  have ha2:=bd_ok R (λ y hy=>hag.env y (by simp[ho,Op.operands,hy])) ha
  have hb2:=bd_ok R (λ y hy=>hag.env y (by simp[ho,Op.operands,hy])) hb
  refine ⟨.slice (if cap=a.toNat then A else A.map (·.add (a.toNat*size))) (b.toNat-a.toNat) (cap-a.toNat),?_,?_⟩
  ·simp only[execOp,ho,he,Sem.run_bind]
   rw[Option.map_none,slice_run ht hs hnc ha2 hb2 h]
   rfl
  ·have h2:=hview a.toNat b.toNat (by omega) (by omega) _ rfl
   refine RSV.of_one ?_
   simp only[RV,hb']
   rw[hz]
   exact h2
theorem ok_slice_imm {t e:TypeId} {x:Operand} {lo hi:Option Operand} {sz n size:Nat} {cs:List CV} {a b:Int} (ho:o.op=.slice t x lo hi none) (ht:kindF P t=.slice e) (hs:sizeF P e=some size)
  (hx:φ.ev x=one (.imm sz n cs)) (hz:sz=size) (ha:(lo=none/\a=(0:Nat))\/∃ y k,lo=some y/\φ.ev y=one (.int k a)) (hb:(hi=none/\b=n)\/∃ y k,hi=some y/\φ.ev y=one (.int k b))
  (h:0<=a/\a<=b/\b<=n):ActOk P o φ nid ⟨[],one (.imm sz (b.toNat-a.toNat) ((cs.drop (a.toNat*sz)).take ((b.toNat-a.toNat)*sz))),[]⟩ :=
 .quiet λ C φ' ac w ρ hP hag R=>by
  have hv:=R.ev x
  rw[hag.env x (by simp[ho,Op.operands]),hx]at hv
  have hv:=hv.imm
  have ha2:=bd_ok R (λ y hy=>hag.env y (by simp[ho,Op.operands,hy])) ha
  have hb2:=bd_ok R (λ y hy=>hag.env y (by simp[ho,Op.operands,hy])) hb
  subst hz
  generalize he:ac.eval x=v at hv
  cases hv with
  | imm0 A cap =>
   refine ⟨.slice (if cap=0 then A else A.map (·.add (0*sz))) 0 cap,?_,?_⟩
   ·have ea:a=0:=by omega
    have eb:b=0:=by omega
    subst ea eb
    simp only[execOp,ho,he,Sem.run_bind]
    rw[Option.map_none,slice_run ht hs (Nat.zero_le _) ha2 hb2 h]
    rfl
   ·have:((([]:List CV).drop (a.toNat*sz)).take ((b.toNat-a.toNat)*sz))=[]:=by simp
    rw[this,show b.toNat-a.toNat=0 by omega]
    exact .of_RI (.imm0 _ _ _)
  | imm B off _ cap _ _ vals hsh hnc hl hc hr =>
   refine ⟨.slice (if cap=a.toNat then some ⟨B,off,none⟩ else (some ⟨B,off,none⟩:Option Addr).map (·.add (a.toNat*sz))) (b.toNat-a.toNat) (cap-a.toNat),?_,?_⟩
   ·simp only[execOp,ho,he,Sem.run_bind]
    rw[Option.map_none,slice_run ht hs hnc ha2 hb2 h]
    rfl
   ·by_cases h0:b.toNat-a.toNat=0
    ·rw[h0]
     simp only[Nat.zero_mul,List.take_zero]
     exact .of_RI (.imm0 _ _ _)
    ·rw[if_neg (by omega)]
     simp only[Option.map_some,add_lit]
     have hm:a.toNat*sz+(b.toNat-a.toNat)*sz<=cs.length:=by
      rw[hl,<-Nat.add_mul];exact Nat.mul_le_mul_right _ (by omega)
     refine .of_RI (.imm B _ _ _ sz _ (λ j=>vals (a.toNat*sz+j)) hsh (by omega) (by simp;omega) (λ j hj => ?_) (λ j c hj => ?_))
     ·simp at hj
      rw[Nat.add_assoc]
      exact hc _ (by omega)
     ·rw[List.getElem?_take]at hj
      split at hj
      ·rw[List.getElem?_drop]at hj;exact hr _ _ hj
      ·cases hj
theorem ok_slice_emp {t e:TypeId} {x:Operand} {lo hi:Option Operand} {size:Nat} {a b:Int} (ho:o.op=.slice t x lo hi none) (ht:kindF P t=.slice e) (hs:sizeF P e=some size)
  (hx:φ.ev x=one .emp) (ha:(lo=none/\a=(0:Nat))\/∃ y k,lo=some y/\φ.ev y=one (.int k a)) (hb:(hi=none/\b=(0:Nat))\/∃ y k,hi=some y/\φ.ev y=one (.int k b))
  (h:a=0/\b=0):ActOk P o φ nid ⟨[],one .emp,[]⟩ :=
 .quiet λ C φ' ac w ρ hP hag R=>by
  have hv:=R.ev x
  rw[hag.env x (by simp[ho,Op.operands]),hx]at hv
  obtain ⟨A,he⟩:=hv.emp
  obtain ⟨rfl,rfl⟩:=h
  have ha2:=bd_ok R (λ y hy=>hag.env y (by simp[ho,Op.operands,hy])) ha
  have hb2:=bd_ok R (λ y hy=>hag.env y (by simp[ho,Op.operands,hy])) hb
  refine ⟨.slice A 0 0,?_, .of_RI (.emp _)⟩
  simp only[execOp,ho,he,Sem.run_bind]
  rw[Option.map_none,slice_run ht hs (Nat.le_refl 0) ha2 hb2 (by omega)]
  rfl
theorem ok_slice_tptr {t e:TypeId} {x:Operand} {lo hi:Option Operand} {id m size:Nat} {bl:Blk} {a b:Int} (ho:o.op=.slice t x lo hi none) (ht:kindF P t=.tarr m e) (hs:sizeF P e=some size)
  (hx:φ.ev x=one (.ptr id 0)) (hb0:φ.heap id=.live bl) (hz:bl.sz=size) (hn:bl.n=m) (ha:(lo=none/\a=(0:Nat))\/∃ y k,lo=some y/\φ.ev y=one (.int k a)) (hb:(hi=none/\b=m)\/∃ y k,hi=some y/\φ.ev y=one (.int k b))
  (h:0<=a/\a<=b/\b<=m):ActOk P o φ nid ⟨[id],one (.arr id a.toNat (b.toNat-a.toNat)),[]⟩ :=
 .quiet λ C φ' ac w ρ hP hag R=>by
  have hv:=R.ev x
  rw[hag.env x (by simp[ho,Op.operands]),hx]at hv
  have hb':φ'.heap id=.live bl:=(hag.hp id (by simp)).trans hb0
  obtain ⟨L,hL,he⟩:=hv.ptr hb'
  have hrb:=R.hp.blk id bl hb'
  unfold RB at hrb
  rw[hL]at hrb
  obtain ⟨q1,q2,_,_⟩:=hrb
  rw[hz,hn]at q1
  have ha2:=bd_ok R (λ y hy=>hag.env y (by simp[ho,Op.operands,hy])) ha
  have hb2:=bd_ok R (λ y hy=>hag.env y (by simp[ho,Op.operands,hy])) hb
  have hr:=bounds_run (P:=P) (isS:=false) (len:=m) (cap:=m) (w:=w) (by simpa using ha2) hb2 h.1 h.2.1 h.2.2
  refine ⟨.slice (some (if m=a.toNat then ⟨L.b,L.o,none⟩ else (⟨L.b,L.o,none⟩:Addr).add (a.toNat*size))) (b.toNat-a.toNat) (m-a.toNat),?_,?_⟩
  ·simp only[execOp,ho,he,Nat.add_zero,Instr.sliceAt,Instr.sureAddr,Sem.run_bind,run_underlying (kindF_tarr ht),Result.andThen_ok,Option.map_none,hr,sizeF_run hs,Sem.run_pure]
  ·refine RSV.of_one ?_
   simp only[RV,hb',hL,hz]
   by_cases e:m=a.toNat
   ·right
    refine ⟨by omega,by omega,some ⟨L.b,L.o,none⟩,?_⟩
    rw[if_pos e,show b.toNat-a.toNat=0 by omega,show m-a.toNat=0 by omega]
   ·left
    rw[if_neg e]
    refine ⟨m-a.toNat,by rw[add_lit],by omega,?_,by omega,by omega⟩
    rw[show a.toNat+(m-a.toNat)=m by omega]
    omega
theorem capsOf_elim:∀ {l:List Operand} {K:List CV->Prop},capsOf φ l K->∃ cs,K cs/\cs.length=l.length/\∀ (i:Nat) (c:CV),cs[i]? = some c->∃ x id off,l[i]? = some x/\φ.ev x=one (.ptr id off)/\c=CV.ptr id off
 | [],K,h=>⟨[],h,rfl,λ i c hc=>by simp at hc⟩
 | x::r,K,h=>by
  simp only[capsOf]at h
  split at h
  ·rename_i id off hx
   obtain ⟨cs,hK,hl,hp⟩:=capsOf_elim h
   refine ⟨_,hK,by simp[hl],λ i c hc => ?_⟩
   cases i with
   | zero=>simp at hc;subst hc;exact ⟨x,id,off,rfl,hx,rfl⟩
   | succ i=>simp at hc;obtain ⟨y,id',off',h1,h2,h3⟩:=hp i c hc;exact ⟨y,id',off',by simpa using h1,h2,h3⟩
  ·exact h.elim
theorem ok_makeFunc {f:FuncId} {first caps:Array Operand} {K:List CV->Prop} (ho:o.op=.makeFunc (.func f) first caps) (h0:first.size=0) (h:capsOf φ caps.toList K) :
  ∃ cs,K cs/\ActOk P o φ nid ⟨[],one (.fn f cs),[]⟩:=by
 obtain ⟨cs,hK,hl,hp⟩:=capsOf_elim h
 refine ⟨cs,hK, .quiet λ C φ' ac w ρ hP hag R => ?_⟩
 have hf:first = #[]:=by simpa using h0
 refine ⟨.func (.func f) #[] (caps.map ac.eval),by simp[execOp,ho,Instr.makeFunc,hf],?_⟩
 refine RSV.of_one ⟨(caps.map ac.eval).toList,by rw[Array.toArray_toList],by simp[hl],λ i c hc => ?_⟩
 obtain ⟨x,id,off,h1,h2,h3⟩:=hp i c hc
 refine ⟨ac.eval x,by simpa using ⟨x,by simpa using h1,rfl⟩,id,off,h3,?_⟩
 have hv:=R.ev x
 have hm:x ∈ caps.toList:=List.mem_of_getElem? h1
 rw[hag.env x (by simp[ho,Op.operands];exact .inr (by simpa using hm)),h2]at hv
 exact hv
theorem map_one {α β:Type} {f:α->β} {l:List α} {x:β} (h:l.map f=[x]):∃ a,l=[a]/\f a=x:=List.map_eq_singleton_iff.1 h
theorem map_two {α β:Type} {f:α->β} {l:List α} {x y:β} (h:l.map f=[x,y]):∃ a b,l=[a,b]/\f a=x/\f b=y:=by
 match l,h with
 | [a,b],h=>simp at h;exact ⟨a,b,rfl,h.1,h.2⟩
theorem arr_of_list {α:Type} {a:Array α} {l:List α} (h:a.toList=l):a=l.toArray:=by rw[<-h,Array.toArray_toList]
theorem call_builtin_run {c:Call} {b:Builtin} (ho:o.op=.call c) (hc:c.callee=.builtin b) (ac:Act) (w:World) :
  (execOp ac.eval o).run P w=(builtin b c.argTypes o.type (c.args.map λ | .const _=>true|_=>false) (c.args.map ac.eval)).run P w:=by
 simp only[execOp,ho,resolve,hc,Sem.run_bind,Sem.run_pure,Result.andThen_ok,invoke]
 rfl
theorem ok_len {c:Call} {K:Action->Prop} (ho:o.op=.call c) (hc:c.callee=.builtin .len) (h:builtinF P .len c.argTypes.toList (c.args.toList.map φ.ev) φ nid K) :
  ∃ A,ActOk P o φ nid A/\K A:=by
 unfold builtinF at h
 split at h<;>first|exact h.elim|contradiction|skip
 rename_i t x _ hat hxs
 obtain ⟨y,hy,hx⟩:=map_one hxs
 have hmem:y ∈ o.op.operands:=by simp[ho,Op.operands,Call.operands,arr_of_list hy]
 split at h
 ·rename_i ht
  obtain ⟨l,rfl,hK⟩:=SV.kS_elim h
  refine ⟨_, .quiet λ C φ' ac w ρ hP hag R => ?_,hK⟩
  have hv:=R.ev y
  rw[hag.env y hmem,hx]at hv
  obtain ⟨s,he,hs⟩:=hv.str
  have hsz:s.size=l.length:=by rw[<-hs,Array.length_toList];rfl
  refine ⟨.int .i64 l.length,?_, .of_RI (.int _ _)⟩
  rw[call_builtin_run ho hc,arr_of_list hat,arr_of_list hy]
  simp[builtin,Builtin.len_,run_underlying (kindF_str ht),he,goInt,hsz]
 ·rename_i e ht
  unfold St.kLen at h
  split at h
  ·rename_i id lo n
   obtain ⟨b,hb,hK⟩:=kLive_elim h
   refine ⟨_, .quiet λ C φ' ac w ρ hP hag R => ?_,hK⟩
   have hv:=R.ev y
   rw[hag.env y hmem,hx]at hv
   obtain ⟨A,cap,he,_⟩:=(hv.arr ((hag.hp id (by simp)).trans hb)).view
   refine ⟨.int .i64 n,?_, .of_RI (.int _ _)⟩
   rw[call_builtin_run ho hc,arr_of_list hat,arr_of_list hy]
   simp[builtin,Builtin.len_,run_underlying (kindF_underlying ht),he,goInt]
  ·rename_i sz n cs
   refine ⟨_, .quiet λ C φ' ac w ρ hP hag R => ?_,h⟩
   have hv:=R.ev y
   rw[hag.env y hmem,hx]at hv
   have hv:=hv.imm
   refine ⟨.int .i64 n,?_, .of_RI (.int _ _)⟩
   rw[call_builtin_run ho hc,arr_of_list hat,arr_of_list hy]
   generalize he:ac.eval y=v at hv
   cases hv<;>simp[builtin,Builtin.len_,run_underlying (kindF_underlying ht),he,goInt]
  ·refine ⟨_, .quiet λ C φ' ac w ρ hP hag R => ?_,h⟩
   have hv:=R.ev y
   rw[hag.env y hmem,hx]at hv
   obtain ⟨A,he⟩:=hv.emp
   refine ⟨.int .i64 (0:Nat),?_, .of_RI (.int _ _)⟩
   rw[call_builtin_run ho hc,arr_of_list hat,arr_of_list hy]
   simp[builtin,Builtin.len_,run_underlying (kindF_underlying ht),he,goInt]
  ·exact h.elim
 ·exact h.elim
theorem ok_cap {c:Call} {K:Action->Prop} (ho:o.op=.call c) (hc:c.callee=.builtin .cap) (h:builtinF P .cap c.argTypes.toList (c.args.toList.map φ.ev) φ nid K) :
  ∃ A,ActOk P o φ nid A/\K A:=by
 unfold builtinF at h
 split at h<;>first|exact h.elim|contradiction|skip
 rename_i t x _ hat hxs
 obtain ⟨y,hy,hx⟩:=map_one hxs
 have hmem:y ∈ o.op.operands:=by simp[ho,Op.operands,Call.operands,arr_of_list hy]
 split at h
 ·rename_i e ht
  refine ⟨_, .quiet λ C φ' ac w ρ hP hag R => ?_,h⟩
  have hv:=R.ev y
  rw[hag.env y hmem,hx]at hv
  obtain ⟨A,he⟩:=hv.emp
  refine ⟨.int .i64 (0:Nat),?_, .of_RI (.int _ _)⟩
  rw[call_builtin_run ho hc,arr_of_list hat,arr_of_list hy]
  simp[builtin,Builtin.cap_,run_underlying (kindF_underlying ht),he,goInt]
 ·exact h.elim
theorem ok_max {c:Call} {K:Action->Prop} (ho:o.op=.call c) (hc:c.callee=.builtin .max) (h:builtinF P .max c.argTypes.toList (c.args.toList.map φ.ev) φ nid K) :
  ∃ A,ActOk P o φ nid A/\K A:=by
 have h':∃ x y,c.args.toList.map φ.ev=[x,y]/\x.kI λ k a=>y.kI λ k' b=>k=k'/\K ⟨[],one (.int k (if a < b then b else a)),[]⟩:=by
  unfold builtinF at h
  split at h<;>first|exact h.elim|contradiction|skip
  exact ⟨_,_,by assumption,h⟩
 obtain ⟨x,y,hxs,h⟩:=h'
 obtain ⟨p,q,hl,hx,hy⟩:=map_two hxs
 obtain ⟨k,a,ex,h⟩:=SV.kI_elim h
 obtain ⟨k',b,ey,hk,hK⟩:=SV.kI_elim h
 subst hk
 rw[ex]at hx
 rw[ey]at hy
 refine ⟨_, .quiet λ C φ' ac w ρ hP hag R => ?_,hK⟩
 have h1:=R.ev p
 have h2:=R.ev q
 rw[hag.env p (by simp[ho,Op.operands,Call.operands,arr_of_list hl]),hx]at h1
 rw[hag.env q (by simp[ho,Op.operands,Call.operands,arr_of_list hl]),hy]at h2
 refine ⟨.int k (if a < b then b else a),?_, .of_RI (.int _ _)⟩
 rw[call_builtin_run ho hc,arr_of_list hl]
 simp[builtin,Builtin.max_,Builtin.max2,h1.int,h2.int]
end Go.Fm
