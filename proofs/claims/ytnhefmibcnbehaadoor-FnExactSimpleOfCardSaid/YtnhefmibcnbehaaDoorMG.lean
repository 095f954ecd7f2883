import Derived.Test.YtnhefmibcnbehaaDoorMF
set_option linter.all false
namespace Go.Fm
variable [Globs]
inductive Ty where
 | int (k:IntKind)|bool|str|list (t:Ty)|st (n:Nat)|err
 deriving DecidableEq
class StTy where
 ty:Nat->Type
 size:Nat->Nat
 ix:TypeId->Option Nat
 errT:TypeId:=0
section
variable [StTy]
def Ty.den:Ty->Type
 | .int _=>Int
 | .bool=>Bool
 | .str=>List UInt8
 | .list t=>List t.den
 | .st n=>StTy.ty n
 | .err=>Int
def Ty.size:Ty->Nat
 | .st n=>StTy.size n
 | _=>1
inductive TC where
 | int (k:IntKind) (n:Int)
 | bool (b:Bool)
 | str (s:List UInt8)
 | imm (t:Ty) (xs:List t.den)
 | ip (t:Ty) (q:Nat) (v:t.den) (r:List t.den)
 | tab (t:Ty) (xs:List t.den)
 | arr (id n:Nat)
 | win (id:Nat) (t:Ty) (a b:Int) (ys:List t.den)
 | winx (id lo n:Nat)
 | emp
 | ptr (id off:Nat)
 | row (id q:Nat) (t:Ty) (i:Int) (v:t.den)
 | rowx (id off:Nat)
 | fn (f:FuncId) (caps:List (Nat×Nat))
 | opq|nilp|nili|dead
 | err (n:Int)
def errC (n:Int):CV:=if n=0 then .nili else if 0 < n then .ifc StTy.errT n else .opq
end
class StCs extends StTy where
 cs:(n:Nat)->ty n->List CV
section
variable [StCs]
def Ty.enc:(t:Ty)->t.den->List CV
 | .int k,(n:Int)=>eI k n
 | .bool,b=>eB b
 | .str,s=>eS s
 | .list t,xs=>eL t.enc t.size xs
 | .st n,v=>StCs.cs n v
 | .err,n=>[errC n]
def TC.conc:TC->CV
 | .int k n=>.int k n
 | .bool b=>.bool b
 | .str s=>.str s
 | .imm t xs=>.imm t.size xs.length (xs.flatMap t.enc)
 | .ip t q v r=>.ip ((t.enc v++r.flatMap t.enc).drop q)
 | .tab t xs=>.ip (xs.flatMap t.enc)
 | .arr id n=>.arr id 0 n
 | .win id t a b ys=>.arr id a.toNat ys.length
 | .winx id lo n=>.arr id lo n
 | .emp=>.emp
 | .ptr id off=>.ptr id off
 | .row id q t i v=>.ptr id (i.toNat*t.size+q)
 | .rowx id off=>.ptr id off
 | .fn f caps=>.fn f (caps.map λ p=>.ptr p.1 p.2)
 | .opq=>.opq
 | .nilp=>.nilp
 | .nili=>.nili
 | .dead=>.dead
 | .err n=>errC n
def TC.pure:TC->Bool
 | .int .. | .bool _ | .str _ | .imm .. | .err _=>true
 | _=>false
def TC.flat:TC->Bool
 | .int .. | .bool _ | .str _ | .err _=>true
 | _=>false
def Ty.plainBy (pl:Nat->Bool):Ty->Bool
 | .int _ | .bool | .str | .err=>true
 | .list _=>false
 | .st n=>pl n
def TC.dpC (pl:Nat->Bool):TC->Bool
 | .imm t _=>t.plainBy pl
 | c=>c.flat
def CR (c l:TC):Prop:=c=l\/(c=.emp/\∃ t,l=.imm t [])
def CRs:List TC->List TC->Prop
 | [],[]=>True
 | c::r,l::s=>CR c l/\CRs r s
 | _,_=>False
def castL (t t':Ty) (xs:List t.den):Option (List t'.den):=if h:t=t' then some (h▸xs) else none
def tInt (k:IntKind):TC->Option Int
 | .int k' n=>if k'=k then some n else none
 | _=>none
def tBool:TC->Option Bool
 | .bool b=>some b
 | _=>none
def tStr:TC->Option (List UInt8)
 | .str s=>some s
 | _=>none
def tImm (t:Ty):TC->Option (List t.den)
 | .imm t' xs=>castL t' t xs
 | .emp=>some []
 | _=>none
theorem errC_or (n:Int):(n=0/\errC n=.nili)\/(0 < n/\errC n=.ifc StTy.errT n)\/(n < 0/\errC n=.opq):=by
 unfold errC
 by_cases h:n=0
 ·exact .inl ⟨h,if_pos h⟩
 ·by_cases h2:0 < n
  ·exact .inr (.inl ⟨h2,by rw[if_neg h,if_pos h2]⟩)
  ·exact .inr (.inr ⟨by omega,by rw[if_neg h,if_neg h2]⟩)
def tErr:TC->Option Int
 | .err n=>some n
 | _=>none
theorem tErr_cr {c:TC} {n:Int} (h:tErr c=some n):CR c (.err n):=by
 unfold tErr at h
 split at h
 ·cases h;exact .inl rfl
 ·cases h
theorem errC_ri (n:Int):(errC n).ri=true:=by
 unfold errC
 split
 ·rfl
 ·split<;>rfl
theorem castL_some {t t':Ty} {xs:List t.den} {ys:List t'.den} (h:castL t t' xs=some ys):∃ e:t=t',e▸xs=ys:=by
 unfold castL at h
 split at h
 ·rename_i e;exact ⟨e,Option.some.inj h⟩
 ·cases h
theorem tInt_cr {k:IntKind} {c:TC} {n:Int} (h:tInt k c=some n):CR c (.int k n):=by
 unfold tInt at h
 split at h
 ·split at h
  ·rename_i e;cases h;exact .inl (by rw[e])
  ·cases h
 ·cases h
theorem tBool_cr {c:TC} {b:Bool} (h:tBool c=some b):CR c (.bool b):=by
 unfold tBool at h
 split at h
 ·cases h;exact .inl rfl
 ·cases h
theorem tStr_cr {c:TC} {s:List UInt8} (h:tStr c=some s):CR c (.str s):=by
 unfold tStr at h
 split at h
 ·cases h;exact .inl rfl
 ·cases h
theorem tImm_cr {t:Ty} {c:TC} {xs:List t.den} (h:tImm t c=some xs):CR c (.imm t xs):=by
 unfold tImm at h
 split at h
 ·obtain ⟨rfl,e⟩:=castL_some h
  exact .inl (by rw[<-e])
 ·cases h;exact .inr ⟨rfl,t,rfl⟩
 ·cases h
end
class Structs extends StCs where
 leaves:(n:Nat)->ty n->List TC
 make:(n:Nat)->List TC->Option (ty n)
 plain:Nat->Bool
 lt:Nat->List Ty
 len:∀ n v,(leaves n v).length=size n
 conc:∀ n v,(leaves n v).map TC.conc=cs n v
 pure:∀ n v,(leaves n v).all TC.pure=true
 made:∀ n l v,make n l=some v->CRs l (leaves n v)
 flat:∀ n v,plain n=true->(leaves n v).all TC.flat=true
 dp:Nat->Bool:=λ _=>false
 deep:∀ n v,dp n=true->(leaves n v).all (TC.dpC plain)=true:=by intros;contradiction
variable [Structs]
def leaves:(t:Ty)->t.den->List TC
 | .int k,n=>[.int k n]
 | .bool,b=>[.bool b]
 | .str,s=>[.str s]
 | .list t,xs=>[.imm t xs]
 | .st n,v=>Structs.leaves n v
 | .err,n=>[.err n]
def mkT:(t:Ty)->List TC->Option t.den
 | .int k,[c]=>tInt k c
 | .bool,[c]=>tBool c
 | .str,[c]=>tStr c
 | .list t,[c]=>tImm t c
 | .st n,cs=>Structs.make n cs
 | .err,[c]=>tErr c
 | _,_=>none
def Ty.plain:Ty->Bool
 | .int _ | .bool | .str | .err=>true
 | .list _=>false
 | .st n=>Structs.plain n
def Ty.dpB:Ty->Bool
 | .st n=>Structs.dp n
 | _=>false
theorem leaves_deep (t:Ty) (v:t.den) (h:t.dpB=true):(leaves t v).all (TC.dpC Structs.plain)=true:=by
 cases t<;>first|exact Structs.deep _ _ h|cases h
theorem mkT_made {t:Ty} {l:List TC} {v:t.den} (h:mkT t l=some v):CRs l (leaves t v):=by
 cases t with
 | st n=>exact Structs.made _ _ _ h
 | int k=>match l,h with|[c],h=>exact ⟨tInt_cr h,trivial⟩
 | bool=>match l,h with|[c],h=>exact ⟨tBool_cr h,trivial⟩
 | str=>match l,h with|[c],h=>exact ⟨tStr_cr h,trivial⟩
 | list t=>match l,h with|[c],h=>exact ⟨tImm_cr h,trivial⟩
 | err=>match l,h with|[c],h=>exact ⟨tErr_cr h,trivial⟩
theorem leaves_len (t:Ty) (v:t.den):(leaves t v).length=t.size:=by
 cases t<;>first|rfl|exact Structs.len _ _
theorem leaves_conc (t:Ty) (v:t.den):(leaves t v).map TC.conc=t.enc v:=by
 cases t<;>first|rfl|exact Structs.conc _ _
theorem leaves_pure (t:Ty) (v:t.den):(leaves t v).all TC.pure=true:=by
 cases t<;>first|rfl|exact Structs.pure _ _
theorem leaves_flat (t:Ty) (v:t.den) (h:t.plain=true):(leaves t v).all TC.flat=true:=by
 cases t<;>first|rfl|exact Structs.flat _ _ h|cases h
theorem pure_ri {c:TC} (h:c.pure=true):c.conc.ri=true:=by
 cases c<;>first|rfl|exact errC_ri _|cases h
theorem riAll_of_all:∀ {l:List TC},l.all TC.pure=true->riAll (l.map TC.conc)=true
 | [],_=>rfl
 | c::r,h=>by
  simp only[List.all_cons,Bool.and_eq_true]at h
  simp only[List.map_cons,riAll,Bool.and_eq_true]
  exact ⟨pure_ri h.1,riAll_of_all h.2⟩
theorem encOk (t:Ty):EncOk t.enc t.size :=
 ⟨λ v=>by rw[<-leaves_conc,List.length_map,leaves_len],λ v=>by rw[<-leaves_conc];exact riAll_of_all (leaves_pure t v)⟩
inductive TP where
 | one (c:TC)
 | agg (cs:List TC)
inductive TV where
 | pv (p:TP)
 | tup (ps:List TP)
structure Hol (α:Type) where
 i:Int
 v:α
 q:Nat
 j:Nat
 m:Nat
inductive TB where
 | no|dead|fix
 | var (cs:List TC)
 | rows (t:Ty) (n:Nat) (xs:List t.den)
 | raw (t:Ty) (css:List (List TC))
 | deep (t:Ty) (n:Nat) (xs:List t.den) (o:Option (Hol t.den))
abbrev TE [Structs]:=List (Nat×TV)
structure TS where
 env:TE
 heap:List TB
structure Lv where
 fx:TE
 fb:List (Nat×TB)
 k0:Nat
 n0:List (Option Nat)
abbrev tone (c:TC):TV:=.pv (.one c)
def TP.conc:TP->PV
 | .one c=>.one c.conc
 | .agg cs=>.agg (cs.map TC.conc)
def TV.conc:TV->SV
 | .pv p=>.pv p.conc
 | .tup ps=>.tup (ps.map TP.conc)
def ownC:CV->CV
 | .imm sz n cs=>.own sz n cs
 | c=>c
def holC {α:Type} (sz:Nat):Option (Hol α)->List CV->List CV
 | none,cs=>cs
 | some H,cs=>cs.set (H.i.toNat*sz+H.q) (.arr H.j 0 H.m)
def TB.conc:TB->HS
 | .no=>.no
 | .dead=>.dead
 | .fix=>.no
 | .var cs=>.live ⟨1,cs.length,cs.map TC.conc⟩
 | .rows t n xs=>.live ⟨t.size,n,xs.flatMap t.enc⟩
 | .raw t css=>.live ⟨t.size,css.length,(css.map λ r=>r.map TC.conc).flatten⟩
 | .deep t n xs o=>.deep ⟨t.size,n,holC t.size o ((xs.flatMap t.enc).map ownC)⟩
def envC (e:TE):List (Nat×SV):=e.map λ p=>(p.1,p.2.conc)
def lkE:TE->Nat->TV
 | [],_=>tone .dead
 | p::r,t=>match Nat.beq p.1 t with|true=>p.2|false=>lkE r t
def lkB:List (Nat×TB)->Nat->TB
 | [],_=>.no
 | p::r,j=>match Nat.beq p.1 j with|true=>p.2|false=>lkB r j
def TB.res (fb:List (Nat×TB)) (j:Nat):TB->TB
 | .fix=>lkB fb j
 | b=>b
def blkL (fb:List (Nat×TB)):Nat->List TB->Nat->TB
 | _,[],_=>.no
 | j,b::r,0=>b.res fb j
 | j,_::r,i+1=>blkL fb (j+1) r i
def heapC (fb:List (Nat×TB)):Nat->List TB->List HS
 | _,[]=>[]
 | j,b::r=>(b.res fb j).conc::heapC fb (j+1) r
def TS.blk (F:Lv) (s:TS) (j:Nat):TB:=blkL F.fb 0 s.heap j
def TS.lk (F:Lv) (s:TS) (t:Nat):TV:=lkE (s.env++F.fx) t
def TS.conc (F:Lv) (s:TS):S:=⟨envC (s.env++F.fx),heapC F.fb 0 s.heap⟩
theorem beq_ne {a b:Nat} (h:a≠b):Nat.beq a b=false:=by
 cases hb:Nat.beq a b with
 | true=>exact absurd (Nat.eq_of_beq_eq_true hb) h
 | false=>rfl
theorem beq_self (a:Nat):Nat.beq a a=true:=nb_t rfl
theorem lk_envC (t:Nat):∀ e:TE,Fm.lk (envC e) t=(lkE e t).conc
 | []=>rfl
 | p::r=>by
  show (if p.1=t then p.2.conc else Fm.lk (envC r) t)=(match Nat.beq p.1 t with|true=>p.2|false=>lkE r t).conc
  by_cases h:p.1=t
  ·rw[if_pos h,h,beq_self]
  ·rw[if_neg h,lk_envC t r,beq_ne h]
theorem hOf_heapC (fb:List (Nat×TB)):∀ (l:List TB) (j i:Nat),hOf (heapC fb j l) i=(blkL fb j l i).conc
 | [],j,i=>by cases i<;>rfl
 | b::r,j,0=>rfl
 | b::r,j,i+1=>by
  show hOf (heapC fb (j+1) r) i=_
  rw[hOf_heapC fb r (j+1) i];rfl
theorem heapC_len (fb:List (Nat×TB)):∀ (l:List TB) (j:Nat),(heapC fb j l).length=l.length
 | [],_=>rfl
 | b::r,j=>by simp only[heapC,List.length_cons,heapC_len fb r (j+1)]
theorem TS.lk_conc (F:Lv) (s:TS) (t:Nat):(s.conc F).st.env t=(s.lk F t).conc:=lk_envC t _
theorem TS.blk_conc (F:Lv) (s:TS) (j:Nat):(s.conc F).st.heap j=(s.blk F j).conc:=hOf_heapC _ _ _ _
theorem TS.len_conc (F:Lv) (s:TS):(s.conc F).heap.length=s.heap.length:=heapC_len _ _ _
def goodC (h:Nat->TB):TC->Prop
 | .arr id n=>h id≠.no/\(∀ t n' xs,h id=.rows t n' xs->n'=n)/\(∀ t css,h id=.raw t css->css.length=n)/\(∀ t n' xs o,h id=.deep t n' xs o->n'=n)
 | .win id t a b ys=>h id≠.no/\(∀ n' xs,h id=.rows t n' xs->subL xs a b=some ys)/\(∀ t' n' xs,h id=.rows t' n' xs->t'=t)/\∀ t css,h id≠.raw t css
 | .winx id lo n=>h id≠.no/\(∀ t n' xs,h id=.rows t n' xs->lo+n<=n')/\∀ t css,h id≠.raw t css
 | .row id q t i v=>h id≠.no/\(∀ n' xs,h id=.rows t n' xs->getI xs i=some v)/\∀ n' xs o,h id=.deep t n' xs o->getI xs i=some v
 | .ptr id _=>h id≠.no
 | .rowx id _=>h id≠.no
 | .fn _ l=>∀ p ∈ l,h p.1≠.no
 | _=>True
def goodP (h:Nat->TB):TP->Prop
 | .one c=>goodC h c
 | .agg cs=>∀ c ∈ cs,goodC h c
def goodV (h:Nat->TB):TV->Prop
 | .pv p=>goodP h p
 | .tup ps=>∀ p ∈ ps,goodP h p
def goodO (h:Nat->TB) (t:Ty) (xs:List t.den):Option (Hol t.den)->Prop
 | none=>True
 | some H=>goodC h (.arr H.j H.m)/\getI xs H.i=some H.v/\∃ t' ys,(leaves t H.v)[H.q]? = some (.imm t' ys)
def goodB (h:Nat->TB):TB->Prop
 | .var cs=>∀ c ∈ cs,goodC h c
 | .rows t n xs=>xs.length=n
 | .raw t css=>∀ r ∈ css,r.length=t.size/\∀ c ∈ r,goodC h c/\(c.pure=true\/∃ id n,c=.arr id n)
 | .deep t n xs o=>xs.length=n/\t.dpB=true/\goodO h t xs o
 | _=>True
structure Good (F:Lv) (s:TS):Prop where
 k0:F.k0<=s.heap.length
 fb:∀ i ∈ F.fb.map (·.1),i < s.heap.length
 env:∀ t,goodV (s.blk F) (s.lk F t)
 heap:∀ j,goodB (s.blk F) (s.blk F j)
 n0:∀ j t n xs,j < F.k0->s.blk F j=.rows t n xs->F.n0[j]? = some (some n)
 n1:∀ j t n xs o,j < F.k0->s.blk F j=.deep t n xs o->F.n0[j]? = some (some n)
end Go.Fm
namespace Go.Fm
variable [Globs] [Structs]
def tyF (T:TypeId->TyI):Nat->TypeId->Option Ty
 | 0,_=>none
 | f+1,e=>match (T e).kind with
  | .int k=>some (.int k)
  | .bool=>some .bool
  | .str=>some .str
  | .slice e=>(match tyF T f e with|some t=>some (.list t)|none=>none)
  | .agg=>(match StTy.ix e with|some n=>some (.st n)|none=>none)
  | _=>none
def tyS (T:TypeId->TyI) (e:TypeId):Option Ty:=match tyF T 9 e,(T e).size with
 | some t,some n=>(match Nat.beq t.size n with|true=>some t|false=>none)
 | _,_=>none
def ofCV:CV->Option TC
 | .int k n=>some (.int k n)
 | .bool b=>some (.bool b)
 | .str s=>some (.str s)
 | .emp=>some .emp
 | .nilp=>some .nilp
 | .nili=>some (.err 0)
 | _=>none
def ofCVs:List CV->Option (List TC)
 | []=>some []
 | c::r=>match ofCV c,ofCVs r with
  | some c,some r=>some (c::r)
  | _,_=>none
def zeroT (T:TypeId->TyI) (e:TypeId):Option (List TC):=match (T e).zero with
 | some z=>ofCVs z
 | none=>none
def zB:Nat->List Int
 | 0=>[]
 | n+1=>0::zB n
def allZ:Nat->List TC->Bool
 | 0,[]=>true
 | n+1, .int .u8 (.ofNat 0)::r=>allZ n r
 | _,_=>false
def arrZ (T:TypeId->TyI) (t:TypeId):Option Nat:=match (T t).kind with
 | .tarr n e=>(match tyS T e,zeroT T t with
  | some (.int .u8),some z=>(match allZ n z with|true=>some n|false=>none)
  | _,_=>none)
 | _=>none
def chk (b:Bool):Option Unit:=match b with|true=>some ()|false=>none
def constTC (v:Value):TC:=match ofCV (constCV v) with
 | some c=>c
 | none=>.dead
def constTV:Value->TV
 | .agg vs=>(match vs.toList.all (·.oneCell') with|true=>.pv (.agg (vs.toList.map constTC))|false=>tone .dead)
 | v=>tone (constTC v)
class Tabs where
 tab:Nat->Option ((t:Ty)×List t.den)
 ok:∀ g,Globs.tab g=(tab g).map λ p=>p.2.flatMap p.1.enc
variable [Tabs]
def TS.ev (F:Lv) (s:TS):Operand->TV
 | .tmp t=>s.lk F t
 | .const v=>constTV v
 | .func f=>tone (.fn f [])
 | .global g=>match Tabs.tab g with|some ⟨t,xs⟩=>tone (.tab t xs)|none=>tone .dead
structure OR where
 val:TV
 hp:List (Nat×TB)
 rd:List Nat
variable {R:Type}
abbrev retC (c:TC) (K:OR->Option R):Option R:=K ⟨tone c,[],[]⟩
def cellsV:TV->Option (List TC)
 | .pv (.one .dead)=>none
 | .pv (.one c)=>some [c]
 | .pv (.agg cs)=>some cs
 | .tup _=>none
def pvT (b:Bool) (cs:List TC):TV:=match b with|true=>.pv (.agg cs)|false=>tone (cs.headD .dead)
def takeT:Nat->List TC->Option (List TC)
 | 0,_=>some []
 | n+1,c::r=>(match takeT n r with|some l=>some (c::l)|none=>none)
 | _+1,[]=>none
def getT:Nat->List TC->Option (List TC)
 | 0,_=>none
 | n+1,l=>takeT (n+1) l
def putT:Nat->List TC->List TC->Option (List TC)
 | 0,[],cs=>some cs
 | 0,n::ns,_::cs=>(match putT 0 ns cs with|some l=>some (n::l)|none=>none)
 | off+1,ns,c::cs=>(match putT off ns cs with|some l=>some (c::l)|none=>none)
 | _,_,[]=>none
def eqT:List Nat->List TC->List TC->Option Bool
 | [],[],[]=>some true
 | 0::ks, .int k a::r, .int k' b::s=>if k=k' then (match eqT ks r s with|some q=>some ((a==b)&&q)|none=>none) else none
 | 1::ks, .bool a::r, .bool b::s=>(match eqT ks r s with|some q=>some ((a==b)&&q)|none=>none)
 | 2::ks, .str a::r, .str b::s=>(match eqT ks r s with|some q=>some ((a==b)&&q)|none=>none)
 | _,_,_=>none
def binT (T:TypeId->TyI) (op:BinOp) (t:TypeId):TV->TV->(OR->Option R)->Option R
 | .pv (.one (.int k a)), .pv (.one (.int k' b)),K =>
  (match op with
  | .shl=>(shlI k a b).bind λ r=>retC (.int k r) K
  | .shr=>(shrI k a b).bind λ r=>retC (.int k r) K
  | op=>if k=k' then (match op with
   | .add=>retC (.int k (k.wrap (a+b))) K
   | .sub=>retC (.int k (k.wrap (a-b))) K
   | .mul=>retC (.int k (k.wrap (a*b))) K
   | .quo=>(quoI k a b).bind λ r=>retC (.int k r) K
   | .rem=>(remI k a b).bind λ r=>retC (.int k r) K
   | .and=>retC (.int k (andI k a b)) K
   | .or=>retC (.int k (orI k a b)) K
   | .xor=>retC (.int k (xorI k a b)) K
   | .eql=>retC (.bool (a==b)) K
   | .neq=>retC (.bool (a != b)) K
   | .lss=>retC (.bool (a < b)) K
   | .leq=>retC (.bool (a<=b)) K
   | .gtr=>retC (.bool (a > b)) K
   | .geq=>retC (.bool (a ≥ b)) K
   | _=>none) else none)
 | .pv (.one (.str a)), .pv (.one (.str b)),K =>
  (match op with
  | .add=>(catS a b).bind λ r=>retC (.str r) K
  | .eql=>retC (.bool (a==b)) K
  | .neq=>retC (.bool (a != b)) K
  | _=>none)
 | .pv (.one (.bool a)), .pv (.one (.bool b)),K =>
  (match op,(T t).kind with
  | .eql, .bool=>retC (.bool (a==b)) K
  | .neq, .bool=>retC (.bool (a != b)) K
  | _,_=>none)
 | .pv (.one .opq), .pv (.one .nili),K =>
  (match op,(T t).kind with
  | .eql, .iface=>retC (.bool false) K
  | .neq, .iface=>retC (.bool true) K
  | _,_=>none)
 | .pv (.agg a), .pv (.agg b),K =>
  (match op,(T t).flat with
  | .eql,some ks=>(match eqT ks a b with|some q=>retC (.bool q) K|none=>none)
  | .neq,some ks=>(match eqT ks a b with|some q=>retC (.bool (!q)) K|none=>none)
  | _,_=>none)
 | _,_,_=>none
def isNilC:Operand->Bool
 | .const .nilIface=>true
 | _=>false
def errB (op:BinOp) (b:Bool) (K:OR->Option R):Option R:=match op with
 | .eql=>retC (.bool b) K
 | .neq=>retC (.bool (!b)) K
 | _=>none
def binX (T:TypeId->TyI) (F:Lv) (s:TS) (op:BinOp) (t:TypeId) (x y:Operand) (K:OR->Option R):Option R :=
 match s.ev F x,s.ev F y with
 | .pv (.one (.err n)), .pv (.one (.err m))=>(match (T t).kind,isNilC y with
  | .iface,true=>errB op (n==0) K
  | .iface,false=>(match (T StTy.errT).flat with
   | some [3]=>(chk (decide (0<=n)&&decide (0 < m))).bind λ _=>errB op (n==m) K
   | _=>none)
  | _,_=>none)
 | a,b=>binT T op t a b K
def unT (u:UnOp):TV->(OR->Option R)->Option R
 | .pv (.one (.bool b)),K=>(match u with | .not=>retC (.bool (!b)) K|_=>none)
 | .pv (.one (.int k a)),K=>(match u with
  | .neg=>retC (.int k (k.wrap (0-a))) K
  | .xor=>retC (.int k (notI k a)) K
  | _=>none)
 | _,_=>none
def isU8S (T:TypeId->TyI) (t:TypeId):Bool:=match (T t).kind with | .int .u8=>true|_=>false
def TS.list (F:Lv) (s:TS) (t:Ty):TC->Option (List Nat×List t.den)
 | .imm t' xs=>(match castL t' t xs with|some l=>some ([],l)|none=>none)
 | .emp=>some ([],[])
 | .arr id n=>(match s.blk F id with
  | .rows t' _ xs=>(match castL t' t xs with|some l=>some ([id],l)|none=>none)
  | _=>none)
 | .win id t' a b ys=>(match s.blk F id with
  | .rows _ _ _=>(match castL t' t ys with|some l=>some ([id],l)|none=>none)
  | _=>none)
 | _=>none
def convT (T:TypeId->TyI) (F:Lv) (s:TS) (a b:TypeId) (x:TV) (K:OR->Option R):Option R :=
 match (T a).kind,(T b).kind,x with
 | .int _, .int k, .pv (.one (.int _ n))=>retC (.int k (k.wrap n)) K
 | .str, .str, .pv (.one (.str l))=>retC (.str l) K
 | .str, .slice e, .pv (.one (.str l))=>(match isU8S T e with
  | true=>(s2b l).bind λ v=>K ⟨tone (.arr s.heap.length v.length),[(s.heap.length, .rows (.int .u8) v.length v)],[]⟩
  | false=>none)
 | .slice e, .str, .pv (.one c)=>(match isU8S T e with
  | true=>(match s.list F (.int .u8) c with|some (rd,l)=>K ⟨tone (.str (strOf l)),[],rd⟩|none=>none)
  | false=>none)
 | _,_,_=>none
def okSize (b:Bool) (n:Nat):Bool:=b || Nat.beq n 1
def fieldT (T:TypeId->TyI) (t:TypeId) (x:TV) (f:Nat) (K:OR->Option R):Option R :=
 match (T t).fl[f]?,x with
 | some q, .pv (.agg cs)=>(match (T q.2).size,(T q.2).agg with
  | some size,some b=>(match okSize b size,getT size (cs.drop q.1) with
   | true,some ns=>K ⟨pvT b ns,[],[]⟩
   | _,_=>none)
  | _,_=>none)
 | _,_=>none
def fieldAddrT (T:TypeId->TyI) (F:Lv) (s:TS) (t:TypeId) (x:TV) (f:Nat) (K:OR->Option R):Option R :=
 match (T t).fl[f]? with
 | some q=>(match (T q.2).size with
  | some size=>(match Nat.blt 0 size with
   | true=>(match x with
    | .pv (.one (.ptr id off))=>(match s.blk F id with | .var _=>K ⟨tone (.ptr id (off+q.1)),[],[id]⟩|_=>none)
    | .pv (.one (.row id p t i v))=>(match s.blk F id with | .rows _ _ _=>K ⟨tone (.row id (p+q.1) t i v),[],[id]⟩|_=>none)
    | .pv (.one (.ip t p v r))=>K ⟨tone (.ip t (p+q.1) v r),[],[]⟩
    | _=>none)
   | false=>none)
  | none=>none)
 | none=>none
def loadT (T:TypeId->TyI) (F:Lv) (s:TS) (t:TypeId) (x:TV) (K:OR->Option R):Option R :=
 match (T t).size,(T t).agg with
 | some size,some b=>(match okSize b size with
  | true=>(match x with
   | .pv (.one (.ptr id off))=>(match s.blk F id with
    | .var cs=>(match getT size (cs.drop off) with|some ns=>K ⟨pvT b ns,[],[id]⟩|none=>none)
    | _=>none)
   | .pv (.one (.row id q t i v))=>(match s.blk F id with
    | .rows t' _ _=>if t'=t then (match getT size ((leaves t v).drop q) with|some ns=>K ⟨pvT b ns,[],[id]⟩|none=>none) else none
    | _=>none)
   | .pv (.one (.ip t q v r))=>(match getT size ((leaves t v).drop q) with|some ns=>K ⟨pvT b ns,[],[]⟩|none=>none)
   | _=>none)
  | false=>none)
 | _,_=>none
def storeT (T:TypeId->TyI) (F:Lv) (s:TS) (t:TypeId) (x v:TV) (K:OR->Option R):Option R :=
 match (T t).size,cellsV v with
 | some size,some ns=>(match Nat.beq ns.length size with
  | true=>(match x with
   | .pv (.one (.ptr id off))=>(match s.blk F id with
    | .var cs=>(match putT off ns cs with|some cs'=>K ⟨tone .dead,[(id, .var cs')],[id]⟩|none=>none)
    | _=>none)
   | .pv (.one (.row id q t i v))=>(match s.blk F id with
    | .rows t' n xs=>(match castL t' t xs,putT q ns (leaves t v) with
     | some xs,some l=>(match mkT t l with
      | some y=>K ⟨tone .dead,[(id, .rows t n (xs.set i.toNat y))],[id]⟩
      | none=>none)
     | _,_=>none)
    | _=>none)
   | _=>none)
  | false=>none)
 | _,_=>none
def fillT (T:TypeId->TyI) (F:Lv) (s:TS) (t:TypeId):List TC->List (Nat×Operand)->Option (List TC)
 | cs,[]=>some cs
 | cs,(f,x)::r=>match (T t).fl[f]?,cellsV (s.ev F x) with
  | some q,some ns=>(match (T q.2).size with
   | some n=>(match Nat.beq n ns.length,putT q.1 ns cs with
    | true,some cs'=>fillT T F s t cs' r
    | _,_=>none)
   | none=>none)
  | _,_=>none
def partsT (F:Lv) (s:TS) (size:Nat):Nat->List (Nat×Operand)->Option (List (List TC))
 | _,[]=>some []
 | i,(j,x)::r=>match Nat.beq j i,cellsV (s.ev F x) with
  | true,some cs=>(match Nat.beq cs.length size,partsT F s size (i+1) r with
   | true,some css=>some (cs::css)
   | _,_=>none)
  | _,_=>none
def mkAll (t:Ty):List (List TC)->Option (List t.den)
 | []=>some []
 | cs::r=>match mkT t cs,mkAll t r with
  | some v,some l=>some (v::l)
  | _,_=>none
def rawOk:List (List TC)->Bool
 | []=>true
 | cs::r=>cs.all (λ c=>c.pure || match c with | .arr ..=>true|_=>false)&&rawOk r
def buildSliceT (T:TypeId->TyI) (F:Lv) (s:TS) (t:TypeId) (n:Nat) (ps:List (Nat×Operand)) (K:OR->Option R):Option R :=
 match (T t).kind with
 | .slice e=>(match tyS T e,(T e).zero with
  | some τ,some _=>(match Nat.ble (n*τ.size) 4096&&Nat.blt 0 τ.size&&Nat.beq n ps.length,partsT F s τ.size 0 ps with
   | true,some css=>(match mkAll τ css with
    | some vs=>K ⟨tone (.arr s.heap.length n),[(s.heap.length, .rows τ n vs)],[]⟩
    | none=>(match rawOk css with
     | true=>K ⟨tone (.arr s.heap.length n),[(s.heap.length, .raw τ css)],[]⟩
     | false=>none))
   | _,_=>none)
  | _,_=>none)
 | _=>none
def eqOp:Operand->Operand->Bool
 | .tmp a, .tmp b=>Nat.beq a b
 | .const (.int k a), .const (.int l b)=>(if k=l then true else false)&&(match a,b with | .ofNat a, .ofNat b=>Nat.beq a b|_,_=>false)
 | _,_=>false
def zeroE (T:TypeId->TyI) (e:TypeId):Option ((t:Ty)×t.den×List TC):=match tyS T e,zeroT T e with
 | some t,some z=>(match mkT t z with|some v=>some ⟨t,v,z⟩|none=>none)
 | _,_=>none
def makeSliceT (T:TypeId->TyI) (F:Lv) (s:TS) (t:TypeId) (l c:Operand) (K:OR->Option R):Option R :=
 match (T t).kind with
 | .slice e=>(match zeroE T e,(T e).bytes with
  | some ⟨τ,v,z⟩,some by_=>(match Nat.ble by_ 1024&&Nat.beq z.length τ.size&&eqOp l c,s.ev F l with
   | true, .pv (.one (.int .i64 n))=>(mk v n).bind λ xs=>K ⟨tone (.arr s.heap.length xs.length),[(s.heap.length, .rows τ xs.length xs)],[]⟩
   | _,_=>none)
  | _,_=>none)
 | _=>none
def indexT (T:TypeId->TyI) (t:TypeId) (x i:TV) (K:OR->Option R):Option R :=
 match (T t).kind,x,i with
 | .str, .pv (.one (.str l)), .pv (.one (.int _ i))=>(idxS l i).bind λ r=>retC (.int .u8 r) K
 | _,_,_=>none
def indexAddrT (T:TypeId->TyI) (F:Lv) (s:TS) (t:TypeId) (x i:TV) (K:OR->Option R):Option R :=
 match (T t).kind,i with
 | .slice e, .pv (.one (.int _ i))=>(match tyS T e with
  | some τ=>(match x with
   | .pv (.one (.imm t xs))=>(match castL t τ xs with
    | some xs=>(getI xs i).bind λ v=>K ⟨tone (.ip τ 0 v (xs.drop (i.toNat+1))),[],[]⟩
    | none=>none)
   | .pv (.one (.arr id n))=>(match s.blk F id with
    | .rows t _ xs=>(match castL t τ xs with
     | some xs=>(getI xs i).bind λ v=>K ⟨tone (.row id 0 τ i v),[],[id]⟩
     | none=>none)
    | _=>none)
   | .pv (.one (.win id t a b ys))=>(match s.blk F id with
    | .rows _ _ _=>(match castL t τ ys with
     | some ys=>(getI ys i).bind λ v=>K ⟨tone (.row id 0 τ ((a.toNat+i.toNat:Nat):Int) v),[],[id]⟩
     | none=>none)
    | _=>none)
   | _=>none)
  | none=>none)
 | .tarr n e, .pv (.one (.int _ i))=>(match tyS T e,x with
  | some τ, .pv (.one (.tab t xs))=>(match castL t τ xs with
   | some xs=>(match Nat.beq n xs.length with
    | true=>(getI xs i).bind λ v=>K ⟨tone (.ip τ 0 v (xs.drop (i.toNat+1))),[],[]⟩
    | false=>none)
   | none=>none)
  | some τ, .pv (.one (.ptr id off))=>(match off,s.blk F id with
   | 0, .rows t _ xs=>(match castL t τ xs with
    | some xs=>(chk (Nat.beq n xs.length)).bind λ _=>(getI xs i).bind λ v=>K ⟨tone (.row id 0 τ i v),[],[id]⟩
    | none=>none)
   | _,_=>none)
  | _,_=>none)
 | _,_=>none
def bndT (F:Lv) (s:TS) (d:Int):Option Operand->Option Int
 | none=>some d
 | some x=>match s.ev F x with | .pv (.one (.int _ i))=>some i|_=>none
def isNone:Option Operand->Bool
 | none=>true
 | _=>false
def sliceT (T:TypeId->TyI) (F:Lv) (s:TS) (t:TypeId) (x:TV) (lo hi:Option Operand) (K:OR->Option R):Option R :=
 match (T t).kind,x,bndT F s 0 lo with
 | .str, .pv (.one (.str l)),some a=>(match bndT F s l.length hi with
  | some b=>(subL l a b).bind λ r=>retC (.str r) K
  | none=>none)
 | .slice e, .pv (.one c),some a=>(match tyS T e with
  | some τ=>(match c with
   | .imm t xs=>(match castL t τ xs with
    | some xs=>(match bndT F s xs.length hi with
     | some b=>(subL xs a b).bind λ r=>retC (.imm τ r) K
     | none=>none)
    | none=>none)
   | .arr id n=>(match s.blk F id with
    | .rows t _ xs=>(match castL t τ xs,bndT F s n hi with
     | some xs,some b=>(subL xs a b).bind λ r=>K ⟨tone (.win id τ a b r),[],[id]⟩
     | _,_=>none)
    | _=>none)
   | .emp=>(match a,bndT F s 0 hi with
    | .ofNat 0,some (.ofNat 0)=>retC .emp K
    | _,_=>none)
   | _=>none)
  | none=>none)
 | .tarr m e, .pv (.one (.ptr id off)),some a=>(match tyS T e with
  | some τ=>(match off,s.blk F id with
   | 0, .rows t _ xs=>(match castL t τ xs,bndT F s m hi with
    | some xs,some b=>(chk (Nat.beq m xs.length)).bind λ _=>(subL xs a b).bind λ r=>K ⟨tone (.win id τ a b r),[],[id]⟩
    | _,_=>none)
   | _,_=>none)
  | none=>none)
 | _,_,_=>none
def capsT (F:Lv) (s:TS):List Operand->Option (List (Nat×Nat))
 | []=>some []
 | x::r=>match s.ev F x,capsT F s r with
  | .pv (.one (.ptr id off)),some l=>some ((id,off)::l)
  | _,_=>none
def nilCheckT (F:Lv) (s:TS) (x:TV) (K:OR->Option R):Option R :=
 match x with
 | .pv (.one (.ptr id off))=>(match s.blk F id with | .var _=>K ⟨tone (.ptr id off),[],[id]⟩|_=>none)
 | .pv (.one (.row id q t i v))=>(match s.blk F id with | .rows _ _ _=>K ⟨tone (.row id q t i v),[],[id]⟩|_=>none)
 | .pv (.one (.ip t q v r))=>K ⟨tone (.ip t q v r),[],[]⟩
 | _=>none
def lenT (F:Lv) (s:TS) (x:TC) (K:OR->Option R):Option R :=
 match x with
 | .str l=>retC (.int .i64 (l.length:Int)) K
 | .imm _ xs=>retC (.int .i64 (xs.length:Int)) K
 | .emp=>retC (.int .i64 0) K
 | .arr id n=>(match s.blk F id with
  | .rows _ _ _=>K ⟨tone (.int .i64 (n:Int)),[],[id]⟩
  | .raw _ _=>K ⟨tone (.int .i64 (n:Int)),[],[id]⟩
  | _=>none)
 | .win id _ _ _ ys=>(match s.blk F id with | .rows _ _ _=>K ⟨tone (.int .i64 (ys.length:Int)),[],[id]⟩|_=>none)
 | .winx id _ n=>(match s.blk F id with | .rows _ _ _=>K ⟨tone (.int .i64 (n:Int)),[],[id]⟩|_=>none)
 | _=>none
def TS.elems (F:Lv) (s:TS) (t:Ty):TC->Option (List Nat×List t.den)
 | .str l=>castL (.int .u8) t (bsOf l) |>.map λ l=>([],l)
 | c=>s.list F t c
def isIntK:TK->Bool
 | .int _=>true
 | _=>false
def isListK:TK->Bool
 | .slice _=>true
 | .str=>true
 | _=>false
def appendT (T:TypeId->TyI) (F:Lv) (s:TS) (t t2:TypeId) (x y:TC) (K:OR->Option R):Option R :=
 match (T t).kind with
 | .slice e=>(match tyS T e,zeroE T e,(T e).bytes with
  | some τ,some ⟨τ0,v0,z⟩,some by_=>(match Nat.ble by_ 1024&&Nat.beq z.length τ.size with
   | true=>(match isIntK (T t2).kind with
    | true=>(match x,y with
     | .emp, .int .i64 m=>(mk v0 m).bind λ v=>K ⟨tone (.arr s.heap.length v.length),[(s.heap.length, .rows τ0 v.length v)],[]⟩
     | _,_=>none)
    | false=>(match isListK (T t2).kind,s.elems F τ y with
     | true,some (rd,ys)=>(match x with
      | .emp=>(app ([]:List τ.den) ys).bind λ v=>K ⟨tone (.arr s.heap.length v.length),[(s.heap.length, .rows τ v.length v)],rd⟩
      | .arr id n=>(match s.blk F id with
       | .rows t' _ xs=>(match castL t' τ xs with
        | some xs=>(app xs ys).bind λ v=>K ⟨tone (.arr s.heap.length v.length),[(id, .dead),(s.heap.length, .rows τ v.length v)],id::rd⟩
        | none=>none)
       | _=>none)
      | .win id t' a b xs=>(match s.blk F id with
       | .rows _ _ _=>(match castL t' τ xs with
        | some xs=>(app xs ys).bind λ v=>K ⟨tone (.arr s.heap.length v.length),[(id, .dead),(s.heap.length, .rows τ v.length v)],id::rd⟩
        | none=>none)
       | _=>none)
      | _=>none)
     | _,_=>none))
   | false=>none)
  | _,_,_=>none)
 | _=>none
def winOf:TC->Option (Nat×Nat×Nat)
 | .arr id n=>some (id,0,n)
 | .win id _ a b ys=>some (id,a.toNat,ys.length)
 | .winx id lo n=>some (id,lo,n)
 | _=>none
def clearT (T:TypeId->TyI) (F:Lv) (s:TS) (t:TypeId) (x:TC) (K:OR->Option R):Option R :=
 match (T t).kind,winOf x with
 | .slice e,some (id,lo,n)=>(match zeroE T e,s.blk F id with
  | some ⟨τ,v,z⟩, .rows t' m xs=>(match castL t' τ xs,Nat.beq z.length τ.size with
   | some xs,true=>K ⟨.tup [],[(id, .rows τ m (putL xs lo (List.replicate n v)))],[id]⟩
   | _,_=>none)
  | _,_=>none)
 | _,_=>none
def copyT (T:TypeId->TyI) (F:Lv) (s:TS) (t t2:TypeId) (x y:TC) (K:OR->Option R):Option R :=
 match (T t).kind,winOf x with
 | .slice e,some (id,lo,n)=>(match tyS T e,s.blk F id with
  | some τ, .rows t' m xs=>(match castL t' τ xs,isListK (T t2).kind,s.elems F τ y with
   | some xs,true,some (rd,ys)=>K ⟨tone (.int .i64 ((min ys.length n:Nat):Int)),[(id, .rows τ m (putL xs lo (ys.take n)))],id::rd⟩
   | _,_,_=>none)
  | _,_=>none)
 | _,_=>none
def builtinT (T:TypeId->TyI) (F:Lv) (s:TS) (b:Builtin) (ats:List TypeId) (xs:List TV) (K:OR->Option R):Option R :=
 match b,ats,xs with
 | .len,[t],[.pv (.one x)]=>(match (T t).kind,x with
  | .str, .str l=>retC (.int .i64 (l.length:Int)) K
  | .slice _, .str _=>none
  | .slice _,x=>lenT F s x K
  | _,_=>none)
 | .cap,[t],[.pv (.one .emp)]=>(match (T t).kind with | .slice _=>retC (.int .i64 0) K|_=>none)
 | .append,t::t2::_,[.pv (.one x), .pv (.one y)]=>appendT T F s t t2 x y K
 | .max,_,[.pv (.one (.int k a)), .pv (.one (.int k' b))]=>if k=k' then retC (.int k (maxI a b)) K else none
 | .clear,[t],[.pv (.one x)]=>clearT T F s t x K
 | .copy,t::t2::_,[.pv (.one x), .pv (.one y)]=>copyT T F s t t2 x y K
 | _,_,_=>none
def actT2 (T:TypeId->TyI) (F:Lv) (s:TS) (op:Op) (K:OR->Option R):Option R :=
 match op with
 | .move x=>K ⟨s.ev F x,[],[]⟩
 | .assign x=>K ⟨s.ev F x,[],[]⟩
 | .pick c a b=>(match s.ev F c with
  | .pv (.one (.bool t))=>K ⟨cond t (s.ev F a) (s.ev F b),[],[]⟩
  | _=>none)
 | .extract x i=>(match s.ev F x with
  | .tup ps=>(match ps[i]? with|some p=>K ⟨.pv p,[],[]⟩|none=>none)
  | _=>none)
 | .unOp u _ x=>unT u (s.ev F x) K
 | .binOp op t x y _=>binX T F s op t x y K
 | .convert a b x=>convT T F s a b (s.ev F x) K
 | .field t x f=>fieldT T t (s.ev F x) f K
 | .fieldAddr t x f=>fieldAddrT T F s t (s.ev F x) f K
 | .load t x=>loadT T F s t (s.ev F x) K
 | .store t x v=>storeT T F s t (s.ev F x) (s.ev F v) K
 | .alloc t=>(match arrZ T t with
  | some n=>K ⟨tone (.ptr s.heap.length 0),[(s.heap.length, .rows (.int .u8) n (zB n))],[]⟩
  | none=>(match zeroT T t with
   | some z=>K ⟨tone (.ptr s.heap.length 0),[(s.heap.length, .var z)],[]⟩
   | none=>none))
 | .box t v=>(match cellsV (s.ev F v) with
  | some cs=>K ⟨tone (.ptr s.heap.length 0),[(s.heap.length, .var cs)],[]⟩
  | none=>none)
 | .build t ps=>(match (T t).kind,(T t).all,zeroT T t with
  | .agg,true,some z=>(match fillT T F s t z ps.toList with|some cs=>K ⟨.pv (.agg cs),[],[]⟩|none=>none)
  | _,_,_=>none)
 | .buildSlice t n ps=>buildSliceT T F s t n ps.toList K
 | .makeSlice t l c=>makeSliceT T F s t l c K
 | .index t x i=>indexT T t (s.ev F x) (s.ev F i) K
 | .indexAddr t x i=>indexAddrT T F s t (s.ev F x) (s.ev F i) K
 | .slice t x lo hi none=>sliceT T F s t (s.ev F x) lo hi K
 | .makeFunc (.func f) first caps=>(match Nat.beq first.size 0,capsT F s caps.toList with
  | true,some l=>K ⟨tone (.fn f l),[],[]⟩
  | _,_=>none)
 | .nilCheck x=>nilCheckT F s (s.ev F x) K
 | .makeInterface t x=>(match Nat.beq t StTy.errT,(T t).flat,s.ev F x with
  | true,some [3], .pv (.one (.int .i64 n))=>(chk (decide (0 < n))).bind λ _=>K ⟨tone (.err n),[],[]⟩
  | _,_,_=>none)
 | .call c=>(match c.callee with
  | .builtin b=>builtinT T F s b c.argTypes.toList (c.args.toList.map (s.ev F)) K
  | _=>none)
 | _=>none
end Go.Fm
namespace Go.Fm
variable [Globs] [Structs]
inductive VSh where
 | s (t:Ty) (own:List (Nat×Nat))
 | c (v:TP)
inductive BSh where
 | n|d|f|o|od
 | r (t:Ty)
 | rd (t:Ty)
 | v (t:Ty) (own:List (Nat×Nat))
 | c (cs:List TC)
structure Shp where
 env:List (Nat×VSh)
 heap:List BSh
def tup:List Ty->Type
 | []=>Unit
 | [t]=>t.den
 | t::u::r=>t.den×tup (u::r)
def VSh.tys:VSh->List Ty
 | .s t _=>[t]
 | .c _=>[]
def BSh.tys:BSh->List Ty
 | .r t=>[.list t]
 | .rd t=>[.list t]
 | .v t _=>[t]
 | _=>[]
def envTys:List (Nat×VSh)->List Ty
 | []=>[]
 | p::r=>p.2.tys++envTys r
def heapTys:List BSh->List Ty
 | []=>[]
 | b::r=>b.tys++heapTys r
def Shp.tys (s:Shp):List Ty:=envTys s.env++heapTys s.heap
structure Dat where
 t:Ty
 v:t.den
def toD:(l:List Ty)->tup l->List Dat
 | [],_=>[]
 | [t],v=>[⟨t,v⟩]
 | t::u::r,v=>⟨t,v.1⟩::toD (u::r) v.2
def castD (d:Dat) (t:Ty):Option t.den:=if h:d.t=t then some (h▸d.v) else none
def ofD:(l:List Ty)->List Dat->Option (tup l)
 | [],[]=>some ()
 | [t],[d]=>castD d t
 | t::u::r,d::ds=>(match castD d t,ofD (u::r) ds with
  | some v,some w=>some (v,w)
  | _,_=>none)
 | _,_=>none
def ownJ:List (Nat×Nat)->Nat->Option Nat
 | [],_=>none
 | p::r,i=>match Nat.beq p.1 i with|true=>some p.2|false=>ownJ r i
def ownSet (own:List (Nat×Nat)):Nat->List TC->List TC
 | _,[]=>[]
 | i,c::r=>(match ownJ own i,c with
  | some j, .imm t xs=>.arr j xs.length
  | _,c=>c)::ownSet own (i+1) r
def ownBlk (own:List (Nat×Nat)):Nat->List TC->List (Nat×TB)
 | _,[]=>[]
 | i,c::r=>(match ownJ own i,c with
  | some j, .imm t xs=>(j, .rows t xs.length xs)::ownBlk own (i+1) r
  | _,_=>ownBlk own (i+1) r)
def isSt:Ty->Bool
 | .st _=>true
 | _=>false
def bldE:List (Nat×VSh)->List Dat->TE
 | [],_=>[]
 | (t, .s _ own)::r,d::ds=>(t,pvT (isSt d.t) (ownSet own 0 (leaves d.t d.v)))::bldE r ds
 | (t, .s _ own)::r,[]=>[]
 | (t, .c p)::r,ds=>(t, .pv p)::bldE r ds
def bldO:List (Nat×VSh)->List Dat->List (Nat×TB)
 | [],_=>[]
 | (t, .s _ own)::r,d::ds=>ownBlk own 0 (leaves d.t d.v)++bldO r ds
 | (t, .s _ own)::r,[]=>[]
 | (t, .c p)::r,ds=>bldO r ds
def bldHO:List BSh->List Dat->List (Nat×TB)
 | [],_=>[]
 | .v _ own::r,d::ds=>ownBlk own 0 (leaves d.t d.v)++bldHO r ds
 | .r _::r,d::ds=>bldHO r ds
 | .rd _::r,d::ds=>bldHO r ds
 | .v _ _::r,[]=>[]
 | .r _::r,[]=>[]
 | .rd _::r,[]=>[]
 | _::r,ds=>bldHO r ds
def toDp:TB->TB
 | .rows t n xs=>(match t.dpB with|true=>.deep t n xs none|false=>.rows t n xs)
 | b=>b
def rowsD (d:Dat):TB:=match d with|⟨.list t,xs⟩=>.rows t xs.length xs|_=>.no
def bldH (O:List (Nat×TB)):Nat->List BSh->List Dat->List TB
 | _,[],_=>[]
 | j, .n::r,ds=>.no::bldH O (j+1) r ds
 | j, .d::r,ds=>.dead::bldH O (j+1) r ds
 | j, .f::r,ds=>.fix::bldH O (j+1) r ds
 | j, .o::r,ds=>lkB O j::bldH O (j+1) r ds
 | j, .od::r,ds=>toDp (lkB O j)::bldH O (j+1) r ds
 | j, .c cs::r,ds=>.var cs::bldH O (j+1) r ds
 | j, .r _::r,d::ds=>rowsD d::bldH O (j+1) r ds
 | j, .rd _::r,d::ds=>toDp (rowsD d)::bldH O (j+1) r ds
 | j, .v _ own::r,d::ds=>.var (ownSet own 0 (leaves d.t d.v))::bldH O (j+1) r ds
 | j, .r _::r,[]=>[]
 | j, .rd _::r,[]=>[]
 | j, .v _ _::r,[]=>[]
def Shp.bld (sh:Shp) (ds:List Dat):TS :=
 let n:=(envTys sh.env).length
 ⟨bldE sh.env ds,bldH (bldO sh.env ds++bldHO sh.heap (ds.drop n)) 0 sh.heap (ds.drop n)⟩
def Shp.mkS (sh:Shp) (a:tup sh.tys):TS:=sh.bld (toD sh.tys a)
def elemN:Nat->List Nat->Bool
 | _,[]=>false
 | x,y::r=>Nat.beq x y || elemN x r
def pureC (h:Nat->TB) (π:List Nat):TC->Option TC
 | .arr id n=>(match elemN id π,h id with
  | false, .rows t _ xs=>some (.imm t xs)
  | false, .deep t _ xs none=>some (.imm t xs)
  | _,_=>none)
 | .win id t a b ys=>(match elemN id π,h id with
  | false, .rows _ _ _=>some (.imm t ys)
  | _,_=>none)
 | .emp=>some .emp
 | c=>match c.pure with|true=>some c|false=>none
def pureCs (h:Nat->TB) (π:List Nat):List TC->Option (List TC)
 | []=>some []
 | c::r=>match pureC h π c,pureCs h π r with
  | some c,some l=>some (c::l)
  | _,_=>none
def pureAll (h:Nat->TB) (π:List Nat) (t:Ty):List (List TC)->Option (List t.den)
 | []=>some []
 | cs::r=>match pureCs h π cs,pureAll h π t r with
  | some cs,some l=>(match mkT t cs with|some v=>some (v::l)|none=>none)
  | _,_=>none
def pureR (h:Nat->TB) (π:List Nat) (c:TC):Option TC :=
 match c with
 | .arr id n=>(match elemN id π,h id with
  | false, .raw t css=>(match pureAll h π t css with|some l=>some (.imm t l)|none=>none)
  | _,_=>pureC h π c)
 | c=>pureC h π c
def leafC (h:Nat->TB) (π:List Nat) (own:List (Nat×Nat)) (i:Nat) (c:TC):Option TC :=
 match ownJ own i with
 | some j=>(match c with
  | .arr id n=>(match h id,π[j]? with
   | .rows t _ xs,some id'=>(match Nat.beq id id' with|true=>some (.imm t xs)|false=>none)
   | .deep t _ xs none,some id'=>(match Nat.beq id id' with|true=>some (.imm t xs)|false=>none)
   | _,_=>none)
  | _=>none)
 | none=>pureR h π c
def leafCs (h:Nat->TB) (π:List Nat) (own:List (Nat×Nat)):Nat->List TC->Option (List TC)
 | _,[]=>some []
 | i,c::r=>match leafC h π own i c,leafCs h π own (i+1) r with
  | some c,some l=>some (c::l)
  | _,_=>none
def decCs (h:Nat->TB) (π:List Nat) (t:Ty) (own:List (Nat×Nat)) (cs:List TC):Option Dat :=
 match leafCs h π own 0 cs with
 | some l=>(match mkT t l with|some v=>some ⟨t,v⟩|none=>none)
 | none=>none
def capsEq (π:List Nat):List (Nat×Nat)->List (Nat×Nat)->Bool
 | [],[]=>true
 | p::r,q::s=>(match π[q.1]? with|some id=>Nat.beq id p.1|none=>false)&&Nat.beq p.2 q.2&&capsEq π r s
 | _,_=>false
def sameC (π:List Nat):TC->TC->Bool
 | .dead, .dead=>true
 | .ptr id o, .ptr j o'=>(match π[j]? with|some id'=>Nat.beq id id'|none=>false)&&Nat.beq o o'
 | .fn f l, .fn f' l'=>Nat.beq f f'&&capsEq π l l'
 | .emp, .emp=>true
 | .opq, .opq=>true
 | .nilp, .nilp=>true
 | .nili, .nili=>true
 | .err (.ofNat n), .err (.ofNat m)=>Nat.beq n m
 | .int k (.ofNat n), .int k' (.ofNat m)=>(if k=k' then true else false)&&Nat.beq n m
 | .bool true, .bool true=>true
 | .bool false, .bool false=>true
 | .str [], .str []=>true
 | _,_=>false
def sameCs (π:List Nat):List TC->List TC->Bool
 | [],[]=>true
 | c::r,d::s=>sameC π c d&&sameCs π r s
 | _,_=>false
def decP (h:Nat->TB) (π:List Nat):VSh->TP->Option (List Dat)
 | .s t own, .one c=>(match isSt t,decCs h π t own [c] with|false,some d=>some [d]|_,_=>none)
 | .s t own, .agg cs=>(match isSt t,decCs h π t own cs with|true,some d=>some [d]|_,_=>none)
 | .c (.one d), .one c=>(match sameC π c d with|true=>some []|false=>none)
 | .c (.agg ds), .agg cs=>(match sameCs π cs ds with|true=>some []|false=>none)
 | _,_=>none
def decV (h:Nat->TB) (π:List Nat) (sh:VSh):TV->Option (List Dat)
 | .pv p=>decP h π sh p
 | _=>none
def decE (lk:Nat->TV) (h:Nat->TB) (π:List Nat):List (Nat×VSh)->Option (List Dat)
 | []=>some []
 | p::r=>match decV h π p.2 (lk p.1),decE lk h π r with
  | some a,some b=>some (a++b)
  | _,_=>none
def fixC (π:List Nat):TC->Bool
 | .arr id _=>(match ixOf π id with|some j=>Nat.beq j id|none=>false)
 | .win id ..=>(match ixOf π id with|some j=>Nat.beq j id|none=>false)
 | .winx id ..=>(match ixOf π id with|some j=>Nat.beq j id|none=>false)
 | .ptr id _=>(match ixOf π id with|some j=>Nat.beq j id|none=>false)
 | .row .. | .rowx ..=>false
 | .fn _ l=>l.all λ p=>match ixOf π p.1 with|some j=>Nat.beq j p.1|none=>false
 | _=>true
def fixP (π:List Nat):TP->Bool
 | .one c=>fixC π c
 | .agg cs=>cs.all (fixC π)
def fixV (π:List Nat):TV->Bool
 | .pv p=>fixP π p
 | .tup ps=>ps.all (fixP π)
def fixB (π:List Nat):TB->Bool
 | .rows ..=>true
 | .deep _ _ _ none=>true
 | .var cs=>cs.all (fixC π)
 | .dead=>true
 | _=>false
def decB (h:Nat->TB) (π:List Nat) (j:Nat):BSh->Option (List Dat)
 | .n=>some []
 | .d=>(match π[j]? with|some id=>(match h id with | .dead=>some [] | .rows ..=>some [] | .deep _ _ _ none=>some []|_=>none)|none=>none)
 | .f=>(match π[j]? with|some id=>(match Nat.beq id j&&fixB π (h id) with|true=>some []|false=>none)|none=>none)
 | .o=>(match π[j]? with|some id=>(match h id with | .rows ..=>some []|_=>none)|none=>none)
 | .od=>(match π[j]? with|some id=>(match h id with | .deep _ _ _ none=>some []|_=>none)|none=>none)
 | .r t=>(match π[j]? with
  | some id=>(match h id with
   | .rows t' _ xs=>(match castL t' t xs with|some xs=>some [⟨.list t,xs⟩]|none=>none)
   | _=>none)
  | none=>none)
 | .rd t=>(match π[j]? with
  | some id=>(match h id with
   | .deep t' _ xs none=>(match castL t' t xs with|some xs=>some [⟨.list t,xs⟩]|none=>none)
   | _=>none)
  | none=>none)
 | .v t own=>(match π[j]? with
  | some id=>(match h id with
   | .var cs=>(match decCs h π t own cs with|some d=>some [d]|none=>none)
   | _=>none)
  | none=>none)
 | .c ds=>(match π[j]? with
  | some id=>(match h id with
   | .var cs=>(match sameCs π cs ds with|true=>some []|false=>none)
   | _=>none)
  | none=>none)
def decH (h:Nat->TB) (π:List Nat):Nat->List BSh->Option (List Dat)
 | _,[]=>some []
 | j,b::r=>match decB h π j b,decH h π (j+1) r with
  | some a,some l=>some (a++l)
  | _,_=>none
def coverO (O:List (Nat×TB)):Nat->List BSh->Bool
 | _,[]=>true
 | j, .o::r=>(match lkB O j with | .rows ..=>true|_=>false)&&coverO O (j+1) r
 | j, .od::r=>(match lkB O j with | .rows ..=>true|_=>false)&&coverO O (j+1) r
 | j,_::r=>coverO O (j+1) r
def Shp.dec (sh:Shp) (lk:Nat->TV) (h:Nat->TB) (π:List Nat):Option (List Dat) :=
 match decE lk h π sh.env,decH h π 0 sh.heap with
 | some a,some b=>(match coverO (bldO sh.env a++bldHO sh.heap b) 0 sh.heap with|true=>some (a++b)|false=>none)
 | _,_=>none
abbrev Asg:=List (Nat×Nat)
def lkA:Asg->Nat->Option Nat
 | [],_=>none
 | p::r,j=>match Nat.beq p.1 j with|true=>some p.2|false=>lkA r j
def lkJ (a:Asg) (j:Nat):Nat:=match lkA a j with|some id=>id|none=>j
def asgC (c d:TC) (a:Asg):Asg:=match c,d with
 | .ptr id _, .ptr j _=>(j,id)::a
 | .arr id _, .arr j _=>(j,id)::a
 | .fn _ l, .fn _ l'=>(l.zip l').map (λ p=>(p.2.1,p.1.1))++a
 | _,_=>a
def asgCs:List TC->List TC->Asg->Asg
 | c::r,d::s,a=>asgCs r s (asgC c d a)
 | _,_,a=>a
def asgO (own:List (Nat×Nat)):Nat->List TC->Asg->Asg
 | _,[],a=>a
 | i,c::r,a=>asgO own (i+1) r (match ownJ own i,c with|some j, .arr id _=>(j,id)::a|_,_=>a)
def asgP:VSh->TP->Asg->Asg
 | .s _ own, .one c,a=>asgO own 0 [c] a
 | .s _ own, .agg cs,a=>asgO own 0 cs a
 | .c (.one d), .one c,a=>asgC c d a
 | .c (.agg ds), .agg cs,a=>asgCs cs ds a
 | _,_,a=>a
def asgE (lk:Nat->TV):List (Nat×VSh)->Asg->Asg
 | [],a=>a
 | p::r,a=>asgE lk r (match lk p.1 with | .pv v=>asgP p.2 v a|_=>a)
def asgH (h:Nat->TB):Nat->List BSh->Asg->Asg
 | _,[],a=>a
 | j,b::r,a=>asgH h (j+1) r (match b with
  | .v _ own=>(match h (lkJ a j) with | .var cs=>asgO own 0 cs a|_=>a)
  | .c ds=>(match h (lkJ a j) with | .var cs=>asgCs cs ds a|_=>a)
  | _=>a)
def ids0:Nat->Nat->List Nat
 | _,0=>[]
 | j,n+1=>j::ids0 (j+1) n
def fixIds:Nat->List BSh->List Nat
 | _,[]=>[]
 | j, .f::r=>j::fixIds (j+1) r
 | j, .d::r=>j::fixIds (j+1) r
 | j,_::r=>fixIds (j+1) r
def deadIds:Nat->List BSh->List Nat
 | _,[]=>[]
 | j, .d::r=>j::deadIds (j+1) r
 | j,_::r=>deadIds (j+1) r
def piOf (a:Asg):Nat->List BSh->List Nat
 | _,[]=>[]
 | j,_::r=>lkJ a j::piOf a (j+1) r
def tcells:TV->List TC
 | .pv (.one c)=>[c]
 | .pv (.agg cs)=>cs
 | .tup _=>[]
def tset (v:TV) (i:Nat) (c:TC):TV:=match v with
 | .pv (.one _)=>.pv (.one c)
 | .pv (.agg cs)=>.pv (.agg (cs.set i c))
 | v=>v
def setT:List TB->Nat->TB->List TB
 | [],0,b=>[b]
 | [],n+1,b=>.no::setT [] n b
 | _::r,0,b=>b::r
 | a::r,n+1,b=>a::setT r n b
def setTs (l:List TB):List (Nat×TB)->List TB
 | []=>l
 | p::r=>setTs (setT l p.1 p.2) r
def stC (ids:List Nat):TC->TC
 | .win id t a b ys=>(match elemN id ids with|true=>.winx id a.toNat ys.length|false=>.win id t a b ys)
 | .row id q t i v=>(match elemN id ids with|true=>.rowx id (i.toNat*t.size+q)|false=>.row id q t i v)
 | c=>c
def stP (ids:List Nat):TP->TP
 | .one c=>.one (stC ids c)
 | .agg cs=>.agg (cs.map (stC ids))
def stV (ids:List Nat):TV->TV
 | .pv p=>.pv (stP ids p)
 | .tup ps=>.tup (ps.map (stP ids))
def stB (ids:List Nat):TB->TB
 | .var cs=>.var (cs.map (stC ids))
 | b=>b
def memE (t:Nat):TE->Bool
 | []=>false
 | p::r=>Nat.beq p.1 t || memE t r
def isFix:TB->Bool
 | .fix=>true
 | _=>false
def hpOk (F:Lv) (s:TS):List (Nat×TB)->Bool
 | []=>true
 | p::r=>(!(elemN p.1 (F.fb.map (·.1))) && !(isFix p.2))&&hpOk F s r
def oldIds (n:Nat):List (Nat×TB)->List Nat
 | []=>[]
 | p::r=>match Nat.blt p.1 n with|true=>p.1::oldIds n r|false=>oldIds n r
def stS (ids:List Nat) (s:TS):TS:=match ids with
 | []=>s
 | ids=>⟨s.env.map λ p=>(p.1,stV ids p.2),s.heap.map (stB ids)⟩
def putE2 (e:TE):Option Nat->TV->TE
 | none,_=>e
 | some d,v=>(d,v)::e
def freshC (F:Lv) (D:List Nat) (h:Nat->TB) (nid:Nat) (t:Ty) (c:TC):Option (TC×List (Nat×TB)) :=
 match c with
 | .win id t a b ys=>(match h id,elemN id (F.fb.map (·.1)) with
  | .rows _ _ _,false=>some (.arr nid ys.length,[(id, .dead),(nid, .rows t ys.length ys)])
  | _,_=>none)
 | .emp=>some (.arr nid 0,[(nid, .rows t 0 [])])
 | .arr id n=>(match elemN id D && !(elemN id (F.fb.map (·.1))),h id with
  | true, .rows t n xs=>some (.arr nid n,[(id, .dead),(nid, .rows t n xs)])
  | _,_=>none)
 | _=>none
def leafTy (t:Ty) (i:Nat):Ty:=match t with
 | .list t=>t
 | .st n=>(Structs.lt n).getD i .bool
 | t=>t
def prep1 (F:Lv) (D:List Nat) (t i:Nat) (τ:Ty) (s:TS):TS :=
 match (tcells (s.lk F t))[i]? with
 | some c=>(match freshC F D (s.blk F) s.heap.length τ c with
  | some (c',hp)=>(match hpOk F s hp with
   | true=>⟨(t,tset (stV (oldIds s.heap.length hp) (s.lk F t)) i c')::(stS (oldIds s.heap.length hp) s).env,setTs (stS (oldIds s.heap.length hp) s).heap hp⟩
   | false=>s)
  | none=>s)
 | none=>s
def prepO (F:Lv) (D:List Nat) (t:Nat) (τ:Ty):List (Nat×Nat)->TS->TS
 | [],s=>s
 | p::r,s=>prepO F D t τ r (prep1 F D t p.1 (leafTy τ p.1) s)
def movIx (D:List Nat) (own:List (Nat×Nat)):Nat->List TC->List (Nat×Nat)
 | _,[]=>[]
 | i, .arr id _::r=>(match elemN id D,ownJ own i with
  | true,none=>(i,0)::movIx D own (i+1) r
  | _,_=>movIx D own (i+1) r)
 | i,_::r=>movIx D own (i+1) r
def varCells:TB->List TC
 | .var cs=>cs
 | _=>[]
def prepE (F:Lv) (D:List Nat):List (Nat×VSh)->TS->TS
 | [],s=>s
 | (t, .s τ own)::r,s=>prepE F D r (prepO F D t τ (own++movIx D own 0 (tcells (s.lk F t))) s)
 | (_, .c _)::r,s=>prepE F D r s
def prepB1 (F:Lv) (D:List Nat) (id i:Nat) (τ:Ty) (s:TS):TS :=
 match s.blk F id,elemN id (F.fb.map (·.1)) with
 | .var cs,false=>(match cs[i]? with
  | some c=>(match freshC F D (s.blk F) s.heap.length τ c with
   | some (c',hp)=>(match hpOk F s hp with
    | true=>(let ids:=oldIds s.heap.length (hp++[(id, .var ((cs.map (stC (oldIds s.heap.length hp))).set i c'))])
     ⟨(stS ids s).env,setTs (stS ids s).heap (hp++[(id, .var ((cs.map (stC (oldIds s.heap.length hp))).set i c'))])⟩)
    | false=>s)
   | none=>s)
  | none=>s)
 | _,_=>s
def prepBO (F:Lv) (D:List Nat) (id:Nat) (τ:Ty):List (Nat×Nat)->TS->TS
 | [],s=>s
 | p::r,s=>prepBO F D id τ r (prepB1 F D id p.1 (leafTy τ p.1) s)
def prepH (F:Lv) (D:List Nat) (a:Asg):Nat->List BSh->TS->TS
 | _,[],s=>s
 | j, .v τ own::r,s=>prepH F D a (j+1) r (prepBO F D (lkJ a j) τ (own++movIx D own 0 (varCells (s.blk F (lkJ a j)))) s)
 | j,_::r,s=>prepH F D a (j+1) r s
def noF:List BSh->List BSh
 | []=>[]
 | .f::r=>.n::noF r
 | b::r=>b::noF r
def kill1 (F:Lv) (j:Nat) (s:TS):TS:=match hpOk F s [(j, .dead)] with
 | true=>⟨(stS (oldIds s.heap.length [(j, .dead)]) s).env,setTs (stS (oldIds s.heap.length [(j, .dead)]) s).heap [(j, .dead)]⟩
 | false=>s
def isVarRaw:TB->Bool
 | .var _=>true
 | .raw ..=>true
 | _=>false
def killD (F:Lv):Nat->List BSh->TS->TS
 | _,[],s=>s
 | j, .d::r,s=>killD F (j+1) r (match isVarRaw (s.blk F j) with|true=>kill1 F j s|false=>s)
 | j,_::r,s=>killD F (j+1) r s
def putHp (F:Lv) (s:TS) (hp:List (Nat×TB)):TS:=match hpOk F s hp with
 | true=>⟨(stS (oldIds s.heap.length hp) s).env,setTs (stS (oldIds s.heap.length hp) s).heap hp⟩
 | false=>s
def rowSet (t:Ty) (v:t.den) (q:Nat) (τ:Ty) (ys:List τ.den):Option t.den:=match (leaves t v)[q]? with
 | some (.imm τ' _)=>(match (if τ'=τ then true else false) with|true=>mkT t ((leaves t v).set q (.imm τ ys))|false=>none)
 | _=>none
def shut1 (F:Lv) (id:Nat) (s:TS):TS:=match s.blk F id with
 | .rows t n []=>(match t.dpB with|true=>putHp F s [(id, .deep t n [] none)]|false=>s)
 | .deep t n xs (some H)=>(match s.blk F H.j with
  | .rows τ _ ys=>(match rowSet t H.v H.q τ ys with
   | some y=>putHp F s [(id, .deep t n (xs.set H.i.toNat y) none),(H.j, .dead)]
   | none=>s)
  | _=>s)
 | _=>s
def shutD (F:Lv):List Nat->List BSh->TS->TS
 | id::π, .od::r,s=>shutD F π r (shut1 F id s)
 | id::π, .rd _::r,s=>shutD F π r (shut1 F id s)
 | _::π,_::r,s=>shutD F π r s
 | _,_,s=>s
def asg0 (k0:Nat) (fi:List Nat):Asg:=(ids0 0 k0++fi).map λ j=>(j,j)
def Shp.pi (sh:Shp) (F:Lv) (s:TS):List Nat :=
 piOf (asgH (s.blk F) 0 sh.heap (asgE (s.lk F) sh.env (asg0 F.k0 (fixIds 0 sh.heap)))) 0 sh.heap
def hasOd:List BSh->Bool
 | []=>false
 | .od::_=>true
 | .rd _::_=>true
 | _::r=>hasOd r
def Shp.prep (sh:Shp) (F:Lv) (s:TS):TS :=
 let a:=asgE (s.lk F) sh.env (asg0 F.k0 (fixIds 0 sh.heap))
 let s1:=killD F 0 sh.heap (prepH F (deadIds 0 sh.heap) a 0 sh.heap (prepE F (deadIds 0 sh.heap) sh.env s))
 match hasOd sh.heap with
 | true=>shutD F (sh.pi F s1) sh.heap s1
 | false=>s1
def noN:List BSh->Bool
 | []=>true
 | .n::_=>false
 | _::r=>noN r
def fixAt (sh:List BSh):List (Nat×TB)->Bool
 | []=>true
 | p::r=>(match sh[p.1]? with|some .f=>true|_=>false)&&fixAt sh r
def fixE (π:List Nat):TE->Bool
 | []=>true
 | p::r=>fixV π p.2&&fixE π r
def fixOnly (fb:List (Nat×TB)) (hp:List TB):Nat->List BSh->Bool
 | _,[]=>true
 | j, .f::r=>elemN j (fb.map (·.1))&&(match hp[j]? with|some .fix=>true|_=>false)&&fixOnly fb hp (j+1) r
 | j,_::r=>fixOnly fb hp (j+1) r
def apart (fx:TE):TE->Bool
 | []=>true
 | p::r => !(memE p.1 fx)&&apart fx r
def Shp.see (sh:Shp) (F:Lv) (s:TS):Option (List Dat) :=
 let s1:=sh.prep F s
 let π:=sh.pi F s1
 match nodB π&&preK F.k0 π 0&&fixAt sh.heap F.fb&&fixE π F.fx&&noN sh.heap&&fixOnly F.fb s1.heap 0 sh.heap&&apart F.fx s1.env with
 | true=>sh.dec (s1.lk F) (s1.blk F) π
 | false=>none
end Go.Fm
namespace Go.Fm
variable [Globs] [Structs] [Tabs]
structure Con where
 f:FuncId
 ps:Shp
 rs:Shp
 frz:Bool
 ro:List Nat
 g:tup ps.tys->Option (tup rs.tys)
def dstFree (F:Lv):Option Nat->Bool
 | none=>true
 | some d => !(memE d F.fx)
def TS.put (F:Lv) (s:TS) (d:Option Nat) (A:OR):Option TS :=
 match dstFree F d&&hpOk F s A.hp with
 | true=>(let s1:=stS (oldIds s.heap.length A.hp) s
  some ⟨putE2 s1.env d A.val,setTs s1.heap A.hp⟩)
 | false=>none
def repE (d:Nat) (v:TV):TE->TE
 | []=>[]
 | p::r=>match Nat.beq p.1 d with|true=>(d,v)::r|false=>p::repE d v r
def TS.rep (s:TS) (d:Nat) (b:Bool):TS:=⟨repE d (tone (.bool b)) s.env,s.heap⟩
def argsT:List TV->Option (List TP)
 | []=>some []
 | .pv p::r=>(match argsT r with|some l=>some (p::l)|none=>none)
 | _=>none
def numE:Nat->List TP->TE
 | _,[]=>[]
 | i,p::r=>(i, .pv p)::numE (i+1) r
def capP (p:Nat×Nat):TP:=.one (.ptr p.1 p.2)
def handOf (sh:Shp) (h:Nat->TB) (e:TE):List Nat :=
 piOf (asgH h 0 sh.heap (asgE (lkE e) sh.env [])) 0 sh.heap
def sgm (π:List Nat) (k0 nid j:Nat):Nat:=match Nat.blt j k0 with|true=>π.getD j 0|false=>nid+(j-k0)
def bkC (σ:Nat->Nat):TC->TC
 | .arr id n=>.arr (σ id) n
 | .ptr id off=>.ptr (σ id) off
 | .fn f l=>.fn f (l.map λ p=>(σ p.1,p.2))
 | c=>c
def bkP (σ:Nat->Nat):TP->TP
 | .one c=>.one (bkC σ c)
 | .agg cs=>.agg (cs.map (bkC σ))
def bkB (σ:Nat->Nat):TB->TB
 | .var cs=>.var (cs.map (bkC σ))
 | b=>b
def bkH (σ:Nat->Nat):Nat->List TB->List (Nat×TB)
 | _,[]=>[]
 | j, .fix::r=>bkH σ (j+1) r
 | j,b::r=>(σ j,bkB σ b)::bkH σ (j+1) r
def valsE (σ:Nat->Nat):TE->List TP
 | []=>[]
 | (_, .pv p)::r=>bkP σ p::valsE σ r
 | _::r=>valsE σ r
def lentC (h:Nat->TB) (π:List Nat):TC->List Nat
 | .arr id n=>(match elemN id π with
  | true=>[]
  | false=>id::(match h id with | .raw _ css=>css.flatten.flatMap (λ c=>match c with | .arr id _=>[id]|_=>[])|_=>[]))
 | .win id _ _ _ _=>(match elemN id π with|true=>[]|false=>[id])
 | .winx id _ _=>(match elemN id π with|true=>[]|false=>[id])
 | .ptr id _=>(match elemN id π with|true=>[]|false=>[id])
 | _=>[]
def lentP (h:Nat->TB) (π:List Nat):TP->List Nat
 | .one c=>lentC h π c
 | .agg cs=>cs.flatMap (lentC h π)
def lentB (h:Nat->TB) (π:List Nat):List Nat->List Nat
 | []=>[]
 | id::r=>id::(match h id with | .var cs=>cs.flatMap (lentC h π)|_=>[])++lentB h π r
def notIn (π:List Nat):List Nat->List Nat
 | []=>[]
 | x::r=>match elemN x π with|true=>notIn π r|false=>(match notIn π r with|l=>match elemN x l with|true=>l|false=>x::l)
def freeCs:List TC->Bool
 | []=>true
 | c::r=>(match c with | .imm ..=>false | .ip ..=>false | .tab ..=>false|_=>true)&&freeCs r
def freeP:TP->Bool
 | .one c=>freeCs [c]
 | .agg cs=>freeCs cs
def freeB:TB->Bool
 | .rows t _ _=>t.plain
 | .var cs=>freeCs cs
 | .raw _ _=>false
 | .deep _ _ _ (some _)=>false
 | _=>true
def tupV:List TP->TV
 | [p]=>.pv p
 | ps=>.tup ps
variable {R:Type}
def noFH:List BSh->Bool
 | []=>true
 | .f::_=>false
 | _::r=>noFH r
def seqE:Nat->List (Nat×VSh)->Bool
 | _,[]=>true
 | i,p::r=>Nat.beq p.1 i&&seqE (i+1) r
def bkOkC:TC->Bool
 | .win ..=>false
 | .winx ..=>false
 | .row ..=>false
 | .rowx ..=>false
 | _=>true
def bkOkE:Nat->TE->Bool
 | _,[]=>true
 | i,p::r=>(match p.2 with | .pv (.one c)=>bkOkC c | .pv (.agg cs)=>cs.all bkOkC | .tup _=>false)&&Nat.beq p.1 i&&bkOkE (i+1) r
def bkOkH:List TB->Bool
 | []=>true
 | b::r=>(match b with | .no=>false | .raw ..=>false | .deep _ _ _ (some _)=>false | .var cs=>cs.all bkOkC|_=>true)&&bkOkH r
def keepT:List TB->List TB->Bool
 | [],_=>true
 | _::r, .dead::s=>keepT r s
 | _::r, .fix::s=>keepT r s
 | .rows t _ _::r, .rows t' _ _::s=>Nat.beq t.size t'.size&&keepT r s
 | .var cs::r, .var cs'::s=>Nat.beq cs.length cs'.length&&keepT r s
 | .deep t _ _ none::r, .deep t' _ _ none::s=>Nat.beq t.size t'.size&&keepT r s
 | _,_=>false
def roCs (own:List (Nat×Nat)):Nat->List TC->Bool
 | _,[]=>true
 | i,c::r=>(match ownJ own i with|some _=>true|none=>c.pure)&&roCs own (i+1) r
def roB:BSh->TB->Bool
 | .d, .dead=>true
 | .o, .rows ..=>true
 | .od, .deep _ _ _ none=>true
 | .r _, .rows ..=>true
 | .rd _, .deep _ _ _ none=>true
 | .v _ own, .var cs=>roCs own 0 cs
 | .c _, .var _=>true
 | _,_=>false
def roH (ro:List Nat) (π:List Nat) (h:Nat->TB) (fr:Bool) (sh:List BSh):Nat->List TB->Bool
 | _,[]=>true
 | j, .fix::r=>(match π[j]?,sh[j]? with
  | some id,some b=>elemN j ro&&roB b (h id)&&(fr || freeB (h id))
  | _,_=>false)&&roH ro π h fr sh (j+1) r
 | j,_::r=>roH ro π h fr sh (j+1) r
def liveAll (h:Nat->TB):List Nat->Bool
 | []=>true
 | x::r=>(match h x with | .no=>false|_=>true)&&liveAll h r
def freeE:TE->Bool
 | []=>true
 | p::r=>(match p.2 with | .pv p=>freeP p | .tup _=>false)&&freeE r
def freeH:List TB->Bool
 | []=>true
 | b::r=>freeB b&&freeH r
def callT2 (F:Lv) (s:TS) (c:Con) (args:List TP) (K:OR->Option R):Option R :=
 let e:=numE 0 args
 let π:=handOf c.ps (s.blk F) e
 match c.ps.dec (lkE e) (s.blk F) π,nodB π&&liveAll (s.blk F) π&&seqE 0 c.ps.env&&Nat.beq c.ps.env.length args.length&&noN c.ps.heap&&noFH c.ps.heap with
 | some ds,true=>(match ofD c.ps.tys ds with
  | some a=>(c.g a).bind λ r =>
   (let o:=c.rs.mkS r
    let σ:=sgm π π.length s.heap.length
    let rd:=args.flatMap (lentP (s.blk F) π)++lentB (s.blk F) π π
    let vs:=valsE σ o.env
    let out:=notIn π rd
    match bkOkE 0 o.env&&bkOkH o.heap&&keepT (c.ps.mkS a).heap o.heap&&liveAll (s.blk F) out,out,c.frz with
    | true,[],_=>(match roH c.ro π (s.blk F) true c.ps.heap 0 o.heap with
     | true=>K ⟨tupV vs,bkH σ 0 o.heap,rd⟩
     | false=>none)
    | true,fz,true=>(match roH c.ro π (s.blk F) true c.ps.heap 0 o.heap with
     | true=>K ⟨tupV vs,fz.map (λ j=>(j, .dead))++bkH σ 0 o.heap,rd⟩
     | false=>none)
    | true,_,false=>(match freeE o.env&&freeH o.heap&&roH c.ro π (s.blk F) false c.ps.heap 0 o.heap with
     | true=>K ⟨tupV vs,bkH σ 0 o.heap,rd⟩
     | false=>none)
    | false,_,_=>none)
  | none=>none)
 | _,_=>none
def isDeep:TB->Bool
 | .deep ..=>true
 | _=>false
def TS.onDeep (F:Lv) (s:TS):TV->Bool
 | .pv (.one (.arr id _))=>isDeep (s.blk F id)
 | .pv (.one (.row id ..))=>isDeep (s.blk F id)
 | _=>false
def newDeep (T:TypeId->TyI) (t:TypeId):Bool:=match (T t).kind with
 | .slice e=>(match tyS T e with|some τ=>τ.dpB && !τ.plain|none=>false)
 | _=>false
def mvC (h:Nat->TB):TC->Option (TC×List Nat)
 | .arr id _=>(match h id with
  | .rows t _ xs=>(match t.plain with|true=>some (.imm t xs,[id])|false=>none)
  | _=>none)
 | .emp=>some (.emp,[])
 | c=>(match c.flat with|true=>some (c,[])|false=>none)
def mvCs (h:Nat->TB):List TC->Option (List TC×List Nat)
 | []=>some ([],[])
 | c::r=>(match mvC h c,mvCs h r with
  | some (c,a),some (l,b)=>some (c::l,a++b)
  | _,_=>none)
def mvAll (h:Nat->TB) (t:Ty):List (List TC)->Option (List t.den×List Nat)
 | []=>some ([],[])
 | cs::r=>(match mvCs h cs,mvAll h t r with
  | some (l,a),some (vs,b)=>(match mkT t l with|some v=>some (v::vs,a++b)|none=>none)
  | _,_=>none)
def deads (ids:List Nat):List (Nat×TB):=ids.map λ j=>(j, .dead)
def storeD (T:TypeId->TyI) (F:Lv) (s:TS) (t:TypeId) (x v:TV) (K:OR->Option R):Option R :=
 match (T t).size,cellsV v,x with
 | some size,some ns, .pv (.one (.row id q t i v))=>(match Nat.beq ns.length size,s.blk F id,mvCs (s.blk F) ns with
  | true, .deep t' n xs o,some (ms,ids)=>(match castL t' t xs,putT q ms (leaves t v),nodB (id::ids) with
   | some xs,some l,true=>(match mkT t l with
    | some y=>(match o with
     | none=>K ⟨tone .dead,(id, .deep t n (xs.set i.toNat y) none)::deads ids,id::ids⟩
     | some H=>(match Nat.beq q H.q&&Nat.beq ns.length 1 with
      | true=>(chk (decide (i=H.i))).bind λ _=>K ⟨tone .dead,(id, .deep t n (xs.set i.toNat y) none)::deads ids,id::ids⟩
      | false=>none))
    | none=>none)
   | _,_,_=>none)
  | _,_,_=>none)
 | _,_,_=>none
def loadD (T:TypeId->TyI) (F:Lv) (s:TS) (t:TypeId) (x:TV) (K:OR->Option R):Option R :=
 match (T t).size,(T t).agg,x with
 | some size,some b, .pv (.one (.row id q t i v))=>(match okSize b size,s.blk F id with
  | true, .deep t' n xs o=>(match castL t' t xs,getT size ((leaves t v).drop q) with
   | some xs,some ns=>(match ns.all TC.flat with
    | true=>K ⟨pvT b ns,[],[id]⟩
    | false=>(match b,o,ns with
     | false,none,[.imm τ ys]=>(match τ.plain with
      | true=>K ⟨tone (.arr s.heap.length ys.length),[(id, .deep t n xs (some ⟨i,v,q,s.heap.length,ys.length⟩)),(s.heap.length, .rows τ ys.length ys)],[id]⟩
      | false=>none)
     | _,_,_=>none))
   | _,_=>none)
  | _,_=>none)
 | _,_,_=>none
def fieldAddrD (T:TypeId->TyI) (F:Lv) (s:TS) (t:TypeId) (x:TV) (f:Nat) (K:OR->Option R):Option R :=
 match (T t).fl[f]?,x with
 | some q, .pv (.one (.row id p t i v))=>(match (T q.2).size,s.blk F id with
  | some size, .deep _ _ _ _=>(match Nat.blt 0 size with
   | true=>K ⟨tone (.row id (p+q.1) t i v),[],[id]⟩
   | false=>none)
  | _,_=>none)
 | _,_=>none
def indexAddrD (T:TypeId->TyI) (F:Lv) (s:TS) (t:TypeId) (x i:TV) (K:OR->Option R):Option R :=
 match (T t).kind,x,i with
 | .slice e, .pv (.one (.arr id n)), .pv (.one (.int _ i))=>(match tyS T e,s.blk F id with
  | some τ, .deep t _ xs _=>(match castL t τ xs with
   | some xs=>(getI xs i).bind λ v=>K ⟨tone (.row id 0 τ i v),[],[id]⟩
   | none=>none)
  | _,_=>none)
 | _,_,_=>none
def makeSliceD (T:TypeId->TyI) (F:Lv) (s:TS) (t:TypeId) (l c:Operand) (K:OR->Option R):Option R :=
 match (T t).kind with
 | .slice e=>(match zeroE T e,(T e).bytes with
  | some ⟨τ,v,z⟩,some by_=>(match Nat.ble by_ 1024&&Nat.beq z.length τ.size&&eqOp l c&&τ.dpB&&z.all (λ c=>c.flat || match c with | .emp=>true|_=>false),s.ev F l with
   | true, .pv (.one (.int .i64 n))=>(mk v n).bind λ xs=>K ⟨tone (.arr s.heap.length xs.length),[(s.heap.length, .deep τ xs.length xs none)],[]⟩
   | _,_=>none)
  | _,_=>none)
 | _=>none
def lenD (T:TypeId->TyI) (F:Lv) (s:TS) (t:TypeId) (x:TC) (K:OR->Option R):Option R:=match (T t).kind,x with
 | .slice _, .arr id n=>(match s.blk F id with | .deep _ _ _ _=>K ⟨tone (.int .i64 (n:Int)),[],[id]⟩|_=>none)
 | _,_=>none
def appendD (T:TypeId->TyI) (F:Lv) (s:TS) (t t2:TypeId) (x y:TC) (K:OR->Option R):Option R :=
 match (T t).kind,(T t2).kind,x,y with
 | .slice e, .slice _, .arr id n, .arr rid m=>(match tyS T e,(T e).zero,(T e).bytes with
  | some τ,some z,some by_=>(match Nat.ble by_ 1024&&Nat.beq z.length τ.size,s.blk F id,s.blk F rid with
   | true, .deep t' _ xs none, .raw t'' css=>(match castL t' τ xs,(if t''=τ then true else false),mvAll (s.blk F) τ css with
    | some xs,true,some (vs,ids)=>(match nodB ids with
     | true=>(app xs vs).bind λ v=>K ⟨tone (.arr s.heap.length v.length),(id, .dead)::(s.heap.length, .deep τ v.length v none)::deads ids,id::rid::ids⟩
     | false=>none)
    | _,_,_=>none)
   | _,_,_=>none)
  | _,_,_=>none)
 | _,_,_,_=>none
def TS.deepOp (T:TypeId->TyI) (F:Lv) (s:TS):Op->Bool
 | .fieldAddr _ x _=>s.onDeep F (s.ev F x)
 | .load _ x=>s.onDeep F (s.ev F x)
 | .store _ x _=>s.onDeep F (s.ev F x)
 | .makeSlice t _ _=>newDeep T t
 | .indexAddr _ x _=>s.onDeep F (s.ev F x)
 | .call c=>(match c.callee,c.args.toList with
  | .builtin .len,[x]=>s.onDeep F (s.ev F x)
  | .builtin .append,[x,_]=>s.onDeep F (s.ev F x)
  | _,_=>false)
 | _=>false
def actD (T:TypeId->TyI) (F:Lv) (s:TS) (op:Op) (K:OR->Option R):Option R :=
 match op with
 | .fieldAddr t x f=>fieldAddrD T F s t (s.ev F x) f K
 | .load t x=>loadD T F s t (s.ev F x) K
 | .store t x v=>storeD T F s t (s.ev F x) (s.ev F v) K
 | .makeSlice t l c=>makeSliceD T F s t l c K
 | .indexAddr t x i=>indexAddrD T F s t (s.ev F x) (s.ev F i) K
 | .call c=>(match c.callee,c.argTypes.toList,c.args.toList.map (s.ev F) with
  | .builtin .len,[t],[.pv (.one x)]=>lenD T F s t x K
  | .builtin .append,t::t2::_,[.pv (.one x), .pv (.one y)]=>appendD T F s t t2 x y K
  | _,_,_=>none)
 | _=>none
def pick1 (Γ:List Con) (h:Nat->TB) (f:FuncId) (args:List TP):Option Con :=
 match Γ with
 | []=>none
 | c::r=>match Nat.beq c.f f with
  | true=>(match c.ps.dec (lkE (numE 0 args)) h (handOf c.ps h (numE 0 args)),Nat.beq c.ps.env.length args.length with
   | some _,true=>some c
   | _,_=>pick1 r h f args)
  | false=>pick1 r h f args
def opT2 (T:TypeId->TyI) (Γ:List Con) (F:Lv) (o:Oper) (s:TS) (K:OR->Option R):Option R :=
 match o.op with
 | .call c=>(match c.callee with
  | .value x=>(match s.ev F x,argsT (c.args.toList.map (s.ev F)) with
   | .pv (.one (.fn f caps)),some args=>(match pick1 Γ (s.blk F) f (args++caps.map capP) with
    | some c=>callT2 F s c (args++caps.map capP) K
    | none=>none)
   | _,_=>none)
  | _=>(match s.deepOp T F o.op with|true=>actD T F s o.op K|false=>actT2 T F s o.op K))
 | _=>(match s.deepOp T F o.op with|true=>actD T F s o.op K|false=>actT2 T F s o.op K)
def skipV:TV:=.tup []
def opsT (T:TypeId->TyI) (Γ:List Con) (F:Lv) (all:List Oper):List Oper->TS->Feet->(TS->Feet->Option R)->Option R
 | [],s,acc,K=>K s acc
 | o::r,s,acc,K =>
  match o.guard with
  | none=>opT2 T Γ F o s λ A=>(match s.put F o.dst A with
   | some s'=>opsT T Γ F all r s' ((A.rd,A.hp.map (·.1))::acc) K
   | none=>none)
  | some (j,b)=>(match (all[j]?).bind (·.dst) with
   | none=>(match s.put F o.dst ⟨skipV,[],[]⟩ with
    | some s'=>opsT T Γ F all r s' (([],[])::acc) K
    | none=>none)
   | some d=>(match s.lk F d with
    | .pv (.one (.bool t)) =>
     cond t (match b with
      | true=>opT2 T Γ F o (s.rep d true) λ A=>(match (s.rep d true).put F o.dst A with
       | some s'=>opsT T Γ F all r s' ((A.rd,A.hp.map (·.1))::acc) K
       | none=>none)
      | false=>(match (s.rep d true).put F o.dst ⟨skipV,[],[]⟩ with
       | some s'=>opsT T Γ F all r s' (([],[])::acc) K
       | none=>none))
     (match b with
      | false=>opT2 T Γ F o (s.rep d false) λ A=>(match (s.rep d false).put F o.dst A with
       | some s'=>opsT T Γ F all r s' ((A.rd,A.hp.map (·.1))::acc) K
       | none=>none)
      | true=>(match (s.rep d false).put F o.dst ⟨skipV,[],[]⟩ with
       | some s'=>opsT T Γ F all r s' (([],[])::acc) K
       | none=>none))
    | .tup _=>(match s.put F o.dst ⟨skipV,[],[]⟩ with
     | some s'=>opsT T Γ F all r s' (([],[])::acc) K
     | none=>none)
    | _=>none))
def exEq:Ex->Ex->Bool
 | .normal, .normal=>true
 | .ret, .ret=>true
 | .exit a, .exit b=>Nat.beq a b
 | _,_=>false
def osum:List (Ex×Shp)->Type
 | []=>Empty
 | [x]=>tup x.2.tys
 | x::y::r=>tup x.2.tys ⊕ osum (y::r)
inductive An where
 | z
 | q (a b:An)
 | b (a:An)
 | m (outs:List (Ex×Shp)) (ks fb:List Nat) (a b:An)
 | l (Fs Vs:Shp) (outs:List (Ex×Shp)) (φ:tup Fs.tys->Nat->tup Vs.tys->Option (osum outs)) (a:An)
def encO (F:Lv) (s:TS) (e:Ex):(outs:List (Ex×Shp))->Option (osum outs)
 | []=>none
 | [x]=>(match exEq x.1 e with
  | true=>(match x.2.see F s with
   | some ds=>ofD x.2.tys ds
   | none=>none)
  | false=>none)
 | x::y::r=>(match exEq x.1 e with
  | true=>(match x.2.see F s with
   | some ds=>(match ofD x.2.tys ds with|some d=>some (.inl d)|none=>none)
   | none=>none)
  | false=>(match encO F s e (y::r) with|some o=>some (.inr o)|none=>none))
def unfix (fb fb1:List (Nat×TB)):Nat->List TB->List TB
 | _,[]=>[]
 | j, .fix::r=>(match elemN j (fb.map (·.1)) with|true=>.fix|false=>lkB fb1 j)::unfix fb fb1 (j+1) r
 | j,b::r=>b::unfix fb fb1 (j+1) r
def lessE (fx:TE):TE->TE
 | []=>[]
 | p::r=>match memE p.1 fx with|true=>lessE fx r|false=>p::lessE fx r
def outS (F F1:Lv) (s:TS):TS:=⟨s.env++lessE F.fx F1.fx,unfix F.fb F1.fb 0 s.heap⟩
def caseO (F F1:Lv) (K:Ex->TS->Option R):(outs:List (Ex×Shp))->osum outs->Option R
 | [],o=>nomatch o
 | [x],d=>K x.1 (outS F F1 (x.2.mkS d))
 | x::y::r,o=>(match o with
  | .inl d=>K x.1 (outS F F1 (x.2.mkS d))
  | .inr o=>caseO F F1 K (y::r) o)
def keepE (F:Lv) (s:TS):List Nat->TE
 | []=>[]
 | t::r=>(t,s.lk F t)::keepE F s r
def dropE (ks:List Nat):TE->TE
 | []=>[]
 | p::r=>match elemN p.1 ks with|true=>dropE ks r|false=>p::dropE ks r
def fixH (fb:List Nat):Nat->List TB->List TB
 | _,[]=>[]
 | j,b::r=>(match elemN j fb with|true=>.fix|false=>b)::fixH fb (j+1) r
def keepB (F:Lv) (s:TS):List Nat->List (Nat×TB)
 | []=>[]
 | j::r=>(j,s.blk F j)::keepB F s r
def stayC (fb:List Nat):TC->Bool
 | .arr id _=>elemN id fb
 | .win id ..=>elemN id fb
 | .winx .. | .row .. | .rowx ..=>false
 | _=>true
def stayP (fb:List Nat):TP->Bool
 | .one c=>stayC fb c
 | .agg cs=>cs.all (stayC fb)
def stayV (fb:List Nat):TV->Bool
 | .pv p=>stayP fb p
 | .tup _=>false
def stayE (fb:List Nat):TE->Bool
 | []=>true
 | p::r=>stayV fb p.2&&stayE fb r
def lessN (p:Nat->Bool):List Nat->List Nat
 | []=>[]
 | x::r=>match p x with|true=>lessN p r|false=>x::lessN p r
def stayBs (fb:List Nat):List (Nat×TB)->Bool
 | []=>true
 | p::r=>(match p.2 with | .var cs=>cs.all (stayC fb) | .raw ..=>false | .deep _ _ _ (some _)=>false|_=>true)&&stayBs fb r
def lvOkB (F:Lv):Bool:=stayE (F.fb.map (·.1)) F.fx&&stayBs (F.fb.map (·.1)) F.fb
def allLt (n:Nat):List (Nat×TB)->Bool
 | []=>true
 | p::r=>Nat.blt p.1 n&&allLt n r
def fixS (F:Lv) (s:TS) (ks fb:List Nat):Lv×TS :=
 let ks:=lessN (λ t=>memE t F.fx) ks
 let fb:=lessN (λ j=>elemN j (F.fb.map (·.1))) fb
 (⟨keepE F s ks++F.fx,keepB F s fb++F.fb,F.k0,F.n0⟩,⟨dropE ks s.env,fixH fb 0 s.heap⟩)
def heapIds (b:Nat->TB):Nat->List BSh->List (Nat×TB)
 | _,[]=>[]
 | j, .f::r=>(j,b j)::heapIds b (j+1) r
 | j,_::r=>heapIds b (j+1) r
def fixL (F:Lv) (Fs Vs:Shp) (c:tup Fs.tys):Lv :=
 let s:=Fs.mkS c
 ⟨s.env,heapIds (blkL [] 0 s.heap) 0 Vs.heap,F.k0,F.n0⟩
def joinH:List BSh->List BSh->List BSh
 | .f::r,x::s=>x::joinH r s
 | b::r,_::s=>b::joinH r s
 | _,_=>[]
def bothS (Fs Vs:Shp):Shp:=⟨Vs.env++Fs.env,joinH Vs.heap Fs.heap⟩
def strictC (π:List Nat):TC->Bool
 | .emp=>false
 | c=>fixC π c
def strictP (π:List Nat):VSh->TP->Bool
 | .s _ _, .one c=>strictC π c
 | .s _ _, .agg cs=>cs.all (strictC π)
 | .c _,p=>fixP π p
def lkV:List (Nat×VSh)->Nat->Option VSh
 | [],_=>none
 | p::r,t=>match Nat.beq p.1 t with|true=>some p.2|false=>lkV r t
def strictE (π:List Nat) (env:List (Nat×VSh)):TE->Bool
 | []=>true
 | p::r=>(match lkV env p.1,p.2 with|some sh, .pv q=>strictP π sh q|_,_=>false)&&strictE π env r
def strictB (π:List Nat):BSh->TB->Bool
 | .d, .dead=>true
 | .o, .rows ..=>true
 | .od, .deep _ _ _ none=>true
 | .r _, .rows ..=>true
 | .rd _, .deep _ _ _ none=>true
 | .v _ _, .var cs=>cs.all (strictC π)
 | .c _, .var cs=>cs.all (fixC π)
 | _,_=>false
def strictH (π:List Nat) (V F:List BSh) (hp:List TB):List (Nat×TB)->Bool
 | []=>true
 | p::r=>(match V[p.1]?,F[p.1]?,hp[p.1]?,π[p.1]? with
  | some .f,some b,some .fix,some id=>Nat.beq id p.1&&strictB π b p.2
  | _,_,_,_=>false)&&strictH π V F hp r
def loopOk (F:Lv) (Fs Vs:Shp) (s1:TS) (π:List Nat):Bool :=
 nodB π&&preK F.k0 π 0&&noN (joinH Vs.heap Fs.heap)&&noFH (joinH Vs.heap Fs.heap)&&Nat.beq Vs.heap.length Fs.heap.length&&apart F.fx s1.env&&strictE π Fs.env F.fx&&strictH π Vs.heap Fs.heap s1.heap F.fb
def run (T:TypeId->TyI) (Γ:List Con):(F:Lv)->An->(c:Code)->TS->{R:Type}->(Ex->TS->Option R)->Option R
 | F,an, .skip,s,R,K=>K .normal s
 | F,an, .region _ ops draw,s,R,K=>opsT T Γ F ops.toList ops.toList s [] λ s feet =>
   (match draw with
   | false=>K .normal s
   | true=>(match drawOk ops.toList feet.reverse with|true=>K .normal s|false=>none))
 | F,an, .seq x y,s,R,K=>(match an with
  | .m outs ks fb a b=>(match fixS F s ks fb with
   | (F1,s1)=>(match lvOkB F1&&allLt s.heap.length F1.fb with
    | true=>(run T Γ F1 a x s1 λ e s'=>encO F1 s' e outs).bind λ o=>caseO F F1 (λ e s'=>(match e with
     | .normal=>run T Γ F b y s' K
     | e=>K e s')) outs o
    | false=>none))
  | .q a b=>run T Γ F a x s λ e s'=>(match e with
   | .normal=>run T Γ F b y s' K
   | e=>K e s')
  | _=>run T Γ F .z x s λ e s'=>(match e with
   | .normal=>run T Γ F .z y s' K
   | e=>K e s'))
 | F,an, .cond c x y,s,R,K=>(match s.ev F c with
  | .pv (.one (.bool t))=>cond t (run T Γ F (match an with | .q a _=>a|_=>.z) x s K) (run T Γ F (match an with | .q _ b=>b|_=>.z) y s K)
  | _=>none)
 | F,an, .block id c,s,R,K=>run T Γ F (match an with | .b a=>a|_=>.z) c s λ e s'=>(match e with
  | .normal=>K .normal s'
  | .exit i=>(match Nat.beq i id with|true=>K .normal s'|false=>K (.exit i) s')
  | .ret=>K .ret s')
 | F,an, .exit id,s,R,K=>K (.exit id) s
 | F,an, .ret,s,R,K=>K .ret s
 | F,an, .loop c,s,R,K=>(match an with
  | .l Fs Vs outs φ a =>
   (let sh:=bothS Fs Vs
    let s1:=sh.prep F s
    let π:=sh.pi F s1
    match loopOk F Fs Vs s1 π with
    | true=>(match Fs.dec (s1.lk F) (s1.blk F) π,(Shp.mk Vs.env (noF Vs.heap)).dec (s1.lk F) (s1.blk F) π with
     | some cd,some pd=>(match ofD Fs.tys cd,ofD Vs.tys pd with
      | some c0,some p0=>(match lvOkB (fixL F Fs Vs c0) with
       | true=>(φ c0 bigK p0).bind λ o=>caseO F (fixL F Fs Vs c0) K outs o
       | false=>none)
      | _,_=>none)
     | _,_=>none)
    | false=>none)
  | _=>none)
 | F,an,_,s,R,K=>none
def loopK2 {Vs:Shp} {outs:List (Ex×Shp)} (F1:Lv) (φ:tup Vs.tys->Option (osum outs)) (e:Ex) (s:TS):Option (osum outs) :=
 match e with
 | .normal=>(match Vs.see F1 s with
  | some ds=>(match ofD Vs.tys ds with|some p=>φ p|none=>none)
  | none=>none)
 | e=>encO F1 s e outs
end Go.Fm
namespace Go.Fm
variable [Globs] [Structs] [Tabs]
def resT (T:TypeId->TyI) (F:Lv) (s:TS):List ResultVar->Option (List TP)
 | []=>some []
 | .tmp t::r=>(match s.lk F t,resT T F s r with
  | .pv p,some l=>some (p::l)
  | _,_=>none)
 | .cell a t::r=>(match s.lk F a,(T t).size,(T t).agg with
  | .pv (.one (.ptr id off)),some size,some b=>(match s.blk F id,okSize b size with
   | .var cs,true=>(match getT size (cs.drop off),resT T F s r with
    | some ns,some l=>some ((match b with|true=>.agg ns|false=>.one (ns.headD .dead))::l)
    | _,_=>none)
   | _,_=>none)
  | _,_,_=>none)
def n0Of:List TB->List (Option Nat)
 | []=>[]
 | .rows _ n _::r=>some n::n0Of r
 | .deep _ n _ _::r=>some n::n0Of r
 | _::r=>none::n0Of r
def lvl0 (ro:List Nat) (s:TS):Lv:=⟨[],ro.map (λ j=>(j,blkL [] 0 s.heap j)),s.heap.length,n0Of s.heap⟩
def ent0 (ro:List Nat) (s:TS):TS:=⟨s.env,fixH ro 0 s.heap⟩
def finT (T:TypeId->TyI) (F:Lv) (rs:Shp) (res:List ResultVar) (e:Ex) (s:TS):Option (tup rs.tys) :=
 match e with
 | .exit _=>none
 | _=>(match resT T F s res with
  | some ps=>(match rs.see F ⟨numE 0 ps,s.heap⟩ with
   | some ds=>ofD rs.tys ds
   | none=>none)
  | none=>none)
def fnRun (T:TypeId->TyI) (Γ:List Con) (an:An) (code:Code) (res:List ResultVar) (ro:List Nat) (ps rs:Shp) (a:tup ps.tys):Option (tup rs.tys) :=
 run T Γ (lvl0 ro (ps.mkS a)) an code (ent0 ro (ps.mkS a)) (finT T (lvl0 ro (ps.mkS a)) rs res)
def AnOk (T:TypeId->TyI) (Γ:List Con) (k0:Nat):An->Code->Prop
 | .l Fs Vs outs φ a, .loop c=>(∀ f p,φ f 0 p=none)/\(∀ n0 f k p,φ f (k+1) p=run T Γ (fixL ⟨[],[],k0,n0⟩ Fs Vs f) a c (Vs.mkS p) (loopK2 (fixL ⟨[],[],k0,n0⟩ Fs Vs f) (φ f k)))/\AnOk T Γ k0 a c
 | .m _ _ _ a b, .seq x y=>AnOk T Γ k0 a x/\AnOk T Γ k0 b y
 | .q a b, .seq x y=>AnOk T Γ k0 a x/\AnOk T Γ k0 b y
 | .q a b, .cond _ x y=>AnOk T Γ k0 a x/\AnOk T Γ k0 b y
 | .b a, .block _ c=>AnOk T Γ k0 a c
 | _,_=>True
end Go.Fm
namespace Go.Fm
variable [Globs] [Structs] [Tabs]
def OR.conc (A:OR):Action:=⟨A.rd,A.val.conc,A.hp.map λ p=>(p.1,p.2.conc)⟩
def leC0 (c c':CV):Prop:=c'=c\/(c=.emp/\∃ sz,c'=.imm sz 0 [])
def leL0:List CV->List CV->Prop
 | [],[]=>True
 | c::r,c'::r'=>leC0 c c'/\leL0 r r'
 | _,_=>False
def leHS (x y:HS):Prop:=y=x\/∃ b b',x=.live b/\y=.live b'/\b'.sz=b.sz/\b'.n=b.n/\leL0 b.cs b'.cs
def leHp:List (Nat×HS)->List (Nat×HS)->Prop
 | [],[]=>True
 | p::r,q::s=>q.1=p.1/\leHS p.2 q.2/\leHp r s
 | _,_=>False
theorem leL0_refl:∀ l:List CV,leL0 l l
 | []=>trivial
 | _::r=>⟨.inl rfl,leL0_refl r⟩
theorem leL0_append:∀ {a b c d:List CV},leL0 a b->leL0 c d->leL0 (a++c) (b++d)
 | [],[],_,_,_,h=>h
 | _::_,_::_,_,_,h1,h2=>⟨h1.1,leL0_append h1.2 h2⟩
 | [],_::_,_,_,h,_=>h.elim
 | _::_,[],_,_,h,_=>h.elim
theorem leL0_len:∀ {a b:List CV},leL0 a b->b.length=a.length
 | [],[],_=>rfl
 | _::_,_::_,h=>by simp only[List.length_cons,leL0_len h.2]
 | [],_::_,h=>h.elim
 | _::_,[],h=>h.elim
theorem CRs_le:∀ {l m:List TC},CRs l m->leL0 (l.map TC.conc) (m.map TC.conc)
 | [],[],_=>trivial
 | c::r,d::s,h=>⟨by
   rcases h.1 with e|⟨e,t,e'⟩
   ·exact .inl (by rw[e])
   ·subst e e';exact .inr ⟨rfl,t.size,rfl⟩,CRs_le h.2⟩
 | [],_::_,h=>h.elim
 | _::_,[],h=>h.elim
theorem leHp_refl:∀ l:List (Nat×HS),leHp l l
 | []=>trivial
 | _::r=>⟨rfl, .inl rfl,leHp_refl r⟩
def Compat:TB->TB->Prop
 | _, .dead=>True
 | .var _, .var _=>True
 | .rows _ n _, .rows _ n' _=>n'=n
 | .deep _ n _ _, .deep _ n' _ _=>n'=n
 | .rows _ n _, .deep _ n' _ _=>n'=n
 | _,_=>False
def hpGet (h:Nat->TB):List (Nat×TB)->Nat->TB
 | [],j=>h j
 | p::r,j=>hpGet (λ i=>if i=p.1 then p.2 else h i) r j
structure OutOk (F:Lv) (s:TS) (A:OR):Prop where
 hp:∀ p ∈ A.hp,s.heap.length<=p.1\/(s.blk F p.1≠.no/\Compat (s.blk F p.1) p.2)
 ne:∀ p ∈ A.hp,p.2≠.no/\p.2≠.fix
 bl:∀ p ∈ A.hp,goodB (hpGet (s.blk F) A.hp) p.2
 val:goodV (hpGet (s.blk F) A.hp) A.val
structure Does (T:TypeId->TyI) (F:Lv) (s:TS) (op:Op) (A:OR):Prop where
 act:∃ hp0,leHp hp0 (A.hp.map λ p=>(p.1,p.2.conc))/\actH T op (s.conc F).st s.heap.length λ X=>X=⟨A.rd,A.val.conc,hp0⟩
 out:OutOk F s A
structure DoesX (T:TypeId->TyI) (F:Lv) (s:TS) (op:Op) (A:OR):Prop where
 hp:A.hp=[]
 act:∀ (P:Program) (o:Oper),T=tiOf P->o.op=op->ActOk P o (s.conc F).st s.heap.length ⟨A.rd,A.val.conc,[]⟩
 out:OutOk F s A
theorem OutOk.quiet {F:Lv} {s:TS} {v:TV} {rd:List Nat} (h:goodV (s.blk F) v):OutOk F s ⟨v,[],rd⟩ :=
 ⟨λ _ h=>by simp at h,λ _ h=>by simp at h,λ _ h=>by simp at h,h⟩
theorem Does.quiet {T:TypeId->TyI} {F:Lv} {s:TS} {op:Op} {v:TV} {rd:List Nat} (h:actH T op (s.conc F).st s.heap.length λ X=>X=⟨rd,v.conc,[]⟩) (g:goodV (s.blk F) v):Does T F s op ⟨v,[],rd⟩ :=
 ⟨⟨[],trivial,h⟩, .quiet g⟩
theorem constTC_conc (v:Value):(constTC v).conc=constCV v:=by
 show (match ofCV (constCV v) with|some c=>c|none=>TC.dead).conc=constCV v
 generalize hc:constCV v=c
 unfold constCV at hc
 split at hc<;>(subst hc;rfl)
theorem constTV_conc (v:Value):(constTV v).conc=constSV v:=by
 unfold constTV
 split
 ·rename_i vs
  show _=(if vs.toList.all (·.oneCell') then SV.pv (.agg (vs.toList.map constCV)) else one .dead)
  split
  ·rename_i h
   rw[if_pos h]
   show SV.pv (PV.agg _)=_
   rw[List.map_map]
   congr 2
   exact List.map_congr_left λ x _=>constTC_conc x
  ·rename_i h
   rw[if_neg (by rw[h];simp)]
   rfl
 ·rename_i h
  unfold constSV
  split
  ·rename_i vs;exact absurd rfl (h vs)
  ·show one _=one _
   rw[constTC_conc]
theorem TS.ev_conc (F:Lv) (s:TS) (x:Operand):(s.conc F).st.ev x=(s.ev F x).conc:=by
 cases x with
 | tmp t=>exact s.lk_conc F t
 | const v=>exact (constTV_conc v).symm
 | func f=>rfl
 | global g =>
  show (match Globs.tab g with|some cs=>one (.ip cs)|none=>one .dead)=(match Tabs.tab g with|some ⟨t,xs⟩=>tone (.tab t xs)|none=>tone .dead:TV).conc
  rw[Tabs.ok g]
  cases Tabs.tab g with
  | none=>rfl
  | some p=>rfl
theorem goodC_const {h:Nat->TB} (v:Value):goodC h (constTC v):=by
 unfold constTC
 split
 ·rename_i c hc
  unfold ofCV at hc
  split at hc<;>first|(cases hc;trivial)|cases hc
 ·trivial
theorem good_ev {F:Lv} {s:TS} (hG:Good F s) (x:Operand):goodV (s.blk F) (s.ev F x):=by
 cases x with
 | tmp t=>exact hG.env t
 | const v =>
  show goodV _ (constTV v)
  unfold constTV
  split
  ·split
   ·intro c hc
    obtain ⟨v,_,rfl⟩:=List.mem_map.1 hc
    exact goodC_const v
   ·trivial
  ·exact goodC_const _
 | func f=>exact λ p hp=>by simp at hp
 | global g =>
  show goodV _ (match Tabs.tab g with|some ⟨t,xs⟩=>tone (.tab t xs)|none=>tone .dead:TV)
  cases Tabs.tab g with
  | none=>trivial
  | some p=>trivial
theorem goodC_pure {h:Nat->TB} {c:TC} (hc:c.pure=true):goodC h c:=by
 cases c<;>first|trivial|cases hc
theorem good_leaves {h:Nat->TB} (t:Ty) (v:t.den):∀ c ∈ leaves t v,goodC h c:=λ c hc =>
 goodC_pure (List.all_eq_true.1 (leaves_pure t v) c hc)
variable {R:Type} {T:TypeId->TyI} {F:Lv} {s:TS} {K:OR->Option R} {r:R}
theorem kC_errC {n:Int} {P:List CV->Prop} (h:P [errC n]):SV.kC (.pv (.one (errC n))) P:=by
 rcases errC_or n with ⟨_,e⟩|⟨_,e⟩|⟨_,e⟩<;>(rw[e]at h ⊢;exact h)
theorem cellsV_conc {v:TV} {cs:List TC} {P:List CV->Prop} (h:cellsV v=some cs) (hP:P (cs.map TC.conc)):v.conc.kC P:=by
 unfold cellsV at h
 split at h
 ·cases h
 ·rename_i c hne
  cases h
  cases c<;>first|exact hP|exact kC_errC hP|exact absurd rfl hne
 ·cases h;exact hP
 ·cases h
theorem cellsV_good {h:Nat->TB} {v:TV} {cs:List TC} (hc:cellsV v=some cs) (hg:goodV h v):∀ c ∈ cs,goodC h c:=by
 unfold cellsV at hc
 split at hc
 ·cases hc
 ·cases hc;intro c hc;rw[List.mem_singleton.1 hc];exact hg
 ·cases hc;exact hg
 ·cases hc
theorem pvT_conc (b:Bool) (cs:List TC):(pvT b cs).conc=.pv (pvOf b (cs.map TC.conc)):=by
 cases b
 ·cases cs<;>rfl
 ·rfl
theorem pvT_good {h:Nat->TB} {b:Bool} {cs:List TC} (hg:∀ c ∈ cs,goodC h c):goodV h (pvT b cs):=by
 cases b
 ·cases cs with
  | nil=>trivial
  | cons c r=>exact hg c (by simp)
 ·exact hg
theorem takeT_conc:∀ {n:Nat} {l m:List TC},takeT n l=some m->takeN n (l.map TC.conc)=some (m.map TC.conc)/\∀ c ∈ m,c ∈ l
 | 0,l,m,h=>by cases h;exact ⟨by cases l<;>rfl,λ c hc=>by simp at hc⟩
 | n+1,[],m,h=>by cases h
 | n+1,c::l,m,h=>by
  have h:(match takeT n l with|some l=>some (c::l)|none=>none)=some m:=h
  split at h
  ·rename_i l' h'
   cases h
   obtain ⟨e1,e2⟩:=takeT_conc h'
   refine ⟨?_,λ x hx => ?_⟩
   ·show (takeN n (l.map TC.conc)).map _=_
    rw[e1];rfl
   ·rcases List.mem_cons.1 hx with rfl|hx
    ·simp
    ·exact List.mem_cons_of_mem _ (e2 x hx)
  ·cases h
theorem getT_conc {n:Nat} {l m:List TC} (h:getT n l=some m):getC n (l.map TC.conc)=some (m.map TC.conc)/\∀ c ∈ m,c ∈ l:=by
 cases n with
 | zero=>cases h
 | succ n=>exact takeT_conc h
theorem putT_conc:∀ {off:Nat} {ns cs m:List TC},putT off ns cs=some m->putN off (ns.map TC.conc) (cs.map TC.conc)=some (m.map TC.conc)/\∀ c ∈ m,c ∈ ns\/c ∈ cs
 | 0,[],cs,m,h=>by
  have:m=cs:=by cases cs<;>(simp only[putT]at h;exact (Option.some.inj h).symm)
  subst this
  exact ⟨by cases m<;>rfl,λ c hc=>.inr hc⟩
 | 0,n::ns,[],m,h=>by cases h
 | 0,n::ns,c::cs,m,h=>by
  have h:(match putT 0 ns cs with|some l=>some (n::l)|none=>none)=some m:=h
  split at h
  ·rename_i l h'
   cases h
   obtain ⟨e1,e2⟩:=putT_conc h'
   refine ⟨?_,λ x hx => ?_⟩
   ·show (putN 0 (ns.map TC.conc) (cs.map TC.conc)).map _=_
    rw[e1];rfl
   ·rcases List.mem_cons.1 hx with rfl|hx
    ·exact .inl (by simp)
    ·rcases e2 x hx with h|h
     ·exact .inl (List.mem_cons_of_mem _ h)
     ·exact .inr (List.mem_cons_of_mem _ h)
  ·cases h
 | off+1,ns,[],m,h=>by cases ns<;>cases h
 | off+1,ns,c::cs,m,h=>by
  have h:(match putT off ns cs with|some l=>some (c::l)|none=>none)=some m:=by cases ns<;>exact h
  split at h
  ·rename_i l h'
   cases h
   obtain ⟨e1,e2⟩:=putT_conc h'
   refine ⟨?_,λ x hx => ?_⟩
   ·have:putN (off+1) (ns.map TC.conc) (c.conc::cs.map TC.conc)=(putN off (ns.map TC.conc) (cs.map TC.conc)).map (c.conc::·):=by cases ns<;>rfl
    rw[List.map_cons,this,e1];rfl
   ·rcases List.mem_cons.1 hx with rfl|hx
    ·exact .inr (by simp)
    ·rcases e2 x hx with h|h
     ·exact .inl h
     ·exact .inr (List.mem_cons_of_mem _ h)
  ·cases h
theorem ofCV_conc {c:CV} {d:TC} (h:ofCV c=some d):d.conc=c/\∀ hh,goodC hh d:=by
 unfold ofCV at h
 split at h<;>first|(cases h;exact ⟨rfl,λ _=>trivial⟩)|cases h
theorem ofCVs_conc:∀ {l:List CV} {m:List TC},ofCVs l=some m->m.map TC.conc=l/\∀ c ∈ m,∀ hh,goodC hh c
 | [],m,h=>by cases h;exact ⟨rfl,λ c hc=>by simp at hc⟩
 | c::r,m,h=>by
  unfold ofCVs at h
  split at h
  ·rename_i d l h1 h2
   cases h
   obtain ⟨e1,e2⟩:=ofCV_conc h1
   obtain ⟨f1,f2⟩:=ofCVs_conc h2
   exact ⟨by rw[List.map_cons,e1,f1],λ x hx=>by
    rcases List.mem_cons.1 hx with rfl|hx
    ·exact e2
    ·exact f2 x hx⟩
  ·cases h
theorem zeroT_conc {e:TypeId} {z:List TC} (h:zeroT T e=some z):(T e).zero=some (z.map TC.conc)/\∀ c ∈ z,∀ hh,goodC hh c:=by
 unfold zeroT at h
 split at h
 ·rename_i z' hz
  obtain ⟨e1,e2⟩:=ofCVs_conc h
  exact ⟨by rw[hz,e1],e2⟩
 ·cases h
theorem eqT_conc {ks:List Nat}:∀ {a b:List TC} {q:Bool},eqT ks a b=some q->eqCs ks (a.map TC.conc) (b.map TC.conc)=some q:=by
 induction ks with
 | nil =>
  intro a b q h
  unfold eqT at h
  split at h<;>first|exact h|cases h|skip
  all_goals (rename_i e;first|cases e|skip)
 | cons n ks ih =>
  intro a b q h
  unfold eqT at h
  split at h
  ·rename_i e;cases e
  ·rename_i e
   split at h
   ·split at h
    ·rename_i q' hq
     cases e
     cases h
     rename_i hk _
     simp only[List.map_cons,TC.conc,eqCs,if_pos hk,ih hq,Option.map_some]
    ·cases h
   ·cases h
  ·rename_i e
   split at h
   ·rename_i q' hq
    cases e
    cases h
    simp only[List.map_cons,TC.conc,eqCs,ih hq,Option.map_some]
   ·cases h
  ·rename_i e
   split at h
   ·rename_i q' hq
    cases e
    cases h
    simp only[List.map_cons,TC.conc,eqCs,ih hq,Option.map_some]
   ·cases h
  ·cases h
theorem binT_ok {op:BinOp} {t:TypeId} {x y:TV} (h:binT T op t x y K=some r) :
  ∃ c:TC,K ⟨tone c,[],[]⟩=some r/\kBinH T op t x.conc y.conc (λ d=>d=c.conc)/\c.flat=true:=by
 unfold binT at h
 split at h
 ·split at h
  ·obtain ⟨v,hv,h⟩:=bS h
   exact ⟨_,h,by show kO (shlI _ _ _) _;rw[hv];rfl,rfl⟩
  ·obtain ⟨v,hv,h⟩:=bS h
   exact ⟨_,h,by show kO (shrI _ _ _) _;rw[hv];rfl,rfl⟩
  ·rename_i op h1 h2
   split at h
   ·rename_i hk
    subst hk
    split at h<;>first
     | exact ⟨_,h,⟨rfl,rfl⟩,rfl⟩
     | (obtain ⟨v,hv,h⟩:=bS h
        exact ⟨_,h,⟨rfl,by first|(show kO (quoI _ _ _) _;rw[hv];rfl)|(show kO (remI _ _ _) _;rw[hv];rfl)⟩,rfl⟩)
     | cases h
   ·cases h
 ·split at h
  ·obtain ⟨v,hv,h⟩:=bS h
   exact ⟨_,h,by show kO (catS _ _) _;rw[hv];rfl,rfl⟩
  ·exact ⟨_,h,rfl,rfl⟩
  ·exact ⟨_,h,rfl,rfl⟩
  ·cases h
 ·split at h
  ·rename_i hk
   refine ⟨_,h,?_,rfl⟩
   show (match BinOp.eql,(T t).kind with | .eql, .bool=>_ | .neq, .bool=>_|_,_=>False)
   rw[hk];rfl
  ·rename_i hk
   refine ⟨_,h,?_,rfl⟩
   show (match BinOp.neq,(T t).kind with | .eql, .bool=>_ | .neq, .bool=>_|_,_=>False)
   rw[hk];rfl
  ·cases h
 ·split at h
  ·rename_i hk
   refine ⟨_,h,?_,rfl⟩
   show (match BinOp.eql,(T t).kind with | .eql, .iface=>_ | .neq, .iface=>_|_,_=>False)
   rw[hk];rfl
  ·rename_i hk
   refine ⟨_,h,?_,rfl⟩
   show (match BinOp.neq,(T t).kind with | .eql, .iface=>_ | .neq, .iface=>_|_,_=>False)
   rw[hk];rfl
  ·cases h
 ·have key := @eqT_conc _ _ _
  split at h
  ·rename_i ks hk
   split at h
   ·rename_i q hq
    refine ⟨_,h,?_,rfl⟩
    show kO (T t).flat _
    rw[hk]
    show kO (eqCs _ _ _) _
    rw[key hq];rfl
   ·cases h
  ·rename_i ks hk
   split at h
   ·rename_i q hq
    refine ⟨_,h,?_,rfl⟩
    show kO (T t).flat _
    rw[hk]
    show kO (eqCs _ _ _) _
    rw[key hq];rfl
   ·cases h
  ·cases h
 ·cases h
theorem unT_ok {u:UnOp} {x:TV} (h:unT u x K=some r):∃ c:TC,K ⟨tone c,[],[]⟩=some r/\kUnH u x.conc (λ d=>d=c.conc)/\c.flat=true:=by
 unfold unT at h
 split at h
 ·split at h
  ·exact ⟨_,h,rfl,rfl⟩
  ·cases h
 ·split at h
  ·exact ⟨_,h,rfl,rfl⟩
  ·exact ⟨_,h,rfl,rfl⟩
  ·cases h
 ·cases h
theorem flat_pure {c:TC} (h:c.flat=true):c.pure=true:=by cases c<;>first|rfl|cases h
end Go.Fm
namespace Go.Fm
variable [Globs] [Structs] [Tabs]
variable {R:Type} {T:TypeId->TyI} {F:Lv} {s:TS} {K:OR->Option R} {r:R}
theorem castL_eq {t t':Ty} {xs:List t.den} {ys:List t'.den} (h:castL t t' xs=some ys):∃ e:t=t',ys=e▸xs:=by
 obtain ⟨e,h⟩:=castL_some h;exact ⟨e,h.symm⟩
theorem tyS_ok {e:TypeId} {t:Ty} (h:tyS T e=some t):(T e).size=some t.size:=by
 unfold tyS at h
 split at h
 ·rename_i t' n h1 h2
  split at h
  ·rename_i hb
   cases h
   rw[h2,Nat.eq_of_beq_eq_true hb]
  ·cases h
 ·cases h
theorem blk_rows {id n:Nat} {t:Ty} {xs:List t.den} (h:s.blk F id=.rows t n xs):(s.conc F).st.heap id=.live ⟨t.size,n,xs.flatMap t.enc⟩:=by rw[TS.blk_conc,h];rfl
theorem blk_var {id:Nat} {cs:List TC} (h:s.blk F id=.var cs):(s.conc F).st.heap id=.live ⟨1,cs.length,cs.map TC.conc⟩:=by rw[TS.blk_conc,h];rfl
theorem blk_raw {id:Nat} {t:Ty} {css:List (List TC)} (h:s.blk F id=.raw t css):(s.conc F).st.heap id=.live ⟨t.size,css.length,(css.map λ r=>r.map TC.conc).flatten⟩:=by rw[TS.blk_conc,h];rfl
theorem Good.rlen (hG:Good F s) {id n:Nat} {t:Ty} {xs:List t.den} (h:s.blk F id=.rows t n xs):xs.length=n:=by
 have:=hG.heap id
 rw[h]at this
 exact this
theorem list_ok (hG:Good F s) {t:Ty} {c:TC} {rd:List Nat} {l:List t.den} {sz:Nat} {P:List Nat->Nat->List CV->Prop} (hc:goodC (s.blk F) c) (h:s.list F t c=some (rd,l)) (hs:sz=t.size)
  (hP:P rd l.length (l.flatMap t.enc)):cellsH (s.conc F).st sz (one c.conc) P:=by
 subst hs
 unfold TS.list at h
 split at h
 ·split at h
  ·rename_i l' hl
   cases h
   obtain ⟨rfl,rfl⟩:=castL_eq hl
   exact ⟨rfl,hP⟩
  ·cases h
 ·cases h;exact hP
 ·rename_i id n
  split at h
  ·rename_i t' n' xs hb
   split at h
   ·rename_i l' hl
    cases h
    obtain ⟨rfl,rfl⟩:=castL_eq hl
    have e1:=hc.2.1 _ _ _ hb
    have e2:=hG.rlen hb
    subst e1
    show kLive ((s.conc F).st.heap id) _
    rw[blk_rows hb]
    refine ⟨rfl,?_⟩
    show kO (okP (0+n'<=n')) _
    rw[Nat.zero_add,okP_refl]
    show P [id] n' (winC 0 n' t'.size (l.flatMap t'.enc))
    rw[fWin (encOk t') e2.symm,<-e2]
    exact hP
   ·cases h
  ·cases h
 ·rename_i id t' a b ys
  split at h
  ·rename_i t2 n' xs hb
   split at h
   ·rename_i l' hl
    cases h
    obtain ⟨rfl,rfl⟩:=castL_eq hl
    obtain rfl:=hc.2.2.1 _ _ _ hb
    have e1:=hc.2.1 _ _ hb
    have e2:=hG.rlen hb
    show kLive ((s.conc F).st.heap id) _
    rw[blk_rows hb]
    refine ⟨rfl,?_⟩
    show kO (okP (a.toNat+l.length<=n')) _
    rw[fOkW e1 rfl e2.symm]
    show P [id] l.length (winC a.toNat l.length t2.size (xs.flatMap t2.enc))
    rw[fWinW (encOk t2) e1 rfl]
    exact hP
   ·cases h
  ·cases h
 ·cases h
theorem new_out {A:OR} {t:Ty} {xs:List t.den} {rd:List Nat} (hA:A=⟨tone (.arr s.heap.length xs.length),[(s.heap.length, .rows t xs.length xs)],rd⟩):OutOk F s A:=by
 subst hA
 refine ⟨λ p hp => ?_,λ p hp => ?_,λ p hp => ?_,?_⟩
 ·rw[List.mem_singleton.1 hp];exact .inl (Nat.le_refl _)
 ·rw[List.mem_singleton.1 hp];exact ⟨nofun,nofun⟩
 ·rw[List.mem_singleton.1 hp];exact rfl
 ·have e:hpGet (s.blk F) [(s.heap.length, .rows t xs.length xs)] s.heap.length=.rows t xs.length xs:=if_pos rfl
  refine ⟨by rw[e];nofun,λ t' n' xs' h => ?_,λ t' css h => ?_,λ t' n' xs' o' h => ?_⟩
  ·rw[e]at h;cases h;rfl
  ·rw[e]at h;cases h
  ·rw[e]at h;cases h
theorem convT_ok (hG:Good F s) {a b:TypeId} {x:Operand} (h:convT T F s a b (s.ev F x) K=some r):∃ A,K A=some r/\Does T F s (.convert a b x) A:=by
 have hx:=s.ev_conc F x
 have hg:=good_ev hG x
 unfold convT at h
 split at h
 ·rename_i k1 k n h1 h2 hv
  rw[hv]at hx
  refine ⟨_,h, .quiet ?_ trivial⟩
  simp only[actH,h1,h2,hx]
  rfl
 ·rename_i l h1 h2 hv
  rw[hv]at hx
  refine ⟨_,h, .quiet ?_ trivial⟩
  simp only[actH,h1,h2,hx]
  rfl
 ·rename_i e l h1 h2 hv
  rw[hv]at hx
  split at h
  ·rename_i hu
   obtain ⟨v,hv2,h⟩:=bS h
   refine ⟨_,h,⟨⟨_,leHp_refl _,?_⟩,new_out (t:=.int .u8) (xs:=v) rfl⟩⟩
   obtain ⟨e1,e2⟩:=fS2b hv2
   simp only[actH,h1,h2,hx]
   refine ⟨hu,?_⟩
   show kO (s2bN l) _
   rw[e1]
   show Action.mk _ _ _=_
   rw[e2]
   rfl
  ·cases h
 ·rename_i e c h1 h2 hv
  rw[hv]at hx hg
  split at h
  ·rename_i hu
   split at h
   ·rename_i rd l hl
    refine ⟨_,h, .quiet ?_ trivial⟩
    simp only[actH,h1,h2,hx]
    refine ⟨hu,?_,list_ok hG hg hl rfl ?_⟩
    ·cases c<;>first|rfl|cases hl
    ·exact Eq.mpr (congrArg (λ z=>kO z _) (bytesCs_flat l)) rfl
   ·cases h
  ·cases h
 ·cases h
theorem fieldT_ok (hG:Good F s) {t:TypeId} {x:Operand} {f:Nat} (h:fieldT T t (s.ev F x) f K=some r):∃ A,K A=some r/\Does T F s (.field t x f) A:=by
 have hx:=s.ev_conc F x
 have hg:=good_ev hG x
 unfold fieldT at h
 split at h
 ·rename_i q cs h1 hv
  rw[hv]at hx hg
  split at h
  ·rename_i size b h2 h3
   split at h
   ·rename_i ns h4 h5
    obtain ⟨e1,e2⟩:=getT_conc h5
    refine ⟨_,h, .quiet ?_ (pvT_good λ c hc=>hg c (List.mem_of_mem_drop (e2 c hc)))⟩
    simp only[actH,h1,h2,h3,hx,kO]
    refine ⟨h4,?_⟩
    show kO (getC size ((cs.map TC.conc).drop q.1)) _
    rw[<-List.map_drop,e1,pvT_conc]
    rfl
   ·cases h
  ·cases h
 ·cases h
theorem fieldAddrT_ok (hG:Good F s) {t:TypeId} {x:Operand} {f:Nat} (h:fieldAddrT T F s t (s.ev F x) f K=some r):∃ A,K A=some r/\Does T F s (.fieldAddr t x f) A:=by
 have hx:=s.ev_conc F x
 have hg:=good_ev hG x
 unfold fieldAddrT at h
 split at h
 ·rename_i q h1
  split at h
  ·rename_i size h2
   split at h
   ·rename_i h3
    split at h
    ·rename_i id off hv
     rw[hv]at hx hg
     split at h
     ·rename_i cs hb
      refine ⟨_,h, .quiet ?_ hg⟩
      simp only[actH,h1,h2,hx,kO]
      refine ⟨h3,?_⟩
      show kLive ((s.conc F).st.heap id) _
      rw[blk_var hb]
      rfl
     ·cases h
    ·rename_i id p τ i v hv
     rw[hv]at hx hg
     split at h
     ·rename_i τ' n xs hb
      refine ⟨_,h, .quiet ?_ hg⟩
      simp only[actH,h1,h2,hx,kO]
      refine ⟨h3,?_⟩
      show kLive ((s.conc F).st.heap id) _
      rw[blk_rows hb]
      show Action.mk _ _ _=Action.mk _ _ _
      simp only[TV.conc,TP.conc,TC.conc,Nat.add_assoc,one]
     ·cases h
    ·rename_i τ p v l hv
     rw[hv]at hx
     refine ⟨_,h, .quiet ?_ trivial⟩
     simp only[actH,h1,h2,hx,kO]
     refine ⟨h3,?_⟩
     show Action.mk _ _ _=Action.mk _ _ _
     simp only[TV.conc,TP.conc,TC.conc,one,List.drop_drop]
    ·cases h
   ·cases h
  ·cases h
 ·cases h
theorem nilCheckT_ok (hG:Good F s) {x:Operand} (h:nilCheckT F s (s.ev F x) K=some r):∃ A,K A=some r/\Does T F s (.nilCheck x) A:=by
 have hx:=s.ev_conc F x
 have hg:=good_ev hG x
 unfold nilCheckT at h
 split at h
 ·rename_i id off hv
  rw[hv]at hx hg
  split at h
  ·rename_i cs hb
   refine ⟨_,h, .quiet ?_ hg⟩
   simp only[actH,hx]
   show kLive ((s.conc F).st.heap id) _
   rw[blk_var hb]
   rfl
  ·cases h
 ·rename_i id p τ i v hv
  rw[hv]at hx hg
  split at h
  ·rename_i τ' n xs hb
   refine ⟨_,h, .quiet ?_ hg⟩
   simp only[actH,hx]
   show kLive ((s.conc F).st.heap id) _
   rw[blk_rows hb]
   rfl
  ·cases h
 ·rename_i τ p v l hv
  rw[hv]at hx
  refine ⟨_,h, .quiet ?_ trivial⟩
  simp only[actH,hx]
  rfl
 ·cases h
theorem getC_append {m:Nat} {a b x:List CV} (h:getC m a=some x):getC m (a++b)=some x:=by
 have key:∀ (m:Nat) (a x:List CV),takeN m a=some x->takeN m (a++b)=some x:=by
  intro m
  induction m with
  | zero=>intro a x h;cases h;cases a<;>cases b<;>rfl
  | succ m ih =>
   intro a x h
   cases a with
   | nil=>cases h
   | cons c a =>
    obtain ⟨y,hy,rfl⟩:=Option.map_eq_some_iff.1 (show (takeN m a).map (c::·)=some x from h)
    show (takeN m (a++b)).map (c::·)=_
    rw[ih a y hy];rfl
 cases m with
 | zero=>cases h
 | succ m=>exact key _ _ _ h
theorem leaves_get {t:Ty} {v:t.den} {q m:Nat} {ns:List TC} (h:getT m ((leaves t v).drop q)=some ns):getC m ((t.enc v).drop q)=some (ns.map TC.conc)/\(∀ c ∈ ns,c ∈ leaves t v)/\q+m<=t.size/\0 < m:=by
 obtain ⟨e1,e2⟩:=getT_conc h
 rw[List.map_drop,leaves_conc]at e1
 obtain ⟨_,g2,g3⟩:=getC_some e1
 rw[List.length_drop,(encOk t).len]at g2
 exact ⟨e1,λ c hc=>List.mem_of_mem_drop (e2 c hc),by omega,g3⟩
theorem loadT_ok (hG:Good F s) {t:TypeId} {x:Operand} (h:loadT T F s t (s.ev F x) K=some r):∃ A,K A=some r/\Does T F s (.load t x) A:=by
 have hx:=s.ev_conc F x
 have hg:=good_ev hG x
 unfold loadT at h
 split at h
 ·rename_i size b h1 h2
  split at h
  ·rename_i h3
   split at h
   ·rename_i id off hv
    rw[hv]at hx hg
    split at h
    ·rename_i cs hb
     split at h
     ·rename_i ns h5
      obtain ⟨e1,e2⟩:=getT_conc h5
      have hgb:=hG.heap id
      rw[hb]at hgb
      refine ⟨_,h, .quiet ?_ (pvT_good λ c hc=>hgb c (List.mem_of_mem_drop (e2 c hc)))⟩
      simp only[actH,h1,h2,hx,kO]
      refine ⟨h3,?_⟩
      show kLive ((s.conc F).st.heap id) _
      rw[blk_var hb]
      show kO (getC size ((cs.map TC.conc).drop off)) _
      rw[<-List.map_drop,e1,pvT_conc]
      rfl
     ·cases h
    ·cases h
   ·rename_i id q τ i v hv
    rw[hv]at hx hg
    split at h
    ·rename_i τ' n xs hb
     split at h
     ·rename_i ht
      subst ht
      split at h
      ·rename_i ns h5
       obtain ⟨e1,e2,e3,e4⟩:=leaves_get h5
       refine ⟨_,h, .quiet ?_ (pvT_good λ c hc=>good_leaves τ' v c (e2 c hc))⟩
       simp only[actH,h1,h2,hx,kO]
       refine ⟨h3,?_⟩
       show kLive ((s.conc F).st.heap id) _
       rw[blk_rows hb]
       show kO (getC size ((xs.flatMap τ'.enc).drop (i.toNat*τ'.size+q))) _
       rw[fGet (encOk τ') (hg.2.1 _ _ hb) e3 e4,e1,pvT_conc]
       rfl
      ·cases h
     ·cases h
    ·cases h
   ·rename_i τ q v l hv
    rw[hv]at hx
    split at h
    ·rename_i ns h5
     obtain ⟨e1,e2,e3,e4⟩:=leaves_get h5
     refine ⟨_,h, .quiet ?_ (pvT_good λ c hc=>good_leaves τ v c (e2 c hc))⟩
     simp only[actH,h1,h2,hx,kO]
     refine ⟨h3,?_⟩
     show kO (getC size ((τ.enc v++l.flatMap τ.enc).drop q)) _
     rw[List.drop_append_of_le_length (by rw[(encOk τ).len];omega),getC_append e1,pvT_conc]
     rfl
    ·cases h
   ·cases h
  ·cases h
 ·cases h
theorem goodC_var {h:Nat->TB} {id:Nat} {cs cs':List TC} {c:TC} (hb:h id=.var cs) (hc:goodC h c):goodC (λ i=>if i=id then .var cs' else h i) c:=by
 have key:∀ i,(if i=id then TB.var cs' else h i)≠.no ↔ h i≠.no:=λ i=>by
  by_cases e:i=id
  ·rw[if_pos e,e,hb];exact ⟨nofun,nofun⟩
  ·rw[if_neg e]
 have rw1:∀ i t n xs,(if i=id then TB.var cs' else h i)=.rows t n xs->h i=.rows t n xs:=λ i t n xs h'=>by
  by_cases e:i=id
  ·rw[if_pos e]at h';cases h'
  ·rwa [if_neg e]at h'
 have rw2:∀ i t css,(if i=id then TB.var cs' else h i)=.raw t css->h i=.raw t css:=λ i t css h'=>by
  by_cases e:i=id
  ·rw[if_pos e]at h';cases h'
  ·rwa [if_neg e]at h'
 have rw3:∀ i t n xs o,(if i=id then TB.var cs' else h i)=.deep t n xs o->h i=.deep t n xs o:=λ i t n xs o h'=>by
  by_cases e:i=id
  ·rw[if_pos e]at h';cases h'
  ·rwa [if_neg e]at h'
 cases c with
 | arr i n=>exact ⟨(key i).2 hc.1,λ t n' xs h'=>hc.2.1 t n' xs (rw1 _ _ _ _ h'),λ t css h'=>hc.2.2.1 t css (rw2 _ _ _ h'),λ t n' xs o h'=>hc.2.2.2 t n' xs o (rw3 _ _ _ _ _ h')⟩
 | win i t a b ys=>exact ⟨(key i).2 hc.1,λ n' xs h'=>hc.2.1 n' xs (rw1 _ _ _ _ h'),λ t' n' xs h'=>hc.2.2.1 t' n' xs (rw1 _ _ _ _ h'),λ t css h'=>hc.2.2.2 t css (rw2 _ _ _ h')⟩
 | winx i lo n=>exact ⟨(key i).2 hc.1,λ t n' xs h'=>hc.2.1 t n' xs (rw1 _ _ _ _ h'),λ t css h'=>hc.2.2 t css (rw2 _ _ _ h')⟩
 | ptr i o=>exact (key i).2 hc
 | row i q t j v=>exact ⟨(key i).2 hc.1,λ n' xs h'=>hc.2.1 n' xs (rw1 _ _ _ _ h'),λ n' xs o h'=>hc.2.2 n' xs o (rw3 _ _ _ _ _ h')⟩
 | rowx i o=>exact (key i).2 hc
 | fn f l=>exact λ p hp=>(key _).2 (hc p hp)
 | _=>trivial
theorem fPutC {α:Type} {e:α->List CV} {k:Nat} (ok:EncOk e k) {xs:List α} {i:Int} {x y:α} {q:Nat} {ns l:List CV} (h:getI xs i=some x) (hx:putN q ns (e x)=some l) (hy:leL0 l (e y)) :
  ∃ m,putN (i.toNat*k+q) ns (xs.flatMap e)=some m/\leL0 m ((xs.set i.toNat y).flatMap e):=by
 obtain ⟨h1,h2,h3⟩:=getI_some h
 obtain ⟨hi,he⟩:=List.getElem?_eq_some_iff.1 h3
 obtain ⟨g1,g2⟩:=putN_some hx
 have hsp:xs.flatMap e=(xs.take i.toNat).flatMap e++e x++(xs.drop (i.toNat+1)).flatMap e:=by
  have:xs=xs.take i.toNat++(x::xs.drop (i.toNat+1)):=by rw[<-he,<-List.drop_eq_getElem_cons hi,List.take_append_drop]
  conv=>lhs;rw[this]
  rw[List.flatMap_append,List.flatMap_cons,List.append_assoc]
 have hl:((xs.take i.toNat).flatMap e).length=i.toNat*k:=by rw[flat_len ok.len,List.length_take,Nat.min_eq_left (by omega)]
 refine ⟨_,by rw[putN_eq (by rw[hsp,List.length_append,List.length_append,hl];omega),hsp,<-hl,over_split _ _ _ _ g1,<-g2],?_⟩
 rw[List.set_eq_take_append_cons_drop,if_pos hi]
 simp only[List.flatMap_append,List.flatMap_cons]
 rw[<-List.append_assoc]
 exact leL0_append (leL0_append (leL0_refl _) hy) (leL0_refl _)
theorem storeT_ok (hG:Good F s) {t:TypeId} {x v:Operand} (h:storeT T F s t (s.ev F x) (s.ev F v) K=some r):∃ A,K A=some r/\Does T F s (.store t x v) A:=by
 have hx:=s.ev_conc F x
 have hg:=good_ev hG x
 have hv:=s.ev_conc F v
 have hgv:=good_ev hG v
 unfold storeT at h
 split at h
 ·rename_i size ns h1 h2
  have hns:=cellsV_good h2 hgv
  split at h
  ·rename_i h3
   split at h
   ·rename_i id off hxv
    rw[hxv]at hx hg
    split at h
    ·rename_i cs hb
     split at h
     ·rename_i cs' h5
      obtain ⟨e1,e2⟩:=putT_conc h5
      have hgb:=hG.heap id
      rw[hb]at hgb
      have hall:∀ c ∈ cs',goodC (s.blk F) c:=λ c hc=>(e2 c hc).elim (hns c) (hgb c)
      have hlen:cs'.length=cs.length:=by
       obtain ⟨g1,g2⟩:=putN_some e1
       have:=congrArg List.length g2
       rw[List.length_map]at this
       rw[this,over_length g1,List.length_map]
      refine ⟨_,h,⟨⟨_,leHp_refl _,?_⟩,⟨λ p hp => ?_,λ p hp => ?_,λ p hp => ?_,trivial⟩⟩⟩
      ·simp only[actH,h1,hv,kO]
       refine cellsV_conc h2 ⟨by rw[List.length_map];exact h3,?_⟩
       rw[hx]
       show kLive ((s.conc F).st.heap id) _
       rw[blk_var hb]
       show kO (putN off (ns.map TC.conc) (cs.map TC.conc)) _
       rw[e1]
       show Action.mk _ _ _=Action.mk _ _ _
       simp only[List.map_cons,List.map_nil,TB.conc,hlen]
       rfl
      ·rw[List.mem_singleton.1 hp];exact .inr ⟨by rw[hb];nofun,by rw[hb];trivial⟩
      ·rw[List.mem_singleton.1 hp];exact ⟨nofun,nofun⟩
      ·rw[List.mem_singleton.1 hp]
       intro c hc
       exact goodC_var hb (hall c hc)
     ·cases h
    ·cases h
   ·rename_i id q τ i w hxv
    rw[hxv]at hx hg
    split at h
    ·rename_i τ' n xs hb
     split at h
     ·rename_i xs' l hc hp
      obtain ⟨rfl,rfl⟩:=castL_eq hc
      split at h
      ·rename_i y hy
       have hget:=hg.2.1 _ _ hb
       obtain ⟨e1,e2⟩:=putT_conc hp
       rw[leaves_conc]at e1
       have hle:=CRs_le (mkT_made hy)
       rw[leaves_conc]at hle
       obtain ⟨m,m1,m2⟩:=fPutC (encOk τ') hget e1 hle
       refine ⟨_,h,⟨⟨[(id, .live ⟨τ'.size,n,m⟩)],⟨rfl, .inr ⟨_,_,rfl,rfl,rfl,rfl,m2⟩,trivial⟩,?_⟩,⟨λ p hp => ?_,λ p hp => ?_,λ p hp => ?_,trivial⟩⟩⟩
       ·simp only[actH,h1,hv,kO]
        refine cellsV_conc h2 ⟨by rw[List.length_map];exact h3,?_⟩
        rw[hx]
        show kLive ((s.conc F).st.heap id) _
        rw[blk_rows hb]
        show kO (putN (i.toNat*τ'.size+q) (ns.map TC.conc) (xs'.flatMap τ'.enc)) _
        rw[m1]
        rfl
       ·rw[List.mem_singleton.1 hp];exact .inr ⟨by rw[hb];nofun,by rw[hb];exact rfl⟩
       ·rw[List.mem_singleton.1 hp];exact ⟨nofun,nofun⟩
       ·rw[List.mem_singleton.1 hp]
        show (xs'.set i.toNat y).length=n
        rw[List.length_set]
        exact hG.rlen hb
      ·cases h
     ·cases h
    ·cases h
   ·cases h
  ·cases h
 ·cases h
end Go.Fm
namespace Go.Fm
variable [Globs] [Structs] [Tabs]
variable {R:Type} {T:TypeId->TyI} {F:Lv} {s:TS} {K:OR->Option R} {r:R}
theorem blk_new:s.blk F s.heap.length=.no:=by
 have:∀ (l:List TB) (j:Nat),blkL F.fb j l l.length=.no:=by
  intro l
  induction l with
  | nil=>intro j;rfl
  | cons b r ih=>intro j;exact ih (j+1)
 exact this _ _
theorem goodC_congr {h h':Nat->TB} {c:TC} (key:∀ i,h i≠.no->h' i=h i) (hc:goodC h c):goodC h' c:=by
 cases c with
 | arr i n=>have e:=key i hc.1;exact ⟨by rw[e];exact hc.1,by rw[e];exact hc.2.1,by rw[e];exact hc.2.2⟩
 | win i t a b ys=>have e:=key i hc.1;exact ⟨by rw[e];exact hc.1,by rw[e];exact hc.2.1,by rw[e];exact hc.2.2.1,by rw[e];exact hc.2.2.2⟩
 | winx i lo n=>have e:=key i hc.1;exact ⟨by rw[e];exact hc.1,by rw[e];exact hc.2.1,by rw[e];exact hc.2.2⟩
 | ptr i o=>have e:=key i hc;show h' i≠.no;rw[e];exact hc
 | row i q t j v=>have e:=key i hc.1;exact ⟨by rw[e];exact hc.1,by rw[e];exact hc.2⟩
 | rowx i o=>have e:=key i hc;show h' i≠.no;rw[e];exact hc
 | fn f l=>exact λ p hp=>by rw[key p.1 (hc p hp)];exact hc p hp
 | _=>trivial
theorem goodC_new {h:Nat->TB} {id:Nat} {b:TB} {c:TC} (hb:h id=.no) (hc:goodC h c):goodC (λ i=>if i=id then b else h i) c :=
 goodC_congr (λ i hi=>if_neg λ (e:i=id)=>hi (e▸hb)) hc
theorem var_out {cs:List TC} (hcs:∀ c ∈ cs,goodC (s.blk F) c):OutOk F s ⟨tone (.ptr s.heap.length 0),[(s.heap.length, .var cs)],[]⟩:=by
 refine ⟨λ p hp => ?_,λ p hp => ?_,λ p hp => ?_,?_⟩
 ·rw[List.mem_singleton.1 hp];exact .inl (Nat.le_refl _)
 ·rw[List.mem_singleton.1 hp];exact ⟨nofun,nofun⟩
 ·rw[List.mem_singleton.1 hp];exact λ c hc=>goodC_new blk_new (hcs c hc)
 ·have e:hpGet (s.blk F) [(s.heap.length, .var cs)] s.heap.length=.var cs:=if_pos rfl
  show hpGet (s.blk F) [(s.heap.length, .var cs)] s.heap.length≠.no
  rw[e];nofun
theorem allocT_ok {t:TypeId} {z:List TC} (hz:zeroT T t=some z):Does T F s (.alloc t) ⟨tone (.ptr s.heap.length 0),[(s.heap.length, .var z)],[]⟩:=by
 obtain ⟨e1,e2⟩:=zeroT_conc hz
 refine ⟨⟨_,leHp_refl _,?_⟩,var_out λ c hc=>e2 c hc _⟩
 simp only[actH,e1,kO,List.map_cons,List.map_nil,TB.conc,List.length_map]
 rfl
theorem boxT_ok (hG:Good F s) {t:TypeId} {v:Operand} {cs:List TC} (hc:cellsV (s.ev F v)=some cs):Does T F s (.box t v) ⟨tone (.ptr s.heap.length 0),[(s.heap.length, .var cs)],[]⟩:=by
 refine ⟨⟨_,leHp_refl _,?_⟩,var_out (cellsV_good hc (good_ev hG v))⟩
 simp only[actH,s.ev_conc F v]
 refine cellsV_conc hc ?_
 simp only[List.map_cons,List.map_nil,TB.conc,List.length_map]
 rfl
theorem fillT_ok (hG:Good F s) {t:TypeId}:∀ {l:List (Nat×Operand)} {cs m:List TC} {P:List CV->Prop},fillT T F s t cs l=some m->(∀ c ∈ cs,goodC (s.blk F) c)->P (m.map TC.conc) →
  fillFT T (s.conc F).st t (cs.map TC.conc) l P/\∀ c ∈ m,goodC (s.blk F) c
 | [],cs,m,P,h,hc,hP=>by cases h;exact ⟨hP,hc⟩
 | (f,x)::r,cs,m,P,h,hc,hP=>by
  unfold fillT at h
  split at h
  ·rename_i q ns h1 h2
   split at h
   ·rename_i n h3
    split at h
    ·rename_i cs' h4 h5
     obtain ⟨e1,e2⟩:=putT_conc h5
     have hns:=cellsV_good h2 (good_ev hG x)
     obtain ⟨f1,f2⟩:=fillT_ok hG (P:=P) h (λ c hc'=>(e2 c hc').elim (hns c) (hc c)) hP
     obtain ⟨g1,g2⟩:=putN_some e1
     refine ⟨?_,f2⟩
     show kO ((T t).fl[f]?) _
     rw[h1]
     show ((s.conc F).st.ev x).kC _
     rw[s.ev_conc F x]
     refine cellsV_conc h2 ⟨?_,g1,?_⟩
     ·rw[h3,List.length_map,Nat.eq_of_beq_eq_true h4]
     ·rw[<-g2];exact f1
    ·cases h
   ·cases h
  ·cases h
theorem buildT_ok (hG:Good F s) {t:TypeId} {ps:Array (Nat×Operand)} {z cs:List TC} (h1:(T t).kind=.agg) (h2:(T t).all=true) (hz:zeroT T t=some z) (hc:fillT T F s t z ps.toList=some cs) :
  Does T F s (.build t ps) ⟨.pv (.agg cs),[],[]⟩:=by
 obtain ⟨e1,e2⟩:=zeroT_conc hz
 obtain ⟨f1,f2⟩:=fillT_ok hG (P:=λ ds=>(⟨[], .pv (.agg ds),[]⟩:Action)=⟨[],(TV.pv (TP.agg cs)).conc,[]⟩) hc (λ c hc=>e2 c hc _) rfl
 refine .quiet ?_ f2
 simp only[actH,h1,h2,e1,kO]
 exact ⟨trivial,f1⟩
theorem partsT_ok (hG:Good F s) {size:Nat}:∀ {l:List (Nat×Operand)} {i:Nat} {css:List (List TC)} {P:List CV->Prop},partsT F s size i l=some css->P (css.map λ r=>r.map TC.conc).flatten →
  partsOf (s.conc F).st size i l P/\css.length=l.length/\∀ cs ∈ css,cs.length=size/\∀ c ∈ cs,goodC (s.blk F) c
 | [],i,css,P,h,hP=>by cases h;exact ⟨hP,rfl,λ cs hc=>by simp at hc⟩
 | (j,x)::r,i,css,P,h,hP=>by
  unfold partsT at h
  split at h
  ·rename_i cs h1 h2
   split at h
   ·rename_i css' h3 h4
    cases h
    obtain ⟨f1,f2,f3⟩:=partsT_ok hG (P:=λ ds=>P (cs.map TC.conc++ds)) h4 (by simpa using hP)
    refine ⟨⟨Nat.eq_of_beq_eq_true h1,?_⟩,by simp[f2],λ ds hd => ?_⟩
    ·rw[s.ev_conc F x]
     refine cellsV_conc h2 ⟨by rw[List.length_map];exact Nat.eq_of_beq_eq_true h3,f1⟩
    ·rcases List.mem_cons.1 hd with rfl|hd
     ·exact ⟨Nat.eq_of_beq_eq_true h3,cellsV_good h2 (good_ev hG x)⟩
     ·exact f3 ds hd
   ·cases h
  ·cases h
theorem mkAll_le {t:Ty}:∀ {css:List (List TC)} {vs:List t.den},mkAll t css=some vs->vs.length=css.length/\leL0 (css.map λ r=>r.map TC.conc).flatten (vs.flatMap t.enc)
 | [],vs,h=>by cases h;exact ⟨rfl,trivial⟩
 | cs::r,vs,h=>by
  unfold mkAll at h
  split at h
  ·rename_i v l h1 h2
   cases h
   obtain ⟨e1,e2⟩:=mkAll_le h2
   refine ⟨by simp[e1],?_⟩
   have:=CRs_le (mkT_made h1)
   rw[leaves_conc]at this
   exact leL0_append this e2
  ·cases h
theorem rawOk_get:∀ {css:List (List TC)},rawOk css=true->∀ cs ∈ css,∀ c ∈ cs,c.pure=true\/∃ id n,c=.arr id n
 | [],_,cs,h,c,hc=>by simp at h
 | ds::r,h,cs,hm,c,hc=>by
  simp only[rawOk,Bool.and_eq_true,List.all_eq_true]at h
  rcases List.mem_cons.1 hm with rfl|hm
  ·have:=h.1 c hc
   rw[Bool.or_eq_true]at this
   rcases this with this|this
   ·exact .inl this
   ·right
    cases c<;>first|exact ⟨_,_,rfl⟩|cases this
  ·exact rawOk_get h.2 cs hm c hc
theorem buildSliceT_ok (hG:Good F s) {t:TypeId} {n:Nat} {ps:Array (Nat×Operand)} (h:buildSliceT T F s t n ps.toList K=some r):∃ A,K A=some r/\Does T F s (.buildSlice t n ps) A:=by
 unfold buildSliceT at h
 split at h
 ·rename_i e h1
  split at h
  ·rename_i τ z h2 h3
   have hsz:=tyS_ok h2
   split at h
   ·rename_i css h4 h5
    simp only[Bool.and_eq_true]at h4
    have hn:n=ps.toList.length:=Nat.eq_of_beq_eq_true h4.2
    have hact:∀ {P:List CV->Prop},partsOf (s.conc F).st τ.size 0 ps.toList P->(∀ cs,P cs->(⟨[],one (.arr s.heap.length 0 (bldN n)),[(s.heap.length, .live ⟨τ.size,bldN n,bldC cs⟩)]⟩:Action)=⟨[],(tone (.arr s.heap.length n)).conc,[(s.heap.length, .live ⟨τ.size,n,cs⟩)]⟩) →
      True:=λ _ _=>trivial
    have hh:(Nat.ble (n*τ.size) 4096&&Nat.blt 0 τ.size&&Nat.beq n ps.size)=true:=by
     simp only[Bool.and_eq_true]
     refine ⟨h4.1,?_⟩
     rw[hn,Array.length_toList]
     exact beq_self _
    split at h
    ·rename_i vs h6
     obtain ⟨e1,e2⟩:=mkAll_le h6
     obtain ⟨f1,f2,f3⟩:=partsT_ok hG (P:=λ ds=>ds=(css.map λ r=>r.map TC.conc).flatten) h5 rfl
     refine ⟨_,h,⟨⟨[(s.heap.length, .live ⟨τ.size,n,(css.map λ r=>r.map TC.conc).flatten⟩)],⟨rfl, .inr ⟨_,_,rfl,rfl,rfl,rfl,e2⟩,trivial⟩,?_⟩,?_⟩⟩
     ·simp only[actH,h1,hsz,h3,kO]
      exact ⟨hh,parts_mono f1 λ ds hd=>⟨rfl,by subst hd;rfl⟩⟩
     ·have hl:n=vs.length:=by rw[e1,f2];exact hn
      subst hl
      exact new_out rfl
    ·rename_i h6
     split at h
     ·rename_i h7
      obtain ⟨f1,f2,f3⟩:=partsT_ok hG (P:=λ ds=>ds=(css.map λ r=>r.map TC.conc).flatten) h5 rfl
      have hl:css.length=n:=by rw[f2];exact hn.symm
      refine ⟨_,h,⟨⟨_,leHp_refl _,?_⟩,⟨λ p hp => ?_,λ p hp => ?_,λ p hp => ?_,?_⟩⟩⟩
      ·simp only[actH,h1,hsz,h3,kO]
       refine ⟨hh,parts_mono f1 λ ds hd=>⟨rfl,?_⟩⟩
       subst hd
       simp only[List.map_cons,List.map_nil,TB.conc,hl,bldN,bldC]
       rfl
      ·rw[List.mem_singleton.1 hp];exact .inl (Nat.le_refl _)
      ·rw[List.mem_singleton.1 hp];exact ⟨nofun,nofun⟩
      ·rw[List.mem_singleton.1 hp]
       exact λ cs hc=>⟨(f3 cs hc).1,λ c hc'=>⟨goodC_new blk_new ((f3 cs hc).2 c hc'),rawOk_get h7 cs hc c hc'⟩⟩
      ·have e:hpGet (s.blk F) [(s.heap.length, .raw τ css)] s.heap.length=.raw τ css:=if_pos rfl
       refine ⟨by rw[e];nofun,λ t' n' xs' h => ?_,λ t' css' h => ?_,λ t' n' xs' o' h => ?_⟩
       ·rw[e]at h;cases h
       ·rw[e]at h;cases h;exact hl
       ·rw[e]at h;cases h
     ·cases h
   ·cases h
  ·cases h
 ·cases h
theorem eqOp_ev {l c:Operand} (h:eqOp l c=true):s.ev F c=s.ev F l:=by
 unfold eqOp at h
 split at h
 ·rename_i a b
  rw[Nat.eq_of_beq_eq_true h]
 ·rename_i k a l b
  simp only[Bool.and_eq_true]at h
  obtain ⟨h1,h2⟩:=h
  split at h1
  ·rename_i hk
   subst hk
   split at h2
   ·rename_i a b
    rw[Nat.eq_of_beq_eq_true h2]
   ·cases h2
  ·cases h1
 ·cases h
theorem zeroE_ok {e:TypeId} {τ:Ty} {v:τ.den} {z:List TC} (h:zeroE T e=some ⟨τ,v,z⟩):tyS T e=some τ/\zeroT T e=some z/\mkT τ z=some v:=by
 unfold zeroE at h
 split at h
 ·rename_i t z' h1 h2
  split at h
  ·rename_i v' h3
   cases h
   exact ⟨h1,h2,h3⟩
  ·cases h
 ·cases h
theorem flatten_le {a b:List CV} (h:leL0 a b):∀ n,leL0 (List.replicate n a).flatten (List.replicate n b).flatten
 | 0=>trivial
 | n+1=>by
  simp only[List.replicate_succ,List.flatten_cons]
  exact leL0_append h (flatten_le h n)
theorem mk_new {α:Type} {e:α->List CV} {k:Nat} (ok:EncOk e k) {z:α} {zc:List CV} {n:Int} {xs:List α} (h:mk z n=some xs) (hz:leL0 zc (e z)):mkN n n=some xs.length/\leL0 (mkC xs.length zc) (xs.flatMap e):=by
 refine ⟨fMk h,?_⟩
 obtain ⟨rfl,h1,h2⟩:=mk_some h
 unfold mkC
 rw[List.length_replicate,List.flatMap_replicate]
 exact flatten_le hz _
theorem makeSliceT_ok (hG:Good F s) {t:TypeId} {l c:Operand} (h:makeSliceT T F s t l c K=some r):∃ A,K A=some r/\Does T F s (.makeSlice t l c) A:=by
 unfold makeSliceT at h
 split at h
 ·rename_i e h1
  split at h
  ·rename_i τ v z by_ h2 h3
   obtain ⟨g1,g2,g3⟩:=zeroE_ok h2
   obtain ⟨e1,e2⟩:=zeroT_conc g2
   have hle:=CRs_le (mkT_made g3)
   rw[leaves_conc]at hle
   split at h
   ·rename_i n h4 h5
    simp only[Bool.and_eq_true]at h4
    obtain ⟨xs,hx,h⟩:=bS h
    obtain ⟨f1,f2⟩:=mk_new (encOk τ) hx hle
    refine ⟨_,h,⟨⟨[(s.heap.length, .live ⟨τ.size,xs.length,mkC xs.length (z.map TC.conc)⟩)],⟨rfl, .inr ⟨_,_,rfl,rfl,rfl,rfl,f2⟩,trivial⟩,?_⟩,new_out rfl⟩⟩
    have hl:=s.ev_conc F l
    have hc:=s.ev_conc F c
    rw[eqOp_ev h4.2]at hc
    rw[h5]at hl hc
    simp only[actH,h1,tyS_ok g1,e1,h3,kO,hl,hc]
    refine ⟨by rw[List.length_map];simp only[Bool.and_eq_true];exact h4.1,?_⟩
    refine ⟨rfl,rfl,?_⟩
    show kO (mkN n n) _
    rw[f1]
    rfl
   ·cases h
  ·cases h
 ·cases h
theorem indexT_ok (hG:Good F s) {t:TypeId} {x i:Operand} (h:indexT T t (s.ev F x) (s.ev F i) K=some r):∃ A,K A=some r/\Does T F s (.index t x i) A:=by
 have hx:=s.ev_conc F x
 have hi:=s.ev_conc F i
 unfold indexT at h
 split at h
 ·rename_i l k j h1 h2 h3
  rw[h2]at hx
  rw[h3]at hi
  obtain ⟨v,hv,h⟩:=bS h
  refine ⟨_,h, .quiet ?_ trivial⟩
  simp only[actH,h1,hx,hi]
  show kO (idxS l j) _
  rw[hv];rfl
 ·cases h
theorem chk_some {b:Bool} {u:Unit} (h:chk b=some u):b=true:=by
 cases b with
 | true=>rfl
 | false=>cases h
theorem zB_len:∀ n,(zB n).length=n
 | 0=>rfl
 | n+1=>congrArg (·+1) (zB_len n)
theorem allZ_eq:∀ {n:Nat} {z:List TC},allZ n z=true->z.map TC.conc=(zB n).flatMap (eI .u8)
 | 0,[],_=>rfl
 | 0,_::_,h=>by unfold allZ at h;cases h
 | n+1,[],h=>by unfold allZ at h;cases h
 | n+1,c::r,h=>by
  unfold allZ at h
  split at h
  ·contradiction
  ·rename_i m r' e1 e2
   cases e1;cases e2
   show _::_=_
   rw[allZ_eq h];rfl
  ·cases h
theorem allocA_ok {t:TypeId} {n:Nat} (hz:arrZ T t=some n):Does T F s (.alloc t) ⟨tone (.ptr s.heap.length 0),[(s.heap.length, .rows (.int .u8) n (zB n))],[]⟩:=by
 unfold arrZ at hz
 split at hz
 ·split at hz
  ·rename_i z h2 h3
   split at hz
   ·rename_i h4
    cases hz
    obtain ⟨e1,e2⟩:=zeroT_conc h3
    have e3:=allZ_eq h4
    have e4:((zB n).flatMap (eI .u8)).length=n:=by
     have:=flat_len (encOk (.int .u8)).len (zB n)
     exact this.trans ((congrArg (·*1) (zB_len n)).trans (Nat.mul_one n))
    refine ⟨⟨_,leHp_refl _,?_⟩,λ p hp => ?_,λ p hp => ?_,λ p hp => ?_,?_⟩
    ·simp only[actH,e1,kO,List.map_cons,List.map_nil,TB.conc,e3,e4]
     rfl
    ·rw[List.mem_singleton.1 hp];exact .inl (Nat.le_refl _)
    ·rw[List.mem_singleton.1 hp];exact ⟨nofun,nofun⟩
    ·rw[List.mem_singleton.1 hp];exact zB_len n
    ·have e:hpGet (s.blk F) [(s.heap.length, .rows (.int .u8) n (zB n))] s.heap.length=.rows (.int .u8) n (zB n):=if_pos rfl
     show hpGet (s.blk F) [(s.heap.length, .rows (.int .u8) n (zB n))] s.heap.length≠.no
     rw[e];nofun
   ·cases hz
  ·cases hz
 ·cases hz
theorem indexAddrT_ok (hG:Good F s) {t:TypeId} {x i:Operand} (h:indexAddrT T F s t (s.ev F x) (s.ev F i) K=some r):∃ A,K A=some r/\Does T F s (.indexAddr t x i) A:=by
 have hx:=s.ev_conc F x
 have hi:=s.ev_conc F i
 have hg:=good_ev hG x
 unfold indexAddrT at h
 split at h
 ·rename_i e k j h1 h2
  rw[h2]at hi
  split at h
  ·rename_i τ h3
   have hsz:=tyS_ok h3
   split at h
   ·rename_i t' xs hv
    rw[hv]at hx
    split at h
    ·rename_i xs' hc
     obtain ⟨rfl,rfl⟩:=castL_eq hc
     obtain ⟨v,hv,h⟩:=bS h
     refine ⟨_,h, .quiet ?_ trivial⟩
     simp only[actH,h1,hsz,kO,hx,hi]
     refine ⟨rfl,?_⟩
     show kO (rowAt j xs'.length t'.size (xs'.flatMap t'.enc)) _
     rw[fAt (encOk t') hv rfl]
     show Action.mk _ _ _=_
     simp only[TV.conc,TP.conc,TC.conc,List.drop_zero]
    ·cases h
   ·rename_i id n hv
    rw[hv]at hx hg
    split at h
    ·rename_i t' n' xs hb
     split at h
     ·rename_i xs' hc
      obtain ⟨rfl,rfl⟩:=castL_eq hc
      obtain ⟨v,hv,h⟩:=bS h
      have e1:=hg.2.1 _ _ _ hb
      have e2:=hG.rlen hb
      refine ⟨_,h, .quiet ?_ ⟨hg.1,λ n2 ys h' => ?_,λ n2 ys o h' => ?_⟩⟩
      ·simp only[actH,h1,hsz,kO,hx,hi]
       show kLive ((s.conc F).st.heap id) _
       rw[blk_rows hb]
       refine ⟨rfl,?_⟩
       show kO (rowPtr 0 j n t'.size) _
       rw[fPtr hv (by rw[e2,e1])]
       rfl
      ·rw[hb]at h';cases h';exact hv
      ·rw[hb]at h';cases h'
     ·cases h
    ·cases h
   ·rename_i id t' a b ys hv
    rw[hv]at hx hg
    split at h
    ·rename_i t2 n' xs hb
     split at h
     ·rename_i ys' hc
      obtain ⟨rfl,rfl⟩:=castL_eq hc
      obtain ⟨v,hv,h⟩:=bS h
      obtain rfl:=hg.2.2.1 _ _ _ hb
      have e1:=hg.2.1 _ _ hb
      refine ⟨_,h, .quiet ?_ ⟨hg.1,λ n2 zs h' => ?_,λ n2 ys o h' => ?_⟩⟩
      ·simp only[actH,h1,hsz,kO,hx,hi]
       show kLive ((s.conc F).st.heap id) _
       rw[blk_rows hb]
       refine ⟨rfl,?_⟩
       show kO (rowPtr a.toNat j ys'.length t2.size) _
       rw[fPtrW e1 rfl hv]
       rfl
      ·rw[hb]at h';cases h';exact sub_get e1 hv
      ·rw[hb]at h';cases h'
     ·cases h
    ·cases h
   ·cases h
  ·cases h
 ·rename_i n e k j h1 h2
  rw[h2]at hi
  split at h
  ·rename_i τ t' xs h3 hv
   rw[hv]at hx
   have hsz:=tyS_ok h3
   split at h
   ·rename_i xs' hc
    obtain ⟨rfl,rfl⟩:=castL_eq hc
    split at h
    ·rename_i hn
     obtain ⟨v,hv,h⟩:=bS h
     refine ⟨_,h, .quiet ?_ trivial⟩
     simp only[actH,h1,hsz,kO,hx,hi]
     show kO (rowAt j n t'.size (xs'.flatMap t'.enc)) _
     rw[fAt (encOk t') hv (Nat.eq_of_beq_eq_true hn)]
     show Action.mk _ _ _=_
     simp only[TV.conc,TP.conc,TC.conc,List.drop_zero]
    ·cases h
   ·cases h
  ·rename_i τ id off h3 hv
   rw[hv]at hx hg
   have hsz:=tyS_ok h3
   split at h
   ·rename_i t' n' xs hb
    split at h
    ·rename_i xs' hc
     obtain ⟨rfl,rfl⟩:=castL_eq hc
     obtain ⟨u,hu,h⟩:=bS h
     obtain ⟨v,hv,h⟩:=bS h
     refine ⟨_,h, .quiet ?_ ⟨hg,λ n2 ys h' => ?_,λ n2 ys o h' => ?_⟩⟩
     ·simp only[actH,h1,hsz,kO,hx,hi]
      show kLive ((s.conc F).st.heap id) _
      rw[blk_rows hb]
      show kO (rowPtr 0 j n t'.size) _
      rw[fPtr hv (Nat.eq_of_beq_eq_true (chk_some hu))]
      show Action.mk _ _ _=_
      simp only[TV.conc,TP.conc,TC.conc,Nat.zero_add,Nat.add_zero]
     ·rw[hb]at h';cases h';exact hv
     ·rw[hb]at h';cases h'
    ·cases h
   ·cases h
  ·cases h
 ·cases h
theorem bndT_lo {lo:Option Operand} {a:Int} {P:Int->Prop} (h:bndT F s 0 lo=some a) (hP:P a):bdL (s.conc F).st lo P:=by
 unfold bndT at h
 cases lo with
 | none=>cases h;exact hP
 | some x =>
  simp only at h
  split at h
  ·rename_i k i hv
   cases h
   show ((s.conc F).st.ev x).kI _
   rw[s.ev_conc F x,hv]
   exact hP
  ·cases h
theorem bndT_hi {hi:Option Operand} {b:Int} {d:Nat} {P:Int->Prop} (h:bndT F s d hi=some b) (hP:P b):(s.conc F).st.bd hi d P:=by
 unfold bndT at h
 cases hi with
 | none=>cases h;exact hP
 | some x =>
  simp only at h
  split at h
  ·rename_i k i hv
   cases h
   show ((s.conc F).st.ev x).kI _
   rw[s.ev_conc F x,hv]
   exact hP
  ·cases h
theorem sliceT_ok (hG:Good F s) {t:TypeId} {x:Operand} {lo hi:Option Operand} (h:sliceT T F s t (s.ev F x) lo hi K=some r):∃ A,K A=some r/\Does T F s (.slice t x lo hi none) A:=by
 have hx:=s.ev_conc F x
 have hg:=good_ev hG x
 unfold sliceT at h
 split at h
 ·rename_i l a h1 hv h2
  rw[hv]at hx
  split at h
  ·rename_i b h3
   obtain ⟨v,hv,h⟩:=bS h
   refine ⟨_,h, .quiet ?_ trivial⟩
   simp only[actH,h1,hx]
   simp only[TV.conc,TP.conc,TC.conc,SV.kS]
   refine bndT_lo h2 ?_
   refine bndT_hi h3 ?_
   show kO (subL l a b) _
   rw[hv];rfl
  ·cases h
 ·rename_i e c a h1 hv h2
  rw[hv]at hx hg
  split at h
  ·rename_i τ h3
   have hsz:=tyS_ok h3
   split at h
   ·rename_i t' xs
    split at h
    ·rename_i xs' hc
     obtain ⟨rfl,rfl⟩:=castL_eq hc
     split at h
     ·rename_i b h4
      obtain ⟨v,hv,h⟩:=bS h
      refine ⟨_,h, .quiet ?_ trivial⟩
      simp only[actH,h1,hsz,kO,hx]
      refine ⟨rfl,bndT_lo h2 (bndT_hi h4 ?_)⟩
      show kO (subC a b xs'.length t'.size (xs'.flatMap t'.enc)) _
      rw[fSubC (encOk t') hv rfl]
      rfl
     ·cases h
    ·cases h
   ·rename_i id n
    split at h
    ·rename_i t' n' xs hb
     split at h
     ·rename_i xs' b hc h4
      obtain ⟨rfl,rfl⟩:=castL_eq hc
      obtain ⟨v,hv,h⟩:=bS h
      have e1:=hg.2.1 _ _ _ hb
      have e2:=hG.rlen hb
      refine ⟨_,h, .quiet ?_ ⟨hg.1,λ n2 ys h' => ?_,λ t2 n2 ys h' => ?_,λ t2 css h' => ?_⟩⟩
      ·simp only[actH,h1,hsz,kO,hx]
       show kLive ((s.conc F).st.heap id) _
       rw[blk_rows hb]
       refine ⟨rfl,bndT_lo h2 (bndT_hi h4 ?_)⟩
       show kO (subN a b n) _
       rw[fSubN hv (by rw[e2,e1])]
       show Action.mk _ _ _=_
       simp only[TV.conc,TP.conc,TC.conc,Nat.zero_add]
      ·rw[hb]at h';cases h';exact hv
      ·rw[hb]at h';cases h';rfl
      ·rw[hb]at h';cases h'
     ·cases h
    ·cases h
   ·split at h
    ·rename_i h4
     refine ⟨_,h, .quiet ?_ trivial⟩
     simp only[actH,h1,hsz,kO,hx]
     simp only[TV.conc,TP.conc,TC.conc,kSlI,SV.kSl]
     refine bndT_lo h2 ?_
     refine bndT_hi (d:=0) h4 ?_
     show kO (okP (((Int.ofNat 0:Int))=0/\(Int.ofNat 0:Int)=0)) _
     unfold okP
     rw[if_pos ⟨rfl,rfl⟩]
     first|trivial|rfl
    ·cases h
   ·cases h
  ·cases h
 ·rename_i m e id off a h1 hv h2
  rw[hv]at hx hg
  split at h
  ·rename_i τ h3
   have hsz:=tyS_ok h3
   split at h
   ·rename_i t' n' xs hb
    split at h
    ·rename_i xs' b hc h4
     obtain ⟨rfl,rfl⟩:=castL_eq hc
     obtain ⟨u,hu,h⟩:=bS h
     obtain ⟨v,hv,h⟩:=bS h
     have hm:=Nat.eq_of_beq_eq_true (chk_some hu)
     have e2:=hG.rlen hb
     refine ⟨_,h, .quiet ?_ ⟨hg,λ n2 ys h' => ?_,λ t2 n2 ys h' => ?_,λ t2 css h' => ?_⟩⟩
     ·simp only[actH,h1,hsz,kO,hx]
      show kLive ((s.conc F).st.heap id) _
      rw[blk_rows hb]
      refine ⟨⟨rfl,by show n'=m;omega,rfl⟩,bndT_lo h2 (bndT_hi h4 ?_)⟩
      show kO (subN a b m) _
      rw[fSubN hv hm]
      show Action.mk _ _ _=_
      simp only[TV.conc,TP.conc,TC.conc]
     ·rw[hb]at h';cases h';exact hv
     ·rw[hb]at h';cases h';rfl
     ·rw[hb]at h';cases h'
    ·cases h
   ·cases h
  ·cases h
 ·cases h
theorem capsT_ok (hG:Good F s):∀ {l:List Operand} {m:List (Nat×Nat)} {P:List CV->Prop},capsT F s l=some m->P (m.map λ p=>.ptr p.1 p.2)->capsOf (s.conc F).st l P/\∀ p ∈ m,s.blk F p.1≠.no
 | [],m,P,h,hP=>by cases h;exact ⟨hP,λ p hp=>by simp at hp⟩
 | x::r,m,P,h,hP=>by
  unfold capsT at h
  split at h
  ·rename_i id off l h1 h2
   cases h
   have hx:=s.ev_conc F x
   have hg:=good_ev hG x
   rw[h1]at hx hg
   obtain ⟨f1,f2⟩:=capsT_ok hG (P:=λ cs=>P (.ptr id off::cs)) h2 hP
   refine ⟨?_,λ p hp => ?_⟩
   ·show (match (s.conc F).st.ev x with | .pv (.one (.ptr id off))=>_|_=>False)
    rw[hx]
    exact f1
   ·rcases List.mem_cons.1 hp with rfl|hp
    ·exact hg
    ·exact f2 p hp
  ·cases h
end Go.Fm
namespace Go.Fm
variable [Globs] [Structs] [Tabs]
variable {R:Type} {T:TypeId->TyI} {F:Lv} {s:TS} {K:OR->Option R} {r:R}
structure DoesB (T:TypeId->TyI) (F:Lv) (s:TS) (b:Builtin) (ats:List TypeId) (xs:List TV) (A:OR):Prop where
 act:∃ hp0,leHp hp0 (A.hp.map λ p=>(p.1,p.2.conc))/\builtinH T b ats (xs.map TV.conc) (s.conc F).st s.heap.length λ X=>X=⟨A.rd,A.val.conc,hp0⟩
 out:OutOk F s A
theorem lenT_ok (hG:Good F s) {t e:TypeId} {x:TC} (hk:(T t).kind=.slice e) (hns:∀ l,x≠.str l) (hg:goodC (s.blk F) x) (h:lenT F s x K=some r):∃ A,K A=some r/\DoesB T F s .len [t] [.pv (.one x)] A:=by
 have go:∀ {rd:List Nat} {n:Nat},(s.conc F).st.kLen (tone x).conc (λ rd' n'=>rd'=rd/\n'=n)->DoesB T F s .len [t] [.pv (.one x)] ⟨tone (.int .i64 n),[],rd⟩:=λ {rd n} h=>by
  refine ⟨⟨[],trivial,?_⟩, .quiet trivial⟩
  have e:builtinH T .len [t] ([TV.pv (TP.one x)].map TV.conc) (s.conc F).st s.heap.length=builtinFT T .len [t] [(tone x).conc] (s.conc F).st s.heap.length:=by
   funext K
   simp only[builtinH,builtinG,List.map_cons,List.map_nil]
  rw[e]
  simp only[builtinFT,hk]
  have key:∀ {P Q:List Nat->Nat->Prop},(∀ a b,P a b->Q a b)->(s.conc F).st.kLen (tone x).conc P->(s.conc F).st.kLen (tone x).conc Q:=by
   intro P Q hpq hp
   generalize (tone x).conc=sv at hp ⊢
   unfold St.kLen at hp ⊢
   split at hp
   ·exact kLive_mono hp λ _ h=>hpq _ _ h
   ·exact hpq _ _ hp
   ·exact hpq _ _ hp
   ·exact hp.elim
  exact key (λ a b ⟨e1,e2⟩=>by rw[e1,e2];rfl) h
 unfold lenT at h
 split at h
 ·exact absurd rfl (hns _)
 ·exact ⟨_,h,go ⟨rfl,rfl⟩⟩
 ·exact ⟨_,h,go (n:=0) ⟨rfl,rfl⟩⟩
 ·rename_i id n
  split at h
  ·rename_i t' n' xs hb
   exact ⟨_,h,go (by show kLive ((s.conc F).st.heap id) _;rw[blk_rows hb];exact ⟨rfl,rfl⟩)⟩
  ·rename_i t' css hb
   exact ⟨_,h,go (by show kLive ((s.conc F).st.heap id) _;rw[blk_raw hb];exact ⟨rfl,rfl⟩)⟩
  ·cases h
 ·rename_i id t' a b ys
  split at h
  ·rename_i t' n' xs hb
   exact ⟨_,h,go (by show kLive ((s.conc F).st.heap id) _;rw[blk_rows hb];exact ⟨rfl,rfl⟩)⟩
  ·cases h
 ·rename_i id lo n
  split at h
  ·rename_i t' n' xs hb
   exact ⟨_,h,go (by show kLive ((s.conc F).st.heap id) _;rw[blk_rows hb];exact ⟨rfl,rfl⟩)⟩
  ·cases h
 ·cases h
theorem elems_ok (hG:Good F s) {t:Ty} {c:TC} {rd:List Nat} {l:List t.den} {sz:Nat} {P:List Nat->Nat->List CV->Prop} (hc:goodC (s.blk F) c) (h:s.elems F t c=some (rd,l)) (hs:sz=t.size)
  (hP:P rd l.length (l.flatMap t.enc)):cellsH (s.conc F).st sz (one c.conc) P:=by
 unfold TS.elems at h
 split at h
 ·rename_i b
  obtain ⟨ys,hy,e⟩:=Option.map_eq_some_iff.1 h
  cases e
  obtain ⟨e,hl⟩:=castL_eq hy
  subst hs
  cases e
  subst hl
  refine ⟨rfl,?_⟩
  rw[bsOf_len]
  exact hP
 ·exact list_ok hG hc h hs hP
theorem app_out {id:Nat} {t:Ty} {xs:List t.den} {rd:List Nat} (h:s.blk F id≠.no):OutOk F s ⟨tone (.arr s.heap.length xs.length),[(id, .dead),(s.heap.length, .rows t xs.length xs)],rd⟩:=by
 refine ⟨λ p hp => ?_,λ p hp => ?_,λ p hp => ?_,?_⟩
 ·rcases List.mem_cons.1 hp with rfl|hp
  ·exact .inr ⟨h,by cases s.blk F id<;>trivial⟩
  ·rw[List.mem_singleton.1 hp];exact .inl (Nat.le_refl _)
 ·rcases List.mem_cons.1 hp with rfl|hp
  ·exact ⟨nofun,nofun⟩
  ·rw[List.mem_singleton.1 hp];exact ⟨nofun,nofun⟩
 ·rcases List.mem_cons.1 hp with rfl|hp
  ·trivial
  ·rw[List.mem_singleton.1 hp];exact rfl
 ·have e:hpGet (s.blk F) [(id, .dead),(s.heap.length, .rows t xs.length xs)] s.heap.length=.rows t xs.length xs:=if_pos rfl
  refine ⟨by rw[e];nofun,λ t' n' xs' h => ?_,λ t' css h => ?_,λ t' n' xs' o' h => ?_⟩
  ·rw[e]at h;cases h;rfl
  ·rw[e]at h;cases h
  ·rw[e]at h;cases h
theorem appendT_ok (hG:Good F s) {t t2:TypeId} {ats:List TypeId} {x y:TC} (hgx:goodC (s.blk F) x) (hgy:goodC (s.blk F) y) (h:appendT T F s t t2 x y K=some r) :
  ∃ A,K A=some r/\DoesB T F s .append (t::t2::ats) [.pv (.one x), .pv (.one y)] A:=by
 unfold appendT at h
 split at h
 ·rename_i e h1
  split at h
  ·rename_i τ τ0 v0 z by_ h2 h3 h4
   obtain ⟨g1,g2,g3⟩:=zeroE_ok h3
   obtain rfl:τ=τ0:=Option.some.inj (h2.symm.trans g1)
   obtain ⟨e1,e2⟩:=zeroT_conc g2
   have hsz:=tyS_ok h2
   have hle:=CRs_le (mkT_made g3)
   rw[leaves_conc]at hle
   split at h
   ·rename_i h5
    have h5':(Nat.ble by_ 1024&&Nat.beq (z.map TC.conc).length τ.size)=true:=by rw[List.length_map];exact h5
    split at h
    ·rename_i h6
     split at h
     ·rename_i m
      obtain ⟨v,hv,h⟩:=bS h
      obtain ⟨f1,f2⟩:=mk_new (encOk τ) hv hle
      refine ⟨_,h,⟨⟨[(s.heap.length, .live ⟨τ.size,v.length,mkC v.length (z.map TC.conc)⟩)],⟨rfl, .inr ⟨_,_,rfl,rfl,rfl,rfl,f2⟩,trivial⟩,?_⟩,new_out rfl⟩⟩
      cases hk:(T t2).kind<;>rw[hk]at h6<;>first|cases h6|skip
      simp only[builtinH,h1,hk,hsz,e1,h4,kO,List.map_cons,List.map_nil]
      refine ⟨h5',?_⟩
      show IntKind.i64=.i64/\kO (mkN m m) _
      rw[f1]
      exact ⟨rfl,rfl⟩
     ·cases h
    ·split at h
     ·rename_i rd ys h6 h7
      have hcore:∀ {P:List Nat->Nat->List CV->Prop},P rd ys.length (ys.flatMap τ.enc)->cellsH (s.conc F).st τ.size (one y.conc) P:=λ hP=>elems_ok hG hgy h7 rfl hP
      have hb2:∀ {Q:Action->Prop},((Nat.ble by_ 1024&&Nat.beq (z.map TC.conc).length τ.size)=true/\cellsH (s.conc F).st τ.size (one y.conc) λ rd m ns =>
        (match (one x.conc:SV) with
        | .pv (.one (.arr id lo n))=>kLive ((s.conc F).st.heap id) λ b=>b.sz=τ.size/\kO (appN lo n b.n m) λ n'=>Q ⟨id::rd,one (.arr s.heap.length 0 n'),[(id, .dead),(s.heap.length, .live ⟨τ.size,n',winC lo n τ.size b.cs++ns⟩)]⟩
        | .pv (.one .emp)=>kO (appN 0 0 0 m) λ n'=>Q ⟨rd,one (.arr s.heap.length 0 n'),[(s.heap.length, .live ⟨τ.size,n',winC 0 0 τ.size []++ns⟩)]⟩
        | _=>False))->builtinH T .append (t::t2::ats) [one x.conc,one y.conc] (s.conc F).st s.heap.length Q:=λ hQ=>by
       cases hk:(T t2).kind<;>rw[hk]at h6<;>first|(cases h6;done)|(simp only[builtinH,h1,hk,hsz,e1,h4,kO];exact hQ)
      split at h
      ·obtain ⟨v,hv,h⟩:=bS h
       refine ⟨_,h,⟨⟨_,leHp_refl _,hb2 ⟨h5',hcore ?_⟩⟩,new_out rfl⟩⟩
       show kO (appN 0 0 0 ys.length) _
       rw[fApp hv (n:=0) rfl rfl,winE (encOk τ),fCat (e:=τ.enc) hv rfl]
       rfl
      ·rename_i id n
       split at h
       ·rename_i t' n' xs hb
        split at h
        ·rename_i xs' hc
         obtain ⟨rfl,rfl⟩:=castL_eq hc
         obtain ⟨v,hv,h⟩:=bS h
         have q1:=hgx.2.1 _ _ _ hb
         have q2:=hG.rlen hb
         subst q1
         refine ⟨_,h,⟨⟨_,leHp_refl _,hb2 ⟨h5',hcore ?_⟩⟩,app_out hgx.1⟩⟩
         show kLive ((s.conc F).st.heap id) _
         rw[blk_rows hb]
         refine ⟨rfl,?_⟩
         show kO (appN 0 n' n' ys.length) _
         rw[fApp hv q2.symm rfl,fWin (encOk t') q2.symm,fCat (e:=t'.enc) hv rfl]
         rfl
        ·cases h
       ·cases h
      ·rename_i id t' a b xs
       split at h
       ·rename_i t3 n' zs hb
        split at h
        ·rename_i xs' hc
         obtain ⟨rfl,rfl⟩:=castL_eq hc
         obtain ⟨v,hv,h⟩:=bS h
         obtain rfl:=hgx.2.2.1 _ _ _ hb
         have q1:=hgx.2.1 _ _ hb
         have q2:=hG.rlen hb
         refine ⟨_,h,⟨⟨_,leHp_refl _,hb2 ⟨h5',hcore ?_⟩⟩,app_out hgx.1⟩⟩
         show kLive ((s.conc F).st.heap id) _
         rw[blk_rows hb]
         refine ⟨rfl,?_⟩
         show kO (appN a.toNat xs'.length n' ys.length) _
         rw[fAppW q1 rfl q2.symm hv rfl,fWinW (encOk t3) q1 rfl,fCat (e:=t3.enc) hv rfl]
         rfl
        ·cases h
       ·cases h
      ·cases h
     ·cases h
   ·cases h
  ·cases h
 ·cases h
theorem winOf_conc {x:TC} {id lo n:Nat} (h:winOf x=some (id,lo,n)):x.conc=.arr id lo n:=by
 unfold winOf at h
 split at h<;>first|(cases h;rfl)|cases h
theorem winOf_good {x:TC} {id lo n m:Nat} {t:Ty} {xs:List t.den} (hG:Good F s) (hg:goodC (s.blk F) x) (h:winOf x=some (id,lo,n)) (hb:s.blk F id=.rows t m xs):lo+n<=m:=by
 unfold winOf at h
 split at h
 ·cases h
  have:=hg.2.1 _ _ _ hb
  omega
 ·cases h
  obtain rfl:=hg.2.2.1 _ _ _ hb
  have:=fLeW (hg.2.1 _ _ hb) rfl rfl
  rw[hG.rlen hb]at this
  exact this
 ·cases h
  exact hg.2.1 _ _ _ hb
 ·cases h
theorem over_le {cs a b:List CV} {off:Nat} (h:leL0 a b):leL0 (over cs off a) (over cs off b):=by
 unfold over
 rw[leL0_len h]
 exact leL0_append (leL0_append (leL0_refl _) h) (leL0_refl _)
theorem set_out {id n:Nat} {t:Ty} {xs ys:List t.den} {v:TV} {rd:List Nat} (hb:s.blk F id=.rows t n xs) (hl:ys.length=n) (hv:∀ h,goodV h v):OutOk F s ⟨v,[(id, .rows t n ys)],rd⟩:=by
 refine ⟨λ p hp => ?_,λ p hp => ?_,λ p hp => ?_,hv _⟩
 ·rw[List.mem_singleton.1 hp];exact .inr ⟨by rw[hb];nofun,by rw[hb];exact rfl⟩
 ·rw[List.mem_singleton.1 hp];exact ⟨nofun,nofun⟩
 ·rw[List.mem_singleton.1 hp];exact hl
theorem clearT_ok (hG:Good F s) {t:TypeId} {x:TC} (hg:goodC (s.blk F) x) (h:clearT T F s t x K=some r):∃ A,K A=some r/\DoesB T F s .clear [t] [.pv (.one x)] A:=by
 unfold clearT at h
 split at h
 ·rename_i e id lo n h1 h2
  split at h
  ·rename_i τ v z t' m xs h3 hb
   obtain ⟨g1,g2,g3⟩:=zeroE_ok h3
   obtain ⟨e1,e2⟩:=zeroT_conc g2
   have hle:=CRs_le (mkT_made g3)
   rw[leaves_conc]at hle
   split at h
   ·rename_i xs' hc h4
    obtain ⟨rfl,rfl⟩:=castL_eq hc
    have hw:=winOf_good hG hg h2 hb
    have hl:=hG.rlen hb
    have key:leL0 (over (xs'.flatMap t'.enc) (lo*t'.size) (List.replicate n (z.map TC.conc)).flatten) ((putL xs' lo (List.replicate n v)).flatMap t'.enc):=by
     rw[<-fOver (encOk t') (by rw[List.length_replicate,hl];exact hw),List.flatMap_replicate]
     exact over_le (flatten_le hle n)
    refine ⟨_,h,⟨⟨[(id, .live ⟨t'.size,m,over (xs'.flatMap t'.enc) (lo*t'.size) (List.replicate n (z.map TC.conc)).flatten⟩)],⟨rfl, .inr ⟨_,_,rfl,rfl,rfl,rfl,key⟩,trivial⟩,?_⟩,set_out hb (by rw[putL_len];exact hl) (λ _ p hp=>by simp at hp)⟩⟩
    simp only[builtinH,builtinG,builtinFT,List.map_cons,List.map_nil,TV.conc,TP.conc,winOf_conc h2,h1,tyS_ok g1,e1,kO]
    show kLive ((s.conc F).st.heap id) _
    rw[blk_rows hb]
    exact ⟨rfl,by rw[List.length_map];exact Nat.eq_of_beq_eq_true h4,hw,rfl⟩
   ·cases h
  ·cases h
 ·cases h
theorem copyT_ok (hG:Good F s) {t t2:TypeId} {ats:List TypeId} {x y:TC} (hg:goodC (s.blk F) x) (hgy:goodC (s.blk F) y) (h:copyT T F s t t2 x y K=some r) :
  ∃ A,K A=some r/\DoesB T F s .copy (t::t2::ats) [.pv (.one x), .pv (.one y)] A:=by
 unfold copyT at h
 split at h
 ·rename_i e id lo n h1 h2
  split at h
  ·rename_i τ t' m xs h3 hb
   split at h
   ·rename_i xs' rd ys hc h4 h5
    obtain ⟨rfl,rfl⟩:=castL_eq hc
    have hw:=winOf_good hG hg h2 hb
    have hl:=hG.rlen hb
    refine ⟨_,h,⟨⟨_,leHp_refl _,?_⟩,set_out hb (by rw[putL_len];exact hl) (λ _=>trivial)⟩⟩
    have hcore:∀ {P:List Nat->Nat->List CV->Prop},P rd ys.length (ys.flatMap t'.enc)->cellsG (s.conc F).st t'.size (one y.conc) P:=λ hP=>cellsH_ok (elems_ok hG hgy h5 rfl hP) λ _ _ _ h=>h
    have fin:cellsG (s.conc F).st t'.size (one y.conc) λ rd1 m_1 ns=>kLive ((s.conc F).st.heap id) λ b=>b.sz=t'.size/\lo+n<=b.n ∧
      (⟨id::rd1,one (.int .i64 (min m_1 n:Nat)),[(id, .live ⟨t'.size,b.n,over b.cs (lo*t'.size) (ns.take (min m_1 n*t'.size))⟩)]⟩:Action) =
       ⟨id::rd,(tone (.int .i64 ((min ys.length n:Nat):Int))).conc,[(id,(TB.rows t' m (putL xs' lo (ys.take n))).conc)]⟩:=by
     refine hcore ?_
     rw[blk_rows hb]
     refine ⟨rfl,hw,?_⟩
     have:=fCopy (encOk t') (a:=lo) (n:=n) (xs:=xs') (ys:=ys) (by rw[hl];exact hw) rfl
     show Action.mk _ _ _=Action.mk _ _ _
     congr 1
     show [(id,HS.live ⟨t'.size,m,over (xs'.flatMap t'.enc) (lo*t'.size) _⟩)]=_
     unfold over
     rw[this]
     rfl
    have:(∃ e2,(T t2).kind=.slice e2)\/(T t2).kind=.str:=by
     revert h4
     cases (T t2).kind<;>intro h4<;>first|exact .inl ⟨_,rfl⟩|exact .inr rfl|cases h4
    rcases this with ⟨e2,h6⟩|h6
    ·simp only[builtinH,builtinG,List.map_cons,List.map_nil,TV.conc,TP.conc,winOf_conc h2,h1,h6,tyS_ok h3,kO];exact fin
    ·simp only[builtinH,builtinG,List.map_cons,List.map_nil,TV.conc,TP.conc,winOf_conc h2,h1,h6,tyS_ok h3,kO];exact fin
   ·cases h
  ·cases h
 ·cases h
theorem kBinH_mono2 {op:BinOp} {t:TypeId} {x y:SV} {P Q:CV->Prop} (h:kBinH T op t x y P) (hq:∀ d,P d->Q d):kBinH T op t x y Q:=by
 unfold kBinH at h ⊢
 split at h
 ·split at h
  ·exact kO_mono h λ _=>hq _
  ·exact kO_mono h λ _=>hq _
  ·refine ⟨h.1,?_⟩
   have h:=h.2
   unfold binH at h ⊢
   split at h<;>first|exact hq _ h|exact kO_mono h (λ _=>hq _)|exact h.elim
 ·split at h<;>first|exact hq _ h|exact kO_mono h (λ _=>hq _)|exact h.elim
 ·unfold kBinT at h ⊢
  split at h
  ·rename_i h1 _;exact absurd rfl (h1 _ _ _ _ rfl)
  ·rename_i h1;exact absurd rfl (h1 _ _ rfl)
  ·split at h<;>first|exact hq _ h|exact h.elim
  ·split at h<;>first|exact hq _ h|exact h.elim
  ·split at h<;>first|exact kO_mono h (λ _ h=>kO_mono h λ _=>hq _)|exact h.elim
  ·exact h.elim
theorem builtinT_ok (hG:Good F s) {b:Builtin} {ats:List TypeId} {xs:List TV} (hg:∀ v ∈ xs,goodV (s.blk F) v) (h:builtinT T F s b ats xs K=some r):∃ A,K A=some r/\DoesB T F s b ats xs A:=by
 unfold builtinT at h
 split at h
 ·rename_i t x
  have hgx:goodC (s.blk F) x:=hg (.pv (.one x)) (by simp)
  split at h
  ·rename_i l hk
   refine ⟨_,h,⟨⟨[],trivial,?_⟩, .quiet trivial⟩⟩
   simp only[builtinH,builtinG,builtinFT,List.map_cons,List.map_nil,hk]
   rfl
  ·cases h
  ·rename_i e hk hns
   exact lenT_ok hG hk (λ l e=>hns l e) hgx h
  ·cases h
 ·split at h
  ·rename_i e hk
   refine ⟨_,h,⟨⟨[],trivial,?_⟩, .quiet trivial⟩⟩
   simp only[builtinH,builtinG,builtinFT,List.map_cons,List.map_nil,TV.conc,TP.conc,TC.conc,hk]
   rfl
  ·cases h
 ·rename_i t t2 ats x y
  exact appendT_ok hG (hg (.pv (.one x)) (by simp)) (hg (.pv (.one y)) (by simp)) h
 ·split at h
  ·rename_i k a k' c hk
   subst hk
   refine ⟨_,h,⟨⟨[],trivial,?_⟩, .quiet trivial⟩⟩
   simp only[builtinH,List.map_cons,List.map_nil]
   exact ⟨rfl,rfl⟩
  ·cases h
 ·rename_i t x
  exact clearT_ok hG (hg (.pv (.one x)) (by simp)) h
 ·rename_i t t2 ats x y
  exact copyT_ok hG (hg (.pv (.one x)) (by simp)) (hg (.pv (.one y)) (by simp)) h
 ·cases h
theorem binX_not {op:BinOp} {t:TypeId} {x y:Operand} (hn:¬ ∃ n m,s.ev F x=tone (.err n)/\s.ev F y=tone (.err m)) (h:binX T F s op t x y K=some r):binT T op t (s.ev F x) (s.ev F y) K=some r:=by
 unfold binX at h
 split at h
 ·rename_i n m e1 e2
  exact absurd ⟨n,m,e1,e2⟩ hn
 ·exact h
theorem errB_ok {op:BinOp} {b:Bool} (h:errB op b K=some r):∃ q,K ⟨tone (.bool q),[],[]⟩=some r/\(op=.eql/\q=b\/op=.neq/\q = !b):=by
 unfold errB at h
 split at h
 ·exact ⟨_,h, .inl ⟨rfl,rfl⟩⟩
 ·exact ⟨_,h, .inr ⟨rfl,rfl⟩⟩
 ·cases h
theorem binX_err {op:BinOp} {t yt:TypeId} {x y:Operand} {n m:Int} (e1:s.ev F x=tone (.err n)) (e2:s.ev F y=tone (.err m)) (h:binX T F s op t x y K=some r):∃ A,K A=some r/\DoesX T F s (.binOp op t x y yt) A:=by
 have hx:(s.conc F).st.ev x=one (errC n):=by rw[s.ev_conc F,e1];rfl
 have hy:(s.conc F).st.ev y=one (errC m):=by rw[s.ev_conc F,e2];rfl
 unfold binX at h
 rw[e1,e2]at h
 simp only at h
 split at h
 ·rename_i hk hl
  obtain ⟨q,h1,h2⟩:=errB_ok h
  refine ⟨_,h1,rfl,λ P o hT ho => ?_, .quiet trivial⟩
  subst hT
  have hy':y=.const .nilIface:=by
   unfold isNilC at hl
   split at hl
   ·rfl
   ·cases hl
  subst hy'
  refine ok_nilE ho hx hk ?_ h2
  rcases errC_or n with ⟨hn,e⟩|⟨hn,e⟩|⟨hn,e⟩
  ·exact .inl ⟨e,by rw[hn];rfl⟩
  ·exact .inr (.inl ⟨⟨_,_,e⟩,beq_eq_false_iff_ne.2 (by omega)⟩)
  ·exact .inr (.inr ⟨e,beq_eq_false_iff_ne.2 (by omega)⟩)
 ·rename_i hk hl
  split at h
  ·rename_i hf
   obtain ⟨u,hu,h⟩:=bS h
   have hc:0<=n/\0 < m:=by
    unfold chk at hu
    split at hu
    ·rename_i hc
     rw[Bool.and_eq_true,decide_eq_true_eq,decide_eq_true_eq]at hc
     exact hc
    ·cases hu
   obtain ⟨q,h1,h2⟩:=errB_ok h
   refine ⟨_,h1,rfl,λ P o hT ho => ?_, .quiet trivial⟩
   subst hT
   have em:errC m=.ifc StTy.errT m:=by
    rcases errC_or m with ⟨hn,e⟩|⟨hn,e⟩|⟨hn,e⟩
    ·omega
    ·exact e
    ·omega
   rw[em]at hy
   refine ok_ifc ho hx hy hk hf ?_ h2
   rcases errC_or n with ⟨hn,e⟩|⟨hn,e⟩|⟨hn,e⟩
   ·exact .inl ⟨e,beq_eq_false_iff_ne.2 (by omega)⟩
   ·exact .inr ⟨n,e,rfl⟩
   ·omega
  ·cases h
 ·cases h
theorem mkI_ok {t:TypeId} {x:Operand} (h:actT2 T F s (.makeInterface t x) K=some r):∃ A,K A=some r/\DoesX T F s (.makeInterface t x) A:=by
 unfold actT2 at h
 simp only at h
 split at h
 ·rename_i n ht hf hx
  obtain ⟨u,hu,h⟩:=bS h
  have hc:0 < n:=by
   unfold chk at hu
   split at hu
   ·rename_i hc
    exact of_decide_eq_true hc
   ·cases hu
  have ht:=Nat.eq_of_beq_eq_true ht
  subst ht
  refine ⟨_,h,rfl,λ P o hT ho => ?_, .quiet trivial⟩
  subst hT
  have hx':(s.conc F).st.ev x=one (.int .i64 n):=by rw[s.ev_conc F,hx];rfl
  have e:(tone (.err n)).conc=one (CV.ifc StTy.errT n):=by
   rcases errC_or n with ⟨hn,e⟩|⟨hn,e⟩|⟨hn,e⟩
   ·omega
   ·show one (errC n)=_
    rw[e]
   ·omega
  show ActOk P o _ _ ⟨[],(tone (.err n)).conc,[]⟩
  rw[e]
  exact ok_mkI ho hx' hf
 ·cases h
def Special (F:Lv) (s:TS) (op:Op):Prop:=(∃ t x,op=.makeInterface t x)\/∃ o t x y yt n m,op=.binOp o t x y yt/\s.ev F x=tone (.err n)/\s.ev F y=tone (.err m)
theorem actT2_ok0 (hG:Good F s) {op:Op} (hs:¬ Special F s op) (h:actT2 T F s op K=some r):∃ A,K A=some r/\Does T F s op A:=by
 unfold actT2 at h
 split at h
 ·rename_i x
  exact ⟨_,h, .quiet (by simp only[actH,s.ev_conc F]) (good_ev hG x)⟩
 ·rename_i x
  exact ⟨_,h, .quiet (by simp only[actH,s.ev_conc F]) (good_ev hG x)⟩
 ·rename_i c a b
  split at h
  ·rename_i t hc
   refine ⟨_,h, .quiet ?_ (by cases t;exact good_ev hG b;exact good_ev hG a)⟩
   simp only[actH,s.ev_conc F,hc]
   show Action.mk _ _ _=_
   cases t<;>rfl
  ·cases h
 ·rename_i x i
  split at h
  ·rename_i ps hx
   split at h
   ·rename_i p hp
    have hg:=good_ev hG x
    rw[hx]at hg
    refine ⟨_,h, .quiet ?_ (hg p (List.mem_of_getElem? hp))⟩
    simp only[actH,s.ev_conc F,hx]
    show kO ((ps.map TP.conc)[i]?) _
    rw[List.getElem?_map,hp]
    rfl
   ·cases h
  ·cases h
 ·rename_i u t x
  obtain ⟨c,h1,h2,h3⟩:=unT_ok h
  refine ⟨_,h1, .quiet ?_ (goodC_pure (flat_pure h3))⟩
  simp only[actH,s.ev_conc F]
  have key:∀ {x:SV} {P Q:CV->Prop},kUnH u x P->(∀ d,P d->Q d)->kUnH u x Q:=by
   intro x P Q hp hq
   unfold kUnH at hp ⊢
   split at hp
   ·split at hp
    ·exact hq _ hp
    ·exact hp.elim
   ·split at hp
    ·exact hq _ hp
    ·exact hq _ hp
    ·exact hp.elim
   ·exact hp.elim
  exact key h2 λ d hd=>by rw[hd];rfl
 ·rename_i op t x y yt
  obtain ⟨c,h1,h2,h3⟩:=binT_ok (binX_not (λ ⟨n,m,e1,e2⟩=>hs (.inr ⟨_,_,_,_,_,n,m,rfl,e1,e2⟩)) h)
  refine ⟨_,h1, .quiet ?_ (goodC_pure (flat_pure h3))⟩
  simp only[actH,s.ev_conc F]
  exact kBinH_mono2 h2 λ d hd=>by rw[hd];rfl
 ·exact convT_ok hG h
 ·exact fieldT_ok hG h
 ·exact fieldAddrT_ok hG h
 ·exact loadT_ok hG h
 ·exact storeT_ok hG h
 ·split at h
  ·rename_i n hn
   exact ⟨_,h,allocA_ok hn⟩
  ·split at h
   ·rename_i z hz
    exact ⟨_,h,allocT_ok hz⟩
   ·cases h
 ·split at h
  ·rename_i cs hc
   exact ⟨_,h,boxT_ok hG hc⟩
  ·cases h
 ·split at h
  ·rename_i z h1 h2 h3
   split at h
   ·rename_i cs hc
    exact ⟨_,h,buildT_ok hG h1 h2 h3 hc⟩
   ·cases h
  ·cases h
 ·exact buildSliceT_ok hG h
 ·exact makeSliceT_ok hG h
 ·exact indexT_ok hG h
 ·exact indexAddrT_ok hG h
 ·exact sliceT_ok hG h
 ·rename_i f first caps
  split at h
  ·rename_i l h1 h2
   obtain ⟨f1,f2⟩:=capsT_ok hG (P:=λ cs=>(⟨[],one (.fn f cs),[]⟩:Action)=⟨[],(tone (.fn f l)).conc,[]⟩) h2 rfl
   refine ⟨_,h, .quiet ?_ f2⟩
   simp only[actH]
   exact ⟨h1,f1⟩
  ·cases h
 ·exact nilCheckT_ok hG h
 ·exact absurd (.inl ⟨_,_,rfl⟩) hs
 ·rename_i c
  split at h
  ·rename_i b hb
   obtain ⟨A,h1,h2⟩:=builtinT_ok hG (λ v hv=>by
    obtain ⟨x,_,rfl⟩:=List.mem_map.1 hv
    exact good_ev hG x) h
   refine ⟨A,h1,⟨?_,h2.out⟩⟩
   obtain ⟨hp0,e1,e2⟩:=h2.act
   refine ⟨hp0,e1,?_⟩
   simp only[actH,hb]
   have:c.args.toList.map (s.conc F).st.ev=(c.args.toList.map (s.ev F)).map TV.conc:=by
    rw[List.map_map]
    exact List.map_congr_left λ x _=>s.ev_conc F x
   rw[this]
   exact e2
  ·cases h
 ·cases h
theorem actT2_ok (hG:Good F s) {op:Op} (h:actT2 T F s op K=some r):∃ A,K A=some r/\(Does T F s op A\/DoesX T F s op A):=by
 by_cases hs:Special F s op
 ·rcases hs with ⟨t,x,rfl⟩|⟨o,t,x,y,yt,n,m,rfl,e1,e2⟩
  ·obtain ⟨A,h1,h2⟩:=mkI_ok h
   exact ⟨A,h1, .inr h2⟩
  ·obtain ⟨A,h1,h2⟩:=binX_err (yt:=yt) e1 e2 h
   exact ⟨A,h1, .inr h2⟩
 ·obtain ⟨A,h1,h2⟩:=actT2_ok0 hG hs h
  exact ⟨A,h1, .inl h2⟩
end Go.Fm
namespace Go.Fm
variable [Globs] [Structs] [Tabs]
theorem elemN_iff {x:Nat}:∀ {l:List Nat},elemN x l=true ↔ x ∈ l
 | []=>by simp[elemN]
 | y::r=>by
  simp only[elemN,Bool.or_eq_true,List.mem_cons,elemN_iff (l:=r)]
  constructor
  ·rintro (h|h)
   ·exact .inl (Nat.eq_of_beq_eq_true h)
   ·exact .inr h
  ·rintro (h|h)
   ·exact .inl (by rw[h];exact beq_self _)
   ·exact .inr h
theorem elemN_not {x:Nat} {l:List Nat}:elemN x l=false ↔ x ∉ l:=by
 rw[<-elemN_iff]
 cases elemN x l<;>simp
def noVar:TB->TB
 | .var _=>.var []
 | b=>b
theorem noVar_rows {b b':TB} (h:noVar b'=noVar b) {t:Ty} {n:Nat} {xs:List t.den} (e:b'=.rows t n xs):b=.rows t n xs:=by
 subst e;cases b<;>first|exact h.symm|cases h
theorem noVar_raw {b b':TB} (h:noVar b'=noVar b) {t:Ty} {css:List (List TC)} (e:b'=.raw t css):b=.raw t css:=by
 subst e;cases b<;>first|exact h.symm|cases h
theorem noVar_deep {b b':TB} (h:noVar b'=noVar b) {t:Ty} {n:Nat} {xs:List t.den} {o:Option (Hol t.den)} (e:b'=.deep t n xs o):b=.deep t n xs o:=by
 subst e;cases b<;>first|exact h.symm|cases h
theorem noVar_no {b b':TB} (h:noVar b'=noVar b) (hb:b≠.no):b'≠.no:=by
 intro e;subst e;cases b<;>first|exact hb rfl|cases h
theorem goodC_nv {h h':Nat->TB} {c:TC} (hk:∀ i,h i≠.no->noVar (h' i)=noVar (h i)) (hc:goodC h c):goodC h' c:=by
 cases c with
 | arr i n=>have e:=hk i hc.1;exact ⟨noVar_no e hc.1,λ t n' xs h'=>hc.2.1 t n' xs (noVar_rows e h'),λ t css h'=>hc.2.2.1 t css (noVar_raw e h'),λ t n' xs o h'=>hc.2.2.2 t n' xs o (noVar_deep e h')⟩
 | win i t a b ys=>have e:=hk i hc.1;exact ⟨noVar_no e hc.1,λ n' xs h'=>hc.2.1 n' xs (noVar_rows e h'),λ t' n' xs h'=>hc.2.2.1 t' n' xs (noVar_rows e h'),λ t css h'=>hc.2.2.2 t css (noVar_raw e h')⟩
 | winx i lo n=>have e:=hk i hc.1;exact ⟨noVar_no e hc.1,λ t n' xs h'=>hc.2.1 t n' xs (noVar_rows e h'),λ t css h'=>hc.2.2 t css (noVar_raw e h')⟩
 | ptr i o=>exact noVar_no (hk i hc) hc
 | row i q t j v=>have e:=hk i hc.1;exact ⟨noVar_no e hc.1,λ n' xs h'=>hc.2.1 n' xs (noVar_rows e h'),λ n' xs o h'=>hc.2.2 n' xs o (noVar_deep e h')⟩
 | rowx i o=>exact noVar_no (hk i hc) hc
 | fn f l=>exact λ p hp=>noVar_no (hk p.1 (hc p hp)) (hc p hp)
 | _=>trivial
theorem compat_no {b b':TB} (h:Compat b b'):b'≠.no:=by intro e;subst e;cases b<;>exact h
theorem compat_rows {b b':TB} (h:Compat b b') {t:Ty} {n:Nat} {xs:List t.den} (e:b'=.rows t n xs):∃ t' ys,b=.rows t' n ys:=by
 subst e;cases b<;>first|exact h.elim|skip
 rename_i t' n' ys
 exact ⟨t',ys,by rw[show n=n' from h]⟩
theorem compat_deep {b b':TB} (h:Compat b b') {t:Ty} {n:Nat} {xs:List t.den} {o:Option (Hol t.den)} (e:b'=.deep t n xs o):(∃ t' ys,b=.rows t' n ys)\/∃ t' ys o',b=.deep t' n ys o':=by
 subst e;cases b<;>first|exact h.elim|skip
 ·rename_i t' n' ys
  exact .inl ⟨t',ys,by rw[show n=n' from h]⟩
 ·rename_i t' n' ys o'
  exact .inr ⟨t',ys,o',by rw[show n=n' from h]⟩
theorem compat_raw {b b':TB} (h:Compat b b') {t:Ty} {css:List (List TC)}:b'≠.raw t css:=by
 intro e;subst e;cases b<;>exact h
structure Turn (h h':Nat->TB) (ids:List Nat):Prop where
 old:∀ i,i ∈ ids->h i≠.no->Compat (h i) (h' i)
 rest:∀ i,i ∉ ids->h i≠.no->noVar (h' i)=noVar (h i)
section
variable {h h':Nat->TB} {ids:List Nat}
theorem Turn.no (H:Turn h h' ids) {i:Nat} (hi:h i≠.no):h' i≠.no:=by
 by_cases e:i ∈ ids
 ·exact compat_no (H.old i e hi)
 ·exact noVar_no (H.rest i e hi) hi
theorem Turn.rows (H:Turn h h' ids) {i:Nat} (hi:h i≠.no) {t:Ty} {n:Nat} {xs:List t.den} (e:h' i=.rows t n xs):∃ t' ys,h i=.rows t' n ys:=by
 by_cases m:i ∈ ids
 ·exact compat_rows (H.old i m hi) e
 ·exact ⟨t,xs,noVar_rows (H.rest i m hi) e⟩
theorem Turn.raw (H:Turn h h' ids) {i:Nat} (hi:h i≠.no) {t:Ty} {css:List (List TC)} (e:h' i=.raw t css):h i=.raw t css:=by
 by_cases m:i ∈ ids
 ·exact absurd e (compat_raw (H.old i m hi))
 ·exact noVar_raw (H.rest i m hi) e
theorem Turn.deep (H:Turn h h' ids) {i:Nat} (hi:h i≠.no) {t:Ty} {n:Nat} {xs:List t.den} {o:Option (Hol t.den)} (e:h' i=.deep t n xs o):(∃ t' ys,h i=.rows t' n ys)\/∃ t' ys o',h i=.deep t' n ys o':=by
 by_cases m:i ∈ ids
 ·exact compat_deep (H.old i m hi) e
 ·exact .inr ⟨t,xs,o,noVar_deep (H.rest i m hi) e⟩
theorem Turn.arr (H:Turn h h' ids) {i n:Nat} (hc:goodC h (.arr i n)):goodC h' (.arr i n) :=
 ⟨H.no hc.1,λ t n' xs e=>by obtain ⟨t',ys,e'⟩:=H.rows hc.1 e;exact hc.2.1 t' n' ys e',λ t css e=>hc.2.2.1 t css (H.raw hc.1 e),λ t n' xs o e=>by
  rcases H.deep hc.1 e with ⟨t',ys,e'⟩|⟨t',ys,o',e'⟩
  ·exact hc.2.1 t' n' ys e'
  ·exact hc.2.2.2 t' n' ys o' e'⟩
theorem Turn.winx (H:Turn h h' ids) {i lo n:Nat} (hc:goodC h (.winx i lo n)):goodC h' (.winx i lo n) :=
 ⟨H.no hc.1,λ t n' xs e=>by obtain ⟨t',ys,e'⟩:=H.rows hc.1 e;exact hc.2.1 t' n' ys e',λ t css e=>hc.2.2 t css (H.raw hc.1 e)⟩
theorem goodC_rlen {F:Lv} {s:TS} (hb:∀ i t n xs,h i=.rows t n xs->xs.length=n) {id:Nat} {t:Ty} {a b:Int} {ys:List t.den} (hc:goodC h (.win id t a b ys)):goodC h (.winx id a.toNat ys.length) :=
 ⟨hc.1,λ t' n' xs e=>by
  obtain rfl:=hc.2.2.1 _ _ _ e
  have:=fLeW (hc.2.1 _ _ e) rfl rfl
  rwa [hb _ _ _ _ e]at this,hc.2.2.2⟩
theorem Turn.stC {F:Lv} {s:TS} (H:Turn h h' ids) (hb:∀ i t n xs,h i=.rows t n xs->xs.length=n) {c:TC} (hc:goodC h c):goodC h' (stC ids c):=by
 have same:∀ {i:Nat},elemN i ids=false->h i≠.no->noVar (h' i)=noVar (h i):=λ e hi=>H.rest _ (elemN_not.1 e) hi
 cases c with
 | arr i n=>exact H.arr hc
 | win i t a b ys =>
  show goodC h' (match elemN i ids with|true=>_|false=>_)
  cases e:elemN i ids with
  | true=>exact H.winx (goodC_rlen (F:=F) (s:=s) hb hc)
  | false =>
   have e:=same e hc.1
   exact ⟨noVar_no e hc.1,λ n' xs h'=>hc.2.1 n' xs (noVar_rows e h'),λ t' n' xs h'=>hc.2.2.1 t' n' xs (noVar_rows e h'),λ t css h'=>hc.2.2.2 t css (noVar_raw e h')⟩
 | winx i lo n=>exact H.winx hc
 | ptr i o=>exact H.no hc
 | row i q t j v =>
  show goodC h' (match elemN i ids with|true=>_|false=>_)
  cases e:elemN i ids with
  | true=>exact H.no hc.1
  | false =>
   have e:=same e hc.1
   exact ⟨noVar_no e hc.1,λ n' xs h'=>hc.2.1 n' xs (noVar_rows e h'),λ n' xs o h'=>hc.2.2 n' xs o (noVar_deep e h')⟩
 | rowx i o=>exact H.no hc
 | fn f l=>exact λ p hp=>H.no (hc p hp)
 | _=>trivial
theorem Turn.stay (H:Turn h h' ids) {fb:List Nat} (hd:∀ i ∈ fb,i ∉ ids) {c:TC} (hs:stayC fb c=true) (hc:goodC h c):goodC h' c:=by
 cases c with
 | arr i n=>exact H.arr hc
 | win i t a b ys =>
  have e:=H.rest i (hd i (elemN_iff.1 hs)) hc.1
  exact ⟨noVar_no e hc.1,λ n' xs h'=>hc.2.1 n' xs (noVar_rows e h'),λ t' n' xs h'=>hc.2.2.1 t' n' xs (noVar_rows e h'),λ t css h'=>hc.2.2.2 t css (noVar_raw e h')⟩
 | winx i lo n=>cases hs
 | ptr i o=>exact H.no hc
 | row i q t j v=>cases hs
 | rowx i o=>cases hs
 | fn f l=>exact λ p hp=>H.no (hc p hp)
 | _=>trivial
end
theorem hpGet_cases:∀ (hp:List (Nat×TB)) (h:Nat->TB) (i:Nat),(hpGet h hp i=h i/\∀ p ∈ hp,p.1≠i)\/∃ p ∈ hp,p.1=i/\hpGet h hp i=p.2
 | [],h,i=>.inl ⟨rfl,λ p hp=>by simp at hp⟩
 | p::r,h,i=>by
  rcases hpGet_cases r (λ i=>if i=p.1 then p.2 else h i) i with ⟨e1,e2⟩|⟨q,e1,e2,e3⟩
  ·by_cases e:i=p.1
   ·exact .inr ⟨p,by simp,e.symm,by show hpGet _ r i=_;rw[e1,if_pos e]⟩
   ·refine .inl ⟨by show hpGet _ r i=_;rw[e1,if_neg e],λ q hq => ?_⟩
    rcases List.mem_cons.1 hq with rfl|hq
    ·exact Ne.symm e
    ·exact e2 q hq
  ·exact .inr ⟨q,List.mem_cons_of_mem _ e1,e2,e3⟩
theorem hpGet_congr:∀ (hp:List (Nat×TB)) {h h':Nat->TB} {i:Nat},noVar (h' i)=noVar (h i)->noVar (hpGet h' hp i)=noVar (hpGet h hp i)
 | [],h,h',i,e=>e
 | p::r,h,h',i,e=>by
  refine hpGet_congr r (h:=λ i=>if i=p.1 then p.2 else h i) (h':=λ i=>if i=p.1 then p.2 else h' i) ?_
  by_cases ei:i=p.1
  ·simp only[if_pos ei]
  ·simp only[if_neg ei];exact e
theorem oldIds_mem {n:Nat}:∀ {hp:List (Nat×TB)} {i:Nat},i ∈ oldIds n hp ↔ i < n/\∃ p ∈ hp,p.1=i
 | [],i=>by simp[oldIds]
 | p::r,i=>by
  show i ∈ (match Nat.blt p.1 n with|true=>p.1::oldIds n r|false=>oldIds n r) ↔ _
  cases e:Nat.blt p.1 n with
  | true =>
   have e:p.1 < n:=by simpa [Nat.blt_eq] using e
   simp only[List.mem_cons,oldIds_mem (hp:=r),exists_eq_or_imp]
   constructor
   ·rintro (rfl|⟨h1,q,h2,h3⟩)
    ·exact ⟨e, .inl rfl⟩
    ·exact ⟨h1, .inr ⟨q,h2,h3⟩⟩
   ·rintro ⟨h1,h2|⟨q,h2,h3⟩⟩
    ·exact .inl h2.symm
    ·exact .inr ⟨h1,q,h2,h3⟩
  | false =>
   have e:¬ p.1 < n:=λ h=>by
    rw[show Nat.blt p.1 n=true by simpa [Nat.blt_eq] using h]at e;cases e
   simp only[oldIds_mem (hp:=r),List.mem_cons,exists_eq_or_imp]
   constructor
   ·rintro ⟨h1,h2⟩
    exact ⟨h1, .inr h2⟩
   ·rintro ⟨h1,h2|h2⟩
    ·omega
    ·exact ⟨h1,h2⟩
theorem blkL_nil {fb:List (Nat×TB)} {j i:Nat}:blkL fb j [] i=.no:=by cases i<;>rfl
theorem blk_lt {F:Lv} {s:TS} {i:Nat} (h:s.blk F i≠.no):i < s.heap.length:=by
 have:∀ (l:List TB) (j i:Nat),blkL F.fb j l i≠.no->i < l.length:=by
  intro l
  induction l with
  | nil=>intro j i h;exact absurd blkL_nil h
  | cons b r ih =>
   intro j i h
   cases i with
   | zero=>simp
   | succ i=>have:=ih (j+1) i h;simp;omega
 exact this _ _ _ h
theorem OutOk.turn {F:Lv} {s:TS} {A:OR} (h:OutOk F s A):Turn (s.blk F) (hpGet (s.blk F) A.hp) (oldIds s.heap.length A.hp) where
 old:=λ i hi hn=>by
  obtain ⟨h1,q,hq,hqi⟩:=oldIds_mem.1 hi
  rcases hpGet_cases A.hp (s.blk F) i with ⟨e1,e2⟩|⟨p,e1,e2,e3⟩
  ·exact absurd hqi (e2 q hq)
  ·rw[e3]
   rcases h.hp p e1 with h2|⟨h2,h3⟩
   ·omega
   ·rw[e2]at h3;exact h3
 rest:=λ i hi hn=>by
  rcases hpGet_cases A.hp (s.blk F) i with ⟨e1,e2⟩|⟨p,e1,e2,e3⟩
  ·rw[e1]
  ·exact absurd (oldIds_mem.2 ⟨blk_lt hn,p,e1,e2⟩) hi
def stayB (fb:List Nat):TB->Bool
 | .var cs=>cs.all (stayC fb)
 | .raw ..=>false
 | .deep _ _ _ (some _)=>false
 | _=>true
structure LvOk (F:Lv):Prop where
 fx:∀ t,stayV (F.fb.map (·.1)) (lkE F.fx t)=true\/lkE F.fx t=tone .dead
 fb:∀ j,stayB (F.fb.map (·.1)) (lkB F.fb j)=true
 nf:∀ j,lkB F.fb j≠.fix
theorem stC_conc (ids:List Nat) (c:TC):(stC ids c).conc=c.conc:=by
 cases c<;>try rfl
 ·show (match elemN _ ids with|true=>_|false=>_:TC).conc=_
  split<;>rfl
 ·show (match elemN _ ids with|true=>_|false=>_:TC).conc=_
  split<;>rfl
theorem stP_conc (ids:List Nat) (p:TP):(stP ids p).conc=p.conc:=by
 cases p with
 | one c=>show PV.one _=_;rw[stC_conc];rfl
 | agg cs =>
  show PV.agg _=PV.agg _
  rw[List.map_map]
  exact congrArg _ (List.map_congr_left λ c _=>stC_conc ids c)
theorem stV_conc (ids:List Nat) (v:TV):(stV ids v).conc=v.conc:=by
 cases v with
 | pv p=>show SV.pv _=_;rw[stP_conc];rfl
 | tup ps =>
  show SV.tup _=SV.tup _
  rw[List.map_map]
  exact congrArg _ (List.map_congr_left λ c _=>stP_conc ids c)
theorem stB_conc (ids:List Nat) (b:TB):(stB ids b).conc=b.conc:=by
 cases b<;>try rfl
 show HS.live ⟨1,_,_⟩=HS.live ⟨1,_,_⟩
 rw[List.length_map,List.map_map]
 congr 2
 exact List.map_congr_left λ c _=>stC_conc ids c
theorem noVar_stB (ids:List Nat) (b:TB):noVar (stB ids b)=noVar b:=by cases b<;>rfl
theorem heapC_stale (fb:List (Nat×TB)) (ids:List Nat):∀ (l:List TB) (j:Nat),heapC fb j (l.map (stB ids))=heapC fb j l
 | [],j=>rfl
 | b::r,j=>by
  simp only[List.map_cons,heapC,heapC_stale fb ids r (j+1)]
  congr 1
  cases b<;>first|rfl|exact stB_conc ids (.var _)
theorem envC_stale (ids:List Nat):∀ (e fx:TE),envC ((e.map λ p=>(p.1,stV ids p.2))++fx)=envC (e++fx)
 | [],fx=>rfl
 | p::r,fx=>by
  simp only[List.map_cons,List.cons_append,envC,stV_conc]
  congr 1
  exact envC_stale ids r fx
theorem stS_conc (F:Lv) (ids:List Nat) (s:TS):(stS ids s).conc F=s.conc F:=by
 cases ids with
 | nil=>rfl
 | cons i r =>
  show (⟨envC ((s.env.map λ p=>(p.1,stV (i::r) p.2))++F.fx),heapC F.fb 0 (s.heap.map (stB (i::r)))⟩:S)=_
  rw[envC_stale,heapC_stale];rfl
theorem stS_len (ids:List Nat) (s:TS):(stS ids s).heap.length=s.heap.length:=by
 cases ids with
 | nil=>rfl
 | cons i r=>exact List.length_map ..
theorem blkL_stale (fb:List (Nat×TB)) (ids:List Nat):∀ (l:List TB) (j i:Nat),blkL fb j (l.map (stB ids)) i=blkL fb j l i/\(∃ k,blkL fb j l i=lkB fb k)\/blkL fb j (l.map (stB ids)) i=stB ids (blkL fb j l i)
 | [],j,i=>.inr (by rw[List.map_nil,blkL_nil];rfl)
 | b::r,j,0=>by
  cases b<;>first|exact .inl ⟨rfl,_,rfl⟩|exact .inr rfl
 | b::r,j,i+1=>blkL_stale fb ids r (j+1) i
theorem blk_stale (F:Lv) (ids:List Nat) (s:TS) (i:Nat):(stS ids s).blk F i=s.blk F i/\((∃ k,s.blk F i=lkB F.fb k)\/ids=[])\/(stS ids s).blk F i=stB ids (s.blk F i):=by
 cases ids with
 | nil=>exact .inl ⟨rfl, .inr rfl⟩
 | cons a r =>
  rcases blkL_stale F.fb (a::r) s.heap 0 i with h|h
  ·exact .inl ⟨h.1, .inl h.2⟩
  ·exact .inr h
theorem setT_len:∀ (l:List TB) (i:Nat) (b:TB),(setT l i b).length=max l.length (i+1)
 | [],0,b=>rfl
 | [],n+1,b=>by simp only[setT,List.length_cons,setT_len [] n b];simp
 | a::r,0,b=>by simp only[setT,List.length_cons];omega
 | a::r,n+1,b=>by simp only[setT,List.length_cons,setT_len r n b];omega
theorem blkL_set (fb:List (Nat×TB)):∀ (l:List TB) (j i:Nat) (b:TB) (k:Nat),isFix b=false->blkL fb j (setT l i b) k=if k=i then b else blkL fb j l k
 | [],j,0,b,0,hb=>by cases b<;>first|rfl|cases hb
 | [],j,0,b,k+1,hb=>by
  show blkL fb (j+1) [] k=_
  rw[if_neg (by omega),blkL_nil,blkL_nil]
 | [],j,i+1,b,0,hb=>rfl
 | [],j,i+1,b,k+1,hb=>by
  show blkL fb (j+1) (setT [] i b) k=_
  rw[blkL_set fb [] (j+1) i b k hb]
  simp only[Nat.add_right_cancel_iff,blkL_nil]
 | a::r,j,0,b,0,hb=>by cases b<;>first|rfl|cases hb
 | a::r,j,0,b,k+1,hb=>rfl
 | a::r,j,i+1,b,0,hb=>rfl
 | a::r,j,i+1,b,k+1,hb=>by
  show blkL fb (j+1) (setT r i b) k=_
  rw[blkL_set fb r (j+1) i b k hb]
  simp only[Nat.add_right_cancel_iff]
  split<;>rfl
theorem blkL_sets (fb:List (Nat×TB)):∀ (hp:List (Nat×TB)) (l:List TB) (k:Nat),(∀ p ∈ hp,isFix p.2=false)->blkL fb 0 (setTs l hp) k=hpGet (blkL fb 0 l) hp k
 | [],l,k,_=>rfl
 | p::r,l,k,h=>by
  show blkL fb 0 (setTs (setT l p.1 p.2) r) k=_
  rw[blkL_sets fb r _ k λ q hq=>h q (List.mem_cons_of_mem _ hq)]
  show hpGet _ r k=hpGet _ r k
  congr 1
  funext i
  exact blkL_set fb l 0 p.1 p.2 i (h p (by simp))
theorem heapC_set (fb:List (Nat×TB)):∀ (l:List TB) (j i:Nat) (b:TB),isFix b=false->heapC fb j (setT l i b)=setH (heapC fb j l) i b.conc
 | [],j,0,b,hb=>by cases b<;>first|rfl|cases hb
 | [],j,i+1,b,hb=>by
  show _::heapC fb (j+1) (setT [] i b)=_
  rw[heapC_set fb [] (j+1) i b hb];rfl
 | a::r,j,0,b,hb=>by cases b<;>first|rfl|cases hb
 | a::r,j,i+1,b,hb=>by
  show _::heapC fb (j+1) (setT r i b)=_
  rw[heapC_set fb r (j+1) i b hb];rfl
theorem heapC_sets (fb:List (Nat×TB)):∀ (hp:List (Nat×TB)) (l:List TB),(∀ p ∈ hp,isFix p.2=false)->heapC fb 0 (setTs l hp)=setHs (heapC fb 0 l) (hp.map λ p=>(p.1,p.2.conc))
 | [],l,_=>rfl
 | p::r,l,h=>by
  show heapC fb 0 (setTs (setT l p.1 p.2) r)=setHs (setH _ p.1 p.2.conc) _
  rw[heapC_sets fb r _ λ q hq=>h q (List.mem_cons_of_mem _ hq),heapC_set fb l 0 p.1 p.2 (h p (by simp))]
theorem setTs_len:∀ (hp:List (Nat×TB)) (l:List TB),l.length<=(setTs l hp).length
 | [],l=>Nat.le_refl _
 | p::r,l=>by
  have:=setTs_len r (setT l p.1 p.2)
  rw[setT_len]at this
  exact Nat.le_trans (by omega) this
theorem hpOk_get {F:Lv} {s:TS}:∀ {hp:List (Nat×TB)},hpOk F s hp=true->∀ p ∈ hp,p.1 ∉ F.fb.map (·.1)/\isFix p.2=false
 | [],_,p,hp=>by simp at hp
 | q::r,h,p,hp=>by
  simp only[hpOk,Bool.and_eq_true,Bool.not_eq_true']at h
  rcases List.mem_cons.1 hp with rfl|hp
  ·exact ⟨elemN_not.1 h.1.1,h.1.2⟩
  ·exact hpOk_get h.2 p hp
theorem memE_not {t:Nat}:∀ {e:TE},memE t e=false->lkE e t=tone .dead
 | [],_=>rfl
 | p::r,h=>by
  simp only[memE,Bool.or_eq_false_iff]at h
  show (match Nat.beq p.1 t with|true=>p.2|false=>lkE r t)=_
  rw[h.1]
  exact memE_not h.2
theorem lkE_append {t:Nat}:∀ (e fx:TE),(memE t e=true/\lkE (e++fx) t=lkE e t)\/(memE t e=false/\lkE (e++fx) t=lkE fx t)
 | [],fx=>.inr ⟨rfl,rfl⟩
 | p::r,fx=>by
  have hl:∀ q:TE,lkE (p::q) t=(match Nat.beq p.1 t with|true=>p.2|false=>lkE q t):=λ q=>rfl
  have hm:memE t (p::r)=(Nat.beq p.1 t || memE t r):=rfl
  rw[List.cons_append,hl,hl,hm]
  cases Nat.beq p.1 t with
  | true=>exact .inl ⟨rfl,rfl⟩
  | false=>exact lkE_append r fx
theorem memE_stale (ids:List Nat) (t:Nat):∀ e:TE,memE t (e.map λ p=>(p.1,stV ids p.2))=memE t e
 | []=>rfl
 | p::r=>by simp only[List.map_cons,memE,memE_stale ids t r]
theorem lkE_stale (ids:List Nat) (t:Nat):∀ e:TE,memE t e=true->lkE (e.map λ p=>(p.1,stV ids p.2)) t=stV ids (lkE e t)
 | [],h=>by cases h
 | p::r,h=>by
  have hm:memE t (p::r)=(Nat.beq p.1 t || memE t r):=rfl
  rw[hm]at h
  show (match Nat.beq p.1 t with|true=>stV ids p.2|false=>lkE (r.map _) t)=stV ids (match Nat.beq p.1 t with|true=>p.2|false=>lkE r t)
  cases e:Nat.beq p.1 t with
  | true=>rfl
  | false=>rw[e]at h;exact lkE_stale ids t r h
theorem lk_stale (F:Lv) (ids:List Nat) (s:TS) (t:Nat):(stS ids s).lk F t=stV ids (s.lk F t)\/((stS ids s).lk F t=lkE F.fx t/\s.lk F t=lkE F.fx t)\/((stS ids s).lk F t=s.lk F t/\ids=[]):=by
 cases ids with
 | nil=>exact .inr (.inr ⟨rfl,rfl⟩)
 | cons i r =>
  show lkE ((s.env.map λ p=>(p.1,stV (i::r) p.2))++F.fx) t=stV (i::r) (lkE (s.env++F.fx) t)\/_
  rcases lkE_append (t:=t) s.env F.fx with ⟨h1,h2⟩|⟨h1,h2⟩
  ·rcases lkE_append (t:=t) (s.env.map λ p=>(p.1,stV (i::r) p.2)) F.fx with ⟨h3,h4⟩|⟨h3,h4⟩
   ·exact .inl (by rw[h4,h2];exact lkE_stale _ _ _ h1)
   ·rw[memE_stale,h1]at h3;cases h3
  ·rcases lkE_append (t:=t) (s.env.map λ p=>(p.1,stV (i::r) p.2)) F.fx with ⟨h3,h4⟩|⟨h3,h4⟩
   ·rw[memE_stale,h1]at h3;cases h3
   ·exact .inr (.inl ⟨h4,h2⟩)
theorem stC_nil (c:TC):stC [] c=c:=by cases c<;>rfl
theorem goodV_map {h h':Nat->TB} {ids:List Nat} (hc:∀ c,goodC h c->goodC h' (stC ids c)) {v:TV} (hv:goodV h v):goodV h' (stV ids v):=by
 have hp:∀ p,goodP h p->goodP h' (stP ids p):=λ p hp=>by
  cases p with
  | one c=>exact hc c hp
  | agg cs=>intro c hc';obtain ⟨d,hd,rfl⟩:=List.mem_map.1 hc';exact hc d (hp d hd)
 cases v with
 | pv p=>exact hp p hv
 | tup ps=>intro p hp';obtain ⟨q,hq,rfl⟩:=List.mem_map.1 hp';exact hp q (hv q hq)
theorem goodV_imp {h h':Nat->TB} (hc:∀ c,goodC h c->goodC h' c) {v:TV} (hv:goodV h v):goodV h' v:=by
 have hp:∀ p,goodP h p->goodP h' p:=λ p hp=>by
  cases p with
  | one c=>exact hc c hp
  | agg cs=>intro c hc';exact hc c (hp c hc')
 cases v with
 | pv p=>exact hp p hv
 | tup ps=>intro p hp';exact hp p (hv p hp')
theorem goodV_stay {h h':Nat->TB} {fb:List Nat} (hc:∀ c,stayC fb c=true->goodC h c->goodC h' c) {v:TV} (hs:stayV fb v=true) (hv:goodV h v):goodV h' v:=by
 cases v with
 | pv p =>
  cases p with
  | one c=>exact hc c hs hv
  | agg cs=>exact λ c hm=>hc c (List.all_eq_true.1 hs c hm) (hv c hm)
 | tup ps=>cases hs
theorem put_core {F:Lv} {s:TS} {d:Option Nat} {A:OR} (hL:LvOk F) (hG:Good F s) (hA:OutOk F s A) (hok2:hpOk F s A.hp=true) :
  Good F ⟨putE2 (stS (oldIds s.heap.length A.hp) s).env d A.val,setTs (stS (oldIds s.heap.length A.hp) s).heap A.hp⟩ ∧
   TS.conc F ⟨putE2 (stS (oldIds s.heap.length A.hp) s).env d A.val,setTs (stS (oldIds s.heap.length A.hp) s).heap A.hp⟩=(s.conc F).app d A.conc:=by
 have hfix:∀ p ∈ A.hp,isFix p.2=false:=λ p hp=>(hpOk_get hok2 p hp).2
 let ids:=oldIds s.heap.length A.hp
 have hT:=hA.turn
 have hblk:∀ j,(TS.mk (putE2 (stS ids s).env d A.val) (setTs (stS ids s).heap A.hp)).blk F j=hpGet ((stS ids s).blk F) A.hp j:=λ j=>blkL_sets _ _ _ _ hfix
 have hnv:∀ j,noVar ((stS ids s).blk F j)=noVar (s.blk F j):=λ j=>by
  rcases blk_stale F ids s j with h|h
  ·rw[h.1]
  ·rw[h,noVar_stB]
 have hnv2:∀ j,noVar (hpGet ((stS ids s).blk F) A.hp j)=noVar (hpGet (s.blk F) A.hp j):=λ j=>hpGet_congr _ (hnv j)
 have hlen:=λ i t n xs (e:s.blk F i=.rows t n xs)=>hG.rlen e
 have hst:∀ c,goodC (s.blk F) c->goodC (hpGet ((stS ids s).blk F) A.hp) (stC ids c):=λ c hc=>goodC_nv (λ i _=>hnv2 i) (hT.stC (F:=F) (s:=s) hlen hc)
 have hdis:∀ i ∈ F.fb.map (·.1),i ∉ ids:=λ i hi hm=>by
  obtain ⟨_,p,hp,e⟩:=oldIds_mem.1 hm
  exact (hpOk_get hok2 p hp).1 (e▸hi)
 have hsy:∀ c,stayC (F.fb.map (·.1)) c=true->goodC (s.blk F) c->goodC (hpGet ((stS ids s).blk F) A.hp) c:=λ c hs hc=>goodC_nv (λ i _=>hnv2 i) (hT.stay hdis hs hc)
 have hold:∀ c,goodC (hpGet (s.blk F) A.hp) c->goodC (hpGet ((stS ids s).blk F) A.hp) c:=λ c hc=>goodC_nv (λ i _=>hnv2 i) hc
 have hfun:(TS.mk (putE2 (stS ids s).env d A.val) (setTs (stS ids s).heap A.hp)).blk F=hpGet ((stS ids s).blk F) A.hp:=funext hblk
 refine ⟨⟨?_,λ i hi => ?_,λ t => ?_,λ j => ?_,λ j t n xs hj e => ?_,λ j t n xs o hj e => ?_⟩,?_⟩
 ·exact Nat.le_trans hG.k0 (by have:=setTs_len A.hp (stS ids s).heap;rw[stS_len]at this;exact this)
 ·exact Nat.lt_of_lt_of_le (hG.fb i hi) (by have:=setTs_len A.hp (stS ids s).heap;rw[stS_len]at this;exact this)
 ·rw[hfun]
  have hgo:goodV (hpGet ((stS ids s).blk F) A.hp) ((stS ids s).lk F t):=by
   rcases lk_stale F ids s t with h|⟨h1,h2⟩|⟨h1,h2⟩
   ·rw[h];exact goodV_map hst (hG.env t)
   ·rw[h1]
    have hg:=hG.env t
    rw[h2]at hg
    rcases hL.fx t with h3|h3
    ·exact goodV_stay hsy h3 hg
    ·rw[h3];trivial
   ·rw[h1]
    exact goodV_imp (λ c hc=>by have:=hst c hc;rw[h2,stC_nil]at this;exact (h2▸this)) (hG.env t)
  cases d with
  | none=>exact hgo
  | some d =>
   show goodV _ (match Nat.beq d t with|true=>A.val|false=>(stS ids s).lk F t)
   cases Nat.beq d t with
   | true=>exact goodV_imp hold hA.val
   | false=>exact hgo
 ·rw[hfun]
  rcases hpGet_cases A.hp ((stS ids s).blk F) j with ⟨e1,e2⟩|⟨p,e1,e2,e3⟩
  ·rw[e1]
   have hb:=hG.heap j
   have hvar:∀ cs,s.blk F j=.var cs->goodB (hpGet ((stS ids s).blk F) A.hp) ((stS ids s).blk F j):=λ cs hcs=>by
    rw[hcs]at hb
    rcases blk_stale F ids s j with ⟨h1,⟨k,hk⟩|h2⟩|h
    ·rw[h1,hcs]
     have:=hL.fb k
     rw[<-hk,hcs]at this
     exact λ c hc=>hsy c (List.all_eq_true.1 this c hc) (hb c hc)
    ·rw[h1,hcs]
     exact λ c hc=>by have:=hst c (hb c hc);rw[h2,stC_nil]at this;exact (h2▸this)
    ·rw[h,hcs]
     intro c hc
     obtain ⟨d,hd,rfl⟩:=List.mem_map.1 hc
     exact hst d (hb d hd)
   have hsame:(∀ cs,s.blk F j≠.var cs)->(stS ids s).blk F j=s.blk F j:=λ hne=>by
    rcases blk_stale F ids s j with h|h
    ·exact h.1
    ·rw[h]
     cases hq:s.blk F j<;>first|rfl|exact absurd hq (hne _)
   cases hq:s.blk F j with
   | var cs=>exact hvar cs hq
   | rows t n xs=>rw[hsame (by rw[hq];nofun),hq];exact hG.rlen hq
   | raw t css =>
    rw[hsame (by rw[hq];nofun),hq]
    rw[hq]at hb
    intro r hr
    refine ⟨(hb r hr).1,λ c hc => ?_⟩
    obtain ⟨g1,g2⟩:=(hb r hr).2 c hc
    refine ⟨?_,g2⟩
    rcases g2 with g2|⟨id,n,rfl⟩
    ·exact goodC_pure g2
    ·exact hold _ (hT.arr g1)
   | deep t n xs o =>
    rw[hsame (by rw[hq];nofun),hq]
    rw[hq]at hb
    refine ⟨hb.1,hb.2.1,?_⟩
    have hb:=hb.2.2
    cases o with
    | none=>trivial
    | some H=>exact ⟨hold _ (hT.arr hb.1),hb.2⟩
   | no=>rw[hsame (by rw[hq];nofun),hq];trivial
   | dead=>rw[hsame (by rw[hq];nofun),hq];trivial
   | fix=>rw[hsame (by rw[hq];nofun),hq];trivial
  ·rw[e3]
   have hb:=hA.bl p e1
   cases hq:p.2 with
   | var cs=>rw[hq]at hb;exact λ c hc=>hold c (hb c hc)
   | rows t n xs=>rw[hq]at hb;exact hb
   | raw t css=>rw[hq]at hb;exact λ r hr=>⟨(hb r hr).1,λ c hc=>⟨hold c ((hb r hr).2 c hc).1,((hb r hr).2 c hc).2⟩⟩
   | deep t n xs o =>
    rw[hq]at hb
    refine ⟨hb.1,hb.2.1,?_⟩
    have hb:=hb.2.2
    cases o with
    | none=>trivial
    | some H=>exact ⟨hold _ hb.1,hb.2⟩
   | no=>trivial
   | dead=>trivial
   | fix=>trivial
 ·rw[hfun]at e
  have hj':j < s.heap.length:=Nat.lt_of_lt_of_le hj hG.k0
  have e':=noVar_rows (hnv2 j).symm.symm e
  rcases hpGet_cases A.hp (s.blk F) j with ⟨e1,e2⟩|⟨p,e1,e2,e3⟩
  ·rw[e1]at e';exact hG.n0 j t n xs hj e'
  ·rcases hA.hp p e1 with h|⟨h1,h2⟩
   ·omega
   ·rw[<-e3,e2]at h2
    obtain ⟨t',ys,e4⟩:=compat_rows h2 e'
    exact hG.n0 j t' n ys hj e4
 ·rw[hfun]at e
  have hj':j < s.heap.length:=Nat.lt_of_lt_of_le hj hG.k0
  have e':=noVar_deep (hnv2 j).symm.symm e
  rcases hpGet_cases A.hp (s.blk F) j with ⟨e1,e2⟩|⟨p,e1,e2,e3⟩
  ·rw[e1]at e';exact hG.n1 j t n xs o hj e'
  ·rcases hA.hp p e1 with h|⟨h1,h2⟩
   ·omega
   ·rw[<-e3,e2]at h2
    rcases compat_deep h2 e' with ⟨t',ys,e4⟩|⟨t',ys,o',e4⟩
    ·exact hG.n0 j t' n ys hj e4
    ·exact hG.n1 j t' n ys o' hj e4
 ·show (⟨envC (putE2 (stS ids s).env d A.val++F.fx),heapC F.fb 0 (setTs (stS ids s).heap A.hp)⟩:S)=_
  have h1:=stS_conc F ids s
  unfold TS.conc at h1
  have h1a:=congrArg S.env h1
  have h1b:=congrArg S.heap h1
  simp only at h1a h1b
  rw[heapC_sets _ _ _ hfix,h1b]
  cases d with
  | none=>simp only[putE2,h1a];rfl
  | some d =>
   show (⟨(d,A.val.conc)::envC ((stS ids s).env++F.fx),_⟩:S)=_
   rw[h1a];rfl
theorem put_ok {F:Lv} {s s':TS} {d:Option Nat} {A:OR} (hL:LvOk F) (hG:Good F s) (hA:OutOk F s A) (h:s.put F d A=some s') :
  Good F s'/\s'.conc F=(s.conc F).app d A.conc:=by
 unfold TS.put at h
 split at h
 ·rename_i hok
  cases h
  simp only[Bool.and_eq_true]at hok
  exact put_core hL hG hA hok.2
 ·cases h
end Go.Fm
namespace Go.Fm
variable [Globs] [Structs] [Tabs]
theorem RV.le0 {w:World} {Sh:Nat->Prop} {ρ:Rho} {h:Nat->HS} {v:Value} {c c':CV} (hv:RV w Sh ρ h v c) (hl:leC0 c c'):RV w Sh ρ h v c':=by
 rcases hl with rfl|⟨rfl,sz,rfl⟩
 ·exact hv
 ·have hv:RI w Sh v .emp:=hv
  cases hv with
  | emp a=>exact RI.imm0 a 0 sz
theorem leL0_get:∀ {cs cs':List CV},leL0 cs cs'->∀ (i:Nat) (c':CV),cs'[i]? = some c'->∃ c,cs[i]? = some c/\leC0 c c'
 | [],[],_,i,c',h=>by simp at h
 | c::r,c1::r',hl,i,c',h=>by
  cases i with
  | zero=>cases h;exact ⟨c,rfl,hl.1⟩
  | succ i=>exact leL0_get hl.2 i c' h
 | [],_::_,hl,_,_,_=>hl.elim
 | _::_,[],hl,_,_,_=>hl.elim
def leP0:PV->PV->Prop
 | .one c, .one c'=>leC0 c c'
 | .agg cs, .agg cs'=>leL0 cs cs'
 | _,_=>False
def lePs0:List PV->List PV->Prop
 | [],[]=>True
 | p::r,q::s=>leP0 p q/\lePs0 r s
 | _,_=>False
def leS0:SV->SV->Prop
 | .pv p, .pv p'=>leP0 p p'
 | .tup l, .tup l'=>lePs0 l l'
 | _,_=>False
theorem leP0_refl:∀ p:PV,leP0 p p
 | .one c=>.inl rfl
 | .agg cs=>leL0_refl cs
theorem lePs0_refl:∀ l:List PV,lePs0 l l
 | []=>trivial
 | p::r=>⟨leP0_refl p,lePs0_refl r⟩
theorem leS0_refl:∀ v:SV,leS0 v v
 | .pv p=>leP0_refl p
 | .tup l=>lePs0_refl l
section
variable {w:World} {Sh:Nat->Prop} {ρ:Rho} {h:Nat->HS}
theorem RPV.le0 {v:Value} {p p':PV} (hv:RPV w Sh ρ h v p) (hl:leP0 p p'):RPV w Sh ρ h v p':=by
 cases p with
 | one c =>
  cases p' with
  | agg _=>exact hl.elim
  | one c' =>
   have hl:leC0 c c':=hl
   rcases hl with rfl|⟨rfl,sz,rfl⟩
   ·exact hv
   ·exact RV.le0 (ρ:=ρ) (h:=h) (c:=.emp) hv (.inr ⟨rfl,sz,rfl⟩)
 | agg cs =>
  cases p' with
  | one _=>exact hl.elim
  | agg cs' =>
   obtain ⟨vs,e1,e2,e3⟩:=hv
   refine ⟨vs,e1,by rw[leL0_len hl];exact e2,λ i c' hc => ?_⟩
   obtain ⟨c,f1,f2⟩:=leL0_get hl i c' hc
   obtain ⟨u,hu,hr⟩:=e3 i c f1
   exact ⟨u,hu,RV.le0 hr f2⟩
theorem lePs0_len:∀ {a b:List PV},lePs0 a b->b.length=a.length
 | [],[],_=>rfl
 | _::_,_::_,h=>by simp only[List.length_cons,lePs0_len h.2]
 | [],_::_,h=>h.elim
 | _::_,[],h=>h.elim
theorem lePs0_get:∀ {ps ps':List PV},lePs0 ps ps'->∀ (i:Nat) (p':PV),ps'[i]? = some p'->∃ p,ps[i]? = some p/\leP0 p p'
 | [],[],_,i,p',h=>by simp at h
 | p::r,q::r',hl,i,p',h=>by
  cases i with
  | zero=>cases h;exact ⟨p,rfl,hl.1⟩
  | succ i=>exact lePs0_get hl.2 i p' h
 | [],_::_,hl,_,_,_=>hl.elim
 | _::_,[],hl,_,_,_=>hl.elim
theorem RSV.le0 {v:Value} {p p':SV} (hv:RSV w Sh ρ h v p) (hl:leS0 p p'):RSV w Sh ρ h v p':=by
 cases p with
 | pv p=>cases p' with
  | pv p'=>exact RPV.le0 hv hl
  | tup _=>exact hl.elim
 | tup ps=>cases p' with
  | pv _=>exact hl.elim
  | tup ps' =>
   obtain ⟨vs,e1,e2,e3⟩:=hv
   refine ⟨vs,e1,by rw[lePs0_len hl];exact e2,λ i p' hp => ?_⟩
   obtain ⟨p,f1,f2⟩:=lePs0_get hl i p' hp
   obtain ⟨u,hu,hr⟩:=e3 i p f1
   exact ⟨u,hu,RPV.le0 hr f2⟩
end
def leB0 (x y:HS):Prop:=leHS x y\/(x≠.no/\y=.dead)
theorem heapRel_le {w0 w:World} {Sh O:Nat->Prop} {ρ:Rho} {h h':Nat->HS} (hh:∀ id,leB0 (h id) (h' id)) (R:HeapRel w0 Sh O ρ h w):HeapRel w0 Sh O ρ h' w/\∀ id,HLe (h id) (ρ id) (h' id) (ρ id):=by
 have hle:∀ id,HLe (h id) (ρ id) (h' id) (ρ id):=λ id=>by
  rcases hh id with (e|⟨b,b',e1,e2,e3,e4,_⟩)|⟨e1,e2⟩
  ·rw[e];exact HLe.refl _ _
  ·rw[e1,e2];exact ⟨e3,e4,rfl⟩
  ·rw[e2];cases hx:h id<;>trivial
 have hback:∀ id b',h' id=.live b'->∃ b,h id=.live b/\b'.sz=b.sz/\b'.n=b.n/\leL0 b.cs b'.cs:=λ id b' hb=>by
  rcases hh id with (e|⟨b,b2,e1,e2,e3,e4,e5⟩)|⟨e1,e2⟩
  ·exact ⟨b',by rw[<-e];exact hb,rfl,rfl,leL0_refl _⟩
  ·rw[e2]at hb;cases hb;exact ⟨b,e1,e3,e4,e5⟩
  ·rw[e2]at hb;cases hb
 obtain ⟨D,hD⟩:=R.dp
 have hdp:∀ id b',h' id=.deep b'->h id=.deep b':=λ id b' hb=>by
  rcases hh id with (e|⟨b,b2,e1,e2,_⟩)|⟨e1,e2⟩
  ·rw[<-e];exact hb
  ·rw[e2]at hb;cases hb
  ·rw[e2]at hb;cases hb
 refine ⟨⟨λ id b' hb => ?_,λ id b' L hb hL => ?_,λ id id' b b' L L' hb hb' hL hL' e => ?_,D,hD.keep (λ id b hb=>⟨hdp id b hb,rfl⟩) hle (λ _ _ _ _ _=>rfl) (Nat.le_refl _) (λ _ h=>⟨h,rfl⟩) (λ id b k hb ho=>(hD.own id b k (hdp id b hb) ho).2)
  λ id b' L hb hL=>by obtain ⟨b,e1,_⟩:=hback id b' hb;exact .inr ⟨id,b,L,e1,hL,rfl⟩⟩,hle⟩
 ·obtain ⟨b,e1,e2,e3,e4⟩:=hback id b' hb
  have hB:=R.blk id b e1
  unfold RB at hB ⊢
  cases hL:ρ id with
  | none =>
   rw[hL]at hB
   simp only at hB ⊢
   have:=leL0_len e4
   rw[hB.1]at this
   exact ⟨List.eq_nil_of_length_eq_zero this,by rw[e3];exact hB.2⟩
  | some L =>
   rw[hL]at hB
   simp only at hB ⊢
   refine ⟨by rw[leL0_len e4,e2,e3];exact hB.1,by rw[leL0_len e4];exact hB.2.1,by rw[e2];exact hB.2.2.1,λ j c' hc => ?_⟩
   obtain ⟨c,f1,f2⟩:=leL0_get e4 j c' hc
   obtain ⟨u,hu,hr⟩:=hB.2.2.2 j c f1
   exact ⟨u,hu,(RV.le0 hr f2).mono (λ _ _=>rfl) hle⟩
 ·obtain ⟨b,e1,_⟩:=hback id b' hb
  exact R.own id b L e1 hL
 ·obtain ⟨b1,e1,_⟩:=hback id b hb
  obtain ⟨b2,e2,_⟩:=hback id' b' hb'
  exact R.inj id id' b1 b2 L L' e1 e2 hL hL' e
theorem relX_le {C:Ctx} {φ φ':St} {a:Act} {w:World} (he:∀ t,leS0 (φ.env t) (φ'.env t)\/φ'.env t=one .dead) (hh:∀ id,leB0 (φ.heap id) (φ'.heap id)) (R:RelX C φ a w):RelX C φ' a w:=by
 obtain ⟨C1,hreb,ρ,R⟩:=R
 obtain ⟨h1,hle⟩:=heapRel_le hh R.hp
 refine ⟨C1,hreb,ρ,R.defers,R.nt,λ t => ?_,h1,λ id hid=>⟨?_,(R.init id hid).2⟩,R.fr⟩
 ·rcases he t with e|e
  ·exact RSV.le0 ((R.env t).mono (λ _ _=>rfl) hle) e
  ·rw[e];trivial
 ·intro h0
  rcases hh id with (e|⟨b,b',e1,e2,_⟩)|⟨e1,e2⟩
  ·rw[e]at h0;exact (R.init id hid).1 h0
  ·rw[e2]at h0;cases h0
  ·rw[e2]at h0;cases h0
theorem leHS_refl (x:HS):leHS x x:=.inl rfl
theorem heapOf_le:∀ {l l':List (Nat×HS)} {h h':Nat->HS},leHp l l'->(∀ id,leHS (h id) (h' id))->∀ id,leHS (heapOf h l id) (heapOf h' l' id)
 | [],[],h,h',_,hh,id=>hh id
 | p::r,q::s,h,h',hl,hh,id=>by
  refine heapOf_le (l:=r) (l':=s) hl.2.2 (λ i => ?_) id
  show leHS (if i=p.1 then p.2 else h i) (if i=q.1 then q.2 else h' i)
  rw[hl.1]
  by_cases e:i=p.1
  ·rw[if_pos e,if_pos e];exact hl.2.1
  ·rw[if_neg e,if_neg e];exact hh i
 | [],_::_,_,_,hl,_,_=>hl.elim
 | _::_,[],_,_,hl,_,_=>hl.elim
theorem leHp_ids:∀ {l l':List (Nat×HS)},leHp l l'->∀ p ∈ l,∃ q ∈ l',q.1=p.1
 | [],[],_,p,hp=>by simp at hp
 | p::r,q::s,hl,x,hx=>by
  rcases List.mem_cons.1 hx with rfl|hx
  ·exact ⟨q,by simp,hl.1⟩
  ·obtain ⟨y,hy,e⟩:=leHp_ids hl.2.2 x hx
   exact ⟨y,List.mem_cons_of_mem _ hy,e⟩
 | [],_::_,hl,_,_=>hl.elim
 | _::_,[],hl,_,_=>hl.elim
theorem ActX.le {P:Program} {o:Oper} {φ:St} {nid:Nat} {rd:List Nat} {v:SV} {hp hp':List (Nat×HS)} (hl:leHp hp hp') (h:ActX P o φ nid ⟨rd,v,hp⟩):ActX P o φ nid ⟨rd,v,hp'⟩:=by
 intro C hP φ' a w hag hR hd K Q hK
 refine h C hP φ' a w ⟨hag.env,hag.hp,λ p hp hn => ?_,hag.fin⟩ hR hd K Q λ a' w' hr=>hK a' w' (relX_le (λ t=>.inl ?_) (λ id=>.inl ?_) hr)
 ·obtain ⟨q,hq,e⟩:=leHp_ids hl p hp
  rw[<-e];exact hag.fresh q hq (by rw[e];exact hn)
 ·have:(φ'.app o.dst ⟨rd,v,hp'⟩).env=(φ'.app o.dst ⟨rd,v,hp⟩).env:=by unfold St.app St.put;cases o.dst<;>rfl
  rw[this];exact leS0_refl _
 ·have:=heapOf_le hl (λ id=>leHS_refl (φ'.heap id)) id
  unfold St.app St.put;cases o.dst<;>exact this
def OpX (P:Program) (F:Lv) (o:Oper) (s:TS) (A:OR):Prop:=ActX P o (s.conc F).st s.heap.length A.conc/\OutOk F s A
variable {R:Type} {T:TypeId->TyI} {F:Lv} {s:TS} {K:OR->Option R} {r:R}
theorem Does.opX {P:Unit->Program} (hT:T=tiOf (P ())) (hm:(P ()).follows .mixedOrders=true) {o:Oper} {A:OR} (hc:∀ c x,o.op=.call c->c.callee≠.value x) (h:Does T F s o.op A):OpX (P ()) F o s A:=by
 obtain ⟨⟨hp0,e1,e2⟩,h2⟩:=h
 refine ⟨?_,h2⟩
 have hopG:opG P T o (s.conc F) λ X=>X=⟨A.rd,A.val.conc,hp0⟩:=by
  unfold opG
  rw[TS.len_conc]
  split
  ·rename_i c ho
   split
   ·rename_i x hx;exact absurd hx (hc c x ho)
   ·exact e2
  ·exact e2
 obtain ⟨A0,g1,g2⟩:=opG_seq hT hm hopG
 subst g2
 rw[TS.len_conc]at g1
 exact ActX.le e1 g1
theorem DoesX.opX {P:Unit->Program} (hT:T=tiOf (P ())) {o:Oper} {A:OR} (h:DoesX T F s o.op A):OpX (P ()) F o s A:=by
 obtain ⟨h1,h2,h3⟩:=h
 refine ⟨?_,h3⟩
 have e:A.conc=⟨A.rd,A.val.conc,[]⟩:=by unfold OR.conc;rw[h1];rfl
 rw[e]
 exact (h2 (P ()) o hT rfl).x
def Sound (P:Unit->Program) (T:TypeId->TyI) (Γ:List Con):Prop:=∀ {R:Type} {F:Lv} {s:TS} {o:Oper} {K:OR->Option R} {r:R},LvOk F->Good F s->opT2 T Γ F o s K=some r->∃ A,K A=some r/\OpX (P ()) F o s A
theorem repE_conc {d:Nat} {b:Bool}:∀ {e fx:TE},lkE (e++fx) d=tone (.bool b)->envC (repE d (tone (.bool b)) e++fx)=envC (e++fx)
 | [],fx,_=>rfl
 | p::r,fx,h=>by
  have h:(match Nat.beq p.1 d with|true=>p.2|false=>lkE (r++fx) d)=tone (.bool b):=h
  show envC ((match Nat.beq p.1 d with|true=>(d,tone (.bool b))::r|false=>p::repE d (tone (.bool b)) r)++fx)=_
  cases e:Nat.beq p.1 d with
  | true =>
   rw[e]at h
   show (d,(tone (.bool b)).conc)::envC (r++fx)=(p.1,p.2.conc)::envC (r++fx)
   rw[Nat.eq_of_beq_eq_true e,show p.2=tone (.bool b) from h]
  | false =>
   rw[e]at h
   show (p.1,p.2.conc)::envC (repE d _ r++fx)=(p.1,p.2.conc)::envC (r++fx)
   rw[repE_conc h]
theorem rep_conc {d:Nat} {b:Bool} (h:s.lk F d=tone (.bool b)):(s.rep d b).conc F=s.conc F:=by
 show (⟨envC (repE d _ s.env++F.fx),_⟩:S)=_
 rw[repE_conc h];rfl
theorem lkE_rep {d t:Nat} {v:TV}:∀ {e fx:TE},lkE (repE d v e++fx) t=lkE (e++fx) t\/lkE (repE d v e++fx) t=v
 | [],fx=>.inl rfl
 | p::r,fx=>by
  show lkE ((match Nat.beq p.1 d with|true=>(d,v)::r|false=>p::repE d v r)++fx) t=_\/lkE ((match Nat.beq p.1 d with|true=>(d,v)::r|false=>p::repE d v r)++fx) t=_
  cases e:Nat.beq p.1 d with
  | true =>
   show (match Nat.beq d t with|true=>v|false=>lkE (r++fx) t)=(match Nat.beq p.1 t with|true=>p.2|false=>lkE (r++fx) t)\/(match Nat.beq d t with|true=>v|false=>lkE (r++fx) t)=v
   rw[Nat.eq_of_beq_eq_true e]
   cases Nat.beq d t with
   | true=>exact .inr rfl
   | false=>exact .inl rfl
  | false =>
   show (match Nat.beq p.1 t with|true=>p.2|false=>lkE (repE d v r++fx) t)=(match Nat.beq p.1 t with|true=>p.2|false=>lkE (r++fx) t)\/(match Nat.beq p.1 t with|true=>p.2|false=>lkE (repE d v r++fx) t)=v
   cases Nat.beq p.1 t with
   | true=>exact .inl rfl
   | false=>exact lkE_rep
theorem rep_good {d:Nat} {b:Bool} (hG:Good F s):Good F (s.rep d b) where
 k0:=hG.k0
 fb:=hG.fb
 env:=λ t=>by
  show goodV (s.blk F) (lkE (repE d _ s.env++F.fx) t)
  rcases lkE_rep (d:=d) (t:=t) (v:=tone (.bool b)) (e:=s.env) (fx:=F.fx) with h|h
  ·rw[h];exact hG.env t
  ·rw[h];trivial
 heap:=hG.heap
 n0:=hG.n0
 n1:=hG.n1
theorem skip_out:OutOk F s ⟨skipV,[],[]⟩:=.quiet λ p hp=>by simp at hp
theorem opsT_ok {P:Unit->Program} {Γ:List Con} (hS:Sound P T Γ) (hL:LvOk F) {nt:Nat} {all:List Oper}:∀ {os:List Oper} {s:TS} {acc:Feet} {K:TS->Feet->Option R} {r:R},okOps nt os=true->Good F s->opsT T Γ F all os s acc K=some r →
  ∃ l s',Seq (P ()) nt all os (s.conc F) l (s'.conc F)/\Good F s'/\K s' ((feetOf l).reverse++acc)=some r
 | [],s,acc,K,r,_,hG,h=>⟨[],s, .nil _,hG,h⟩
 | o::os,s,acc,K,r,hd,hG,h=>by
  obtain ⟨hd1,hd2⟩:=okOps_dst hd
  -- a wanted operation at a state that reads as this one
  have go:∀ {s1:TS},s1.conc F=s.conc F->Good F s1->GuardIs all (lk (s.conc F).env) o true →
    (opT2 T Γ F o s1 λ A=>(match s1.put F o.dst A with
     | some s'=>opsT T Γ F all os s' ((A.rd,A.hp.map (·.1))::acc) K
     | none=>none))=some r->∃ l s',Seq (P ()) nt all (o::os) (s.conc F) l (s'.conc F)/\Good F s'/\K s' ((feetOf l).reverse++acc)=some r:=λ {s1} hc hG1 hg h=>by
   obtain ⟨A,h1,h2,h3⟩:=hS hL hG1 h
   split at h1
   ·rename_i s' hp
    obtain ⟨g1,g2⟩:=put_ok hL hG1 h3 hp
    obtain ⟨l,s2,q1,q2,q3⟩:=opsT_ok hS hL hd2 g1 h1
    rw[hc]at g2 h2
    rw[g2]at q1
    have hlen:s1.heap.length=(s.conc F).heap.length:=by rw[<-hc,TS.len_conc]
    rw[hlen]at h2
    refine ⟨_,s2, .cons o os (s.conc F) (s2.conc F) A.conc true l hd1 hg (.inl ⟨rfl,h2⟩) q1,q2,?_⟩
    have:(A.conc.hp.map (·.1))=A.hp.map (·.1):=by
     show (A.hp.map λ p=>(p.1,p.2.conc)).map (·.1)=_
     rw[List.map_map];rfl
    simp only[feetOf,List.map_cons,List.reverse_cons,List.append_assoc,List.singleton_append,this]
    exact q3
   ·cases h1
  have skip:∀ {s1:TS},s1.conc F=s.conc F->Good F s1->GuardIs all (lk (s.conc F).env) o false →
    (match s1.put F o.dst ⟨skipV,[],[]⟩ with
     | some s'=>opsT T Γ F all os s' (([],[])::acc) K
     | none=>none)=some r->∃ l s',Seq (P ()) nt all (o::os) (s.conc F) l (s'.conc F)/\Good F s'/\K s' ((feetOf l).reverse++acc)=some r:=λ {s1} hc hG1 hg h=>by
   split at h
   ·rename_i s' hp
    obtain ⟨g1,g2⟩:=put_ok hL hG1 skip_out hp
    obtain ⟨l,s2,q1,q2,q3⟩:=opsT_ok hS hL hd2 g1 h
    rw[hc]at g2
    rw[g2]at q1
    refine ⟨_,s2, .cons o os (s.conc F) (s2.conc F) skipA false l hd1 hg (.inr ⟨rfl,rfl⟩) q1,q2,?_⟩
    simpa [feetOf,skipA] using q3
   ·cases h
  have hgd:∀ {d:Nat} {v:TV},s.lk F d=v->lk (s.conc F).env d=v.conc:=λ {d v} e=>by rw[<-e];exact s.lk_conc F d
  unfold opsT at h
  split at h
  ·rename_i hg
   exact go rfl hG (by unfold GuardIs;rw[hg]) h
  ·rename_i j b hg
   split at h
   ·rename_i hd
    exact skip rfl hG (by unfold GuardIs;rw[hg];simp only[hd]) h
   ·rename_i d hd
    split at h
    ·rename_i t ht
     have e:=hgd ht
     have mkG:∀ {g:Bool},g=(t==b)->GuardIs all (lk (s.conc F).env) o g:=λ {g} hgb=>by
      unfold GuardIs;rw[hg];simp only[hd];exact .inl ⟨t,e,hgb⟩
     cases t with
     | true =>
      rw[cond_true]at h
      cases b with
      | true=>exact go (rep_conc ht) (rep_good hG) (mkG rfl) h
      | false=>exact skip (rep_conc ht) (rep_good hG) (mkG rfl) h
     | false =>
      rw[cond_false]at h
      cases b with
      | true=>exact skip (rep_conc ht) (rep_good hG) (mkG rfl) h
      | false=>exact go (rep_conc ht) (rep_good hG) (mkG rfl) h
    ·rename_i ps ht
     have e:=hgd ht
     refine skip rfl hG ?_ h
     unfold GuardIs;rw[hg];simp only[hd];exact .inr ⟨⟨_,e⟩,trivial⟩
    ·cases h
end Go.Fm
namespace Go.Fm
variable [Globs] [Structs] [Tabs]
theorem view1 {C:Ctx} {ρ:Rho} {φ:St} {a:Act} {w:World} (R:RelAt C ρ φ a w) {id nid lo n:Nat} {b:Blk} (hb:φ.heap id=.live b) (hn:lo+n<=b.n) (hno:φ.heap nid=.no) :
  ∃ l:Option Loc,RelAt C (upd ρ nid l) { φ with heap:=upd (upd φ.heap id .dead) nid (.live ⟨b.sz,n,winC lo n b.sz b.cs⟩) } a w ∧
   ∀ u:Value,RV w C.Sh ρ φ.heap u (.arr id lo n)->RV w C.Sh (upd ρ nid l) (upd (upd φ.heap id .dead) nid (.live ⟨b.sz,n,winC lo n b.sz b.cs⟩)) u (.arr nid 0 n):=by
 have hB:=R.hp.blk id b hb
 have hk:=R.k0_le hno
 have hne:nid≠id:=λ e=>by rw[e,hb]at hno;cases hno
 unfold RB at hB
 cases hL:ρ id with
 | none =>
  rw[hL]at hB
  obtain ⟨e1,e2⟩:=hB
  have hlo:lo=0:=by omega
  have hn0:n=0:=by omega
  subst hlo hn0
  have R1:=R.newNone nid hno b.sz
  have R2:=R1.kill id (by simp only[upd_ne _ _ (Ne.symm hne),hb];simp)
  have hw:winC 0 0 b.sz b.cs=[]:=by unfold winC;simp
  refine ⟨none,?_,λ u hu => ?_⟩
  ·rw[hw]
   have:upd (upd φ.heap nid (.live ⟨b.sz,0,[]⟩)) id .dead=upd (upd φ.heap id .dead) nid (.live ⟨b.sz,0,[]⟩):=by
    funext i
    unfold upd
    by_cases h1:i=id
    ·by_cases h2:i=nid
     ·exact absurd (h2.symm.trans h1) hne
     ·simp[h1,Ne.symm hne]
    ·simp[h1]
   rw[<-this];exact R2
  ·have hu:(match φ.heap id with | .no=>False | .dead=>u.oneCell'=true | .live blk=>RArr (ρ id) blk.sz blk.n u 0 0 | .deep blk=>RArr (ρ id) blk.sz blk.n u 0 0):=hu
   rw[hb,hL]at hu
   show (match upd (upd φ.heap id .dead) nid _ nid with | .no=>False | .dead=>u.oneCell'=true | .live blk=>RArr (upd ρ nid none nid) blk.sz blk.n u 0 0 | .deep blk=>RArr (upd ρ nid none nid) blk.sz blk.n u 0 0)
   rw[upd_same,upd_same]
   exact hu
 | some L =>
  rw[hL]at hB
  obtain ⟨q1,q2,q3,q4⟩:=hB
  have hcap:(lo+n)*b.sz<=L.e:=Nat.le_trans (Nat.mul_le_mul_right _ hn) (by rw[<-q1];exact q2)
  have R1:=R.grow id b L hb hL nid hno lo n 0 n hn hcap (Nat.le_refl _) [] [] rfl (by simp) (λ j c hc=>by simp at hc)
  refine ⟨some ⟨L.b,L.o+lo*b.sz,L.e-lo*b.sz⟩,?_,λ u hu => ?_⟩
  ·have hw:winC lo n b.sz b.cs=(b.cs.drop (lo*b.sz)).take (n*b.sz)++[]:=by rw[List.append_nil];rfl
   rw[hw]
   exact R1
  ·have hu:(match φ.heap id with | .no=>False | .dead=>u.oneCell'=true | .live blk=>RArr (ρ id) blk.sz blk.n u lo n | .deep blk=>RArr (ρ id) blk.sz blk.n u lo n):=hu
   rw[hb,hL]at hu
   show (match upd (upd φ.heap id .dead) nid _ nid with | .no=>False | .dead=>u.oneCell'=true | .live blk=>RArr (upd ρ nid _ nid) blk.sz blk.n u 0 n | .deep blk=>RArr (upd ρ nid _ nid) blk.sz blk.n u 0 n)
   rw[upd_same,upd_same]
   rcases hu with ⟨cap,e1,e2,e3,e4,e5⟩|⟨e1,e2,e3⟩
   ·refine .inl ⟨cap,?_,e2,?_,?_,?_⟩
    ·rw[e1,Nat.zero_mul,Nat.add_zero]
    ·show (0+cap)*b.sz<=L.e-lo*b.sz
     rw[Nat.zero_add]
     rw[Nat.add_mul]at e3
     omega
    ·show 0+n<=n;omega
    ·show n<=0+cap;omega
   ·exact .inr ⟨e1,by show n<=0;omega,e3⟩
def svCells:SV->List CV
 | .pv (.one c)=>[c]
 | .pv (.agg cs)=>cs
 | .tup _=>[]
def svSet (v:SV) (i:Nat) (c:CV):SV:=match v with
 | .pv (.one _)=>.pv (.one c)
 | .pv (.agg cs)=>.pv (.agg (cs.set i c))
 | v=>v
section
variable {w:World} {Sh:Nat->Prop} {ρ ρ':Rho} {h h':Nat->HS}
theorem RSV.setc {v:Value} {sv:SV} {i:Nat} {c c':CV} (hw:∀ k,Sh k->w.heap[k]? = w.heap[k]?) (hle:∀ id,HLe (h id) (ρ id) (h' id) (ρ' id))
  (hnew:∀ u:Value,RV w Sh ρ h u c->RV w Sh ρ' h' u c') (hc:(svCells sv)[i]? = some c) (hd:c≠.dead) (hv:RSV w Sh ρ h v sv):RSV w Sh ρ' h' v (svSet sv i c'):=by
 cases sv with
 | tup ps=>simp[svCells]at hc
 | pv p =>
  cases p with
  | one d =>
   have hi:i=0:=by
    have:=(List.getElem?_eq_some_iff.1 hc).1
    simp[svCells]at this
    exact this
   subst hi
   have:d=c:=by simpa [svCells] using hc
   subst this
   have hv:RV w Sh ρ h v d:=by cases d<;>first|exact hv|exact absurd rfl hd
   exact RSV.of_one (hnew v hv)
  | agg cs =>
   obtain ⟨vs,e1,e2,e3⟩:=hv
   refine ⟨vs,e1,by rw[List.length_set];exact e2,λ j d hj => ?_⟩
   have hc:cs[i]? = some c:=hc
   by_cases hij:i=j
   ·subst hij
    have hlt:=(List.getElem?_eq_some_iff.1 hc).1
    rw[List.getElem?_set_self hlt]at hj
    cases hj
    obtain ⟨u,hu,hr⟩:=e3 i c hc
    exact ⟨u,hu,hnew u hr⟩
   ·rw[List.getElem?_set_ne hij]at hj
    obtain ⟨u,hu,hr⟩:=e3 j d hj
    exact ⟨u,hu,hr.mono hw hle⟩
end
structure Fresh (φ:St) (nid:Nat) (c c':CV) (hp:List (Nat×HS)):Prop where
 turn:∀ {C:Ctx} {ρ:Rho} {a:Act} {w:World},RelAt C ρ φ a w->∃ ρ':Rho,RelAt C ρ' { φ with heap:=heapOf φ.heap hp } a w/\(∀ id,HLe (φ.heap id) (ρ id) (heapOf φ.heap hp id) (ρ' id)) ∧
  ∀ u:Value,RV w C.Sh ρ φ.heap u c->RV w C.Sh ρ' (heapOf φ.heap hp) u c'
theorem hle_of {C:Ctx} {ρ:Rho} {φ:St} {a:Act} {w:World} (R:RelAt C ρ φ a w) {id nid:Nat} {x:HS} {l:Option Loc} (hne:nid≠id) (hno:φ.heap nid=.no) (hid:φ.heap id≠.no) :
  ∀ i,HLe (φ.heap i) (ρ i) (upd (upd φ.heap id .dead) nid x i) (upd ρ nid l i):=λ i=>by
 by_cases h1:i=nid
 ·subst h1;rw[hno];trivial
 ·rw[upd_ne _ _ h1,upd_ne _ _ h1]
  by_cases h2:i=id
  ·subst h2;rw[upd_same];cases hx:φ.heap i<;>trivial
  ·rw[upd_ne _ _ h2];exact HLe.refl _ _
theorem fresh_view {φ:St} {id nid lo n:Nat} {b:Blk} (hb:φ.heap id=.live b) (hn:lo+n<=b.n) (hno:φ.heap nid=.no) :
  Fresh φ nid (.arr id lo n) (.arr nid 0 n) [(id, .dead),(nid, .live ⟨b.sz,n,winC lo n b.sz b.cs⟩)] where
 turn:=λ {C ρ a w} R=>by
  have hne:nid≠id:=λ e=>by rw[e,hb]at hno;cases hno
  obtain ⟨l,R',hv⟩:=view1 R hb hn hno
  exact ⟨_,R',λ i=>by exact hle_of R hne hno (by rw[hb];simp) i,hv⟩
theorem fresh_emp {φ:St} {nid sz:Nat} (hno:φ.heap nid=.no):Fresh φ nid .emp (.arr nid 0 0) [(nid, .live ⟨sz,0,[]⟩)] where
 turn:=λ {C ρ a w} R=>by
  refine ⟨_,R.newNone nid hno sz,hle_upd_no hno _ _,λ u hu => ?_⟩
  have hu:RI w C.Sh u .emp:=hu
  show (match upd φ.heap nid (.live ⟨sz,0,[]⟩) nid with | .no=>False | .dead=>u.oneCell'=true | .live blk=>RArr (upd ρ nid none nid) blk.sz blk.n u 0 0 | .deep blk=>RArr (upd ρ nid none nid) blk.sz blk.n u 0 0)
  rw[upd_same,upd_same]
  cases hu with
  | emp a=>exact ⟨rfl,a,rfl⟩
theorem weak_env {k0:Nat} {s:S} {t i nid:Nat} {c c':CV} {hp:List (Nat×HS)} (hF:Fresh s.st nid c c' hp) (hc:(svCells (Fm.lk s.env t))[i]? = some c) (hd:c≠.dead) :
  Weak k0 s ⟨(t,svSet (Fm.lk s.env t) i c')::s.env,setHs s.heap hp⟩:=by
 intro C a w hk ⟨C1,hreb,ρ,R⟩
 obtain ⟨ρ',R',hle,hv⟩:=hF.turn R
 refine ⟨C1,hreb,ρ',R'.defers,R'.nt,λ u => ?_,?_,λ id hid => ?_,R'.fr⟩
 ·show RSV w C1.Sh ρ' (hOf (setHs s.heap hp)) _ (if t=u then svSet (Fm.lk s.env t) i c' else Fm.lk s.env u)
  rw[hOf_setHs]
  by_cases e:t=u
  ·subst e
   rw[if_pos rfl]
   exact RSV.setc (λ _ _=>rfl) hle hv hc hd (R.env t)
  ·rw[if_neg e];exact R'.env u
 ·show HeapRel C1.w0 C1.Sh C1.O ρ' (hOf (setHs s.heap hp)) w
  rw[hOf_setHs];exact R'.hp
 ·have:=R'.init id hid
  refine ⟨?_,this.2⟩
  show hOf (setHs s.heap hp) id≠.no
  rw[hOf_setHs];exact this.1
theorem weak_blk {k0:Nat} {s:S} {id i nid:Nat} {b:Blk} {c c':CV} {hp:List (Nat×HS)} (hF:Fresh s.st nid c c' hp) (hb:s.st.heap id=.live b) (hh:heapOf s.st.heap hp id=.live b) (hc:b.cs[i]? = some c) :
  Weak k0 s ⟨s.env,setHs s.heap (hp++[(id, .live ⟨b.sz,b.n,b.cs.set i c'⟩)])⟩:=by
 intro C a w hk ⟨C1,hreb,ρ,R⟩
 obtain ⟨ρ',R',hle,hv⟩:=hF.turn R
 have hfun:hOf (setHs s.heap (hp++[(id, .live ⟨b.sz,b.n,b.cs.set i c'⟩)]))=upd (heapOf s.st.heap hp) id (.live ⟨b.sz,b.n,b.cs.set i c'⟩):=by
  rw[hOf_setHs]
  show (hp++[(id,HS.live ⟨b.sz,b.n,b.cs.set i c'⟩)]).foldl _ _=_
  rw[List.foldl_append];rfl
 have hle2:∀ j,HLe (heapOf s.st.heap hp j) (ρ' j) (upd (heapOf s.st.heap hp) id (.live ⟨b.sz,b.n,b.cs.set i c'⟩) j) (ρ' j):=λ j=>by
  by_cases e:j=id
  ·subst e;rw[upd_same,hh];exact ⟨rfl,rfl,rfl⟩
  ·rw[upd_ne _ _ e];exact HLe.refl _ _
 have hlive:∀ j b',upd (heapOf s.st.heap hp) id (.live ⟨b.sz,b.n,b.cs.set i c'⟩) j=.live b'->∃ b0,heapOf s.st.heap hp j=.live b0:=λ j b' h=>by
  by_cases e:j=id
  ·subst e;exact ⟨b,hh⟩
  ·rw[upd_ne _ _ e]at h;exact ⟨b',h⟩
 obtain ⟨Dd,hDd⟩:=R'.hp.dp
 have hdp:∀ j b',upd (heapOf s.st.heap hp) id (.live ⟨b.sz,b.n,b.cs.set i c'⟩) j=.deep b'->heapOf s.st.heap hp j=.deep b':=λ j b' h=>by
  by_cases e:j=id
  ·subst e;rw[upd_same]at h;cases h
  ·rw[upd_ne _ _ e]at h;exact h
 have R2:=R'.turn (h':=upd (heapOf s.st.heap hp) id (.live ⟨b.sz,b.n,b.cs.set i c'⟩)) (ρ':=ρ') (w':=w) (λ _ _=>rfl) hle2 ⟨λ j b' hj => ?_,λ j b' L hj hL => ?_,λ j j' b1 b2 L L' h1 h2 hL hL' e => ?_,Dd,hDd.keep (λ j b' hj=>⟨hdp j b' hj,rfl⟩) hle2 (λ _ _ _ _ _=>rfl) (Nat.le_refl _) (λ _ h=>⟨h,rfl⟩) (λ j b' k hj ho=>(hDd.own j b' k (hdp j b' hj) ho).2) λ j b' L hj hL=>by obtain ⟨b0,e1⟩:=hlive j b' hj;exact .inr ⟨j,b0,L,e1,hL,rfl⟩⟩ (λ _ _=>rfl) R'.fr
 ·refine ⟨C1,hreb,ρ',R2.defers,R2.nt,λ u => ?_,?_,λ j hj => ?_,R2.fr⟩
  ·show RSV w C1.Sh ρ' (hOf (setHs s.heap _)) _ _
   rw[hfun];exact R2.env u
  ·show HeapRel C1.w0 C1.Sh C1.O ρ' (hOf (setHs s.heap _)) w
   rw[hfun];exact R2.hp
  ·have:=R2.init j hj
   refine ⟨?_,this.2⟩
   show hOf (setHs s.heap _) j≠.no
   rw[hfun];exact this.1
 ·by_cases e:j=id
  ·subst e
   rw[upd_same]at hj
   cases hj
   have hB:=R.hp.blk j b hb
   have hB':=R'.hp.blk j b hh
   have hrho:ρ' j=ρ j:=by
    have:=hle j
    rw[hb,hh]at this
    exact this.2.2
   unfold RB at hB hB' ⊢
   rw[hrho]at hB' ⊢
   cases hL:ρ j with
   | none =>
    rw[hL]at hB
    rw[hB.1]at hc
    simp at hc
   | some L =>
    rw[hL]at hB hB'
    simp only at hB hB' ⊢
    refine ⟨by rw[List.length_set];exact hB.1,by rw[List.length_set];exact hB.2.1,hB.2.2.1,λ q d hq => ?_⟩
    by_cases hiq:i=q
    ·subst hiq
     have hlt:=(List.getElem?_eq_some_iff.1 hc).1
     rw[List.getElem?_set_self hlt]at hq
     cases hq
     obtain ⟨u,hu,hr⟩:=hB.2.2.2 i c hc
     exact ⟨u,hu,(hv u hr).mono (λ _ _=>rfl) hle2⟩
    ·rw[List.getElem?_set_ne hiq]at hq
     obtain ⟨u,hu,hr⟩:=hB'.2.2.2 q d hq
     exact ⟨u,hu,hr.mono (λ _ _=>rfl) hle2⟩
  ·rw[upd_ne _ _ e]at hj
   have hB:=R'.hp.blk j b' hj
   unfold RB at hB ⊢
   cases hL:ρ' j with
   | none=>rw[hL]at hB;exact hB
   | some L =>
    rw[hL]at hB
    exact ⟨hB.1,hB.2.1,hB.2.2.1,λ q d hq=>by obtain ⟨u,hu,hr⟩:=hB.2.2.2 q d hq;exact ⟨u,hu,hr.mono (λ _ _=>rfl) hle2⟩⟩
 ·obtain ⟨b0,h0⟩:=hlive j b' hj
  exact R'.hp.own j b0 L h0 hL
 ·obtain ⟨c1,g1⟩:=hlive j b1 h1
  obtain ⟨c2,g2⟩:=hlive j' b2 h2
  exact R'.hp.inj j j' c1 c2 L L' g1 g2 hL hL' e
variable {F:Lv} {s:TS}
theorem tcells_conc (v:TV):svCells v.conc=(tcells v).map TC.conc:=by
 cases v with
 | pv p=>cases p<;>rfl
 | tup ps=>rfl
theorem tset_conc (v:TV) (i:Nat) (c:TC):(tset v i c).conc=svSet v.conc i c.conc:=by
 cases v with
 | pv p =>
  cases p with
  | one d=>rfl
  | agg cs=>show SV.pv (PV.agg _)=SV.pv (PV.agg _);rw[List.map_set]
 | tup ps=>rfl
theorem hpGet_append:∀ (hp:List (Nat×TB)) (h:Nat->TB) (q:Nat×TB),hpGet h (hp++[q])=λ j=>if j=q.1 then q.2 else hpGet h hp j
 | [],h,q=>rfl
 | p::r,h,q=>hpGet_append r _ q
theorem freshC_ok (hG:Good F s) {D:List Nat} {t:Ty} {c c':TC} {hp:List (Nat×TB)} (hc:goodC (s.blk F) c) (h:freshC F D (s.blk F) s.heap.length t c=some (c',hp)) :
  Fresh (s.conc F).st s.heap.length c.conc c'.conc (hp.map λ p=>(p.1,p.2.conc))/\OutOk F s ⟨tone c',hp,[]⟩/\c.conc≠.dead ∧
   (∀ p ∈ hp,∀ cs,s.blk F p.1≠.var cs)/\(∀ p ∈ hp,∀ h',goodB h' p.2):=by
 have hno:(s.conc F).st.heap s.heap.length=.no:=by rw[TS.blk_conc,blk_new];rfl
 have fin:∀ {id:Nat} {t2:Ty} {n':Nat} {xs ys:List t2.den},s.blk F id=.rows t2 n' xs->(∀ p ∈ [(id,TB.dead),(s.heap.length, .rows t2 ys.length ys)],∀ cs,s.blk F p.1≠.var cs) ∧
   (∀ p ∈ [(id,TB.dead),(s.heap.length, .rows t2 ys.length ys)],∀ h',goodB h' p.2):=λ {id t2 n' xs ys} hb=>by
  refine ⟨λ p hp cs => ?_,λ p hp h' => ?_⟩
  ·rcases List.mem_cons.1 hp with rfl|hp
   ·rw[hb];nofun
   ·rw[List.mem_singleton.1 hp,blk_new];nofun
  ·rcases List.mem_cons.1 hp with rfl|hp
   ·trivial
   ·rw[List.mem_singleton.1 hp];exact rfl
 unfold freshC at h
 split at h
 ·rename_i id t' a b ys
  split at h
  ·rename_i t2 n' xs hb hf
   obtain rfl:t2=t':=hc.2.2.1 _ _ _ hb
   have e1:=hc.2.1 _ _ hb
   have e2:=hG.rlen hb
   cases h
   have hle:=fLeW e1 rfl e2.symm
   have:=fresh_view (φ:=(s.conc F).st) (nid:=s.heap.length) (blk_rows hb) hle hno
   rw[fWinW (encOk t2) e1 rfl]at this
   exact ⟨this,app_out hc.1,nofun,(fin hb).1,(fin hb).2⟩
  ·cases h
 ·cases h
  refine ⟨fresh_emp hno,new_out (t:=t) (xs:=[]) rfl,nofun,λ p hp cs => ?_,λ p hp h' => ?_⟩
  ·rw[List.mem_singleton.1 hp,blk_new];nofun
  ·rw[List.mem_singleton.1 hp];exact rfl
 ·rename_i id n
  split at h
  ·rename_i t2 n' xs hf hb
   have e1:=hc.2.1 _ _ _ hb
   have e2:=hG.rlen hb
   subst e1
   cases h
   have:=fresh_view (φ:=(s.conc F).st) (nid:=s.heap.length) (lo:=0) (n:=n') (blk_rows hb) (by rw[Nat.zero_add];exact Nat.le_refl _) hno
   rw[fWin (encOk t2) e2.symm]at this
   subst e2
   exact ⟨this,app_out hc.1,nofun,(fin hb).1,(fin hb).2⟩
  ·cases h
 ·cases h
theorem tcells_good {h:Nat->TB} {v:TV} (hv:goodV h v):∀ c ∈ tcells v,goodC h c:=by
 cases v with
 | pv p =>
  cases p with
  | one c=>intro d hd;rw[List.mem_singleton.1 hd];exact hv
  | agg cs=>exact hv
 | tup ps=>intro d hd;simp[tcells]at hd
theorem tset_good {h:Nat->TB} {v:TV} {i:Nat} {c:TC} (hv:goodV h v) (hc:goodC h c):goodV h (tset v i c):=by
 cases v with
 | pv p =>
  cases p with
  | one d=>exact hc
  | agg cs =>
   intro d hd
   rcases List.mem_or_eq_of_mem_set hd with h1|h1
   ·exact hv d h1
   ·rw[h1];exact hc
 | tup ps=>exact hv
theorem OutOk.stC {A:OR} (hG:Good F s) (hA:OutOk F s A) {c:TC} (hc:goodC (s.blk F) c):goodC (hpGet (s.blk F) A.hp) (stC (oldIds s.heap.length A.hp) c) :=
 hA.turn.stC (F:=F) (s:=s) (λ i t n xs e=>hG.rlen e) hc
theorem prep1_ok {k0:Nat} (hL:LvOk F) (hG:Good F s) (D:List Nat) (t i:Nat) (τ:Ty):Good F (prep1 F D t i τ s)/\Weak k0 (s.conc F) ((prep1 F D t i τ s).conc F):=by
 unfold prep1
 split
 ·rename_i c hc
  split
  ·rename_i c' hp hf
   split
   ·rename_i hok
    have hgc:=tcells_good (hG.env t) c (List.mem_of_getElem? hc)
    obtain ⟨g1,g2,g3,g4,g5⟩:=freshC_ok hG hgc hf
    have hA:OutOk F s ⟨tset (stV (oldIds s.heap.length hp) (s.lk F t)) i c',hp,[]⟩ :=
     ⟨g2.hp,g2.ne,g2.bl,tset_good (goodV_map (λ c hc=>OutOk.stC hG g2 hc) (hG.env t)) g2.val⟩
    obtain ⟨q1,q2⟩:=put_core (d:=some t) hL hG hA hok
    refine ⟨q1,?_⟩
    rw[show (TS.mk ((t,tset (stV (oldIds s.heap.length hp) (s.lk F t)) i c')::(stS (oldIds s.heap.length hp) s).env) (setTs (stS (oldIds s.heap.length hp) s).heap hp)).conc F=_ from q2]
    have hl:Fm.lk (s.conc F).env t=(s.lk F t).conc:=s.lk_conc F t
    have:=weak_env (k0:=k0) (s:=s.conc F) (t:=t) (i:=i) g1 (by rw[hl,tcells_conc,List.getElem?_map,hc];rfl) g3
    rw[hl]at this
    have e:(⟨tset (stV (oldIds s.heap.length hp) (s.lk F t)) i c',hp,[]⟩:OR).conc.val=svSet (s.lk F t).conc i c'.conc:=by
     show (tset _ i c').conc=_
     rw[tset_conc,stV_conc]
    show Weak k0 _ ⟨(t,(⟨tset (stV (oldIds s.heap.length hp) (s.lk F t)) i c',hp,[]⟩:OR).conc.val)::(s.conc F).env,setHs (s.conc F).heap (hp.map λ p=>(p.1,p.2.conc))⟩
    rw[e]
    exact this
   ·exact ⟨hG, .refl _ _⟩
  ·exact ⟨hG, .refl _ _⟩
 ·exact ⟨hG, .refl _ _⟩
theorem prepB1_ok {k0:Nat} (hL:LvOk F) (hG:Good F s) (D:List Nat) (id i:Nat) (τ:Ty):Good F (prepB1 F D id i τ s)/\Weak k0 (s.conc F) ((prepB1 F D id i τ s).conc F):=by
 unfold prepB1
 split
 ·rename_i cs hb hfx
  split
  ·rename_i c hc
   split
   ·rename_i c' hp hf
    split
    ·rename_i hok
     have hgb:=hG.heap id
     rw[hb]at hgb
     have hgc:=hgb c (List.mem_of_getElem? hc)
     obtain ⟨g1,g2,g3,g4,g5⟩:=freshC_ok hG hgc hf
     have hne:∀ p ∈ hp,p.1≠id:=λ p hp e=>g4 p hp cs (by rw[e];exact hb)
     have hnv:∀ j x,noVar (if j=id then TB.var x else hpGet (s.blk F) hp j)=noVar (hpGet (s.blk F) hp j):=λ j x=>by
      by_cases e:j=id
      ·rw[if_pos e,e]
       rcases hpGet_cases hp (s.blk F) id with ⟨e1,e2⟩|⟨p,e1,e2,e3⟩
       ·rw[e1,hb];rfl
       ·exact absurd e2 (hne p e1)
      ·rw[if_neg e]
     have hA:OutOk F s ⟨tone .dead,hp++[(id, .var ((cs.map (stC (oldIds s.heap.length hp))).set i c'))],[]⟩:=by
      refine ⟨λ p hp' => ?_,λ p hp' => ?_,λ p hp' => ?_,trivial⟩
      ·rcases List.mem_append.1 hp' with h|h
       ·exact g2.hp p h
       ·rw[List.mem_singleton.1 h];exact .inr ⟨by rw[hb];nofun,by rw[hb];trivial⟩
      ·rcases List.mem_append.1 hp' with h|h
       ·exact g2.ne p h
       ·rw[List.mem_singleton.1 h];exact ⟨nofun,nofun⟩
      ·rcases List.mem_append.1 hp' with h|h
       ·exact g5 p h _
       ·rw[List.mem_singleton.1 h,hpGet_append]
        intro d hd
        refine goodC_nv (λ j _=>hnv j _) ?_
        rcases List.mem_or_eq_of_mem_set hd with h1|h1
        ·obtain ⟨x,hx,rfl⟩:=List.mem_map.1 h1
         exact OutOk.stC hG g2 (hgb x hx)
        ·rw[h1];exact g2.val
     have hok2:hpOk F s (hp++[(id, .var ((cs.map (stC (oldIds s.heap.length hp))).set i c'))])=true:=by
      have key:∀ l:List (Nat×TB),hpOk F s l=true->∀ q:Nat×TB,elemN q.1 (F.fb.map (·.1))=false->isFix q.2=false->hpOk F s (l++[q])=true:=by
       intro l
       induction l with
       | nil=>intro _ q h1 h2;simp only[List.nil_append,hpOk,h1,h2];rfl
       | cons p r ih =>
        intro h q h1 h2
        simp only[hpOk,Bool.and_eq_true]at h
        simp only[List.cons_append,hpOk,Bool.and_eq_true]
        exact ⟨h.1,ih h.2 q h1 h2⟩
      exact key hp hok _ hfx rfl
     obtain ⟨q1,q2⟩:=put_core (d:=none) hL hG hA hok2
     refine ⟨q1,?_⟩
     refine cast (congrArg (Weak k0 (s.conc F)) q2).symm ?_
     have:=weak_blk (k0:=k0) (s:=s.conc F) (id:=id) (i:=i) g1 (blk_var hb) (by
      rw[heapOf_not _ _ _ λ p hp'=>by
       obtain ⟨q,hq,rfl⟩:=List.mem_map.1 hp'
       exact hne q hq]
      exact blk_var hb) (by show (cs.map TC.conc)[i]? = _;rw[List.getElem?_map,hc];rfl)
     have e:(⟨tone .dead,hp++[(id, .var ((cs.map (stC (oldIds s.heap.length hp))).set i c'))],[]⟩:OR).conc.hp=(hp.map λ p=>(p.1,p.2.conc))++[(id, .live ⟨1,cs.length,(cs.map TC.conc).set i c'.conc⟩)]:=by
      show (hp++[_]).map _=_
      rw[List.map_append]
      congr 1
      show [(id,HS.live ⟨1,_,_⟩)]=_
      rw[List.length_set,List.length_map,List.map_set,List.map_map]
      have:cs.map (TC.conc ∘ stC (oldIds s.heap.length hp))=cs.map TC.conc:=List.map_congr_left λ c _=>stC_conc _ c
      rw[this]
     show Weak k0 _ ⟨(s.conc F).env,setHs (s.conc F).heap (⟨tone .dead,hp++[(id, .var ((cs.map (stC (oldIds s.heap.length hp))).set i c'))],[]⟩:OR).conc.hp⟩
     rw[e]
     exact this
    ·exact ⟨hG, .refl _ _⟩
   ·exact ⟨hG, .refl _ _⟩
  ·exact ⟨hG, .refl _ _⟩
 ·exact ⟨hG, .refl _ _⟩
theorem prepO_ok {k0:Nat} (hL:LvOk F) (D:List Nat) (t:Nat) (τ:Ty):∀ (l:List (Nat×Nat)) {s:TS},Good F s->Good F (prepO F D t τ l s)/\Weak k0 (s.conc F) ((prepO F D t τ l s).conc F)
 | [],s,hG=>⟨hG, .refl _ _⟩
 | p::r,s,hG=>by
  obtain ⟨g1,g2⟩:=prep1_ok (k0:=k0) hL hG D t p.1 (leafTy τ p.1)
  obtain ⟨q1,q2⟩:=prepO_ok (k0:=k0) hL D t τ r g1
  exact ⟨q1,g2.trans q2⟩
theorem prepE_ok {k0:Nat} (hL:LvOk F) (D:List Nat):∀ (l:List (Nat×VSh)) {s:TS},Good F s->Good F (prepE F D l s)/\Weak k0 (s.conc F) ((prepE F D l s).conc F)
 | [],s,hG=>⟨hG, .refl _ _⟩
 | (t, .s τ own)::r,s,hG=>by
  obtain ⟨g1,g2⟩:=prepO_ok (k0:=k0) hL D t τ (own++movIx D own 0 (tcells (s.lk F t))) hG
  obtain ⟨q1,q2⟩:=prepE_ok (k0:=k0) hL D r g1
  exact ⟨q1,g2.trans q2⟩
 | (t, .c p)::r,s,hG=>prepE_ok hL D r hG
theorem prepBO_ok {k0:Nat} (hL:LvOk F) (D:List Nat) (id:Nat) (τ:Ty):∀ (l:List (Nat×Nat)) {s:TS},Good F s->Good F (prepBO F D id τ l s)/\Weak k0 (s.conc F) ((prepBO F D id τ l s).conc F)
 | [],s,hG=>⟨hG, .refl _ _⟩
 | p::r,s,hG=>by
  obtain ⟨g1,g2⟩:=prepB1_ok (k0:=k0) hL hG D id p.1 (leafTy τ p.1)
  obtain ⟨q1,q2⟩:=prepBO_ok (k0:=k0) hL D id τ r g1
  exact ⟨q1,g2.trans q2⟩
theorem prepH_ok {k0:Nat} (hL:LvOk F) (D:List Nat) (a:Asg):∀ (l:List BSh) (j:Nat) {s:TS},Good F s->Good F (prepH F D a j l s)/\Weak k0 (s.conc F) ((prepH F D a j l s).conc F)
 | [],j,s,hG=>⟨hG, .refl _ _⟩
 | b::r,j,s,hG=>by
  cases b<;>try exact prepH_ok hL D a r (j+1) hG
  rename_i τ own
  obtain ⟨g1,g2⟩:=prepBO_ok (k0:=k0) hL D (lkJ a j) τ (own++movIx D own 0 (varCells (s.blk F (lkJ a j)))) hG
  obtain ⟨q1,q2⟩:=prepH_ok (k0:=k0) hL D a r (j+1) g1
  exact ⟨q1,g2.trans q2⟩
theorem kill1_ok {k0:Nat} (hL:LvOk F) (hG:Good F s) {j:Nat} (hv:isVarRaw (s.blk F j)=true):Good F (kill1 F j s)/\Weak k0 (s.conc F) ((kill1 F j s).conc F):=by
 unfold kill1
 split
 ·rename_i hok
  have hA:OutOk F s ⟨tone .dead,[(j, .dead)],[]⟩:=by
   refine ⟨λ p hp => ?_,λ p hp => ?_,λ p hp => ?_,trivial⟩
   ·rw[List.mem_singleton.1 hp];exact .inr ⟨λ e=>Bool.false_ne_true (by rw[e]at hv;exact hv),(by cases s.blk F j<;>trivial)⟩
   ·rw[List.mem_singleton.1 hp];exact ⟨nofun,nofun⟩
   ·rw[List.mem_singleton.1 hp];trivial
  obtain ⟨q1,q2⟩:=put_core (d:=none) hL hG hA hok
  refine ⟨q1,?_⟩
  refine cast (congrArg (Weak k0 (s.conc F)) q2).symm ?_
  intro C a w hk ⟨C1,hreb,ρ,R⟩
  have hne:(s.conc F).st.heap j≠.no:=by
   rw[TS.blk_conc]
   cases h:s.blk F j<;>rw[h]at hv<;>first|exact (Bool.false_ne_true hv).elim|exact λ e=>nomatch e
  refine ⟨C1,hreb,ρ,?_⟩
  have:=R.kill j hne
  rw[S.app_st]
  exact this
 ·exact ⟨hG, .refl _ _⟩
theorem killD_ok {k0:Nat} (hL:LvOk F):∀ (l:List BSh) (j:Nat) {s:TS},Good F s->Good F (killD F j l s)/\Weak k0 (s.conc F) ((killD F j l s).conc F)
 | [],j,s,hG=>⟨hG, .refl _ _⟩
 | b::r,j,s,hG=>by
  cases b<;>try exact killD_ok hL r (j+1) hG
  show Good F (killD F (j+1) r (match isVarRaw (s.blk F j) with|true=>kill1 F j s|false=>s))/\Weak k0 _ ((killD F (j+1) r (match isVarRaw (s.blk F j) with|true=>kill1 F j s|false=>s)).conc F)
  split
  ·rename_i hv
   obtain ⟨g1,g2⟩:=kill1_ok (k0:=k0) hL hG (j:=j) hv
   obtain ⟨q1,q2⟩:=killD_ok (k0:=k0) hL r (j+1) g1
   exact ⟨q1,g2.trans q2⟩
  ·exact killD_ok hL r (j+1) hG
theorem putN_set {c:CV}:∀ {q:Nat} {l:List CV},q < l.length->putN q [c] l=some (l.set q c)
 | 0,x::r,_=>by simp[putN]
 | q+1,x::r,h=>by
  have:=putN_set (c:=c) (q:=q) (l:=r) (by simpa using h)
  simp only[putN,this];rfl
theorem flat_set {α:Type} {e:α->List CV} {k:Nat} (ok:EncOk e k) {xs:List α} {i:Int} {x y:α} {q:Nat} {c:CV} (h:getI xs i=some x) (hq:q < k) (hy:e y=(e x).set q c) :
  (xs.set i.toNat y).flatMap e=(xs.flatMap e).set (i.toNat*k+q) c/\i.toNat*k+q < (xs.flatMap e).length:=by
 have h1:=fPut (q:=q) (ns:=[c]) (y:=y) ok h (by rw[hy];exact putN_set (by rw[ok.len];exact hq))
 obtain ⟨h2,h3⟩:=putN_some h1
 have h2:i.toNat*k+q < (xs.flatMap e).length:=h2
 rw[putN_set h2]at h1
 exact ⟨(Option.some.inj h1).symm,h2⟩
theorem CRs_same:∀ {l m:List TC},CRs l m->(∀ c ∈ l,c≠.emp)->l=m
 | [],[],_,_=>rfl
 | c::r,d::s,h,hn=>by
  rw[CRs_same h.2 λ c hc=>hn c (List.mem_cons_of_mem _ hc)]
  rcases h.1 with e|⟨e,_⟩
  ·rw[e]
  ·exact absurd e (hn c (List.mem_cons_self ..))
 | [],_::_,h,_=>h.elim
 | _::_,[],h,_=>h.elim
theorem flat_bare {c:TC} (h:c.flat=true):c.conc.bare=true:=by
 cases c<;>first|rfl|cases h|skip
 rename_i n
 show (errC n).bare=true
 rcases errC_or n with ⟨_,e⟩|⟨_,e⟩|⟨_,e⟩<;>rw[e]<;>rfl
theorem plain_bare {t:Ty} (ht:t.plain=true) (ys:List t.den):∀ c ∈ ys.flatMap t.enc,c.bare=true:=λ c hc=>by
 obtain ⟨y,_,hc⟩:=List.mem_flatMap.1 hc
 rw[<-leaves_conc]at hc
 obtain ⟨d,hd,rfl⟩:=List.mem_map.1 hc
 exact flat_bare (List.all_eq_true.1 (leaves_flat t y ht) d hd)
theorem plainBy_eq (t:Ty):t.plainBy Structs.plain=t.plain:=by cases t<;>rfl
theorem leaf_dp {t:Ty} (ht:t.dpB=true) {v:t.den} {c:TC} (hc:c ∈ leaves t v):c.flat=true\/∃ τ ys,c=.imm τ ys/\τ.plain=true:=by
 have:=List.all_eq_true.1 (leaves_deep t v ht) c hc
 cases c<;>first|exact .inl this|skip
 rename_i τ ys
 exact .inr ⟨τ,ys,rfl,(plainBy_eq τ).symm.trans this⟩
theorem rowSet_ok {t:Ty} {v y:t.den} {q:Nat} {τ:Ty} {ys:List τ.den} (ht:t.dpB=true) (h:rowSet t v q τ ys=some y) :
  (∃ zs,(leaves t v)[q]? = some (.imm τ zs))/\τ.plain=true/\q < t.size/\t.enc y=(t.enc v).set q (.imm τ.size ys.length (ys.flatMap τ.enc))/\leaves t y=(leaves t v).set q (.imm τ ys):=by
 unfold rowSet at h
 split at h
 ·rename_i τ' zs hl
  split at h
  ·rename_i hτ
   have hτ:τ'=τ:=by
    by_cases e:τ'=τ
    ·exact e
    ·rw[if_neg e]at hτ;cases hτ
   subst hτ
   have hq:q < t.size:=by rw[<-leaves_len t v];exact (List.getElem?_eq_some_iff.1 hl).1
   have hm:=CRs_same (mkT_made h) (λ c hc=>by
    rcases List.mem_or_eq_of_mem_set hc with h1|h1
    ·have:=List.all_eq_true.1 (leaves_pure t v) c h1
     rintro rfl;cases this
    ·rw[h1];nofun)
   refine ⟨⟨zs,hl⟩,?_,hq,?_,hm.symm⟩
   ·rcases leaf_dp ht (List.mem_of_getElem? hl) with h1|⟨σ,ws,e,h1⟩
    ·cases h1
    ·cases e;exact h1
   ·rw[<-leaves_conc,<-leaves_conc,<-hm,List.map_set];rfl
  ·cases h
 ·cases h
theorem putHp_ok {k0:Nat} (hL:LvOk F) (hG:Good F s) {hp:List (Nat×TB)} (hA:OutOk F s ⟨tone .dead,hp,[]⟩) (hw:Weak k0 (s.conc F) ((s.conc F).app none ⟨[],one .dead,hp.map λ p=>(p.1,p.2.conc)⟩)) :
  Good F (putHp F s hp)/\Weak k0 (s.conc F) ((putHp F s hp).conc F):=by
 unfold putHp
 split
 ·rename_i hok
  obtain ⟨q1,q2⟩:=put_core (d:=none) hL hG hA hok
  exact ⟨q1,cast (congrArg (Weak k0 (s.conc F)) q2).symm hw⟩
 ·exact ⟨hG, .refl _ _⟩
theorem shut1_ok {k0:Nat} (hL:LvOk F) (hG:Good F s) (id:Nat):Good F (shut1 F id s)/\Weak k0 (s.conc F) ((shut1 F id s).conc F):=by
 unfold shut1
 split
 ·rename_i t n hb
  have hgb:=hG.heap id
  rw[hb]at hgb
  have hn:n=0:=hgb.symm
  subst hn
  split
  ·rename_i ht
   refine putHp_ok hL hG ⟨λ p hp => ?_,λ p hp => ?_,λ p hp => ?_,trivial⟩ ?_
   ·rw[List.mem_singleton.1 hp];exact .inr ⟨by rw[hb];nofun,by rw[hb];rfl⟩
   ·rw[List.mem_singleton.1 hp];exact ⟨nofun,nofun⟩
   ·rw[List.mem_singleton.1 hp];exact ⟨rfl,ht,trivial⟩
   ·intro C a w hk ⟨C1,hreb,ρ,R⟩
    refine ⟨C1,hreb,ρ,?_⟩
    rw[S.app_st]
    have h1:(s.conc F).st.heap id=.live ⟨t.size,0,[]⟩:=by rw[TS.blk_conc,hb];rfl
    refine RelAt.to_deep (cs:=[]) (cs':=[]) ?_ ⟨rfl,λ k c c' h=>by simp at h⟩
    have:upd (s.conc F).st.heap id (.live ⟨t.size,0,[]⟩)=(s.conc F).st.heap:=by
     funext j
     by_cases e:j=id
     ·subst e;rw[upd_same,h1]
     ·rw[upd_ne _ _ e]
    rw[this];exact R
  ·exact ⟨hG, .refl _ _⟩
 ·rename_i t n xs H hb
  have hgb:=hG.heap id
  rw[hb]at hgb
  obtain ⟨hn,ht,hgo⟩:=hgb
  obtain ⟨g1,g2,g3⟩:=hgo
  split
  ·rename_i τ n' ys hbj
   have hgj:=hG.heap H.j
   rw[hbj]at hgj
   have hgj:ys.length=n':=hgj
   have hm:n'=H.m:=g1.2.1 _ _ _ hbj
   split
   ·rename_i y hy
    obtain ⟨⟨zs,r1⟩,r2,r3,r4,r5⟩:=rowSet_ok ht hy
    have hne:H.j≠id:=λ e=>by rw[e,hb]at hbj;cases hbj
    obtain ⟨f1,f2⟩:=flat_set (encOk t) g2 r3 r4
    refine putHp_ok hL hG ⟨λ p hp => ?_,λ p hp => ?_,λ p hp => ?_,trivial⟩ ?_
    ·rcases List.mem_cons.1 hp with rfl|hp
     ·exact .inr ⟨by rw[hb];nofun,by rw[hb];rfl⟩
     ·rw[List.mem_singleton.1 hp];exact .inr ⟨by rw[hbj];nofun,by rw[hbj];trivial⟩
    ·rcases List.mem_cons.1 hp with rfl|hp
     ·exact ⟨nofun,nofun⟩
     ·rw[List.mem_singleton.1 hp];exact ⟨nofun,nofun⟩
    ·rcases List.mem_cons.1 hp with rfl|hp
     ·exact ⟨by rw[List.length_set];exact hn,ht,trivial⟩
     ·rw[List.mem_singleton.1 hp];trivial
    ·intro C a w hk ⟨C1,hreb,ρ,R⟩
     refine ⟨C1,hreb,?_⟩
     rw[S.app_st]
     have h1:(s.conc F).st.heap id=.deep ⟨t.size,n,((xs.flatMap t.enc).map ownC).set (H.i.toNat*t.size+H.q) (.arr H.j 0 H.m)⟩:=by rw[TS.blk_conc,hb];rfl
     have h2:(s.conc F).st.heap H.j=.live ⟨τ.size,H.m,ys.flatMap τ.enc⟩:=by rw[TS.blk_conc,hbj,<-hm];rfl
     have hlt:H.i.toNat*t.size+H.q < ((xs.flatMap t.enc).map ownC).length:=by rw[List.length_map];exact f2
     obtain ⟨ρ',R'⟩:=R.shutOwn (N:=(s.conc F).heap.length) (λ j hj=>by show (s.conc F).heap.getD j .no=.no;simp[List.getElem?_eq_none hj]) h1 (by simp only;rw[List.getElem?_set_self hlt]) h2 (plain_bare r2 ys) (by rw[flat_len (encOk τ).len,<-hm,hgj])
     refine ⟨ρ',?_⟩
     have e:(((xs.flatMap t.enc).map ownC).set (H.i.toNat*t.size+H.q) (.arr H.j 0 H.m)).set (H.i.toNat*t.size+H.q) (.own τ.size H.m (ys.flatMap τ.enc))=((xs.set H.i.toNat y).flatMap t.enc).map ownC:=by
      rw[List.set_set,f1,List.map_set,<-hm,<-hgj];rfl
     simp only[e]at R'
     exact R'
   ·exact ⟨hG, .refl _ _⟩
  ·exact ⟨hG, .refl _ _⟩
 ·exact ⟨hG, .refl _ _⟩
theorem shutD_ok {k0:Nat} (hL:LvOk F):∀ (π:List Nat) (l:List BSh) {s:TS},Good F s->Good F (shutD F π l s)/\Weak k0 (s.conc F) ((shutD F π l s).conc F)
 | [],l,s,hG=>by unfold shutD;exact ⟨hG, .refl _ _⟩
 | _::_,[],s,hG=>by unfold shutD;exact ⟨hG, .refl _ _⟩
 | id::π,b::r,s,hG=>by
  cases b<;>try exact shutD_ok hL π r hG
  all_goals
   obtain ⟨g1,g2⟩:=shut1_ok (k0:=k0) hL hG id
   obtain ⟨q1,q2⟩:=shutD_ok (k0:=k0) hL π r g1
   exact ⟨q1,g2.trans q2⟩
theorem prep_ok {k0:Nat} (hL:LvOk F) (sh:Shp) (hG:Good F s):Good F (sh.prep F s)/\Weak k0 (s.conc F) ((sh.prep F s).conc F):=by
 obtain ⟨g1,g2⟩:=prepE_ok (k0:=k0) hL (deadIds 0 sh.heap) sh.env hG
 obtain ⟨q1,q2⟩:=prepH_ok (k0:=k0) hL (deadIds 0 sh.heap) (asgE (s.lk F) sh.env (asg0 F.k0 (fixIds 0 sh.heap))) sh.heap 0 g1
 obtain ⟨r1,r2⟩:=killD_ok (k0:=k0) hL sh.heap 0 q1
 unfold Shp.prep
 simp only
 split
 ·obtain ⟨t1,t2⟩:=shutD_ok (k0:=k0) hL (sh.pi F (killD F 0 sh.heap (prepH F (deadIds 0 sh.heap) (asgE (s.lk F) sh.env (asg0 F.k0 (fixIds 0 sh.heap))) 0 sh.heap (prepE F (deadIds 0 sh.heap) sh.env s)))) sh.heap r1
  exact ⟨t1,((g2.trans q2).trans r2).trans t2⟩
 ·exact ⟨r1,(g2.trans q2).trans r2⟩
end Go.Fm
namespace Go.Fm
variable [Globs] [Structs] [Tabs]
def hC (h:Nat->TB):Nat->HS:=λ id=>(h id).conc
def GoodH (h:Nat->TB):Prop:=∀ j,goodB h (h j)
theorem ix_none {π:List Nat} {id:Nat} (h:elemN id π=false):ixOf π id=none:=by
 cases e:ixOf π id with
 | none=>rfl
 | some j=>exact absurd (List.mem_of_getElem? (ixOf_some e)) (elemN_not.1 h)
theorem ix_some {π:List Nat} {id j:Nat} (hn:nodB π=true) (h:π[j]? = some id):ixOf π id=some j:=by
 have h1:=ixOf_mem (List.mem_of_getElem? h)
 obtain ⟨k,hk⟩:=Option.isSome_iff_exists.1 h1
 rw[hk,nodB_spec hn k j id (ixOf_some hk) h]
theorem lendAll_append {g:CV->Option (List Nat×CV)}:∀ {a b:List CV} {r1 r2:List Nat} {a' b':List CV},lendAll g a=some (r1,a')->lendAll g b=some (r2,b')->lendAll g (a++b)=some (r1++r2,a'++b')
 | [],b,r1,r2,a',b',h1,h2=>by cases h1;exact h2
 | c::r,b,r1,r2,a',b',h1,h2=>by
  unfold lendAll at h1
  split at h1
  ·cases h1
  ·rename_i x c' hc
   split at h1
   ·cases h1
   ·rename_i y r' hr
    cases h1
    show (match g c with|none=>none|some (a,c')=>match lendAll g (r++b) with|none=>none|some (b,r')=>some (a++b,c'::r'))=_
    rw[hc,lendAll_append hr h2]
    simp only[List.append_assoc,List.cons_append]
theorem errC_flat (n:Int):(errC n).flat=true:=by
 rcases errC_or n with ⟨_,e⟩|⟨_,e⟩|⟨_,e⟩<;>(rw[e];rfl)
theorem flat_of_pure {c:TC} (h:c.pure=true):c.conc.flat=true:=by cases c<;>first|rfl|exact errC_flat _|cases h
section
variable {h:Nat->TB} {π:List Nat} {f:Nat}
theorem rows_lend (hH:GoodH h) {id n:Nat} {t:Ty} {xs:List t.den} (hi:elemN id π=false) (hb:h id=.rows t n xs) {a b:Nat} {ys:List t.den} (hw:winC a b t.size (xs.flatMap t.enc)=ys.flatMap t.enc) (hl:b=ys.length) :
  lendC (hC h) π (f+1) (.arr id a b)=some ([id],(TC.imm t ys).conc):=by
 rw[lendC_arr,ix_none hi]
 show (match (h id).conc with | .live b'=>_ | .deep b2=>_|_=>_)=_
 rw[hb]
 show (match lendAll (lendC (hC h) π f) (winC a b t.size (xs.flatMap t.enc)) with|some (rd,cs)=>if riAll cs then some (id::rd,CV.imm t.size b cs) else none|none=>none)=_
 rw[hw,fLend (encOk t)]
 show (if riAll (ys.flatMap t.enc) then _ else _)=_
 rw[if_pos (fRi (encOk t) ys),hl]
 rfl
theorem enc_noown (t:Ty) (xs:List t.den):∀ c ∈ xs.flatMap t.enc,c.isOwn=false:=λ c hc=>by
 obtain ⟨y,_,hc⟩:=List.mem_flatMap.1 hc
 rw[<-leaves_conc]at hc
 obtain ⟨d,hd,rfl⟩:=List.mem_map.1 hc
 have:=List.all_eq_true.1 (leaves_pure t y) d hd
 cases d<;>first|rfl|cases this|skip
 rename_i k _
 show (errC k).isOwn=false
 rcases errC_or k with ⟨_,e⟩|⟨_,e⟩|⟨_,e⟩<;>rw[e]<;>rfl
theorem lend_own {F:Nat->HS}:∀ {cs:List CV},riAll cs=true->(∀ c ∈ cs,c.isOwn=false)->lendAll (lendD (lendC F π f)) (cs.map ownC)=some ([],cs)/\lendAll (keepOwn (lendC F π f)) (cs.map ownC)=some ([],cs.map ownC)
 | [],_,_=>⟨rfl,rfl⟩
 | c::r,h,ho=>by
  simp only[riAll,Bool.and_eq_true]at h
  obtain ⟨h1,h2⟩:=lend_own (F:=F) h.2 λ c hc=>ho c (List.mem_cons_of_mem _ hc)
  have hc:lendD (lendC F π f) (ownC c)=some ([],c)/\keepOwn (lendC F π f) (ownC c)=some ([],ownC c):=by
   have h0:=h.1
   have h3:=ho c (List.mem_cons_self ..)
   cases c<;>first|(simp[CV.ri]at h0;done)|exact (Bool.false_ne_true h3.symm).elim|exact ⟨rfl,rfl⟩|exact ⟨lendC_flat rfl,lendC_flat rfl⟩
  simp only[List.map_cons,lendAll,hc.1,hc.2,h1,h2,List.append_nil]
  exact ⟨trivial,trivial⟩
theorem deep_lend (hH:GoodH h) {id n:Nat} {t:Ty} {xs:List t.den} (hi:elemN id π=false) (hb:h id=.deep t n xs none) :
  lendC (hC h) π (f+1) (.arr id 0 n)=some ([id],(TC.imm t xs).conc):=by
 have hg:=hH id
 rw[hb]at hg
 have hn:xs.length=n:=hg.1
 rw[lendC_arr,ix_none hi]
 show (match (h id).conc with | .live b'=>_ | .deep b2=>_|_=>_)=_
 rw[hb]
 show (match lendAll (lendD (lendC (hC h) π f)) ((((xs.flatMap t.enc).map ownC).drop (0*t.size)).take (n*t.size)) with|some (rd,cs)=>if riAll cs then some (id::rd,CV.imm t.size n cs) else none|none=>none)=_
 have hl:((xs.flatMap t.enc).map ownC).length=n*t.size:=by rw[List.length_map,flat_len (encOk t).len,hn]
 rw[Nat.zero_mul,List.drop_zero,<-hl,List.take_length,(lend_own (fRi (encOk t) xs) (enc_noown t xs)).1]
 show (if riAll (xs.flatMap t.enc) then _ else _)=_
 rw[if_pos (fRi (encOk t) xs),<-hn]
 rfl
theorem pureC_ok (hH:GoodH h) {c l:TC} (hc:goodC h c) (he:pureC h π c=some l):∃ rd,lendC (hC h) π (f+1) c.conc=some (rd,l.conc)/\(∀ x ∈ rd,x ∈ lentC h π c)/\(l.pure=true\/l=.emp):=by
 unfold pureC at he
 split at he
 ·rename_i id n
  split at he
  ·rename_i t n' xs hi hb
   cases he
   have e1:=hc.2.1 _ _ _ hb
   have e2:xs.length=n':=by have:=hH id;rw[hb]at this;exact this
   refine ⟨_,rows_lend hH hi hb (a:=0) (fWin (encOk t) (by rw[e2,e1])) (by rw[e2,e1]),λ x hx => ?_, .inl rfl⟩
   rw[List.mem_singleton.1 hx]
   show id ∈ (match elemN id π with|true=>[]|false=>id::_)
   rw[hi];exact List.mem_cons_self ..
  ·rename_i t n' xs hi hb
   cases he
   have e1:=hc.2.2.2 _ _ _ _ hb
   refine ⟨_,by rw[<-e1];exact deep_lend hH hi hb,λ x hx => ?_, .inl rfl⟩
   rw[List.mem_singleton.1 hx]
   show id ∈ (match elemN id π with|true=>[]|false=>id::_)
   rw[hi];exact List.mem_cons_self ..
  ·cases he
 ·rename_i id t a b ys
  split at he
  ·rename_i t' n' xs hi hb
   cases he
   obtain rfl:=hc.2.2.1 _ _ _ hb
   have e1:=hc.2.1 _ _ hb
   refine ⟨_,rows_lend hH hi hb (fWinW (encOk t') e1 rfl) rfl,λ x hx => ?_, .inl rfl⟩
   rw[List.mem_singleton.1 hx]
   show id ∈ (match elemN id π with|true=>[]|false=>[id])
   rw[hi];exact List.mem_cons_self ..
  ·cases he
 ·cases he
  exact ⟨[],lendC_flat rfl,λ x hx=>by simp at hx, .inr rfl⟩
 ·split at he
  ·rename_i hp
   cases he
   exact ⟨[],lendC_flat (flat_of_pure hp),λ x hx=>by simp at hx, .inl hp⟩
  ·cases he
theorem pureCs_ok (hH:GoodH h):∀ {cs l:List TC},(∀ c ∈ cs,goodC h c)->pureCs h π cs=some l->∃ rd,lendAll (lendC (hC h) π (f+1)) (cs.map TC.conc)=some (rd,l.map TC.conc)/\(∀ x ∈ rd,∃ c ∈ cs,x ∈ lentC h π c)/\∀ c ∈ l,c.pure=true\/c=.emp
 | [],l,_,he=>by cases he;exact ⟨[],rfl,λ x hx=>by simp at hx,λ c hc=>by simp at hc⟩
 | c::r,l,hc,he=>by
  unfold pureCs at he
  split at he
  ·rename_i c' l' h1 h2
   cases he
   obtain ⟨r1,a1,a2,a3⟩:=pureC_ok (f:=f) hH (hc c (by simp)) h1
   obtain ⟨r2,b1,b2,b3⟩:=pureCs_ok hH (λ d hd=>hc d (List.mem_cons_of_mem _ hd)) h2
   refine ⟨r1++r2,?_,λ x hx => ?_,λ d hd => ?_⟩
   ·simp only[List.map_cons,lendAll,a1,b1]
   ·rcases List.mem_append.1 hx with hx|hx
    ·exact ⟨c,by simp,a2 x hx⟩
    ·obtain ⟨d,hd,hxd⟩:=b2 x hx
     exact ⟨d,List.mem_cons_of_mem _ hd,hxd⟩
   ·rcases List.mem_cons.1 hd with rfl|hd
    ·exact a3
    ·exact b3 d hd
  ·cases he
theorem CRs_pure:∀ {l m:List TC},CRs l m->(∀ c ∈ l,c≠.emp)->l=m
 | [],[],_,_=>rfl
 | c::r,d::s,hr,he=>by
  rcases hr.1 with e|⟨e,_⟩
  ·rw[e,CRs_pure hr.2 λ x hx=>he x (List.mem_cons_of_mem _ hx)]
  ·exact absurd e (he c (by simp))
 | [],_::_,hr,_=>hr.elim
 | _::_,[],hr,_=>hr.elim
theorem pureC_notemp {c l:TC} (he:pureC h π c=some l) (hc:c.pure=true\/∃ id n,c=.arr id n):l≠.emp:=by
 rcases hc with hc|⟨id,n,rfl⟩
 ·cases c<;>first|exact (Bool.false_ne_true hc).elim|(simp only[pureC,TC.pure,Option.some.injEq]at he;subst he;nofun)
 ·unfold pureC at he
  simp only at he
  split at he
  ·cases he;nofun
  ·cases he;nofun
  ·cases he
theorem pureCs_notemp:∀ {cs l:List TC},pureCs h π cs=some l->(∀ c ∈ cs,c.pure=true\/∃ id n,c=.arr id n)->∀ c ∈ l,c≠.emp
 | [],l,he,_,c,hc=>by cases he;simp at hc
 | d::r,l,he,hd,c,hc=>by
  unfold pureCs at he
  split at he
  ·rename_i c' l' h1 h2
   cases he
   rcases List.mem_cons.1 hc with rfl|hc
   ·exact pureC_notemp h1 (hd d (by simp))
   ·exact pureCs_notemp h2 (λ x hx=>hd x (List.mem_cons_of_mem _ hx)) c hc
  ·cases he
theorem pureAll_ok (hH:GoodH h) {t:Ty}:∀ {css:List (List TC)} {l:List t.den},(∀ r ∈ css,r.length=t.size/\∀ c ∈ r,goodC h c/\(c.pure=true\/∃ id n,c=.arr id n))->pureAll h π t css=some l →
  ∃ rd,lendAll (lendC (hC h) π (f+1)) ((css.map λ r=>r.map TC.conc).flatten)=some (rd,l.flatMap t.enc)/\(∀ x ∈ rd,∃ cs ∈ css,∃ c ∈ cs,x ∈ lentC h π c)/\l.length=css.length
 | [],l,_,he=>by cases he;exact ⟨[],rfl,λ x hx=>by simp at hx,rfl⟩
 | cs::r,l,hc,he=>by
  unfold pureAll at he
  split at he
  ·rename_i cs' l' h1 h2
   split at he
   ·rename_i v hv
    cases he
    obtain ⟨r1,a1,a2,a3⟩:=pureCs_ok (f:=f) hH (λ c hc'=>((hc cs (by simp)).2 c hc').1) h1
    obtain ⟨r2,b1,b2,b3⟩:=pureAll_ok hH (λ q hq=>hc q (List.mem_cons_of_mem _ hq)) h2
    have e:=CRs_pure (mkT_made hv) (pureCs_notemp h1 λ c hc'=>((hc cs (by simp)).2 c hc').2)
    rw[e,leaves_conc]at a1
    refine ⟨r1++r2,?_,λ x hx => ?_,by simp[b3]⟩
    ·simp only[List.map_cons,List.flatten_cons,List.flatMap_cons]
     exact lendAll_append a1 b1
    ·rcases List.mem_append.1 hx with hx|hx
     ·obtain ⟨c,hc1,hc2⟩:=a2 x hx
      exact ⟨cs,by simp,c,hc1,hc2⟩
     ·obtain ⟨q,hq,c,hc1,hc2⟩:=b2 x hx
      exact ⟨q,List.mem_cons_of_mem _ hq,c,hc1,hc2⟩
   ·cases he
  ·cases he
theorem pureR_ok (hH:GoodH h) {c l:TC} (hc:goodC h c) (he:pureR h π c=some l):∃ rd,lendC (hC h) π (f+2) c.conc=some (rd,l.conc)/\(∀ x ∈ rd,x ∈ lentC h π c)/\(l.pure=true\/l=.emp):=by
 unfold pureR at he
 split at he
 ·rename_i id n
  split at he
  ·rename_i t css hi hb
   split at he
   ·rename_i l' hl
    cases he
    have hr:=hH id
    rw[hb]at hr
    obtain ⟨rd,a1,a2,a3⟩:=pureAll_ok (f:=f) hH hr hl
    have e1:=hc.2.2.1 _ _ hb
    refine ⟨id::rd,?_,λ x hx => ?_, .inl rfl⟩
    ·show lendC (hC h) π (f+1+1) (.arr id 0 n)=_
     rw[lendC_arr,ix_none hi]
     show (match (h id).conc with | .live b'=>_ | .deep b2=>_|_=>_)=_
     rw[hb]
     show (match lendAll (lendC (hC h) π (f+1)) (winC 0 n t.size (css.map λ r=>r.map TC.conc).flatten) with|some (rd,cs)=>if riAll cs then some (id::rd,CV.imm t.size n cs) else none|none=>none)=_
     have hw:winC 0 n t.size (css.map λ r=>r.map TC.conc).flatten=(css.map λ r=>r.map TC.conc).flatten:=by
      unfold winC
      rw[Nat.zero_mul,List.drop_zero,List.take_of_length_le]
      have:∀ (css:List (List TC)),(∀ r ∈ css,r.length=t.size)->(css.map λ r=>r.map TC.conc).flatten.length=css.length*t.size:=by
       intro css
       induction css with
       | nil=>intro _;simp
       | cons q r ih =>
        intro hq
        simp only[List.map_cons,List.flatten_cons,List.length_append,List.length_map,List.length_cons]
        rw[ih λ x hx=>hq x (List.mem_cons_of_mem _ hx),hq q (by simp),Nat.succ_mul];omega
      rw[this css λ r hr'=>(hr r hr').1,e1]
      exact Nat.le_refl _
     rw[hw,a1]
     show (if riAll (l'.flatMap t.enc) then _ else _)=_
     rw[if_pos (fRi (encOk t) l')]
     show some (id::rd,CV.imm t.size n (l'.flatMap t.enc))=some (id::rd,CV.imm t.size l'.length (l'.flatMap t.enc))
     rw[a3,e1]
    ·show x ∈ (match elemN id π with|true=>[]|false=>id::(match h id with | .raw _ css=>css.flatten.flatMap _|_=>[]))
     rw[hi,hb]
     rcases List.mem_cons.1 hx with rfl|hx
     ·exact List.mem_cons_self ..
     ·refine List.mem_cons_of_mem _ ?_
      obtain ⟨cs,hcs,c,hc1,hc2⟩:=a2 x hx
      refine List.mem_flatMap.2 ⟨c,List.mem_flatten.2 ⟨cs,hcs,hc1⟩,?_⟩
      -- the cell is an own list of plain rows
      rcases ((hr cs hcs).2 c hc1).2 with hp|⟨id2,n2,rfl⟩
      ·cases c<;>first|exact (Bool.false_ne_true hp).elim|(simp[lentC]at hc2)
      ·have hp2:∃ l2,pureC h π (.arr id2 n2)=some l2:=by
        have:∀ {css:List (List TC)} {l:List t.den},pureAll h π t css=some l->∀ cs ∈ css,∃ l2,pureCs h π cs=some l2:=by
         intro css
         induction css with
         | nil=>intro l _ cs hcs;simp at hcs
         | cons q r ih =>
          intro l hl cs hcs
          unfold pureAll at hl
          split at hl
          ·rename_i cs' l' h1 h2
           rcases List.mem_cons.1 hcs with rfl|hcs
           ·exact ⟨_,h1⟩
           ·exact ih h2 cs hcs
          ·cases hl
        obtain ⟨l2,h2⟩:=this hl cs hcs
        have:∀ {cs l2:List TC},pureCs h π cs=some l2->∀ c ∈ cs,∃ d,pureC h π c=some d:=by
         intro cs
         induction cs with
         | nil=>intro l2 _ c hc;simp at hc
         | cons q r ih =>
          intro l2 h2 c hc
          unfold pureCs at h2
          split at h2
          ·rename_i c' l' g1 g2
           rcases List.mem_cons.1 hc with rfl|hc
           ·exact ⟨_,g1⟩
           ·exact ih g2 c hc
          ·cases h2
        exact this h2 _ hc1
       obtain ⟨l2,hl2⟩:=hp2
       unfold pureC at hl2
       simp only at hl2
       split at hl2
       ·rename_i t3 n3 xs3 hi3 hb3
        have hc2:x ∈ (match elemN id2 π with|true=>[]|false=>id2::(match h id2 with | .raw _ css=>css.flatten.flatMap _|_=>[])):=hc2
        rw[hi3,hb3]at hc2
        exact hc2
       ·rename_i t3 n3 xs3 hi3 hb3
        have hc2:x ∈ (match elemN id2 π with|true=>[]|false=>id2::(match h id2 with | .raw _ css=>css.flatten.flatMap _|_=>[])):=hc2
        rw[hi3,hb3]at hc2
        exact hc2
       ·cases hl2
   ·cases he
  ·exact pureC_ok hH hc he
 ·exact pureC_ok hH hc he
def own1 (own:List (Nat×Nat)) (i:Nat) (c:TC):TC:=match ownJ own i,c with
 | some j, .imm t xs=>.arr j xs.length
 | _,c=>c
theorem ownSet_cons (own:List (Nat×Nat)) (i:Nat) (c:TC) (r:List TC):ownSet own i (c::r)=own1 own i c::ownSet own (i+1) r:=rfl
def ListB (b:TB) (t:Ty) (n:Nat) (xs:List t.den):Prop:=b=.rows t n xs\/b=.deep t n xs none
def OwnsP (h:Nat->TB) (π:List Nat) (O:List (Nat×TB)):Prop:=∀ p ∈ O,∃ (id:Nat) (t:Ty) (n:Nat) (xs:List t.den),π[p.1]? = some id/\ListB (h id) t n xs/\p.2=.rows t xs.length xs
theorem leaf_ok (hH:GoodH h) (hn:nodB π=true) {own:List (Nat×Nat)} {i:Nat} {c l l':TC} (hc:goodC h c) (he:leafC h π own i c=some l) (hr:CR l l') :
  ∃ rd d,lendC (hC h) π (f+2) c.conc=some (rd,d)/\leC0 d (own1 own i l').conc/\(∀ x ∈ rd,x ∈ lentC h π c) ∧
   ((own1 own i l').pure=true\/own1 own i l'=.emp\/∃ (j id:Nat) (t:Ty) (n:Nat) (xs:List t.den),own1 own i l'=.arr j xs.length/\π[j]? = some id/\ListB (h id) t n xs) ∧
   ∀ j t xs,ownJ own i=some j->l'=.imm t xs->∃ (id n:Nat),π[j]? = some id/\ListB (h id) t n xs:=by
 unfold leafC at he
 split at he
 ·rename_i j hj
  split at he
  ·rename_i id n
   split at he
   ·rename_i t n' xs id' hb hp
    split at he
    ·rename_i hid
     cases he
     obtain rfl:=Nat.eq_of_beq_eq_true hid
     have e1:=hc.2.1 _ _ _ hb
     have e2:xs.length=n':=by have:=hH id;rw[hb]at this;exact this
     have hl':l'=.imm t xs:=by
      rcases hr with e|⟨e,_⟩
      ·exact e.symm
      ·cases e
     subst hl'
     have ho:own1 own i (.imm t xs)=.arr j xs.length:=by unfold own1;rw[hj]
     refine ⟨[], .arr j 0 n,?_, .inl ?_,λ x hx=>by simp at hx, .inr (.inr ⟨j,id,t,n',xs,ho,hp, .inl hb⟩),λ j' t' xs' hj' hx => ?_⟩
     ·show lendC (hC h) π (f+1+1) (.arr id 0 n)=_
      rw[lendC_arr,ix_some hn hp]
     ·rw[ho]
      show CV.arr j 0 xs.length=_
      rw[e2,e1]
     ·rw[hj]at hj';cases hj'
      cases hx
      exact ⟨id,n',hp, .inl hb⟩
    ·cases he
   ·rename_i t n' xs id' hb hp
    split at he
    ·rename_i hid
     cases he
     obtain rfl:=Nat.eq_of_beq_eq_true hid
     have e1:=hc.2.2.2 _ _ _ _ hb
     have e2:xs.length=n':=by have:=hH id;rw[hb]at this;exact this.1
     have hl':l'=.imm t xs:=by
      rcases hr with e|⟨e,_⟩
      ·exact e.symm
      ·cases e
     subst hl'
     have ho:own1 own i (.imm t xs)=.arr j xs.length:=by unfold own1;rw[hj]
     refine ⟨[], .arr j 0 n,?_, .inl ?_,λ x hx=>by simp at hx, .inr (.inr ⟨j,id,t,n',xs,ho,hp, .inr hb⟩),λ j' t' xs' hj' hx => ?_⟩
     ·show lendC (hC h) π (f+1+1) (.arr id 0 n)=_
      rw[lendC_arr,ix_some hn hp]
     ·rw[ho]
      show CV.arr j 0 xs.length=_
      rw[e2,e1]
     ·rw[hj]at hj';cases hj'
      cases hx
      exact ⟨id,n',hp, .inr hb⟩
    ·cases he
   ·cases he
  ·cases he
 ·rename_i hj
  obtain ⟨rd,a1,a2,a3⟩:=pureR_ok (f:=f) hH hc he
  have ho:own1 own i l'=l':=by unfold own1;rw[hj]
  refine ⟨rd,l.conc,a1,?_,a2,?_,λ j t xs hj' _=>by rw[hj]at hj';cases hj'⟩
  ·rw[ho]
   rcases hr with rfl|⟨rfl,t,rfl⟩
   ·exact .inl rfl
   ·exact .inr ⟨rfl,_,rfl⟩
  ·rw[ho]
   rcases hr with rfl|⟨rfl,t,rfl⟩
   ·rcases a3 with a3|a3
    ·exact .inl a3
    ·exact .inr (.inl a3)
   ·exact .inl rfl
theorem leafs_ok (hH:GoodH h) (hn:nodB π=true) {own:List (Nat×Nat)}:∀ {cs l l':List TC} {i:Nat},(∀ c ∈ cs,goodC h c)->leafCs h π own i cs=some l->CRs l l' →
  ∃ rd d,lendAll (lendC (hC h) π (f+2)) (cs.map TC.conc)=some (rd,d)/\leL0 d ((ownSet own i l').map TC.conc)/\(∀ x ∈ rd,∃ c ∈ cs,x ∈ lentC h π c) ∧
   (∀ c ∈ ownSet own i l',c.pure=true\/c=.emp\/∃ (j id:Nat) (t:Ty) (n:Nat) (xs:List t.den),c=.arr j xs.length/\π[j]? = some id/\ListB (h id) t n xs)/\OwnsP h π (ownBlk own i l')
 | [],l,l',i,_,he,hr=>by
  cases he
  cases l' with
  | nil=>exact ⟨[],[],rfl,trivial,λ x hx=>by simp at hx,λ c hc=>by simp[ownSet]at hc,λ p hp=>by simp[ownBlk]at hp⟩
  | cons _ _=>exact hr.elim
 | c::r,l,l',i,hc,he,hr=>by
  unfold leafCs at he
  split at he
  ·rename_i c' l2 h1 h2
   cases he
   cases l' with
   | nil=>exact hr.elim
   | cons m m' =>
    obtain ⟨r1,d1,a1,a2,a3,a4,a5⟩:=leaf_ok (f:=f) hH hn (hc c (by simp)) h1 hr.1
    obtain ⟨r2,d2,b1,b2,b3,b4,b5⟩:=leafs_ok hH hn (λ x hx=>hc x (List.mem_cons_of_mem _ hx)) h2 hr.2
    refine ⟨r1++r2,d1::d2,?_,?_,λ x hx => ?_,λ x hx => ?_,λ p hp => ?_⟩
    ·simp only[List.map_cons,lendAll,a1,b1]
    ·rw[ownSet_cons];exact ⟨a2,b2⟩
    ·rcases List.mem_append.1 hx with hx|hx
     ·exact ⟨c,by simp,a3 x hx⟩
     ·obtain ⟨y,hy,hxy⟩:=b3 x hx
      exact ⟨y,List.mem_cons_of_mem _ hy,hxy⟩
    ·rw[ownSet_cons]at hx
     rcases List.mem_cons.1 hx with rfl|hx
     ·exact a4
     ·exact b4 x hx
    ·unfold ownBlk at hp
     split at hp
     ·rename_i j t xs hj
      rcases List.mem_cons.1 hp with rfl|hp
      ·obtain ⟨id,n,e1,e2⟩:=a5 j t xs hj rfl
       exact ⟨id,t,n,xs,e1,e2,rfl⟩
      ·exact b5 p hp
     ·exact b5 p hp
  ·cases he
end
end Go.Fm
