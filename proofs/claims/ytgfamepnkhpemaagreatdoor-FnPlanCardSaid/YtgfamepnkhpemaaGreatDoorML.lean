import Derived.Test.YtgfamepnkhpemaaGreatDoorMK
import Derived.KernelRfl
set_option linter.all false
namespace Go.Proofs.YtgfamepnkhpemaaGreatDoor
open Go Go.Fm
theorem eqU_l0 {a b:List Int} (hl:a.length=b.length) (hm:a.length<=1048576):∀ (k n:Nat),n<=a.length->a.length-n < k →
  g_slices_Equal_uint32_l0 a b (a.length:Int) k n=some (if a.drop n=b.drop n then .inl () else .inr false):=by
 intro k
 induction k with
 | zero=>intro n h0 h1;omega
 | succ k ih =>
  intro n h0 h1
  unfold g_slices_Equal_uint32_l0
  by_cases hn:n < a.length
  ·have hn':n < b.length:=by omega
   rw[decide_eq_true (by omega),getI_nat,getI_nat,List.getElem?_eq_getElem hn,List.getElem?_eq_getElem hn',List.drop_eq_getElem_cons hn,List.drop_eq_getElem_cons hn']
   simp only[cond_true,Option.bind_some]
   by_cases he:a[n]=b[n]
   ·have:(a[n] != b[n])=false:=by rw[he];simp
    rw[this,cond_false,wI64 (by omega) (by omega),show ((n:Int)+1)=((n+1:Nat):Int) by omega,ih (n+1) (by omega) (by omega),he]
    simp only[List.cons.injEq,true_and]
   ·have:(a[n] != b[n])=true:=by simpa using he
    rw[this,cond_true,if_neg (λ h=>he (List.cons.inj h).1)]
  ·rw[decide_eq_false (by omega),cond_false,List.drop_eq_nil_of_le (by omega),List.drop_eq_nil_of_le (by omega),if_pos rfl]
theorem eqU {a b:List Int} (hm:a.length<=1048576):g_slices_Equal_uint32 a b=some (decide (a=b)):=by
 unfold g_slices_Equal_uint32
 by_cases hl:a.length=b.length
 ·have:((a.length:Int) != (b.length:Int))=false:=by rw[hl];simp
  rw[this,cond_false]
  have h:=eqU_l0 hl hm bigK 0 (Nat.zero_le _) (by unfold bigK;omega)
  rw[show ((0:Nat):Int)=0 from rfl]at h
  rw[h]
  by_cases he:a=b
  ·simp[he]
  ·simp[he]
 ·have:((a.length:Int) != (b.length:Int))=true:=by simp;omega
  rw[this,cond_true,decide_eq_false (λ h=>hl (by rw[h]))]
theorem unpack_ok {l:List Int}:Tot (g_impl_Unpack l) λ r=>r.1.length<=168/\(r.2=true->g_impl_Pack r.1=some l):=by
 unfold g_impl_Unpack
 refine .condD (λ _=>.some ⟨by simp,λ h=>nomatch h⟩) λ hl => ?_
 have hl:l.length<=24:=by omega
 have key:∀ (k:Nat) (name:Bs) (i:Int),0<=i->i<=l.length->(name.length:Int)<=7*i->l.length-i < k->Tot (g_impl_Unpack_l0 l (l.length:Int) k name i) λ r=>r.length<=168:=by
  intro k
  induction k with
  | zero=>intro name i h0 h1 h2 h3;omega
  | succ k ih =>
   intro name i h0 h1 h2 h3
   unfold g_impl_Unpack_l0
   refine .condD (λ hi => ?_) λ _=>.some (by omega)
   obtain ⟨v,hv,_⟩:=getI_ex h0 hi
   refine .bindE hv (.bind unpackOne_ok λ s hs=>.bindE (catS_eq (by omega)) ?_)
   rw[wI64 (x:=i+1) (by omega) (by omega)]
   exact ih _ _ (by omega) (by omega) (by rw[List.length_append];omega) (by omega)
 refine .bind (.bind (key bigK [] 0 (by decide) (by omega) (by decide) (by unfold bigK;omega)) λ r hr=>.some hr) λ name hn => ?_
 refine .bind (Q:=λ b=>b=false->g_impl_Pack name=some l) (.bind (nameOk_ok (by omega)) λ b _=>.cond (λ _=>.some λ h=>nomatch h) λ _ => ?_) λ b hb=>.cond (λ _=>.some ⟨by simp,λ h=>nomatch h⟩) λ h=>.some ⟨hn,λ _=>hb h⟩
 obtain ⟨p,hp,_,hpl⟩:=pack_ok (s:=name) (by omega)
 refine .bindE hp (.bindE (eqU (by omega)) (.some λ h => ?_))
 have:p=l:=by simpa using h
 rw[hp,this]
theorem nameKind_eq {t:Int} (h:t=1\/t=3\/t=4\/t=9\/t=10\/t=11):∃ k,g_impl_nameKind t=some k/\g_impl_nameTag k=some t/\k≠0:=by
 rcases h with rfl|rfl|rfl|rfl|rfl|rfl
 ·exact ⟨1,by kernel_rfl,by kernel_rfl,by decide⟩
 ·exact ⟨2,by kernel_rfl,by kernel_rfl,by decide⟩
 ·exact ⟨3,by kernel_rfl,by kernel_rfl,by decide⟩
 ·exact ⟨4,by kernel_rfl,by kernel_rfl,by decide⟩
 ·exact ⟨5,by kernel_rfl,by kernel_rfl,by decide⟩
 ·exact ⟨6,by kernel_rfl,by kernel_rfl,by decide⟩
theorem cells_raw {v:Int}:g_impl_CellsOf ⟨0,[],0,false,v⟩=some [v]:=by
 unfold g_impl_CellsOf
 have h0:g_impl_nameTag 0=some 0:=by kernel_rfl
 simp[h0]
def nameCells (t:Int):List Int->List Int
 | []=>[]
 | f::r=>(orI .u32 (IntKind.wrap .u32 (f*16)) t)::r.map λ f=>orI .u32 (IntKind.wrap .u32 (f*16)) 0
theorem cells_l0 {fs:List Int} (hl:fs.length<=24):∀ (k n:Nat) (t:Int) (out:List Int),n<=fs.length->fs.length-n < k->out.length=n->(1<=n->t=0) →
  g_impl_CellsOf_l0 fs (fs.length:Int) k t out n=some (out++nameCells t (fs.drop n)):=by
 intro k
 induction k with
 | zero=>intro n t out h0 h1 h2 h3;omega
 | succ k ih =>
  intro n t out h0 h1 h2 h3
  unfold g_impl_CellsOf_l0
  by_cases hn:n < fs.length
  ·rw[decide_eq_true (by omega),getI_nat,List.getElem?_eq_getElem hn,List.drop_eq_getElem_cons hn]
   simp only[cond_true,Option.bind_some]
   rw[app_eq (by simp;omega),Option.bind_some,wI64 (by omega) (by omega),show ((n:Int)+1)=((n+1:Nat):Int) by omega,ih (n+1) 0 _ (by omega) (by omega) (by simp[h2]) (λ _=>rfl)]
   congr 1
   rw[List.append_assoc]
   congr 1
   simp only[nameCells,List.singleton_append]
   congr 1
   cases fs.drop (n+1) with
   | nil=>rfl
   | cons x r=>rfl
  ·rw[decide_eq_false (by omega),cond_false,List.drop_eq_nil_of_le (by omega)]
   simp[nameCells]
theorem cells_name {kd t:Int} {name:Bs} {fs:List Int} (ht:g_impl_nameTag kd=some t) (h0:0 < t) (hp:g_impl_Pack name=some fs) (hl:fs.length<=24) :
  g_impl_CellsOf ⟨kd,name,0,false,0⟩=some (nameCells t fs):=by
 unfold g_impl_CellsOf
 have:=cells_l0 hl bigK 0 t [] (Nat.zero_le _) (by unfold bigK;omega) rfl (λ h=>by omega)
 simp only[Int.natCast_zero,List.drop_zero,List.nil_append]at this
 simp[ht,hp,h0,this]
theorem cells_7 {n:Int} {hex:Bool}:g_impl_CellsOf ⟨7,[],n,hex,0⟩=g_impl_numberCells n hex 8 2:=by
 unfold g_impl_CellsOf
 have h0:g_impl_nameTag 7=some 0:=by kernel_rfl
 simp[h0]
 cases g_impl_numberCells n hex 8 2<;>rfl
theorem cells_8 {n:Int} {hex:Bool}:g_impl_CellsOf ⟨8,[],n,hex,0⟩=g_impl_numberCells n hex 6 5:=by
 unfold g_impl_CellsOf
 have h0:g_impl_nameTag 8=some 0:=by kernel_rfl
 simp[h0]
 cases g_impl_numberCells n hex 6 5<;>rfl
theorem cells_9 {n f:Int} {name:Bs} (hp:g_impl_Pack name=some [f]):g_impl_CellsOf ⟨9,name,n,false,0⟩=some [orI .u32 (IntKind.wrap .u32 (f*16)) 12,IntKind.wrap .u32 n]:=by
 unfold g_impl_CellsOf
 have h0:g_impl_nameTag 9=some 0:=by kernel_rfl
 have h1:getI [f] 0=some f:=rfl
 simp[h0,hp,h1]
theorem num_ok {n:Int} {hex:Bool} {s l:Int}:Tot (g_impl_numberCells n hex s l) λ r=>U32 r/\r.length<=2:=by
 unfold g_impl_numberCells
 refine .bind (Q:=λ _=>True) (.cond (λ _=>.some trivial) λ _=>.some trivial) λ a _=>.bind (Q:=λ _=>True) (.condD (λ _=>.some trivial) λ _=>.some trivial) λ b _=>.cond (λ _=>.some ⟨.one (wU32_bd _),by simp⟩) λ _=>.some ⟨?_,by simp⟩
 exact (U32.one (wU32_bd _)).app (.one (wU32_bd _))
end Go.Proofs.YtgfamepnkhpemaaGreatDoor
namespace Go.Proofs.YtgfamepnkhpemaaGreatDoor
open Go Go.Fm
def runP (c:Int):Bool:=c != 0&&c % 16==0
theorem scan_l0 {tl:List Int} (hu:U32 tl) (hl:tl.length<=64):∀ (k n:Nat) (fields:List Int),n<=tl.length->tl.length-n < k->fields.length+(tl.length-n)<=65 →
  g_impl_parseOne_l0 tl (tl.length:Int) k fields n=some (fields++((tl.drop n).takeWhile runP).map (· / 16)):=by
 intro k
 induction k with
 | zero=>intro n fields h0 h1;omega
 | succ k ih =>
  intro n fields h0 h1 h2
  unfold g_impl_parseOne_l0
  by_cases hn:n < tl.length
  ·have hx:=hu tl[n] (List.getElem_mem hn)
   rw[decide_eq_true (by omega),getI_nat,List.getElem?_eq_getElem hn,List.drop_eq_getElem_cons hn]
   simp only[cond_true,Option.bind_some]
   rw[and15 hx.1 hx.2]
   have hc:(cond (tl[n]==0) (some true) (some (tl[n] % 16 != 0)):Option Bool)=some (!runP tl[n]):=by
    have h:∀ a b:Bool,(cond a (some true) (some (!b)):Option Bool)=some (!(!a&&b)):=by decide
    exact h _ _
   rw[hc,Option.bind_some]
   cases hr:runP tl[n] with
   | true =>
    simp only[Bool.not_true,cond_false]
    rw[app_eq (by simp;omega),Option.bind_some,wI64 (by omega) (by omega),show ((n:Int)+1)=((n+1:Nat):Int) by omega,ih (n+1) _ (by omega) (by omega) (by simp;omega),List.takeWhile_cons,hr]
    simp
   | false =>
    simp only[Bool.not_false,cond_true]
    rw[List.takeWhile_cons,hr]
    simp
  ·rw[decide_eq_false (by omega),cond_false,List.drop_eq_nil_of_le (by omega)]
   simp
def isName (t:Int):Bool:=t==1 || (t==3 || (t==4 || (t==9 || (t==10 || t==11))))
theorem chain (t:Int):(cond (t==1) (some (t==1)) (cond (t==3) (some (t==3)) (cond (t==4) (some (t==4)) (cond (t==9) (some (t==9)) (cond (t==10) (some (t==10)) (some (t==11)))))):Option Bool)=some (isName t):=by
 unfold isName
 cases t==1<;>cases t==3<;>cases t==4<;>cases t==9<;>cases t==10<;>rfl
theorem chain2 (t:Int):(cond (t==2) (some (t==2)) (some (t==5)):Option Bool)=some (t==2 || t==5):=by cases t==2<;>rfl
def raw (v:Int):GItem:=⟨0,[],0,false,v⟩
def lng (v w:Int):GItem:=cond (v % 16==5) ⟨8,[],IntKind.wrap .i32 w,andI .u32 v 16 != 0,0⟩ ⟨7,[],IntKind.wrap .i32 w,andI .u32 v 16 != 0,0⟩
def pm (v:Int) (run:List Int) (nx:Option Int):Option GItem :=
 cond (isName (v % 16)) ((g_impl_Unpack (v / 16::run.map (· / 16))).bind λ y=>cond y.2 ((g_impl_nameKind (v % 16)).bind λ k=>some ⟨k,y.1,0,false,0⟩) (some (raw v)))
 (cond (v % 16==8) (some ⟨7,[],IntKind.wrap .i32 v / 32,andI .u32 v 16 != 0,0⟩) (cond (v % 16==6) (some ⟨8,[],IntKind.wrap .i32 v / 32,andI .u32 v 16 != 0,0⟩)
 (cond (v % 16==2 || v % 16==5) (match nx with
  | none=>some (raw v)
  | some w=>(g_impl_CellsOf (lng v w)).bind λ y=>cond (decide (y=[v,w])) (some (lng v w)) (some (raw v)))
 (cond (v % 16==12) (match nx with
  | none=>some (raw v)
  | some w=>(g_impl_FieldOk (v / 16)).bind λ b=>cond b ((g_impl_UnpackOne (v / 16)).bind λ nm=>some ⟨9,nm,IntKind.wrap .i32 w,false,0⟩) (some (raw v))) (some (raw v))))))
theorem lng_cells {v w:Int}:Tot (g_impl_CellsOf (lng v w)) λ r=>U32 r/\r.length<=2:=by
 unfold lng
 cases v % 16==5
 ·rw[cond_false,cells_7];exact num_ok
 ·rw[cond_true,cells_8];exact num_ok
theorem parse_pm {v:Int} {tl:List Int} (hu:U32 (v::tl)) (hl:(v::tl).length<=64):g_impl_parseOne (v::tl)=pm v (tl.takeWhile runP) tl.head? := by
 have hv:=hu v (List.mem_cons_self ..)
 have hut:U32 tl:=λ x hx=>hu x (List.mem_cons_of_mem _ hx)
 have hlt:tl.length<=63:=by simp at hl;omega
 have e0:getI (v::tl) 0=some v:=rfl
 unfold g_impl_parseOne pm
 rw[e0]
 simp only[Option.bind_some,and15 hv.1 hv.2,chain,chain2]
 cases isName (v % 16) with
 | true =>
  simp only[cond_true]
  have hs:=scan_l0 hut (by omega) bigK 0 [v / 16] (Nat.zero_le _) (by unfold bigK;omega) (by simp;omega)
  simp only[Int.natCast_zero,List.drop_zero,List.singleton_append]at hs
  rw[subL_drop (by decide) (by simp;omega),Option.bind_some,show List.drop (Int.toNat 1) (v::tl)=tl from rfl,hs]
  simp only[Option.bind_some]
  cases g_impl_Unpack (v / 16::List.map (· / 16) (tl.takeWhile runP)) with
  | none=>rfl
  | some y =>
   simp only[Option.bind_some]
   cases y.2 with
   | true =>
    simp only[cond_true]
    cases g_impl_nameKind (v % 16)<;>rfl
   | false=>rfl
 | false =>
  simp only[cond_false]
  cases v % 16==8 with
  | true=>rfl
  | false =>
   simp only[cond_false]
   cases v % 16==6 with
   | true=>rfl
   | false =>
    simp only[cond_false]
    cases h25:(v % 16==2 || v % 16==5) with
    | true =>
     simp only[cond_true]
     cases tl with
     | nil=>rfl
     | cons w tl =>
      have e1:getI (v::w::tl) 1=some w:=rfl
      have e2:decide ((((v::w::tl).length:Nat):Int) < 2)=false:=decide_eq_false (by simp;omega)
      have e3:(cond (v % 16==5) (some (⟨8,[],IntKind.wrap .i32 w,andI .u32 v 16 != 0,0⟩:GItem)) (some ⟨7,[],IntKind.wrap .i32 w,andI .u32 v 16 != 0,0⟩))=some (lng v w):=by
       unfold lng;cases v % 16==5<;>rfl
      obtain ⟨cs,hcs,hcu,hcl⟩:=lng_cells (v:=v) (w:=w)
      rw[e2,e1]
      simp only[cond_false,Option.bind_some,e3,hcs,List.head?_cons]
      rw[subL_take (by decide) (by simp;omega)]
      simp only[Option.bind_some]
      rw[eqU (by omega),show List.take (Int.toNat 2) (v::w::tl)=[v,w] from rfl]
      simp only[Option.bind_some]
      cases decide (cs=[v,w])<;>rfl
    | false =>
     simp only[cond_false]
     cases v % 16==12 with
     | false=>rfl
     | true =>
      simp only[cond_true]
      cases tl with
      | nil=>rfl
      | cons w tl =>
       have e1:getI (v::w::tl) 1=some w:=rfl
       have e2:decide ((((v::w::tl).length:Nat):Int) > 1)=true:=decide_eq_true (by simp;omega)
       rw[e2,e1]
       simp only[cond_true,List.head?_cons,Option.bind_some]
       cases g_impl_FieldOk (v / 16) with
       | none=>rfl
       | some b =>
        simp only[Option.bind_some]
        cases b with
        | false=>rfl
        | true =>
         simp only[cond_true]
         cases g_impl_UnpackOne (v / 16)<;>rfl
end Go.Proofs.YtgfamepnkhpemaaGreatDoor
namespace Go.Proofs.YtgfamepnkhpemaaGreatDoor
open Go Go.Fm
theorem runP_iff {c:Int}:runP c=true ↔ c≠0/\c % 16=0:=by unfold runP;simp
theorem nameCells_back {v:Int} {run:List Int} (hv:0<=v/\v < 4294967296) (hr:∀ c ∈ run,(0<=c/\c < 4294967296)/\runP c=true) :
  nameCells (v % 16) (v / 16::run.map (· / 16))=v::run:=by
 show orI .u32 (IntKind.wrap .u32 (v / 16*16)) (v % 16)::(run.map (· / 16)).map (λ f=>orI .u32 (IntKind.wrap .u32 (f*16)) 0)=v::run
 rw[or16 (by omega) (by omega) (by omega) (by omega),show v / 16*16+v % 16=v by omega,List.map_map]
 congr 1
 conv=>rhs;rw[<-List.map_id run]
 refine List.map_congr_left λ c hc => ?_
 obtain ⟨h1,h2⟩:=hr c hc
 have h3:=runP_iff.1 h2
 show orI .u32 (IntKind.wrap .u32 (c / 16*16)) 0=c
 rw[or16 (by omega) (by omega) (by decide) (by decide)]
 omega
theorem short_back {v t:Int} (hv:0<=v/\v < 4294967296) (ht:v % 16=t) (l:Int) :
  g_impl_numberCells (IntKind.wrap .i32 v / 32) (andI .u32 v 16 != 0) t l=some [v]:=by
 unfold g_impl_numberCells
 have hN:IntKind.wrap .i32 v=if v < 2147483648 then v else v-4294967296:=by
  simp[IntKind.wrap,IntKind.bits,IntKind.signed];omega
 rw[and16 hv.1 hv.2]
 have hb:(cond (decide (v / 16 % 2=1)) (some 16) (some 0):Option Int)=some (v / 16 % 2*16):=by
  by_cases h:v / 16 % 2=1
  ·simp[h]
  ·have:v / 16 % 2=0:=by omega
   simp[this]
 rw[hb]
 have h1:IntKind.wrap .i32 v / 32 ≥ -67108864:=by rw[hN];split<;>omega
 have h2:IntKind.wrap .i32 v / 32<=67108863:=by rw[hN];split<;>omega
 have h3:IntKind.wrap .u32 (IntKind.wrap .u32 (IntKind.wrap .i32 v / 32)*32)=v / 32*32:=by
  rw[hN]
  simp[IntKind.wrap,IntKind.bits,IntKind.signed]
  split<;>omega
 simp only[Option.bind_some,h1,h2,decide_true,cond_true]
 rw[h3,orU (a:=v / 32*32) (by omega) (by omega) (by omega) (by omega)]
 have e1:(v / 32*32).toNat ||| (v / 16 % 2*16).toNat=32*(v.toNat / 32)+v.toNat / 16 % 2*16:=by
  rw[show (v / 32*32).toNat=2 ^ 5*(v.toNat / 32) by omega,show (v / 16 % 2*16).toNat=v.toNat / 16 % 2*16 by omega,or_low 5 (by omega)]
 rw[e1,orU (by omega) (by omega) (by omega) (by omega)]
 have e2:((32*(v.toNat / 32)+v.toNat / 16 % 2*16:Nat):Int).toNat ||| t.toNat=v.toNat:=by
  rw[Int.toNat_natCast,show 32*(v.toNat / 32)+v.toNat / 16 % 2*16=2 ^ 4*(v.toNat / 16) by omega,or_low 4 (by omega)]
  omega
 rw[e2,Int.toNat_of_nonneg hv.1]
theorem field_ok {f:Int}:Tot (g_impl_FieldOk f) λ b=>b=true->∃ nm,g_impl_UnpackOne f=some nm/\nm.length<=7/\g_impl_Pack nm=some [f]:=by
 unfold g_impl_FieldOk
 obtain ⟨nm,hnm,hl⟩:=unpackOne_ok (f:=f)
 obtain ⟨p,hp,_,hpl⟩:=pack_ok (s:=nm) (by omega)
 rw[hnm]
 refine .bindE rfl (.bindE hp (.bindE (eqU (by omega)) (.some λ h=>⟨nm,rfl,hl,?_⟩)))
 rw[hp,of_decide_eq_true h]
theorem pm_ok {v:Int} {run:List Int} {nx:Option Int} (hv:0<=v/\v < 4294967296) (hr:∀ c ∈ run,(0<=c/\c < 4294967296)/\runP c=true) (hn:∀ w,nx=some w->0<=w/\w < 4294967296) :
  ∃ it cs,pm v run nx=some it/\g_impl_CellsOf it=some cs/\it.Name.length<=168 ∧
   ((cs=v::run/\∀ nx',pm v run nx'=some it)\/(cs=[v]/\∀ nx',nx'=nx\/nx'=none->pm v run nx'=some it)\/(∃ w,nx=some w/\cs=[v,w])):=by
 have hraw:g_impl_CellsOf (raw v)=some [v]:=cells_raw
 have hrl:(raw v).Name.length<=168:=by show ([]:Bs).length<=168;simp
 cases h1:isName (v % 16) with
 | true =>
  obtain ⟨y,hy,hyl,hyp⟩:=unpack_ok (l:=v / 16::run.map (· / 16))
  cases h2:y.2 with
  | false =>
   have e:∀ nx',pm v run nx'=some (raw v):=λ nx'=>by unfold pm;rw[h1,cond_true,hy,Option.bind_some,h2,cond_false]
   exact ⟨raw v,[v],e nx,hraw,hrl, .inr (.inl ⟨rfl,λ nx' _=>e nx'⟩)⟩
  | true =>
   have ht:v % 16=1\/v % 16=3\/v % 16=4\/v % 16=9\/v % 16=10\/v % 16=11:=by simpa [isName] using h1
   obtain ⟨k,hk,hkt,_⟩:=nameKind_eq ht
   have e:∀ nx',pm v run nx'=some ⟨k,y.1,0,false,0⟩:=λ nx'=>by unfold pm;rw[h1,cond_true,hy,Option.bind_some,h2,cond_true,hk,Option.bind_some]
   have hp:=hyp h2
   obtain ⟨p,hp',_,hpl⟩:=pack_ok (s:=y.1) (by omega)
   rw[hp]at hp'
   cases hp'
   refine ⟨_,_,e nx,cells_name hkt (by omega) hp hpl,hyl, .inl ⟨nameCells_back hv hr,e⟩⟩
 | false =>
  by_cases h8:v % 16=8
  ·have e:∀ nx',pm v run nx'=some ⟨7,[],IntKind.wrap .i32 v / 32,andI .u32 v 16 != 0,0⟩:=λ nx'=>by unfold pm;rw[h1,cond_false,h8];rfl
   exact ⟨_,[v],e nx,by rw[cells_7];exact short_back hv h8 2,by simp, .inr (.inl ⟨rfl,λ nx' _=>e nx'⟩)⟩
  by_cases h6:v % 16=6
  ·have e:∀ nx',pm v run nx'=some ⟨8,[],IntKind.wrap .i32 v / 32,andI .u32 v 16 != 0,0⟩:=λ nx'=>by unfold pm;rw[h1,cond_false,h6];rfl
   exact ⟨_,[v],e nx,by rw[cells_8];exact short_back hv h6 5,by simp, .inr (.inl ⟨rfl,λ nx' _=>e nx'⟩)⟩
  have b8:(v % 16==8)=false:=by simpa using h8
  have b6:(v % 16==6)=false:=by simpa using h6
  cases h25:(v % 16==2 || v % 16==5) with
  | true =>
   have e0:pm v run none=some (raw v):=by unfold pm;rw[h1,cond_false,b8,cond_false,b6,cond_false,h25,cond_true]
   cases nx with
   | none=>exact ⟨raw v,[v],e0,hraw,hrl, .inr (.inl ⟨rfl,λ nx' h=>by rcases h with rfl|rfl<;>exact e0⟩)⟩
   | some w =>
    obtain ⟨cs,hcs,_,hcl⟩:=lng_cells (v:=v) (w:=w)
    have e1:pm v run (some w)=cond (decide (cs=[v,w])) (some (lng v w)) (some (raw v)):=by
     unfold pm;rw[h1,cond_false,b8,cond_false,b6,cond_false,h25,cond_true]
     simp only[hcs,Option.bind_some]
    by_cases hc:cs=[v,w]
    ·rw[decide_eq_true hc,cond_true]at e1
     refine ⟨_,_,e1,hcs,?_, .inr (.inr ⟨w,rfl,hc⟩)⟩
     unfold lng
     cases v % 16==5<;>simp
    ·rw[decide_eq_false hc,cond_false]at e1
     exact ⟨raw v,[v],e1,hraw,hrl, .inr (.inl ⟨rfl,λ nx' h=>by rcases h with rfl|rfl;exact e1;exact e0⟩)⟩
  | false =>
   cases h12:v % 16==12 with
   | false =>
    have e:∀ nx',pm v run nx'=some (raw v):=λ nx'=>by unfold pm;rw[h1,cond_false,b8,cond_false,b6,cond_false,h25,cond_false,h12,cond_false]
    exact ⟨raw v,[v],e nx,hraw,hrl, .inr (.inl ⟨rfl,λ nx' _=>e nx'⟩)⟩
   | true =>
    have e0:pm v run none=some (raw v):=by unfold pm;rw[h1,cond_false,b8,cond_false,b6,cond_false,h25,cond_false,h12,cond_true]
    cases nx with
    | none=>exact ⟨raw v,[v],e0,hraw,hrl, .inr (.inl ⟨rfl,λ nx' h=>by rcases h with rfl|rfl<;>exact e0⟩)⟩
    | some w =>
     obtain ⟨b,hb,hbf⟩:=field_ok (f:=v / 16)
     have e1:pm v run (some w)=cond b ((g_impl_UnpackOne (v / 16)).bind λ nm=>some ⟨9,nm,IntKind.wrap .i32 w,false,0⟩) (some (raw v)):=by
      unfold pm;rw[h1,cond_false,b8,cond_false,b6,cond_false,h25,cond_false,h12,cond_true]
      simp only[hb,Option.bind_some]
     cases b with
     | false=>exact ⟨raw v,[v],e1,hraw,hrl, .inr (.inl ⟨rfl,λ nx' h=>by rcases h with rfl|rfl;exact e1;exact e0⟩)⟩
     | true =>
      obtain ⟨nm,h2,h3,h4⟩:=hbf rfl
      rw[cond_true,h2,Option.bind_some]at e1
      have ht:v % 16=12:=by simpa using h12
      have hw:=hn w rfl
      refine ⟨_,_,e1,cells_9 h4,by show nm.length<=168;omega, .inr (.inr ⟨w,rfl,?_⟩)⟩
      rw[or16 (by omega) (by omega) (by decide) (by decide)]
      have:IntKind.wrap .u32 (IntKind.wrap .i32 w)=w:=by
       simp[IntKind.wrap,IntKind.bits,IntKind.signed];split<;>omega
      rw[this,show v / 16*16+12=v by omega]
theorem parse_ok {v:Int} {tl:List Int} (hu:U32 (v::tl)) (hl:(v::tl).length<=64) :
  ∃ it cs,g_impl_parseOne (v::tl)=some it/\g_impl_CellsOf it=some cs/\it.Name.length<=168/\1<=cs.length/\(∃ rest,v::tl=cs++rest) ∧
   (∀ tl' z,tl=tl'++List.replicate z 0->cs.length<=(v::tl').length->g_impl_parseOne (v::tl')=some it):=by
 have hv:=hu v (List.mem_cons_self ..)
 have hut:U32 tl:=λ x hx=>hu x (List.mem_cons_of_mem _ hx)
 obtain ⟨it,cs,h1,h2,h3,h4⟩:=pm_ok (v:=v) (run:=tl.takeWhile runP) (nx:=tl.head?) hv
  (λ c hc=>⟨hut c ((List.takeWhile_sublist runP).subset hc),by have:=List.all_takeWhile (p:=runP) (l:=tl);exact List.all_eq_true.1 this c hc⟩)
  (λ w hw=>hut w (List.mem_of_mem_head? hw))
 refine ⟨it,cs,by rw[parse_pm hu hl];exact h1,h2,h3,?_,?_,λ tl' z hz hc => ?_⟩
 ·rcases h4 with ⟨rfl,_⟩|⟨rfl,_⟩|⟨w,_,rfl⟩<;>simp
 ·rcases h4 with ⟨rfl,_⟩|⟨rfl,_⟩|⟨w,hw,rfl⟩
  ·exact ⟨tl.dropWhile runP,by rw[List.cons_append,List.takeWhile_append_dropWhile]⟩
  ·exact ⟨tl,rfl⟩
  ·cases tl with
   | nil=>cases hw
   | cons x r=>simp at hw;subst hw;exact ⟨r,rfl⟩
 ·have hu':U32 (v::tl'):=λ x hx=>hu x (by
   rw[hz]
   rcases List.mem_cons.1 hx with rfl|hx
   ·exact List.mem_cons_self ..
   ·exact List.mem_cons_of_mem _ (List.mem_append_left _ hx))
  have hl':(v::tl').length<=64:=by rw[hz]at hl;simp at hl ⊢;omega
  have htw:tl.takeWhile runP=tl'.takeWhile runP:=by
   rw[hz,List.takeWhile_append]
   split
   ·rename_i he
    have:(List.replicate z (0:Int)).takeWhile runP=[]:=by
     cases z with
     | zero=>rfl
     | succ z=>rw[List.replicate_succ,List.takeWhile_cons];rfl
    rw[this,List.append_nil]
    exact (List.takeWhile_sublist runP).eq_of_length he |>.symm
   ·rfl
  rw[parse_pm hu' hl',<-htw]
  rcases h4 with ⟨rfl,g⟩|⟨rfl,g⟩|⟨w,hw,rfl⟩
  ·exact g _
  ·refine g _ ?_
   cases tl' with
   | nil=>exact .inr rfl
   | cons x r=>left;rw[hz];rfl
  ·cases tl' with
   | nil=>simp at hc
   | cons x r =>
    have:tl.head? = (x::r).head? := by rw[hz];rfl
    rw[<-this]
    exact h1
end Go.Proofs.YtgfamepnkhpemaaGreatDoor
namespace Go.Proofs.YtgfamepnkhpemaaGreatDoor
open Go Go.Fm
inductive Parses:List Int->List GItem->Prop where
 | nil:Parses [] []
 | cons {cells rest cs:List Int} {it:GItem} {its:List GItem} (h1:g_impl_parseOne cells=some it) (h2:g_impl_CellsOf it=some cs) (h3:1<=cs.length) (h4:cells=cs++rest) (h5:Parses rest its):Parses cells (it::its)
theorem parses_ex:∀ (n:Nat) (cells:List Int),cells.length<=n->U32 cells->cells.length<=64->∃ its,Parses cells its:=by
 intro n
 induction n with
 | zero=>intro cells h _ _;cases cells with
  | nil=>exact ⟨[], .nil⟩
  | cons v tl=>simp at h
 | succ n ih =>
  intro cells h hu hl
  cases cells with
  | nil=>exact ⟨[], .nil⟩
  | cons v tl =>
   obtain ⟨it,cs,h1,h2,h3,h4,⟨rest,h5⟩,_⟩:=parse_ok hu hl
   have hlen:(v::tl).length=cs.length+rest.length:=by rw[h5,List.length_append]
   obtain ⟨its,h6⟩:=ih rest (by omega) (λ x hx=>hu x (by rw[h5];exact List.mem_append_right _ hx)) (by omega)
   exact ⟨it::its, .cons h1 h2 h4 h5 h6⟩
theorem Parses.len {cells:List Int} {its:List GItem} (h:Parses cells its):its.length<=cells.length:=by
 induction h with
 | nil=>exact Nat.le_refl _
 | cons h1 h2 h3 h4 h5 ih=>rw[h4,List.length_append,List.length_cons];omega
theorem parse_l0:∀ (k:Nat) (cells:List Int) (out its:List GItem),Parses cells its->cells.length < k->out.length+cells.length<=64->g_impl_ParseCells_l0 k cells out=some (out++its):=by
 intro k
 induction k with
 | zero=>intro cells out its hp h;omega
 | succ k ih =>
  intro cells out its hp h hl
  unfold g_impl_ParseCells_l0
  cases hp with
  | nil=>simp
  | cons h1 h2 h3 h4 h5 =>
   rename_i rest cs it its'
   have hlen:cells.length=cs.length+rest.length:=by rw[h4,List.length_append]
   rw[decide_eq_true (by omega),cond_true,h1,Option.bind_some,app_eq (by simp;omega),Option.bind_some,h2,Option.bind_some,subL_drop (by omega) (by omega),Option.bind_some]
   have hd:cells.drop ((cs.length:Int)).toNat=rest:=by rw[h4,Int.toNat_natCast,List.drop_left]
   rw[hd,ih rest _ _ h5 (by omega) (by simp;omega),List.append_assoc]
   rfl
def rz:GItem:=raw 0
theorem isRz (v:GItem):((v.Kind:Int)==0&&((v.Name:Bs)==[]&&((v.N:Int)==0&&((v.Hex:Bool)==false&&((v.Raw:Int)==0&&true)))))=decide (v=rz):=by
 obtain ⟨a,b,c,d,e⟩:=v
 rw[Bool.eq_iff_iff]
 simp[rz,raw]
theorem strip_l1:∀ (k:Nat) (out:List GItem),out.length < k->out.length<=64->∃ its z,out=its++List.replicate z rz/\(∀ x,its≠x++[rz])/\g_impl_ParseCells_l1 k out ((out.length:Int)-1)=some its:=by
 intro k
 induction k with
 | zero=>intro out h;omega
 | succ k ih =>
  intro out h hl
  unfold g_impl_ParseCells_l1
  rcases List.eq_nil_or_concat out with rfl|⟨xs,x,rfl⟩
  ·exact ⟨[],0,rfl,by simp,rfl⟩
  ·simp only[List.concat_eq_append]at *
   have hlen:(xs++[x]).length=xs.length+1:=by simp
   rw[decide_eq_true (by omega),cond_true,show (((xs++[x]).length:Nat):Int)-1=((xs.length:Nat):Int) by omega,getI_nat,List.getElem?_concat_length]
   simp only[Option.bind_some,isRz]
   by_cases hx:x=rz
   ·rw[decide_eq_true hx,cond_true,subL_take (by omega) (by omega),Option.bind_some,Int.toNat_natCast,List.take_left,wI64 (by omega) (by omega)]
    obtain ⟨its,z,h1,h2,h3⟩:=ih xs (by omega) (by omega)
    refine ⟨its,z+1,?_,h2,h3⟩
    rw[hx,h1,List.append_assoc,<-List.replicate_succ']
   ·rw[decide_eq_false hx,cond_false]
    refine ⟨xs++[x],0,by simp,λ y hy=>hx ?_,rfl⟩
    have:=List.append_inj' hy rfl
    simpa using this.2
theorem parses_zero:∀ (z:Nat) (cells:List Int),Parses cells (List.replicate z rz)->cells=List.replicate z 0
 | 0,cells,h=>by cases h;rfl
 | z+1,cells,h=>by
  rw[List.replicate_succ]at h
  cases h with
  | cons h1 h2 h3 h4 h5 =>
   have:g_impl_CellsOf rz=some [0]:=cells_raw
   rw[this]at h2
   cases h2
   rw[h4,parses_zero z _ h5,List.replicate_succ];rfl
theorem parses_cut:∀ (its:List GItem) (z:Nat) (cells:List Int),U32 cells->cells.length<=64->Parses cells (its++List.replicate z rz)->∃ cells',cells=cells'++List.replicate z 0/\Parses cells' its
 | [],z,cells,_,_,h=>⟨[],parses_zero z cells h, .nil⟩
 | it::its,z,cells,hu,hl,h=>by
  rw[List.cons_append]at h
  cases h with
  | cons h1 h2 h3 h4 h5 =>
   rename_i rest cs
   have hlen:cells.length=cs.length+rest.length:=by rw[h4,List.length_append]
   obtain ⟨rest',e1,e2⟩:=parses_cut its z rest (λ x hx=>hu x (by rw[h4];exact List.mem_append_right _ hx)) (by omega) h5
   match cs,h3 with
   | v::ct,_ =>
    have hc:cells=v::(ct++rest):=h4
    rw[hc]at hu hl h1
    obtain ⟨it1,cs1,g1,g2,_,_,_,g6⟩:=parse_ok hu hl
    rw[h1]at g1
    cases g1
    rw[h2]at g2
    cases g2
    refine ⟨(v::ct)++rest',by rw[h4,e1,List.append_assoc], .cons (g6 (ct++rest') z (by rw[e1,List.append_assoc]) (by simp)) h2 (by simp) rfl e2⟩
theorem parseCells_ok {cells:List Int} (hu:U32 cells) (hl:cells.length<=64):∃ its cells' z,g_impl_ParseCells cells=some its/\cells=cells'++List.replicate z 0/\Parses cells' its/\(∀ x,its≠x++[rz]):=by
 obtain ⟨all,hp⟩:=parses_ex _ cells (Nat.le_refl _) hu hl
 have hlen:=hp.len
 obtain ⟨its,z,h1,h2,h3⟩:=strip_l1 bigK all (by unfold bigK;omega) (by omega)
 have hp2:=hp
 rw[h1]at hp2
 obtain ⟨cells',e1,e2⟩:=parses_cut its z cells hu hl hp2
 refine ⟨its,cells',z,?_,e1,e2,h2⟩
 unfold g_impl_ParseCells
 rw[decide_eq_false (by omega),cond_false,parse_l0 bigK cells [] all hp (by unfold bigK;omega) (by simpa using hl),Option.bind_some,List.nil_append,wI64 (by omega) (by omega),h3]
 rfl
theorem parseCells_same {cells:List Int} {its:List GItem} (hl:cells.length<=64) (hp:Parses cells its) (hn:∀ x,its≠x++[rz]):g_impl_ParseCells cells=some its:=by
 have hlen:=hp.len
 obtain ⟨its',z,h1,h2,h3⟩:=strip_l1 bigK its (by unfold bigK;omega) (by omega)
 have hz:z=0:=by
  cases z with
  | zero=>rfl
  | succ z =>
   rw[List.replicate_succ',<-List.append_assoc]at h1
   exact absurd h1 (hn _)
 subst hz
 simp only[List.replicate_zero,List.append_nil]at h1
 subst h1
 unfold g_impl_ParseCells
 rw[decide_eq_false (by omega),cond_false,parse_l0 bigK cells [] its hp (by unfold bigK;omega) (by simpa using hl),Option.bind_some,List.nil_append,wI64 (by omega) (by omega),h3]
 rfl
end Go.Proofs.YtgfamepnkhpemaaGreatDoor
namespace Go.Proofs.YtgfamepnkhpemaaGreatDoor
open Go Go.Fm
theorem letterOf_all:(List.range 256).all (λ b=>g_spec_LetterOf (b:Int)==g_impl_LetterOf (b:Int))=true:=by kernel_rfl
theorem letterOf_eq {b:Int} (h0:0<=b) (h1:b < 256):g_spec_LetterOf b=g_impl_LetterOf b:=by
 have h:=List.all_eq_true.1 letterOf_all b.toNat (List.mem_range.2 (by omega))
 rw[Int.toNat_of_nonneg h0]at h
 exact eq_of_beq h
theorem width_eq {k:Int}:g_spec_WidthOf k=g_impl_WidthOf k:=by
 unfold g_spec_WidthOf g_impl_WidthOf;simp only[specIn_eq,within_eq,Option.bind_some]
theorem letterAt_eq {k:Int}:g_spec_LetterAt k=g_impl_LetterAt k:=by
 unfold g_spec_LetterAt g_impl_LetterAt;simp only[specIn_eq,within_eq,Option.bind_some];rfl
theorem bits_all:(List.range 49).all (λ b=>g_spec_BitsOf ((b:Int)-1)==g_impl_BitsOf ((b:Int)-1))=true:=by kernel_rfl
theorem bits_eq {k:Int} (h0 : -1<=k) (h1:k<=47):g_spec_BitsOf k=g_impl_BitsOf k:=by
 have h:=List.all_eq_true.1 bits_all (k+1).toNat (List.mem_range.2 (by omega))
 rw[Int.toNat_of_nonneg (by omega),show k+1-1=k by omega]at h
 exact eq_of_beq h
theorem wb_all:(List.range 48).all (λ b=>match g_impl_WidthOf (b:Int),g_impl_BitsOf (b:Int) with|some w,some c=>decide (4<=w/\w<=7/\0<=c/\c < 2 ^ w.toNat)|_,_=>false)=true:=by kernel_rfl
theorem wb {k:Int} (h0:0<=k) (h1:k<=47):∃ w c,g_impl_WidthOf k=some w/\g_impl_BitsOf k=some c/\4<=w/\w<=7/\0<=c/\c < 2 ^ w.toNat:=by
 have h:=List.all_eq_true.1 wb_all k.toNat (List.mem_range.2 (by omega))
 rw[Int.toNat_of_nonneg h0]at h
 split at h
 ·rename_i w c hw hc;exact ⟨w,c,hw,hc,of_decide_eq_true h⟩
 ·cases h
theorem pw (n:Nat):(0:Int) < 2 ^ n:=Int.pow_pos (by decide)
theorem pwN (n:Nat):((2 ^ n:Nat):Int)=(2:Int) ^ n:=by simp
theorem pw_le {a b:Nat} (h:a<=b):(2:Int) ^ a<=2 ^ b:=by
 have:=Nat.pow_le_pow_right (n:=2) (by decide) h
 rw[<-pwN,<-pwN];omega
theorem shl_eq {k:IntKind} {a n:Int} (h0:0<=n) (h1:n<=32) (hk:32<=k.bits):shlI k a n=some (k.wrap (a*2 ^ n.toNat)):=by
 unfold shlI
 rw[if_pos h0,show min n.toNat k.bits=n.toNat by omega]
theorem shr_eq {k:IntKind} {a n:Int} (h0:0<=n) (h1:n<=32) (hk:32<=k.bits):shrI k a n=some (a / 2 ^ n.toNat):=by
 unfold shrI
 rw[if_pos h0,show min n.toNat k.bits=n.toNat by omega]
theorem shl64 {n:Int} (h0:0<=n) (h1:n<=32):shlI .i64 1 n=some (2 ^ n.toNat):=by
 rw[shl_eq h0 h1 (by decide),Int.one_mul,wI64]
 ·have:=pw n.toNat;omega
 ·have:=pw_le (a:=n.toNat) (b:=32) (by omega);omega
theorem shl32 {n:Int} (h0:0<=n) (h1:n<=31):shlI .u32 1 n=some (2 ^ n.toNat):=by
 rw[shl_eq h0 (by omega) (by decide),Int.one_mul,wU32]
 ·have:=pw n.toNat;omega
 ·have:=pw_le (a:=n.toNat) (b:=31) (by omega);omega
theorem and_mask {k:IntKind} {a:Int} {n:Nat} (h0:0<=a) (h1:a < 2 ^ k.bits) (hn:n < k.bits):andI k a (2 ^ n-1)=a % 2 ^ n:=by
 unfold andI
 have hp:=pw n
 have hb:(2:Int) ^ n-1 < 2 ^ k.bits:=by have:=pw_le (a:=n) (b:=k.bits) (by omega);omega
 rw[BitVec.toNat_and,bB_toNat h0 h1,bB_toNat (by omega) hb]
 have e:((2:Int) ^ n-1).toNat=2 ^ n-1:=by rw[<-pwN];omega
 rw[e,Nat.and_two_pow_sub_one_eq_mod,Go.Fm.wrap_small]
 ·rw[Int.natCast_emod,pwN,Int.toNat_of_nonneg h0]
 ·refine Nat.lt_of_lt_of_le (Nat.mod_lt _ (Nat.two_pow_pos n)) (Nat.pow_le_pow_right (by decide) (by omega))
theorem div_mod {f:Int} {n w:Nat} (h0:0<=f) (hw:w<=n):f % 2 ^ n / 2 ^ (n-w)=f / 2 ^ (n-w) % 2 ^ w:=by
 obtain ⟨F,rfl⟩:=Int.eq_ofNat_of_zero_le h0
 have e:2 ^ n=2 ^ (n-w)*2 ^ w:=by rw[<-Nat.pow_add];congr 1;omega
 have:=Nat.mod_mul_right_div_self F (2 ^ (n-w)) (2 ^ w)
 rw[<-e]at this
 simp only[<-pwN,Int.ofNat_eq_natCast,<-Int.natCast_emod,<-Int.natCast_ediv]
 rw[this]
theorem decode_l0_eq {f n:Int} (h0:0<=f) (h1:f < 4294967296) (n0:1<=n) (n1:n<=32):∀ (k:Nat) (i:Int),0<=i->i<=48->g_spec_Decode_l0 f n k i=g_impl_Decode_l0 f n k i:=by
 intro k
 induction k with
 | zero=>intro i _ _;rfl
 | succ k ih =>
  intro i i0 i1
  unfold g_spec_Decode_l0 g_impl_Decode_l0
  by_cases hi:i < 48
  ·obtain ⟨w,c,hw,hc,w0,w1,c0,c1⟩:=wb i0 (by omega)
   have hx:=ih (i+1) (by omega) (by omega)
   rw[decide_eq_true hi,width_eq,hw,bits_eq (by omega) (by omega),hc]
   simp only[cond_true,Option.bind_some]
   rw[wI64 (x:=i+1) (by omega) (by omega),hx]
   by_cases hn:w<=n
   ·have c2:(2:Int) ^ w.toNat<=2 ^ 7:=pw_le (by omega)
    have pn:=pw n.toNat
    have pw':=pw w.toNat
    have pn2:(2:Int) ^ n.toNat<=2 ^ 32:=pw_le (by omega)
    rw[decide_eq_true hn,decide_eq_false (p:=w > n) (by omega),wU64 (x:=n) (by omega) (by omega),wI64 (x:=f) (by omega) (by omega),wI64 (x:=n-w) (by omega) (by omega),wU64 (x:=n-w) (by omega) (by omega),shl64 (by omega) (by omega),
     shl32 (by omega) (by omega),shr_eq (by omega) (by omega) (by decide),wI64 (x:=c) (by omega) (by omega)]
    simp only[cond_true,cond_false,Option.bind_some]
    rw[wI64 (x:=2 ^ n.toNat-1) (by omega) (by omega),wU32 (x:=2 ^ w.toNat-1) (by omega) (by omega),shr_eq (by omega) (by omega) (by decide)]
    simp only[Option.bind_some]
    have hq:f / 2 ^ (n-w).toNat < 4294967296:=Int.lt_of_le_of_lt (Int.ediv_le_self _ h0) h1
    rw[and_mask (k:=.i64) h0 (show f < 2 ^ 64 by omega) (show n.toNat < 64 by omega),and_mask (k:=.u32) (Int.ediv_nonneg h0 (Int.le_of_lt (pw _))) (show f / 2 ^ (n-w).toNat < 2 ^ 32 by omega) (show w.toNat < 32 by omega),
     show (n-w).toNat=n.toNat-w.toNat by omega,div_mod h0 (by omega)]
    cases f / 2 ^ (n.toNat-w.toNat) % 2 ^ w.toNat==c<;>rfl
   ·rw[decide_eq_false hn,decide_eq_true (p:=w > n) (by omega)]
    rfl
  ·rw[decide_eq_false hi];rfl
theorem decode_eq {f n:Int} (h0:0<=f) (h1:f < 4294967296):g_spec_Decode f n=g_impl_Decode f n:=by
 unfold g_spec_Decode g_impl_Decode
 rw[specIn_eq,within_eq]
 simp only[Option.bind_some]
 by_cases h:1<=n/\n<=32
 ·rw[decode_l0_eq h0 h1 h.1 h.2 _ _ (by decide) (by decide)]
 ·rw[decide_eq_false h];rfl
theorem unpackOne_l0_eq {f:Int} (h0:0<=f) (h1:f < 4294967296):∀ (k:Nat) (out:List Int) (left:Int),0<=left->left<=28->g_spec_UnpackOne_l0 f k out left=g_impl_UnpackOne_l0 f k out left:=by
 intro k
 induction k with
 | zero=>intro out left _ _;rfl
 | succ k ih =>
  intro out left l0 l1
  unfold g_spec_UnpackOne_l0 g_impl_UnpackOne_l0
  have p1:=pw left.toNat
  have p2:(2:Int) ^ left.toNat<=2 ^ 28:=pw_le (by omega)
  rw[wU64 (x:=left) (by omega) (by omega),wI64 (x:=f) (by omega) (by omega),shl64 (by omega) (by omega),shl32 (by omega) (by omega)]
  simp only[Option.bind_some]
  rw[wI64 (x:=2 ^ left.toNat-1) (by omega) (by omega),wU32 (x:=2 ^ left.toNat-1) (by omega) (by omega),and_mask (k:=.i64) h0 (show f < 2 ^ 64 by omega) (show left.toNat < 64 by omega),and_mask (k:=.u32) h0 (show f < 2 ^ 32 by omega) (show left.toNat < 32 by omega)]
  have e:(cond (decide (left > 0)) (some (f % 2 ^ left.toNat != 0)) (some false):Option Bool)=some (f % 2 ^ left.toNat != 0):=by
   by_cases hl:left > 0
   ·rw[decide_eq_true hl];rfl
   ·have:left=0:=by omega
    subst this
    simp
  rw[e]
  simp only[Option.bind_some]
  cases f % 2 ^ left.toNat != 0 with
  | false=>rfl
  | true =>
   simp only[cond_true]
   rw[decode_eq h0 h1]
   obtain ⟨d,hd,_,d2⟩:=decode_ok (f:=f) (n:=left)
   rw[hd]
   simp only[Option.bind_some]
   by_cases hc:d.1 < 1
   ·rw[decide_eq_true hc];rfl
   ·rw[decide_eq_false hc,letterAt_eq]
    obtain ⟨v,hv,_⟩:=letterAt_ok (k:=d.1)
    have:=d2 (by omega)
    rw[hv]
    simp only[cond_false,Option.bind_some]
    cases app out [v] with
    | none=>rfl
    | some o =>
     simp only[Option.bind_some]
     rw[wI64 (x:=left-d.2) (by omega) (by omega)]
     exact ih _ _ (by omega) (by omega)
theorem unpackOne_eq {f:Int} (h0:0<=f) (h1:f < 4294967296):g_spec_UnpackOne f=g_impl_UnpackOne f:=by
 unfold g_spec_UnpackOne g_impl_UnpackOne
 rw[wI64 (x:=f) (by omega) (by omega),unpackOne_l0_eq h0 h1 _ _ _ (by decide) (by decide)]
def good (b:UInt8):Bool:=match g_impl_LetterOf (b.toNat:Int) with|some k=>decide (1<=k)|none=>false
theorem good_of {b:UInt8} {k:Int} (h:g_impl_LetterOf (b.toNat:Int)=some k):good b=decide (1<=k):=by unfold good;rw[h]
theorem idxS_nat {s:List UInt8} {n:Nat} (h:n < s.length):idxS s (n:Int)=some ((s[n].toNat:Nat):Int):=by
 unfold idxS
 rw[if_pos ⟨by omega,by omega⟩,Int.toNat_natCast,List.getD_eq_getElem?_getD,List.getElem?_eq_getElem h]
 rfl
theorem specNameOk_l0 {s:Bs} (hs:s.length<=1048576):∀ (k n:Nat),n<=s.length->s.length-n < k->g_spec_NameOk_l0 s k n=some (if (s.drop n).all good then .inl () else .inr false):=by
 intro k
 induction k with
 | zero=>intro n h0 h1;omega
 | succ k ih =>
  intro n h0 h1
  unfold g_spec_NameOk_l0
  by_cases hn:n < s.length
  ·have hb:=UInt8.toNat_lt s[n]
   obtain ⟨x,hx,x0,x1⟩:=letterOf_ok (b:=(s[n].toNat:Int)) (by omega) (by omega)
   rw[decide_eq_true (by omega),idxS_nat hn,List.drop_eq_getElem_cons hn,List.all_cons,good_of hx]
   simp only[cond_true,Option.bind_some,letterOf_eq (b:=(s[n].toNat:Int)) (by omega) (by omega),hx]
   by_cases hc:x < 1
   ·rw[decide_eq_true hc,decide_eq_false (p:=1<=x) (by omega)];rfl
   ·rw[decide_eq_false hc,decide_eq_true (p:=1<=x) (by omega),cond_false,wI64 (by omega) (by omega),show ((n:Int)+1)=((n+1:Nat):Int) by omega,ih (n+1) (by omega) (by omega),Bool.true_and]
  ·rw[decide_eq_false (by omega),List.drop_eq_nil_of_le (by omega)];rfl
theorem implNameOk_l0 {s:Bs} (hs:s.length<=1048576):∀ (k n:Nat),n<=s.length->s.length-n < k->g_impl_NameOk_l0 s (s.length:Int) k n=some (if (s.drop n).all good then .inl () else .inr false):=by
 intro k
 induction k with
 | zero=>intro n h0 h1;omega
 | succ k ih =>
  intro n h0 h1
  unfold g_impl_NameOk_l0
  by_cases hn:n < s.length
  ·have hb:=UInt8.toNat_lt s[n]
   obtain ⟨x,hx,x0,x1⟩:=letterOf_ok (b:=(s[n].toNat:Int)) (by omega) (by omega)
   rw[decide_eq_true (by omega),idxS_nat hn,List.drop_eq_getElem_cons hn,List.all_cons,good_of hx]
   simp only[cond_true,Option.bind_some,hx]
   by_cases hc:x < 1
   ·rw[decide_eq_true hc,decide_eq_false (p:=1<=x) (by omega)];rfl
   ·rw[decide_eq_false hc,decide_eq_true (p:=1<=x) (by omega),cond_false,wI64 (by omega) (by omega),show ((n:Int)+1)=((n+1:Nat):Int) by omega,ih (n+1) (by omega) (by omega),Bool.true_and]
  ·rw[decide_eq_false (by omega),List.drop_eq_nil_of_le (by omega)];rfl
def named (s:Bs):Bool:=s.all good&&decide (1<=s.length/\s.length<=24)
theorem implNameOk {s:Bs} (hs:s.length<=1048576):g_impl_NameOk s=some (named s):=by
 unfold g_impl_NameOk named
 have h:=implNameOk_l0 hs bigK 0 (Nat.zero_le _) (by unfold bigK;omega)
 rw[show ((0:Nat):Int)=0 from rfl]at h
 rw[h,List.drop_zero,within_eq]
 cases s.all good with
 | false=>rfl
 | true =>
  simp only[if_true,Option.bind_some,Bool.true_and]
  congr 1
  exact decide_eq_decide.2 (by omega)
theorem specNameOk {s:Bs} (hs:s.length<=1048576):g_spec_NameOk s=some (named s):=by
 unfold g_spec_NameOk named
 have h:=specNameOk_l0 hs bigK 0 (Nat.zero_le _) (by unfold bigK;omega)
 rw[show ((0:Nat):Int)=0 from rfl]at h
 rw[h,List.drop_zero,specIn_eq]
 have e:decide ((1:Int)<=s.length/\(s.length:Int)<=24)=decide (1<=s.length/\s.length<=24):=decide_eq_decide.2 (by omega)
 rw[e]
 cases decide (1<=s.length/\s.length<=24)<;>cases s.all good<;>rfl
theorem packOne_l0_eq {s:Bs} (hg:s.all good=true) (hs:s.length<=24):∀ (k:Nat) (q:Nat) (left n:Nat),n<=s.length->left<=28->q < 2 ^ (28-left) →
  g_spec_l03One_l0 s k ((2 ^ left*q:Nat):Int) left n=g_impl_PackOne_l0 s (s.length:Int) k ((2 ^ left*q:Nat):Int) left n n:=by
 intro k
 induction k with
 | zero=>intro q left n _ _ _;rfl
 | succ k ih =>
  intro q left n h0 h1 h2
  unfold g_spec_l03One_l0 g_impl_PackOne_l0
  by_cases hn:n < s.length
  ·have hb:=UInt8.toNat_lt s[n]
   obtain ⟨x,hx,x0,x1⟩:=letterOf_ok (b:=(s[n].toNat:Int)) (by omega) (by omega)
   have hgn:good s[n]=true:=List.all_eq_true.1 hg _ (List.getElem_mem hn)
   rw[good_of hx]at hgn
   have hx1:1<=x:=of_decide_eq_true hgn
   obtain ⟨w,c,hw,hc,w0,w1,c0,c1⟩:=wb (k:=x) (by omega) x1
   rw[decide_eq_true (by omega),idxS_nat hn]
   simp only[cond_true,Option.bind_some,letterOf_eq (b:=(s[n].toNat:Int)) (by omega) (by omega),hx,width_eq,hw,bits_eq (show -1<=x by omega) x1,hc]
   by_cases hl:w > (left:Int)
   ·rw[decide_eq_true hl];rfl
   ·rw[decide_eq_false hl]
    obtain ⟨W,rfl⟩:=Int.eq_ofNat_of_zero_le (show 0<=w by omega)
    obtain ⟨c',rfl⟩:=Int.eq_ofNat_of_zero_le c0
    simp only[Int.ofNat_eq_natCast,Int.toNat_natCast]at *
    have hWl:W<=left:=by omega
    have hc7:c' < 2 ^ W:=by rw[<-pwN]at c1;omega
    have p7:2 ^ W<=2 ^ 7:=Nat.pow_le_pow_right (by decide) (by omega)
    have eL:(left:Int)-(W:Int)=((left-W:Nat):Int):=by omega
    have hN:(c':Int)*2 ^ (left-W)=((c'*2 ^ (left-W):Nat):Int):=by rw[<-pwN,Int.natCast_mul]
    have e1:2 ^ left=2 ^ (left-W)*2 ^ W:=by rw[<-Nat.pow_add,show left-W+W=left by omega]
    have hlt:c'*2 ^ (left-W) < 2 ^ left:=by
     rw[e1,Nat.mul_comm (2 ^ (left-W))]
     exact Nat.mul_lt_mul_of_pos_right hc7 (Nat.two_pow_pos _)
    have p28:2 ^ left<=2 ^ 28:=Nat.pow_le_pow_right (by decide) h1
    have hf:2 ^ left*q < 2 ^ 28:=by
     have:2 ^ 28=2 ^ left*2 ^ (28-left):=by rw[<-Nat.pow_add,show left+(28-left)=28 by omega]
     rw[this]
     exact Nat.mul_lt_mul_of_pos_left h2 (Nat.two_pow_pos _)
    have hor:orI .u32 ((2 ^ left*q:Nat):Int) ((c'*2 ^ (left-W):Nat):Int)=((2 ^ left*q+c'*2 ^ (left-W):Nat):Int):=by
     rw[orU (by omega) (by omega) (by omega) (by omega),Int.toNat_natCast,Int.toNat_natCast,or_low left hlt]
    have hnew:2 ^ left*q+c'*2 ^ (left-W)=2 ^ (left-W)*(2 ^ W*q+c'):=by
     rw[e1,Nat.mul_add,Nat.mul_assoc,Nat.mul_comm c']
    have hq:2 ^ W*q+c' < 2 ^ (28-(left-W)):=by
     have e2:2 ^ (28-(left-W))=2 ^ W*2 ^ (28-left):=by rw[<-Nat.pow_add,show W+(28-left)=28-(left-W) by omega]
     rw[e2]
     calc 2 ^ W*q+c' < 2 ^ W*q+2 ^ W:=by omega
      _=2 ^ W*(q+1):=by rw[Nat.mul_add,Nat.mul_one]
      _<=2 ^ W*2 ^ (28-left):=Nat.mul_le_mul_left _ h2
    have hsum:((2 ^ left*q:Nat):Int)+((c'*2 ^ (left-W):Nat):Int)=((2 ^ (left-W)*(2 ^ W*q+c'):Nat):Int):=by rw[<-hnew];omega
    have hbd:2 ^ (left-W)*(2 ^ W*q+c') < 2 ^ 29:=by rw[<-hnew];omega
    rw[eL,wI64 (x:=((left-W:Nat):Int)) (by omega) (by omega),wU64 (x:=((left-W:Nat):Int)) (by omega) (by omega),shl_eq (by omega) (by omega) (by decide),shl_eq (by omega) (by omega) (by decide),wI64 (x:=(c':Int)) (by omega) (by omega)]
    simp only[Int.toNat_natCast,hN,cond_false,Option.bind_some]
    rw[wI64 (x:=((c'*2 ^ (left-W):Nat):Int)) (by omega) (by omega),wU32 (x:=((c'*2 ^ (left-W):Nat):Int)) (by omega) (by omega),hor,hsum,hnew,wI64 (by omega) (by omega),wI64 (by omega) (by omega),show ((n:Int)+1)=((n+1:Nat):Int) by omega]
    exact ih _ _ _ (by omega) (by omega) hq
  ·rw[decide_eq_false (by omega)];rfl
theorem named_len {s:Bs} (h:named s=true):s.all good=true/\1<=s.length/\s.length<=24:=by
 unfold named at h
 rw[Bool.and_eq_true]at h
 exact ⟨h.1,of_decide_eq_true h.2⟩
theorem packOne_eq {s:Bs} (h:named s=true):g_spec_l03One s=g_impl_PackOne s:=by
 obtain ⟨hg,_,hl⟩:=named_len h
 have hp:=packOne_ok (s:=s) (by omega)
 unfold g_impl_PackOne at hp ⊢
 unfold g_spec_l03One
 rw[implNameOk (by omega),h]at hp ⊢
 have e:=packOne_l0_eq hg hl bigK 0 28 0 (Nat.zero_le _) (by decide) (by decide)
 simp only[Nat.mul_zero,Int.natCast_zero]at e
 have e':g_spec_l03One_l0 s bigK 0 28 0=g_impl_PackOne_l0 s (s.length:Int) bigK 0 28 0 0:=e
 rw[e']
 simp only[Option.bind_some,Bool.not_true,cond_false]at hp ⊢
 obtain ⟨r,hr,hb,_⟩:=hp
 cases hq:g_impl_PackOne_l0 s (s.length:Int) bigK 0 28 0 0 with
 | none=>rw[hq]at hr;cases hr
 | some p =>
  rw[hq]at hr
  simp only[Option.bind_some,Option.some.injEq]at hr ⊢
  subst hr
  rw[wU32 hb.1 hb.2]
theorem all_drop {s:Bs} (h:s.all good=true) (n:Nat):(s.drop n).all good=true :=
 List.all_eq_true.2 λ x hx=>List.all_eq_true.1 h x (List.mem_of_mem_drop hx)
theorem pack_l0_eq:∀ (k:Nat) (s:Bs) (out:List Int),s.all good=true->s.length<=24->g_spec_Pack_l0 k s out=g_impl_Pack_l0 k s out:=by
 intro k
 induction k with
 | zero=>intro s out _ _;rfl
 | succ k ih =>
  intro s out hg hl
  unfold g_spec_Pack_l0 g_impl_Pack_l0
  rw[implNameOk (by omega)]
  cases hn:named s with
  | false =>
   have:s=[]:=by
    unfold named at hn
    rw[hg,Bool.true_and]at hn
    have:=of_decide_eq_false hn
    exact List.eq_nil_of_length_eq_zero (by omega)
   subst this
   rfl
  | true =>
   have h1:=named_len hn
   have:(s != [])=true:=by
    cases s with
    | nil=>simp at h1
    | cons _ _=>rfl
   rw[this,packOne_eq hn]
   simp only[cond_true,Option.bind_some]
   obtain ⟨r,hr,_,r0,r1,_⟩:=packOne_ok (s:=s) (by omega)
   rw[hr]
   simp only[Option.bind_some]
   cases app out [r.1] with
   | none=>rfl
   | some o =>
    simp only[Option.bind_some]
    rw[subL_drop r0 r1]
    simp only[Option.bind_some]
    exact ih _ _ (all_drop hg _) (by rw[List.length_drop];omega)
theorem pack_eq {s:Bs} (hs:s.length<=1048576):g_spec_Pack s=g_impl_Pack s:=by
 unfold g_spec_Pack g_impl_Pack
 rw[specNameOk hs]
 cases hn:named s with
 | false =>
  simp only[Option.bind_some,Bool.not_false,cond_true]
  rw[show bigK=18446744073709551615+1 from rfl]
  unfold g_impl_Pack_l0
  rw[implNameOk hs,hn]
  rfl
 | true =>
  have h1:=named_len hn
  simp only[Option.bind_some,Bool.not_true,cond_false]
  rw[pack_l0_eq _ _ _ h1.1 h1.2.2]
theorem same_l0 {a b:List Int} (hl:a.length=b.length) (hm:a.length<=1048576):∀ (k n:Nat),n<=a.length->a.length-n < k →
  g_spec_l03Same_l0 a b k n=some (if a.drop n=b.drop n then .inl () else .inr false):=by
 intro k
 induction k with
 | zero=>intro n h0 h1;omega
 | succ k ih =>
  intro n h0 h1
  unfold g_spec_l03Same_l0
  by_cases hn:n < a.length
  ·have hn':n < b.length:=by omega
   rw[decide_eq_true (by omega),getI_nat,getI_nat,List.getElem?_eq_getElem hn,List.getElem?_eq_getElem hn',List.drop_eq_getElem_cons hn,List.drop_eq_getElem_cons hn']
   simp only[cond_true,Option.bind_some]
   by_cases he:a[n]=b[n]
   ·have:(a[n] != b[n])=false:=by rw[he];simp
    rw[this,cond_false,wI64 (by omega) (by omega),show ((n:Int)+1)=((n+1:Nat):Int) by omega,ih (n+1) (by omega) (by omega),he]
    simp only[List.cons.injEq,true_and]
   ·have:(a[n] != b[n])=true:=by simpa using he
    rw[this,cond_true,if_neg (λ h=>he (List.cons.inj h).1)]
  ·rw[decide_eq_false (by omega),cond_false,List.drop_eq_nil_of_le (by omega),List.drop_eq_nil_of_le (by omega),if_pos rfl]
theorem same_eq {a b:List Int} (hm:a.length<=1048576):g_spec_l03Same a b=some (decide (a=b)):=by
 unfold g_spec_l03Same
 by_cases hl:a.length=b.length
 ·have:((a.length:Int) != (b.length:Int))=false:=by rw[hl];simp
  rw[this,cond_false]
  have h:=same_l0 hl hm bigK 0 (Nat.zero_le _) (by unfold bigK;omega)
  rw[show ((0:Nat):Int)=0 from rfl]at h
  rw[h]
  by_cases he:a=b
  ·simp[he]
  ·simp[he]
 ·have:((a.length:Int) != (b.length:Int))=true:=by simp;omega
  rw[this,cond_true,decide_eq_false (λ h=>hl (by rw[h]))]
end Go.Proofs.YtgfamepnkhpemaaGreatDoor
namespace Go.Proofs.YtgfamepnkhpemaaGreatDoor
open Go Go.Fm
theorem unpack_l0_eq {l:List Int} (hu:U32 l) (hl:l.length<=1048576):∀ (k:Nat) (name:Bs) (n:Nat),n<=l.length->g_spec_Unpack_l0 l k name n=g_impl_Unpack_l0 l (l.length:Int) k name n:=by
 intro k
 induction k with
 | zero=>intro name n _;rfl
 | succ k ih =>
  intro name n h0
  unfold g_spec_Unpack_l0 g_impl_Unpack_l0
  by_cases hn:n < l.length
  ·have hb:=hu l[n] (List.getElem_mem hn)
   rw[decide_eq_true (by omega),getI_nat,List.getElem?_eq_getElem hn,cond_true,cond_true,Option.bind_some,Option.bind_some,unpackOne_eq hb.1 hb.2]
   obtain ⟨s,hs,_⟩:=unpackOne_ok (f:=l[n])
   rw[hs,Option.bind_some,Option.bind_some]
   cases catS name s with
   | none=>rfl
   | some o=>rw[Option.bind_some,Option.bind_some,wI64 (by omega) (by omega),show ((n:Int)+1)=((n+1:Nat):Int) by omega];exact ih _ _ (by omega)
  ·rw[decide_eq_false (by omega)];rfl
theorem unpack_eq {l:List Int} (hu:U32 l):g_spec_Unpack l=g_impl_Unpack l:=by
 unfold g_impl_Unpack
 unfold g_spec_Unpack
 by_cases hl:(l.length:Int) > 24
 ·rw[decide_eq_true hl,cond_true,cond_true]
 ·rw[decide_eq_false hl]
  simp only[cond_false]
  have hE:=unpack_l0_eq hu (by omega) bigK [] 0 (Nat.zero_le _)
  rw[Int.natCast_zero]at hE
  rw[hE]
  have key:∀ (k:Nat) (name:Bs) (i:Int),0<=i->i<=l.length->(name.length:Int)<=7*i->l.length-i < k->Tot (g_impl_Unpack_l0 l (l.length:Int) k name i) λ r=>r.length<=168:=by
   intro k
   induction k with
   | zero=>intro name i h0 h1 h2 h3;omega
   | succ k ih =>
    intro name i h0 h1 h2 h3
    unfold g_impl_Unpack_l0
    refine .condD (λ hi => ?_) λ _=>.some (by omega)
    obtain ⟨v,hv,_⟩:=getI_ex h0 hi
    refine .bindE hv (.bind unpackOne_ok λ s hs=>.bindE (catS_eq (by omega)) ?_)
    rw[wI64 (x:=i+1) (by omega) (by omega)]
    exact ih _ _ (by omega) (by omega) (by rw[List.length_append];omega) (by omega)
  obtain ⟨nm,hnm,hnl⟩:=key bigK [] 0 (by decide) (by omega) (by decide) (by unfold bigK;omega)
  rw[hnm]
  simp only[Option.bind_some]
  rw[specNameOk (by omega),implNameOk (by omega),pack_eq (by omega)]
  obtain ⟨p,hp,_,hpl⟩:=pack_ok (s:=nm) (by omega)
  rw[hp]
  simp only[Option.bind_some]
  rw[same_eq (by omega),eqU (by omega)]
theorem fieldOk_eq {f:Int} (h0:0<=f) (h1:f < 4294967296):g_spec_FieldOk f=g_impl_FieldOk f:=by
 unfold g_spec_FieldOk g_impl_FieldOk
 rw[unpackOne_eq h0 h1]
 obtain ⟨s,hs,hl⟩:=unpackOne_ok (f:=f)
 rw[hs]
 simp only[Option.bind_some]
 rw[pack_eq (by omega)]
 obtain ⟨p,hp,_,hpl⟩:=pack_ok (s:=s) (by omega)
 rw[hp]
 simp only[Option.bind_some]
 rw[eqU (by omega)]
 cases p with
 | nil=>rfl
 | cons a r =>
  cases r with
  | nil =>
   have:getI [a] 0=some a:=rfl
   simp[this]
   by_cases h:a=f
   ·simp[h]
   ·simp[h]
  | cons b r =>
   have:(((a::b::r).length:Int)==1)=false:=by simp;omega
   rw[this]
   simp
theorem tag_eq (k:Int):g_spec_l04Tag k=g_impl_nameTag k:=rfl
theorem wmul16 (f:Int):(IntKind.wrap .u32 (f*16)) % 16=0:=by
 simp[IntKind.wrap,IntKind.bits,IntKind.signed]
theorem or_tag {f t:Int} (t0:0<=t) (t1:t < 16):orI .u32 (IntKind.wrap .u32 (f*16)) t=IntKind.wrap .u32 (IntKind.wrap .u32 (f*16)+t):=by
 have hb:=wU32_bd (f*16)
 have h16:=wmul16 f
 generalize IntKind.wrap .u32 (f*16)=x at *
 rw[orU hb.1 hb.2 t0 (by omega),wU32 (by omega) (by omega)]
 have e:x.toNat=2 ^ 4*(x.toNat / 16):=by omega
 rw[e,or_low 4 (by omega)]
 omega
theorem or_zero {f:Int}:orI .u32 (IntKind.wrap .u32 (f*16)) 0=IntKind.wrap .u32 (f*16):=by
 have hb:=wU32_bd (f*16)
 rw[or_tag (by decide) (by decide),Int.add_zero,wU32 hb.1 hb.2]
theorem word_l0 {t:Int} (t0:0<=t) (t1:t < 16):∀ (k:Nat) (done rest:List Int),done≠[]->rest.length < k->done.length+rest.length<=1048576 →
  g_spec_l04Word_l0 t k (done++rest) done.length=some (done++rest.map λ f=>orI .u32 (IntKind.wrap .u32 (f*16)) 0):=by
 intro k
 induction k with
 | zero=>intro done rest _ h1;omega
 | succ k ih =>
  intro done rest h0 h1 h2
  unfold g_spec_l04Word_l0
  cases rest with
  | nil=>rw[decide_eq_false (by simp)];simp
  | cons f r =>
   have hd:1<=done.length:=by cases done with|nil=>exact absurd rfl h0|cons _ _=>simp
   rw[decide_eq_true (by simp;omega),getI_nat,List.getElem?_append_right (Nat.le_refl _),Nat.sub_self]
   have e0:((done.length:Int)==0)=false:=by simp;omega
   simp only[cond_true,List.getElem?_cons_zero,Option.bind_some,e0,cond_false]
   rw[Int.toNat_natCast,List.set_append_right _ _ (Nat.le_refl _),Nat.sub_self,List.set_cons_zero]
   rw[wI64 (by omega) (by simp at h2;omega)]
   have:=ih (done++[IntKind.wrap .u32 (f*16)]) r (by simp) (by simp at h1;omega) (by simp at h2 ⊢;omega)
   simp only[List.append_assoc,List.singleton_append,List.length_append,List.length_singleton]at this
   rw[show ((done.length:Int)+1)=((done.length+1:Nat):Int) by omega,this,List.map_cons,or_zero]
theorem word_eq {t:Int} {s:Bs} {fs:List Int} (t0:0<=t) (t1:t < 16) (hs:s.length<=1048576) (hp:g_impl_Pack s=some fs) (hl:fs.length<=24):g_spec_l04Word t s=some (nameCells t fs):=by
 unfold g_spec_l04Word
 rw[pack_eq hs,hp]
 simp only[Option.bind_some]
 cases fs with
 | nil=>rfl
 | cons f r =>
  have h1:g_spec_l04Word_l0 t bigK (f::r) 0=some (nameCells t (f::r)):=by
   rw[show bigK=18446744073709551615+1 from rfl]
   unfold g_spec_l04Word_l0
   have e1:getI (f::r) 0=some f:=rfl
   have e2:∀ x,getI ((f::r).set (Int.toNat 0) x) 0=some x:=λ x=>rfl
   rw[decide_eq_true (by simp),e1]
   simp only[cond_true,Option.bind_some,e2,show ((0:Int)==0)=true from rfl]
   rw[wI64 (by decide) (by decide)]
   have:=word_l0 t0 t1 18446744073709551615 [IntKind.wrap .u32 (IntKind.wrap .u32 (f*16)+t)] r (by simp) (by simp at hl;omega) (by simp at hl ⊢;omega)
   simp only[List.singleton_append,List.length_singleton]at this
   rw[show ((0:Int)+1)=((1:Nat):Int) from rfl]
   rw[show List.set (List.set (f::r) (Int.toNat 0) (IntKind.wrap .u32 (f*16))) (Int.toNat 0) (IntKind.wrap .u32 (IntKind.wrap .u32 (f*16)+t))=IntKind.wrap .u32 (IntKind.wrap .u32 (f*16)+t)::r from rfl,this]
   simp only[nameCells,or_tag t0 t1]
  rw[h1]
  rfl
theorem num_eq {n:Int} {hex:Bool} {s l:Int} (hs:s=8\/s=6) (hl:l=2\/l=5):g_spec_l04Num n hex s l=g_impl_numberCells n hex s l:=by
 unfold g_spec_l04Num g_impl_numberCells
 have hb:=wU32_bd (IntKind.wrap .u32 n*32)
 have h32:IntKind.wrap .u32 (IntKind.wrap .u32 n*32) % 32=0:=by
  simp[IntKind.wrap,IntKind.bits,IntKind.signed]
 generalize IntKind.wrap .u32 (IntKind.wrap .u32 n*32)=x at *
 have key:∀ b:Int,(b=0\/b=16)->IntKind.wrap .u32 (IntKind.wrap .u32 (x+b)+s)=orI .u32 (orI .u32 x b) s/\IntKind.wrap .u32 (b+l)=orI .u32 b l:=λ b hb2=>by
  constructor
  ·have h1:orI .u32 x b=x+b:=by
    rw[orU hb.1 hb.2 (by omega) (by omega),show x.toNat=2 ^ 5*(x.toNat / 32) by omega,or_low 5 (by omega)];omega
   rw[h1,wU32 (x:=x+b) (by omega) (by omega),orU (by omega) (by omega) (by omega) (by omega),show (x+b).toNat=2 ^ 4*((x+b).toNat / 16) by omega,or_low 4 (by omega),wU32 (by omega) (by omega)];omega
  ·rcases hb2 with rfl|rfl<;>rcases hl with rfl|rfl<;>rfl
 have k0:=key 0 (.inl rfl)
 have k1:=key 16 (.inr rfl)
 cases hex with
 | true=>simp only[cond_true,Option.bind_some,k1.1,k1.2]
 | false=>simp only[cond_false,Option.bind_some,k0.1,k0.2]
theorem nameTag_vals (k:Int):∃ t,g_impl_nameTag k=some t/\0<=t/\t < 16/\(0 < t->1<=k/\k<=6):=by
 unfold g_impl_nameTag
 have hc:∀ (b:Bool) (x y:Option Int) (Q:Int->Prop),(b=true->∃ t,x=some t/\Q t)->(b=false->∃ t,y=some t/\Q t)->∃ t,cond b x y=some t/\Q t:=λ b x y Q h1 h2=>by
  cases b with
  | true=>exact h1 rfl
  | false=>exact h2 rfl
 refine hc _ _ _ _ (λ h=>⟨1,rfl,by have:=eq_of_beq h;omega⟩) λ _=>hc _ _ _ _ (λ h=>⟨3,rfl,by have:=eq_of_beq h;omega⟩) λ _=>hc _ _ _ _ (λ h=>⟨4,rfl,by have:=eq_of_beq h;omega⟩) λ _ =>
  hc _ _ _ _ (λ h=>⟨9,rfl,by have:=eq_of_beq h;omega⟩) λ _=>hc _ _ _ _ (λ h=>⟨10,rfl,by have:=eq_of_beq h;omega⟩) λ _=>hc _ _ _ _ (λ h=>⟨11,rfl,by have:=eq_of_beq h;omega⟩) λ _=>⟨0,rfl,by decide,by decide,λ h=>absurd h (by decide)⟩
end Go.Proofs.YtgfamepnkhpemaaGreatDoor
namespace Go.Proofs.YtgfamepnkhpemaaGreatDoor
open Go Go.Fm
theorem plainE (a b c:Bool):(cond a (cond (!b) (some c) (some false)) (some false):Option Bool)=some (a&&(!b&&c)):=by cases a<;>cases b<;>cases c<;>rfl
theorem cells_eq {it:GItem} (hs:it.Name.length<=1048576):g_spec_CellsOf it=g_impl_CellsOf it:=by
 obtain ⟨K,nm,n,hex,raw⟩:=it
 obtain ⟨t,ht,t0,t1,tk⟩:=nameTag_vals K
 obtain ⟨p,hp,_,hpl⟩:=pack_ok (s:=nm) hs
 simp only at hs
 unfold g_spec_CellsOf g_impl_CellsOf
 simp only[tag_eq,ht,plainE,Option.bind_some,beq_self_eq_true,Bool.true_and,Bool.and_true,hp]
 generalize (n==0)=bn
 generalize (raw==0)=br
 by_cases k0:K=0
 ·subst k0
  have:t=0:=by
   have h:g_impl_nameTag 0=some 0:=by kernel_rfl
   rw[h]at ht;cases ht;rfl
  subst this
  cases nm with
  | nil=>cases bn<;>cases hex<;>simp
  | cons a b=>simp
 by_cases k7:K=7
 ·subst k7
  have:t=0:=by
   have h:g_impl_nameTag 7=some 0:=by kernel_rfl
   rw[h]at ht;cases ht;rfl
  subst this
  rw[num_eq (.inl rfl) (.inl rfl)]
  cases nm with
  | nil=>cases br<;>simp<;>cases g_impl_numberCells n hex 8 2<;>rfl
  | cons a b=>simp
 by_cases k8:K=8
 ·subst k8
  have:t=0:=by
   have h:g_impl_nameTag 8=some 0:=by kernel_rfl
   rw[h]at ht;cases ht;rfl
  subst this
  rw[num_eq (.inr rfl) (.inr rfl)]
  cases nm with
  | nil=>cases br<;>simp<;>cases g_impl_numberCells n hex 6 5<;>rfl
  | cons a b=>simp
 by_cases k9:K=9
 ·subst k9
  have:t=0:=by
   have h:g_impl_nameTag 9=some 0:=by kernel_rfl
   rw[h]at ht;cases ht;rfl
  subst this
  rw[word_eq (by decide) (by decide) hs hp hpl]
  cases p with
  | nil=>simp[nameCells]
  | cons f r =>
   cases r with
   | nil =>
    have hg:getI [f] 0=some f:=rfl
    have ha:∀ x y:Int,app [x] [y]=some [x,y]:=λ x y=>app_eq (by simp)
    cases br<;>cases hex<;>simp[nameCells,hg,ha]
   | cons g r =>
    have h2:∀ (a b:Int) (r:List Int),(((a::b::r).length:Int)==1)=false:=λ a b r=>by simp;omega
    simp only[nameCells,List.map_cons,h2,Option.bind_some,cond_false]
    cases br<;>cases hex<;>simp
 ·have e0:(K==0)=false:=by simpa using k0
  have e7:(K==7)=false:=by simpa using k7
  have e8:(K==8)=false:=by simpa using k8
  have e9:(K==9)=false:=by simpa using k9
  rw[word_eq t0 t1 hs hp hpl]
  have hc:=cells_l0 hpl bigK 0 t [] (Nat.zero_le _) (by unfold bigK;omega) rfl (λ h=>by omega)
  simp only[Int.natCast_zero,List.drop_zero,List.nil_append]at hc
  simp only[e0,e7,e8,e9,cond_false,Bool.false_and,hc,Option.bind_some]
  cases bn<;>cases br<;>cases hex<;>by_cases h0:0 < t<;>simp[h0]
theorem name_l0 {cells:List Int} (hu:U32 cells) (hl:cells.length<=64):∀ (k n:Nat) (fields:List Int),n<=cells.length->cells.length-n < k->fields.length+(cells.length-n)<=65 →
  g_spec_l04Name_l0 cells k fields n=some (fields++((cells.drop n).takeWhile runP).map (· / 16)):=by
 intro k
 induction k with
 | zero=>intro n fields h0 h1;omega
 | succ k ih =>
  intro n fields h0 h1 h2
  unfold g_spec_l04Name_l0
  by_cases hn:n < cells.length
  ·have hx:=hu cells[n] (List.getElem_mem hn)
   rw[decide_eq_true (by omega),getI_nat,List.getElem?_eq_getElem hn,List.drop_eq_getElem_cons hn]
   simp only[cond_true,Option.bind_some]
   rw[Int.tmod_eq_emod_of_nonneg hx.1,Int.tdiv_eq_ediv_of_nonneg hx.1]
   have hc:(cond (cells[n] % 16==0) (some (cells[n] != 0)) (some false):Option Bool)=some (runP cells[n]):=by
    unfold runP
    cases cells[n] % 16==0<;>cases cells[n] != 0<;>rfl
   rw[hc,Option.bind_some]
   cases hr:runP cells[n] with
   | true =>
    simp only[cond_true]
    rw[wU32 (by omega) (by omega),app_eq (by simp;omega),Option.bind_some,wI64 (by omega) (by omega),show ((n:Int)+1)=((n+1:Nat):Int) by omega,ih (n+1) _ (by omega) (by omega) (by simp;omega),List.takeWhile_cons,hr]
    simp
   | false =>
    simp only[cond_false]
    rw[List.takeWhile_cons,hr]
    simp
  ·rw[decide_eq_false (by omega),cond_false,List.drop_eq_nil_of_le (by omega)]
   simp
theorem kind_eq {t:Int} (h0:0<=t) (h1:t < 16):g_spec_l04Kind t=(if isName t then g_impl_nameKind t else some (-1))/\(isName t=true->∃ k,g_impl_nameKind t=some k/\1<=k):=by
 have h:(List.range 16).all (λ t=>g_spec_l04Kind (t:Int)==(if isName (t:Int) then g_impl_nameKind (t:Int) else some (-1))&&(!isName (t:Int) || (match g_impl_nameKind (t:Int) with|some k=>decide (1<=k)|none=>false)))=true:=by kernel_rfl
 have h:=List.all_eq_true.1 h t.toNat (List.mem_range.2 (by omega))
 rw[Int.toNat_of_nonneg h0,Bool.and_eq_true]at h
 refine ⟨eq_of_beq h.1,λ hn => ?_⟩
 have h2:=h.2
 rw[hn]at h2
 cases hk:g_impl_nameKind t with
 | none=>rw[hk]at h2;simp at h2
 | some k=>rw[hk]at h2;exact ⟨k,rfl,by simpa using h2⟩
theorem num_long {n:Int} {hex:Bool} {s l:Int} {cs:List Int} (h:g_impl_numberCells n hex s l=some cs):cs.length=1\/cs=[orI .u32 (cond hex 16 0) l,IntKind.wrap .u32 n]:=by
 unfold g_impl_numberCells at h
 have hb:(cond hex (some 16) (some 0):Option Int)=some (cond hex 16 0):=by cases hex<;>rfl
 have hc:(cond (decide (n ≥ -67108864)) (some (decide (n<=67108863))) (some false):Option Bool)=some (decide (n ≥ -67108864)&&decide (n<=67108863)):=by cases decide (n ≥ -67108864)<;>rfl
 rw[hb,hc]at h
 simp only[Option.bind_some]at h
 cases h2:(decide (n ≥ -67108864)&&decide (n<=67108863)) with
 | true=>rw[h2]at h;cases h;exact .inl rfl
 | false=>rw[h2]at h;cases h;exact .inr rfl
theorem nameCells_len {t:Int} {l:List Int}:(nameCells t l).length=l.length:=by cases l<;>simp[nameCells]
theorem item_eq {cells tl:List Int} {n:Nat} {v:Int} (hu:U32 cells) (hl:cells.length<=64) (hd:cells.drop n=v::tl) :
  Tot (g_spec_l04Item cells n) λ r=>pm v (tl.takeWhile runP) tl.head? = some r.1/\∀ cs,g_impl_CellsOf r.1=some cs->r.2=cs.length:=by
 have hn:n < cells.length:=by
  rcases Nat.lt_or_ge n cells.length with h|h
  ·exact h
  ·rw[List.drop_eq_nil_of_le h]at hd;cases hd
 have hc:=List.drop_eq_getElem_cons hn
 rw[hd]at hc
 have hv0:cells[n]=v:=(List.cons.inj hc).1.symm
 have htl:cells.drop (n+1)=tl:=(List.cons.inj hc).2.symm
 have hv:=hu v (by rw[<-hv0];exact List.getElem_mem hn)
 have hge:getI cells n=some v:=by rw[getI_nat,List.getElem?_eq_getElem hn,hv0]
 have hn1:IntKind.wrap .i64 ((n:Int)+1)=((n+1:Nat):Int):=by rw[wI64 (by omega) (by omega)];omega
 have htlen:tl.length=cells.length-(n+1):=by rw[<-htl,List.length_drop]
 have hnx:getI cells ((n+1:Nat):Int)=tl.head? := by rw[getI_nat,<-htl,List.head?_drop]
 have hraw:∀ cs,g_impl_CellsOf (raw v)=some cs->(1:Int)=cs.length:=λ cs h=>by rw[show g_impl_CellsOf (raw v)=some [v] from cells_raw]at h;cases h;rfl
 have e16:IntKind.wrap .u32 (Int.tdiv v 16)=v / 16:=by rw[Int.tdiv_eq_ediv_of_nonneg hv.1,wU32 (by omega) (by omega)]
 have hkd:=kind_eq (t:=v % 16) (by omega) (by omega)
 unfold g_spec_l04Item
 simp only[hge,Option.bind_some]
 rw[Int.tmod_eq_emod_of_nonneg hv.1,hkd.1,e16,hn1]
 cases h1:isName (v % 16) with
 | true =>
  obtain ⟨kd,hkd1,hkd2⟩:=hkd.2 h1
  rw[if_pos rfl,hkd1]
  have hs:=name_l0 hu hl bigK (n+1) [v / 16] (by omega) (by unfold bigK;omega) (by simp;omega)
  rw[htl,List.singleton_append]at hs
  have hul:U32 (v / 16::(tl.takeWhile runP).map (· / 16)):=λ x hx=>by
   rcases List.mem_cons.1 hx with rfl|hx
   ·omega
   ·obtain ⟨y,hy,rfl⟩:=List.mem_map.1 hx
    have:=hu y (List.mem_of_mem_drop (by rw[htl];exact (List.takeWhile_sublist runP).subset hy))
    omega
  obtain ⟨y,hy,hyl,hyp⟩:=unpack_ok (l:=v / 16::(tl.takeWhile runP).map (· / 16))
  have hnm:g_spec_l04Name cells n kd=some (cond (!y.2) ((⟨0,[],0,false,0⟩:GItem),0) ((⟨kd,y.1,0,false,0⟩:GItem),(((v / 16::(tl.takeWhile runP).map (· / 16)).length:Nat):Int))):=by
   unfold g_spec_l04Name
   rw[hge]
   simp only[Option.bind_some]
   rw[e16,hn1,hs]
   simp only[Option.bind_some]
   rw[unpack_eq hul,hy]
   simp only[Option.bind_some]
   cases y.2<;>rfl
  simp only[Option.bind_some]
  rw[decide_eq_true (by omega),cond_true,hnm]
  simp only[Option.bind_some]
  unfold pm
  rw[h1,cond_true,hy,Option.bind_some]
  cases h2:y.2 with
  | false=>exact .some ⟨rfl,hraw⟩
  | true =>
   have e:((((v / 16::(tl.takeWhile runP).map (· / 16)).length:Nat):Int)==0)=false:=by simp;omega
   simp only[Bool.not_true,cond_false,cond_true,e]
   refine .some ⟨by rw[hkd1];rfl,λ cs hcs => ?_⟩
   obtain ⟨t,ht,t0,t1,_⟩:=nameTag_vals kd
   have hp:=hyp h2
   obtain ⟨p,hp',_,hpl⟩:=pack_ok (s:=y.1) (by omega)
   rw[hp]at hp'
   cases hp'
   have ht0:0 < t:=by
    have hh:(List.range 16).all (λ x => !isName (x:Int) || (match (g_impl_nameKind (x:Int)).bind g_impl_nameTag with|some t=>decide (0 < t)|none=>false))=true:=by kernel_rfl
    have hh:=List.all_eq_true.1 hh (v % 16).toNat (List.mem_range.2 (by omega))
    rw[Int.toNat_of_nonneg (by omega),h1,hkd1,Option.bind_some,ht]at hh
    simpa using hh
   rw[cells_name ht ht0 hp hpl]at hcs
   cases hcs
   rw[nameCells_len]
 | false =>
  rw[if_neg (by decide)]
  simp only[Option.bind_some]
  rw[show decide ((-1:Int) ≥ 0)=false from rfl,cond_false]
  have hpm:∀ nx,pm v (tl.takeWhile runP) nx=(cond (v % 16==8) (some ⟨7,[],IntKind.wrap .i32 v / 32,andI .u32 v 16 != 0,0⟩) (cond (v % 16==6) (some ⟨8,[],IntKind.wrap .i32 v / 32,andI .u32 v 16 != 0,0⟩)
   (cond (v % 16==2 || v % 16==5) (match nx with
    | none=>some (raw v)
    | some w=>(g_impl_CellsOf (lng v w)).bind λ y=>cond (decide (y=[v,w])) (some (lng v w)) (some (raw v)))
   (cond (v % 16==12) (match nx with
    | none=>some (raw v)
    | some w=>(g_impl_FieldOk (v / 16)).bind λ b=>cond b ((g_impl_UnpackOne (v / 16)).bind λ nm=>some ⟨9,nm,IntKind.wrap .i32 w,false,0⟩) (some (raw v))) (some (raw v)))))):=λ nx=>by
   unfold pm;rw[h1];first|done|(cases nx<;>rfl)
  rw[hpm]
  by_cases h8:v % 16=8
  ·have hN:g_spec_l04Number cells n=some (⟨7,[],IntKind.wrap .i32 v / 32,andI .u32 v 16 != 0,0⟩,1):=by
    unfold g_spec_l04Number
    rw[hge]
    simp only[Option.bind_some]
    rw[Int.tmod_eq_emod_of_nonneg hv.1,h8]
    rfl
   rw[h8,hN]
   refine .some ⟨rfl,λ cs hcs => ?_⟩
   rw[cells_7,short_back hv h8 2]at hcs
   cases hcs;rfl
  by_cases h6:v % 16=6
  ·have hN:g_spec_l04Number cells n=some (⟨8,[],IntKind.wrap .i32 v / 32,andI .u32 v 16 != 0,0⟩,1):=by
    unfold g_spec_l04Number
    rw[hge]
    simp only[Option.bind_some]
    rw[Int.tmod_eq_emod_of_nonneg hv.1,h6]
    rfl
   rw[h6,hN]
   refine .some ⟨rfl,λ cs hcs => ?_⟩
   rw[cells_8,short_back hv h6 5]at hcs
   cases hcs;rfl
  have b8:(v % 16==8)=false:=by simpa using h8
  have b6:(v % 16==6)=false:=by simpa using h6
  rw[b8,b6]
  simp only[cond_false]
  cases h25:(v % 16==2 || v % 16==5) with
  | true =>
   have hch:(cond (v % 16==2) (some true) (some (v % 16==5)):Option Bool)=some true:=by
    revert h25
    cases v % 16==2<;>cases v % 16==5<;>simp
   rw[hch]
   simp only[Option.bind_some,cond_true]
   have hit:(cond (v % 16==5) (some (⟨8,[],0,andI .u32 v 16 != 0,0⟩:GItem)) (some ⟨7,[],0,andI .u32 v 16 != 0,0⟩))=some (cond (v % 16==5) (⟨8,[],0,andI .u32 v 16 != 0,0⟩:GItem) ⟨7,[],0,andI .u32 v 16 != 0,0⟩):=by
    cases v % 16==5<;>rfl
   have hlg:∀ w,(⟨(cond (v % 16==5) (⟨8,[],0,andI .u32 v 16 != 0,0⟩:GItem) ⟨7,[],0,andI .u32 v 16 != 0,0⟩).Kind,(cond (v % 16==5) (⟨8,[],0,andI .u32 v 16 != 0,0⟩:GItem) ⟨7,[],0,andI .u32 v 16 != 0,0⟩).Name,IntKind.wrap .i32 w,
     (cond (v % 16==5) (⟨8,[],0,andI .u32 v 16 != 0,0⟩:GItem) ⟨7,[],0,andI .u32 v 16 != 0,0⟩).Hex,(cond (v % 16==5) (⟨8,[],0,andI .u32 v 16 != 0,0⟩:GItem) ⟨7,[],0,andI .u32 v 16 != 0,0⟩).Raw⟩:GItem)=lng v w:=λ w=>by
    unfold lng;cases v % 16==5<;>rfl
   have hN:g_spec_l04Number cells n=(match tl.head? with
     | none=>some ((⟨0,[],0,false,0⟩:GItem),0)
     | some w=>cond (v / 32 != 0) (some ((⟨0,[],0,false,0⟩:GItem),0)) ((g_impl_CellsOf (lng v w)).bind λ y=>some (lng v w,IntKind.wrap .i64 (IntKind.wrap .i64 (Int.tdiv (y.length:Int) 2)*2)))):=by
    unfold g_spec_l04Number
    rw[hge]
    simp only[Option.bind_some]
    rw[Int.tmod_eq_emod_of_nonneg hv.1,b6,b8,hn1]
    simp only[cond_false,hit,Option.bind_some]
    rw[Int.tdiv_eq_ediv_of_nonneg hv.1,wU32 (x:=v / 32) (by omega) (by omega)]
    cases tl with
    | nil =>
     rw[decide_eq_true (by simp at htlen;omega)]
     rfl
    | cons w r =>
     rw[decide_eq_false (by simp at htlen;omega),hnx]
     simp only[cond_false,Option.bind_some,List.head?_cons,hlg]
     cases v / 32 != 0 with
     | true=>rfl
     | false =>
      simp only[cond_false]
      rw[cells_eq (by unfold lng;cases v % 16==5<;>simp)]
   rw[hN]
   cases tl with
   | nil=>exact .some ⟨rfl,hraw⟩
   | cons w r =>
    simp only[List.head?_cons]
    obtain ⟨cs,hcs,_,hcl⟩:=lng_cells (v:=v) (w:=w)
    have hw:=hu w (List.mem_of_mem_drop (by rw[htl];exact List.mem_cons_self ..))
    rw[hcs]
    simp only[Option.bind_some]
    have hlong:cs=[v,w] ↔ (v / 32=0/\cs.length=2):=by
     have hww:IntKind.wrap .u32 (IntKind.wrap .i32 w)=w:=by
      simp[IntKind.wrap,IntKind.bits,IntKind.signed];split<;>omega
     have hcs2:cs.length=1\/cs=[orI .u32 (cond (andI .u32 v 16 != 0) 16 0) (v % 16),w]:=by
      have h25':v % 16=2\/v % 16=5:=by simpa using h25
      unfold lng at hcs
      rcases h25' with h2|h5
      ·rw[h2,show ((2:Int)==5)=false from rfl,cond_false,cells_7]at hcs
       have:=num_long hcs
       rw[hww]at this
       rw[h2];exact this
      ·rw[h5,show ((5:Int)==5)=true from rfl,cond_true,cells_8]at hcs
       have:=num_long hcs
       rw[hww]at this
       rw[h5];exact this
     have hor:orI .u32 (cond (andI .u32 v 16 != 0) 16 0) (v % 16)=v % 32:=by
      rw[and16 hv.1 hv.2]
      by_cases hb:v / 16 % 2=1
      ·rw[decide_eq_true hb,cond_true,orU (by decide) (by decide) (by omega) (by omega),show (16:Int).toNat=2 ^ 4*1 from rfl,or_low 4 (by omega)];omega
      ·rw[decide_eq_false hb,cond_false,orU (by decide) (by decide) (by omega) (by omega),show (0:Int).toNat=2 ^ 4*0 from rfl,or_low 4 (by omega)];omega
     rw[hor]at hcs2
     constructor
     ·intro h
      rcases hcs2 with h1|h2
      ·rw[h]at h1;simp at h1
      ·rw[h]at h2 ⊢
       have:=(List.cons.inj h2).1
       exact ⟨by omega,rfl⟩
     ·intro h
      rcases hcs2 with h1|h2
      ·omega
      ·rw[h2,show v % 32=v by omega]
    by_cases h32:v / 32=0
    ·rw[h32,show ((0:Int) != 0)=false from rfl,cond_false]
     by_cases h2:cs.length=2
     ·rw[decide_eq_true (hlong.2 ⟨h32,h2⟩),h2]
      exact .some ⟨rfl,λ cs' h=>by
       have:(IntKind.wrap .i64 (IntKind.wrap .i64 (Int.tdiv ((2:Nat):Int) 2)*2))=2:=by decide
       rw[show g_impl_CellsOf (lng v w)=some cs from hcs]at h
       cases h
       rw[h2];rfl⟩
     ·have h1:cs.length=0\/cs.length=1:=by omega
      rw[decide_eq_false (λ h=>h2 (hlong.1 h).2)]
      rcases h1 with h1|h1<;>rw[h1]<;>exact .some ⟨rfl,hraw⟩
    ·have:(v / 32 != 0)=true:=by simpa using h32
     rw[this,decide_eq_false (λ h=>h32 (hlong.1 h).1)]
     exact .some ⟨rfl,hraw⟩
  | false =>
   have hch:(cond (v % 16==2) (some true) (some (v % 16==5)):Option Bool)=some false:=by
    revert h25
    cases v % 16==2<;>cases v % 16==5<;>simp
   rw[hch]
   simp only[Option.bind_some,cond_false]
   cases h12:v % 16==12 with
   | false=>exact .some ⟨rfl,hraw⟩
   | true =>
    simp only[cond_true]
    cases tl with
    | nil =>
     rw[decide_eq_false (by simp at htlen;omega)]
     exact .some ⟨rfl,hraw⟩
    | cons w r =>
     obtain ⟨b,hb,hbf⟩:=field_ok (f:=v / 16)
     rw[decide_eq_true (by simp at htlen;omega),hnx,fieldOk_eq (by omega) (by omega),hb]
     simp only[cond_true,Option.bind_some,List.head?_cons]
     cases b with
     | false=>exact .some ⟨rfl,hraw⟩
     | true =>
      obtain ⟨nm,h2,h3,h4⟩:=hbf rfl
      rw[cond_true,unpackOne_eq (by omega) (by omega),h2]
      simp only[cond_true,Option.bind_some]
      refine .some ⟨rfl,λ cs hcs => ?_⟩
      rw[cells_9 h4]at hcs
      cases hcs;rfl
theorem specParse_l0 {cells:List Int} (hu:U32 cells) (hl:cells.length<=64):∀ (k n:Nat) (out its:List GItem),n<=cells.length->Parses (cells.drop n) its->cells.length-n < k->out.length+(cells.length-n)<=64->g_spec_ParseCells_l0 cells k out n=some (out++its):=by
 intro k
 induction k with
 | zero=>intro n out its _ _ h;omega
 | succ k ih =>
  intro n out its hn hp h hlo
  unfold g_spec_ParseCells_l0
  by_cases hlt:n < cells.length
  ·have hd:=List.drop_eq_getElem_cons hlt
   have hud:U32 (cells[n]::cells.drop (n+1)):=λ x hx=>hu x (List.mem_of_mem_drop (by rw[hd];exact hx))
   have hld:(cells[n]::cells.drop (n+1)).length<=64:=by rw[<-hd,List.length_drop];omega
   obtain ⟨r,hr,hpm,hrl⟩:=item_eq hu hl hd
   rw[<-parse_pm hud hld]at hpm
   have hp':=hp
   rw[hd]at hp'
   cases hp' with
   | cons h1 h2 h3 h4 h5 =>
    rename_i rest cs it its'
    rw[h1]at hpm
    have hri:it=r.1:=Option.some.inj hpm
    have hrl2:=hrl cs (by rw[<-hri];exact h2)
    have hlen:cells.length-n=cs.length+rest.length:=by rw[<-List.length_drop,hd,h4,List.length_append]
    rw[decide_eq_true (by omega),cond_true,hr,Option.bind_some,app_eq (by simp;omega),Option.bind_some,hrl2,wI64 (by omega) (by omega),show (n:Int)+(cs.length:Int)=((n+cs.length:Nat):Int) by omega]
    have hd2:cells.drop (n+cs.length)=rest:=by rw[<-List.drop_drop,hd,h4,List.drop_left]
    rw[ih (n+cs.length) _ its' (by omega) (by rw[hd2];exact h5) (by omega) (by simp;omega),List.append_assoc,<-hri]
    rfl
  ·rw[decide_eq_false (by omega),cond_false]
   have:cells.drop n=[]:=List.drop_eq_nil_of_le (by omega)
   rw[this]at hp
   cases hp with
   | nil=>rw[List.append_nil]
   | cons h1 h2 h3 h4 h5 =>
    have:=congrArg List.length h4
    simp at this;omega
theorem specStrip_eq:∀ (k:Nat) (out:List GItem),out.length<=64->g_spec_ParseCells_l1 k out=g_impl_ParseCells_l1 k out ((out.length:Int)-1):=by
 intro k
 induction k with
 | zero=>intro out _;rfl
 | succ k ih =>
  intro out hl
  unfold g_spec_ParseCells_l1 g_impl_ParseCells_l1
  rcases List.eq_nil_or_concat out with rfl|⟨xs,x,rfl⟩
  ·rfl
  ·simp only[List.concat_eq_append]at *
   have hlen:(xs++[x]).length=xs.length+1:=by simp
   rw[decide_eq_true (by omega),decide_eq_true (by omega),wI64 (x:=(((xs++[x]).length:Nat):Int)-1) (by omega) (by omega),show (((xs++[x]).length:Nat):Int)-1=((xs.length:Nat):Int) by omega,getI_nat,List.getElem?_concat_length]
   simp only[cond_true,Option.bind_some,isRz]
   by_cases hx:x=rz
   ·rw[decide_eq_true hx,cond_true,cond_true,subL_take (by omega) (by omega),Option.bind_some,Option.bind_some,Int.toNat_natCast,List.take_left,wI64 (by omega) (by omega)]
    exact ih xs (by omega)
   ·rw[decide_eq_false hx];rfl
theorem parseCells_eq {cells:List Int} (hu:U32 cells):g_spec_ParseCells cells=g_impl_ParseCells cells:=by
 unfold g_spec_ParseCells g_impl_ParseCells
 by_cases hl:(cells.length:Int) > 64
 ·rw[decide_eq_true hl,cond_true,cond_true]
 ·rw[decide_eq_false hl,cond_false,cond_false]
  have hl:cells.length<=64:=by omega
  obtain ⟨all,hp⟩:=parses_ex _ cells (Nat.le_refl _) hu hl
  have hlen:=hp.len
  have h1:=specParse_l0 hu hl bigK 0 [] all (Nat.zero_le _) hp (by unfold bigK;omega) (by simpa using hl)
  rw[show ((0:Nat):Int)=0 from rfl]at h1
  rw[h1,parse_l0 bigK cells [] all hp (by unfold bigK;omega) (by simpa using hl)]
  simp only[Option.bind_some,List.nil_append]
  rw[wI64 (by omega) (by omega),specStrip_eq _ _ (by omega)]
  cases g_impl_ParseCells_l1 bigK all ((all.length:Int)-1)<;>rfl
end Go.Proofs.YtgfamepnkhpemaaGreatDoor
namespace Go.Proofs.YtgfamepnkhpemaaGreatDoor
open Go Go.Fm
def Iok (it:GItem):Prop:=it.Name.length<=1048576/\0<=it.Raw/\it.Raw < 4294967296
def IL (l:List GItem):Prop:=∀ it ∈ l,Iok it
theorem IL.nil:IL []:=λ it h=>by simp at h
theorem IL.cons {it:GItem} {l:List GItem} (h:Iok it) (hl:IL l):IL (it::l):=λ x hx=>by
 rcases List.mem_cons.1 hx with rfl|hx
 ·exact h
 ·exact hl x hx
theorem IL.app {a b:List GItem} (ha:IL a) (hb:IL b):IL (a++b):=λ x hx=>by
 rcases List.mem_append.1 hx with h|h
 ·exact ha x h
 ·exact hb x h
theorem iok {k:Int} {nm:Bs} {n:Int} {hex:Bool} (h:nm.length<=1048576):Iok ⟨k,nm,n,hex,0⟩:=⟨h,by show (0:Int)<=0;decide,by show (0:Int) < 4294967296;decide⟩
theorem iok1 {k:Int} {nm:Bs} {n:Int} {hex:Bool} (h:nm.length<=1048576):IL [⟨k,nm,n,hex,0⟩]:=.cons (iok h) .nil
theorem specUnparse_ok {l:List GItem} (hl:IL l) (hn:l.length<=1048576):Tot (g_spec_Unparse l) λ r=>U32 r.1/\r.1.length<=64:=by
 unfold g_spec_Unparse
 have key:∀ (k:Nat) (out:List Int) (i:Int),U32 out->out.length<=64->0<=i->i<=l.length->l.length-i < k->Tot (g_spec_Unparse_l0 l k out i) λ o=>match o with | .inl r=>U32 r/\r.length<=64 | .inr q=>q=([],false):=by
  intro k
  induction k with
  | zero=>intro out i h0 h1 h2 h3 h4;omega
  | succ k ih =>
   intro out i h0 h1 h2 h3 h4
   unfold g_spec_Unparse_l0
   refine .condD (λ hi => ?_) λ _=>.some ⟨h0,h1⟩
   obtain ⟨v,hv,hm,_⟩:=getI_ex h2 hi
   have hio:=hl v hm
   refine .bindE hv (.bind (specCells_ok hio.1 hio.2) λ cs hcs=>.bind (Q:=λ b=>b=false->out.length+cs.length<=64) (.cond (λ _=>.some λ h=>nomatch h) λ _ => ?_) λ b hb=>.cond (λ _=>.some rfl) λ hc => ?_)
   ·rw[wI64 (by omega) (by omega)]
    exact .some λ h=>by have:=of_decide_eq_false h;omega
   ·have:=hb hc
    refine .bindE (app_eq (by omega)) ?_
    rw[wI64 (x:=i+1) (by omega) (by omega)]
    exact ih _ _ (h0.app hcs.1) (by rw[List.length_append];omega) (by omega) (by omega) (by omega)
 refine .bind (Q:=λ o=>match o with | .inl r=>U32 r/\r.length<=64 | .inr q=>q=([],false)) (.bind (key bigK [] 0 .nil (by simp) (by decide) (by omega) (by unfold bigK;omega)) λ o ho => ?_) λ o ho => ?_
 ·cases o with
  | inl r=>exact .some ho
  | inr r=>exact .some ho
 ·cases o with
  | inl r=>exact .some ho
  | inr r=>rw[show r=([],false) from ho];exact .some ⟨.nil,by simp⟩
def upR:List Int ⊕ Bool->List Int ⊕ (List Int×Bool):=λ o=>match o with | .inl x=>.inl x | .inr b=>.inr ([],b)
theorem unparse_l0_eq {l:List GItem} (hl:IL l) (hn:l.length<=1048576):∀ (k n:Nat) (out:List Int),n<=l.length->out.length<=64->g_spec_Unparse_l0 l k out n=(g_impl_Unparse_l0 l (l.length:Int) k out n).map upR:=by
 intro k
 induction k with
 | zero=>intro n out _ _;rfl
 | succ k ih =>
  intro n out h0 h1
  unfold g_spec_Unparse_l0 g_impl_Unparse_l0
  by_cases h:n < l.length
  ·have hi:=hl l[n] (List.getElem_mem h)
   obtain ⟨cs,hcs,_,hcl⟩:=specCells_ok hi.1 hi.2
   rw[decide_eq_true (by omega),getI_nat,List.getElem?_eq_getElem h]
   simp only[cond_true,Option.bind_some]
   rw[<-cells_eq hi.1,hcs]
   simp only[Option.bind_some]
   rw[app_eq (by omega)]
   simp only[Option.bind_some]
   rw[wI64 (x:=(out.length:Int)+(cs.length:Int)) (by omega) (by omega),show (out.length:Int)+(cs.length:Int)=(((out++cs).length:Nat):Int) by rw[List.length_append];omega]
   cases hb:((cs.length:Int)==0) with
   | true=>rfl
   | false =>
    simp only[cond_false,Option.bind_some]
    by_cases hc:((((out++cs).length:Nat):Int)) > 64
    ·rw[decide_eq_true hc];rfl
    ·rw[decide_eq_false hc,cond_false,cond_false,wI64 (by omega) (by omega),show ((n:Int)+1)=((n+1:Nat):Int) by omega]
     exact ih _ _ (by omega) (by omega)
  ·rw[decide_eq_false (by omega),cond_false,cond_false];rfl
theorem unparse_eq {l:List GItem} (hl:IL l) (hn:l.length<=1048576):g_spec_Unparse l=g_impl_Unparse l:=by
 unfold g_spec_Unparse g_impl_Unparse
 have:=unparse_l0_eq hl hn bigK 0 [] (Nat.zero_le _) (by simp)
 rw[Int.natCast_zero]at this
 rw[this]
 cases g_impl_Unparse_l0 l (l.length:Int) bigK [] 0 with
 | none=>rfl
 | some o=>cases o<;>rfl
theorem itemBeq (v w:GItem):((v.Kind:Int)==w.Kind&&((v.Name:Bs)==w.Name&&((v.N:Int)==w.N&&((v.Hex:Bool)==w.Hex&&((v.Raw:Int)==w.Raw&&true)))))=decide (v=w):=by
 obtain ⟨a,b,c,d,e⟩:=v
 obtain ⟨a',b',c',d',e'⟩:=w
 rw[Bool.eq_iff_iff]
 simp
theorem neI (x y:GItem):(x != y) = !decide (x=y):=by
 by_cases h:x=y
 ·subst h;simp
 ·rw[decide_eq_false h];simpa using h
theorem same_items {a b:List GItem} (hm:a.length<=1048576):g_spec_l04Same a b=some (decide (a=b)) :=
 eqList (g_spec_l04Same_l0 a b) _ rfl (λ k i=>by rw[g_spec_l04Same_l0];simp only[itemBeq,neI]) (by omega)
theorem equal_items {a b:List GItem} (hm:a.length<=1048576):g_slices_Equal_Item a b=some (decide (a=b)) :=
 eqList (g_slices_Equal_Item_l0 a b (a.length:Int)) _ rfl (λ k i=>by rw[g_slices_Equal_Item_l0];simp only[itemBeq,neI]) (by omega)
theorem listOk_both {l:List GItem} (hl:IL l) (hn:l.length<=1048576):∃ cs ok lo,g_spec_Unparse l=some (cs,ok)/\g_impl_Unparse l=some (cs,ok)/\U32 cs/\cs.length<=64/\g_spec_ListOk l=some lo/\g_impl_ListOk l=some lo/\(lo=true->l.length<=64):=by
 obtain ⟨r,hr,hu,hrl⟩:=specUnparse_ok hl hn
 obtain ⟨cs,ok⟩:=r
 have hr2:=hr
 rw[unparse_eq hl hn]at hr2
 obtain ⟨its,cells',z,h1,h2,h3,_⟩:=parseCells_ok hu hrl
 have hil:=h3.len
 have hcl:cells'.length<=64:=by rw[h2,List.length_append]at hrl;omega
 have hs:g_spec_ListOk l=some (ok&&decide (its=l)):=by
  unfold g_spec_ListOk
  rw[hr]
  cases ok with
  | false=>rfl
  | true =>
   simp only[Option.bind_some,cond_true,Bool.true_and]
   rw[parseCells_eq hu,h1]
   simp only[Option.bind_some]
   rw[same_items (by omega)]
   rfl
 have hi:g_impl_ListOk l=some (ok&&decide (its=l)):=by
  unfold g_impl_ListOk
  rw[hr2]
  cases ok with
  | false=>rfl
  | true =>
   simp only[Option.bind_some,cond_true,Bool.true_and]
   rw[h1]
   simp only[Option.bind_some]
   rw[equal_items (by omega)]
   rfl
 refine ⟨cs,ok,_,hr,hr2,hu,hrl,hs,hi,λ h => ?_⟩
 rw[Bool.and_eq_true,decide_eq_true_eq]at h
 rw[<-h.2]
 omega
end Go.Proofs.YtgfamepnkhpemaaGreatDoor
namespace Go.Proofs.YtgfamepnkhpemaaGreatDoor
open Go Go.Fm
set_option maxRecDepth 100000
theorem pm_raw {v:Int} {run:List Int} {nx:Option Int} {it:GItem} (h:pm v run nx=some it):it.Raw=0\/it.Raw=v:=by
 unfold pm at h
 cases h1:isName (v % 16) with
 | true =>
  rw[h1,cond_true,Option.bind_eq_some_iff]at h
  obtain ⟨y,_,h⟩:=h
  cases hy:y.2 with
  | true =>
   rw[hy,cond_true,Option.bind_eq_some_iff]at h
   obtain ⟨k,_,h⟩:=h
   cases h;exact .inl rfl
  | false=>rw[hy,cond_false]at h;cases h;exact .inr rfl
 | false =>
  rw[h1,cond_false]at h
  cases h8:v % 16==8 with
  | true=>rw[h8,cond_true]at h;cases h;exact .inl rfl
  | false =>
   rw[h8,cond_false]at h
   cases h6:v % 16==6 with
   | true=>rw[h6,cond_true]at h;cases h;exact .inl rfl
   | false =>
    rw[h6,cond_false]at h
    cases h25:(v % 16==2 || v % 16==5) with
    | true =>
     rw[h25,cond_true]at h
     cases nx with
     | none=>cases h;exact .inr rfl
     | some w =>
      simp only[Option.bind_eq_some_iff]at h
      obtain ⟨y,_,h⟩:=h
      cases hd:decide (y=[v,w]) with
      | true=>rw[hd,cond_true]at h;cases h;left;unfold lng;cases v % 16==5<;>rfl
      | false=>rw[hd,cond_false]at h;cases h;exact .inr rfl
    | false =>
     rw[h25,cond_false]at h
     cases h12:v % 16==12 with
     | true =>
      rw[h12,cond_true]at h
      cases nx with
      | none=>cases h;exact .inr rfl
      | some w =>
       simp only[Option.bind_eq_some_iff]at h
       obtain ⟨y,_,h⟩:=h
       cases y with
       | true =>
        rw[cond_true,Option.bind_eq_some_iff]at h
        obtain ⟨nm,_,h⟩:=h
        cases h;exact .inl rfl
       | false=>rw[cond_false]at h;cases h;exact .inr rfl
     | false=>rw[h12,cond_false]at h;cases h;exact .inr rfl
theorem parses_iok:∀ (its:List GItem) (cells:List Int),U32 cells->cells.length<=64->Parses cells its->IL its
 | [],_,_,_,_=>.nil
 | i::its,cells,hu,hl,hp=>by
  cases hp with
  | cons h1 h2 h3 h4 h5 =>
   rename_i rest cs
   have hlen:cells.length=cs.length+rest.length:=by rw[h4,List.length_append]
   have hr:=parses_iok its rest (λ x hx=>hu x (by rw[h4];exact List.mem_append_right _ hx)) (by omega) h5
   cases cells with
   | nil=>simp at hlen;omega
   | cons v tl =>
    obtain ⟨it',cs',g1,g2,g3,_⟩:=parse_ok hu hl
    rw[h1]at g1
    cases g1
    rw[parse_pm hu hl]at h1
    have hv:=hu v (List.mem_cons_self ..)
    refine .cons ⟨by omega,?_⟩ hr
    rcases pm_raw h1 with h|h<;>rw[h]
    ·decide
    ·exact hv
theorem idxLoop {α:Type} {L:List α} (p:α->Bool) (F:Nat->Int->Option (Unit ⊕ Int)) (step:∀ (k n:Nat) (x:α),L[n]? = some x->n < L.length->F (k+1) n=cond (p x) (some (.inr (n:Int))) (F k ((n+1:Nat):Int)))
  (fin:∀ k n:Nat,L.length<=n->F (k+1) n=some (.inl ())) (hm:L.length<=16777216):∃ o,F bigK 0=some o/\(match o with | .inl _=>L.any p=false | .inr v=>0<=v/\L.any p=true):=by
 have key:∀ (k n:Nat),n<=L.length->L.length-n < k->∃ o,F k n=some o/\(match o with | .inl _=>(L.drop n).any p=false | .inr v=>0<=v/\(L.drop n).any p=true):=by
  intro k
  induction k with
  | zero=>intro n h0 h1;omega
  | succ k ih =>
   intro n h0 h1
   by_cases hn:n < L.length
   ·rw[step k n L[n] (List.getElem?_eq_getElem hn) hn,List.drop_eq_getElem_cons hn,List.any_cons]
    cases hp:p L[n] with
    | true=>exact ⟨_,rfl,by show 0<=(n:Int)/\_;exact ⟨by omega,rfl⟩⟩
    | false =>
     rw[cond_false,Bool.false_or]
     exact ih (n+1) (by omega) (by omega)
   ·rw[fin k n (by omega),List.drop_eq_nil_of_le (by omega)]
    exact ⟨_,rfl,rfl⟩
 have:=key bigK 0 (Nat.zero_le _) (by unfold bigK;omega)
 rw[List.drop_zero]at this
 exact this
def okI (it:GItem):Bool:=(g_impl_ItemOk it).getD false
theorem itemOk {it:GItem} (h:Iok it):g_impl_ItemOk it=some (okI it)/\g_spec_ItemOk it=some (okI it):=by
 obtain ⟨cs,hcs,_⟩:=specCells_ok h.1 h.2
 have hi:g_impl_ItemOk it=some (decide ((cs.length:Int) > 0)):=by unfold g_impl_ItemOk;rw[<-cells_eq h.1,hcs];rfl
 have ho:okI it=decide ((cs.length:Int) > 0):=by unfold okI;rw[hi];rfl
 refine ⟨by rw[hi,ho],?_⟩
 unfold g_spec_ItemOk
 rw[hcs,ho];rfl
def loB (l:List GItem):Bool:=(g_impl_ListOk l).getD false
theorem lo_both {l:List GItem} (hl:IL l) (hn:l.length<=4000):g_impl_ListOk l=some (loB l)/\g_spec_ListOk l=some (loB l)/\∃ cs ok,g_impl_Unparse l=some (cs,ok)/\cs.length<=64/\(loB l=true->ok=true/\l.length<=64):=by
 obtain ⟨cs,ok,lo,e1,e2,e3,e4,e5,e6,e7⟩:=listOk_both hl (by omega)
 have hb:loB l=lo:=by unfold loB;rw[e6];rfl
 refine ⟨by rw[e6,hb],by rw[e5,hb],cs,ok,e2,e4,λ h=>⟨?_,e7 (hb▸h)⟩⟩
 rw[hb]at h
 subst h
 unfold g_impl_ListOk at e6
 rw[e2,Option.bind_some]at e6
 cases ok with
 | true=>rfl
 | false=>cases e6
theorem unparse_ok {l:List GItem}:∀ (k n:Nat) (out r:List Int),g_impl_Unparse_l0 l (l.length:Int) k out (n:Int)=some (.inl r)->l.length<=4000->n<=l.length->∀ it ∈ l.drop n,okI it=true:=by
 intro k
 induction k with
 | zero=>intro n out r h;cases h
 | succ k ih =>
  intro n out r h hn h0 it hm
  rw[g_impl_Unparse_l0]at h
  by_cases hi:n < l.length
  ·rw[decide_eq_true (by omega),cond_true,getI_nat,List.getElem?_eq_getElem hi,Option.bind_some,Option.bind_eq_some_iff]at h
   obtain ⟨cs,e1,h⟩:=h
   rw[Option.bind_eq_some_iff]at h
   obtain ⟨o2,e2,h⟩:=h
   cases hz:((cs.length:Int)==0) with
   | true=>rw[hz,cond_true,Option.bind_some,cond_true]at h;cases h
   | false =>
    rw[hz,cond_false,Option.bind_some]at h
    cases hd:decide ((o2.length:Int) > 64) with
    | true=>rw[hd,cond_true]at h;cases h
    | false =>
     rw[hd,cond_false,wI64 (by omega) (by omega),show ((n:Int)+1)=((n+1:Nat):Int) by omega]at h
     rw[List.drop_eq_getElem_cons hi]at hm
     rcases List.mem_cons.1 hm with rfl|hm
     ·unfold okI g_impl_ItemOk
      rw[e1]
      show decide ((cs.length:Int) > 0)=true
      rw[beq_eq_false_iff_ne]at hz
      exact decide_eq_true (by omega)
     ·exact ih (n+1) o2 r h hn (by omega) it hm
  ·rw[List.drop_eq_nil_of_le (by omega)]at hm;cases hm
theorem lo_items {l:List GItem} (hl:IL l) (hn:l.length<=4000) (h:loB l=true):∀ it ∈ l,okI it=true:=by
 obtain ⟨_,_,cs,ok,e1,_,e2⟩:=lo_both hl hn
 obtain ⟨rfl,_⟩:=e2 h
 unfold g_impl_Unparse at e1
 rw[Option.bind_eq_some_iff]at e1
 obtain ⟨o,e1,e3⟩:=e1
 rw[Option.bind_eq_some_iff]at e1
 obtain ⟨q,e1,e4⟩:=e1
 cases q with
 | inr v =>
  cases e4
  simp only[Option.some.injEq,Prod.mk.injEq]at e3
  exfalso
  -- a loop that stops says no
  have:∀ (k:Nat) (out:List Int) (n:Int) (v:Bool),g_impl_Unparse_l0 l (l.length:Int) k out n=some (.inr v)->v=false:=by
   intro k
   induction k with
   | zero=>intro out n v h;cases h
   | succ k ih =>
    intro out n v h
    rw[g_impl_Unparse_l0]at h
    cases hd:decide (n < (l.length:Int)) with
    | false=>rw[hd,cond_false]at h;cases h
    | true =>
     rw[hd,cond_true,Option.bind_eq_some_iff]at h
     obtain ⟨a,_,h⟩:=h
     rw[Option.bind_eq_some_iff]at h
     obtain ⟨b,_,h⟩:=h
     rw[Option.bind_eq_some_iff]at h
     obtain ⟨c,_,h⟩:=h
     rw[Option.bind_eq_some_iff]at h
     obtain ⟨d,_,h⟩:=h
     cases d with
     | true=>cases h;rfl
     | false=>exact ih _ _ _ h
  have:=this _ _ _ _ e1
  rw[this]at e3
  cases e3.2
 | inl r =>
  rw[<-Int.natCast_zero]at e1
  exact λ it hm=>unparse_ok bigK 0 [] r e1 hn (Nat.zero_le _) it (by rw[List.drop_zero];exact hm)
theorem concat2 {a b:List GItem} (ha:a.length<=4000) (hb:b.length<=4000):g_slices_Concat_Item [a,b]=some (a++b):=by
 have e0:g_slices_Concat_Item_l0 [a,b] 2 bigK 0 0=some ((a.length:Int)+b.length):=by
  rw[show bigK=(bigK-3)+1+1+1 by unfold bigK;omega,g_slices_Concat_Item_l0,show decide ((0:Int) < 2)=true from rfl,cond_true,show getI [a,b] 0=some a from rfl,Option.bind_some,wI64 (x:=0+(a.length:Int)) (by omega) (by omega),decide_eq_false (by omega),cond_false,Option.bind_some,show IntKind.wrap .i64 ((0:Int)+1)=1 from rfl]
  rw[g_slices_Concat_Item_l0,show decide ((1:Int) < 2)=true from rfl,cond_true,show getI [a,b] 1=some b from rfl,Option.bind_some,wI64 (x:=0+(a.length:Int)+(b.length:Int)) (by omega) (by omega),decide_eq_false (by omega),cond_false,Option.bind_some,show IntKind.wrap .i64 ((1:Int)+1)=2 from rfl]
  rw[g_slices_Concat_Item_l0,show decide ((2:Int) < 2)=false from rfl,cond_false]
  congr 1;omega
 have e1:g_slices_Concat_Item_l1 [a,b] 2 bigK [] 0=some (a++b):=by
  rw[show bigK=(bigK-3)+1+1+1 by unfold bigK;omega,g_slices_Concat_Item_l1,show decide ((0:Int) < 2)=true from rfl,cond_true,show getI [a,b] 0=some a from rfl,Option.bind_some,app_eq (by simp;omega),Option.bind_some,show IntKind.wrap .i64 ((0:Int)+1)=1 from rfl]
  rw[g_slices_Concat_Item_l1,show decide ((1:Int) < 2)=true from rfl,cond_true,show getI [a,b] 1=some b from rfl,Option.bind_some,app_eq (by simp;omega),Option.bind_some,show IntKind.wrap .i64 ((1:Int)+1)=2 from rfl]
  rw[g_slices_Concat_Item_l1,show decide ((2:Int) < 2)=false from rfl,cond_false];rfl
 have e2:g_slices_Grow_Item_emp ((a.length:Int)+b.length)=some []:=by
  unfold g_slices_Grow_Item_emp
  rw[decide_eq_false (by omega),cond_false,Option.bind_some,show IntKind.wrap .i64 ((0:Int)-0)=0 from rfl,wI64 (by omega) (by omega)]
  by_cases h:(a.length:Int)+b.length-0 > 0
  ·rw[decide_eq_true h,cond_true,mk_eq (by omega) (by omega),Option.bind_some,subL_take (by omega) (by simp;omega)];rfl
  ·rw[decide_eq_false h,cond_false];rfl
 unfold g_slices_Concat_Item
 rw[show (([a,b].length:Nat):Int)=2 from rfl,e0]
 simp only[Option.bind_some]
 rw[e2]
 simp only[Option.bind_some]
 rw[e1];rfl
structure EI (n:Nat) (e:GEd):Prop where
 l:IL e.Left
 r:IL e.Right
 c:IL e.Cut
 nl:e.Left.length<=n
 nr:e.Right.length<=n
 nc:e.Cut.length<=n
def edB (e:GEd):Bool:=decide (e.Cut.length<=20)&&(e.Cut.all okI&&loB (e.Left++e.Right))
theorem edOk_impl {n:Nat} {e:GEd} (h:EI n e) (hn:n<=2000):g_impl_EdOk e=some (edB e):=by
 have:=h.nl;have:=h.nr;have:=h.nc
 unfold g_impl_EdOk edB
 by_cases hc:e.Cut.length<=20
 case neg=>rw[decide_eq_false (by omega),decide_eq_false hc];rfl
 rw[decide_eq_true (by omega),cond_true,decide_eq_true hc,Bool.true_and]
 unfold g_slices_ContainsFunc_Item_impl_EdOkc1 g_slices_IndexFunc_Item_impl_EdOkc1 g_impl_edItems
 obtain ⟨o,h1,h2⟩:=idxLoop (L:=e.Cut) (λ it => !okI it) (g_slices_IndexFunc_Item_impl_EdOkc1_l0 e.Cut (e.Cut.length:Int)) (λ k i x hx hi=>by
  rw[g_slices_IndexFunc_Item_impl_EdOkc1_l0,decide_eq_true (by omega),cond_true,getI_nat,hx,Option.bind_some]
  unfold g_impl_EdOkc1
  rw[(itemOk (h.c x (List.mem_of_getElem? hx))).1,nxt (by omega)];rfl) (λ k i hi=>by rw[g_slices_IndexFunc_Item_impl_EdOkc1_l0,decide_eq_false (by omega),cond_false]) (by omega)
 have ea:e.Cut.all okI = !(e.Cut.any λ it => !okI it):=by rw[List.not_any_eq_all_not];simp
 have hlo:=(lo_both (h.l.app h.r) (by rw[List.length_append];omega)).1
 rw[h1,ea]
 have ct:∀ b:Bool,(cond (!b) ((g_slices_Concat_Item [e.Left,e.Right]).bind λ y_3=>some y_3:Option (List GItem)) none).bind (λ y_4=>(g_impl_ListOk y_4).bind λ y_5=>some y_5)=(cond (!b) (some (loB (e.Left++e.Right))) none:Option Bool):=λ b=>by
  cases b with
  | true=>rfl
  | false=>rw[Bool.not_false,cond_true,cond_true,concat2 (by omega) (by omega),Option.bind_some,Option.bind_some,hlo];rfl
 cases o with
 | inl u =>
  simp only[Option.bind_some]
  rw[h2,show decide ((-1:Int) ≥ 0)=false from rfl]
  simp only[Bool.not_false,cond_true,Bool.true_and]
  rw[concat2 (by omega) (by omega),Option.bind_some,Option.bind_some,hlo];rfl
 | inr v =>
  simp only[Option.bind_some]
  rw[h2.2,decide_eq_true h2.1];rfl
theorem blank_ok:Iok ⟨0,[],0,false,0⟩:=iok (by simp)
theorem all_spec {n:Nat} {e:GEd} (h:EI n e) (hn:n<=2000):∃ l,g_spec_l07All e=some l/\IL l/\l.length<=4000/\loB l=loB (e.Left++e.Right)/\(loB (e.Left++e.Right)=true->l=e.Left++e.Right):=by
 have:=h.nl;have:=h.nr
 unfold g_spec_l07All
 have hl:=lo_both (h.l.app h.r) (by rw[List.length_append];omega)
 by_cases hb:e.Left.length > 64\/e.Right.length > 64
 ·have hf:loB (e.Left++e.Right)=false:=by
   cases hq:loB (e.Left++e.Right) with
   | false=>rfl
   | true =>
    obtain ⟨_,_,cs,ok,_,_,e2⟩:=hl
    have:=(e2 hq).2
    rw[List.length_append]at this
    omega
  have hi:IL (List.replicate 65 (⟨0,[],0,false,0⟩:GItem)):=λ it hm=>by rw[List.eq_of_mem_replicate hm];exact blank_ok
  have hf2:loB (List.replicate 65 (⟨0,[],0,false,0⟩:GItem))=false:=by
   cases hq:loB (List.replicate 65 (⟨0,[],0,false,0⟩:GItem)) with
   | false=>rfl
   | true =>
    obtain ⟨_,_,cs,ok,_,_,e2⟩:=lo_both hi (by rw[List.length_replicate];omega)
    have:=(e2 hq).2
    rw[List.length_replicate]at this
    omega
  refine ⟨List.replicate 65 ⟨0,[],0,false,0⟩,?_,hi,by rw[List.length_replicate];omega,by rw[hf,hf2],λ h=>by rw[hf]at h;cases h⟩
  have e1:(cond (decide ((e.Left.length:Int) > 64)) (some true) (some (decide ((e.Right.length:Int) > 64))):Option Bool)=some true:=by
   by_cases h1:e.Left.length > 64
   ·rw[decide_eq_true (by omega),cond_true]
   ·rw[decide_eq_false (by omega),cond_false,decide_eq_true (by omega)]
  rw[e1,Option.bind_some,cond_true,mk_eq (by omega) (by omega)];rfl
 ·refine ⟨e.Left++e.Right,?_,h.l.app h.r,by rw[List.length_append];omega,rfl,λ _=>rfl⟩
  rw[decide_eq_false (by omega),cond_false,decide_eq_false (by omega),Option.bind_some,cond_false,app_eq (by simp;omega),Option.bind_some,app_eq (by simp;omega)];rfl
end Go.Proofs.YtgfamepnkhpemaaGreatDoor
namespace Go.Proofs.YtgfamepnkhpemaaGreatDoor
open Go Go.Fm
set_option maxRecDepth 100000
def blank:GItem:=⟨0,[],0,false,0⟩
def wordK (k:Int):Bool:=decide (1<=k/\k<=6)
def numK (k:Int):Bool:=decide (7<=k/\k<=8)
def rc (it:GItem) (k:Int):GItem×Bool:=cond (!okI it || (!(wordK it.Kind&&wordK k)&&(!(numK it.Kind&&numK k)&&decide (k≠it.Kind)))) (blank,false) (⟨k,it.Name,it.N,it.Hex,it.Raw⟩,true)
theorem tag_pos (k:Int):∃ t,g_impl_nameTag k=some t/\decide (t > 0)=wordK k:=by
 unfold g_impl_nameTag wordK
 by_cases h1:k=1
 ·subst h1;exact ⟨_,rfl,rfl⟩
 by_cases h2:k=2
 ·subst h2;exact ⟨_,rfl,rfl⟩
 by_cases h3:k=3
 ·subst h3;exact ⟨_,rfl,rfl⟩
 by_cases h4:k=4
 ·subst h4;exact ⟨_,rfl,rfl⟩
 by_cases h5:k=5
 ·subst h5;exact ⟨_,rfl,rfl⟩
 by_cases h6:k=6
 ·subst h6;exact ⟨_,rfl,rfl⟩
 refine ⟨0,?_,?_⟩
 ·rw[show (k==1)=false by simp[h1],show (k==2)=false by simp[h2],show (k==3)=false by simp[h3],show (k==4)=false by simp[h4],show (k==5)=false by simp[h5],show (k==6)=false by simp[h6]];rfl
 ·rw[show decide ((0:Int) > 0)=false from rfl,decide_eq_false (by omega)]
theorem num_b (k:Int):(cond (k==7) true (k==8))=numK k:=by
 unfold numK
 by_cases h7:k=7
 ·subst h7;rfl
 by_cases h8:k=8
 ·subst h8;rfl
 rw[show (k==7)=false by simp[h7],show (k==8)=false by simp[h8],decide_eq_false (by omega)];rfl
theorem rc_impl {it:GItem} (h:Iok it) (k:Int):g_impl_Recolor it k=some (rc it k):=by
 unfold g_impl_Recolor rc
 obtain ⟨t1,a1,a2⟩:=tag_pos it.Kind
 obtain ⟨t2,b1,b2⟩:=tag_pos k
 have e1:((cond (it.Kind==7) (cond (k==7) (some true) (some (k==8))) (cond (it.Kind==8) (cond (k==7) (some true) (some (k==8))) (some false)):Option (Bool)))=some (numK it.Kind&&numK k):=by
  rw[<-num_b it.Kind,<-num_b k]
  cases it.Kind==7<;>cases it.Kind==8<;>cases k==7<;>cases k==8<;>rfl
 rw[a1,Option.bind_some,a2,b1,Option.bind_some,b2,e1,(itemOk h).1,show (k != it.Kind)=decide (k≠it.Kind) by by_cases hk:k=it.Kind<;>simp[hk]]
 cases wordK it.Kind<;>cases wordK k<;>cases (numK it.Kind&&numK k)<;>cases okI it<;>cases decide (k≠it.Kind)<;>rfl
theorem rc_iok {it:GItem} (h:Iok it) (k:Int):Iok (rc it k).1:=by
 unfold rc
 cases (!okI it || (!(wordK it.Kind&&wordK k)&&(!(numK it.Kind&&numK k)&&decide (k≠it.Kind))))
 ·exact h
 ·exact blank_ok
def pressS (e:GEd) (k:GKey):Option GEd :=
 if k.Op=0 then e.Left.getLast?.map λ x=>⟨e.Left.dropLast,x::e.Right,e.Cut⟩
 else if k.Op=1 then e.Right.head?.map λ x=>⟨e.Left++[x],e.Right.tail,e.Cut⟩
 else if k.Op=2 then some ⟨[],e.Left++e.Right,e.Cut⟩
 else if k.Op=3 then some ⟨e.Left++e.Right,[],e.Cut⟩
 else if k.Op=4 then some ⟨e.Left++[k.Item],e.Right,e.Cut⟩
 else if k.Op=5 then e.Left.getLast?.map λ x=>⟨e.Left.dropLast,e.Right,e.Cut++[x]⟩
 else if k.Op=6 then e.Cut.getLast?.map λ x=>⟨e.Left++[x],e.Right,e.Cut.dropLast⟩
 else if k.Op=7 then e.Left.getLast?.bind λ x=>cond (rc x k.Item.Kind).2 (some ⟨e.Left.dropLast++[(rc x k.Item.Kind).1],e.Right,e.Cut⟩) none
 else none
theorem IL.left {a b:List GItem} (h:IL (a++b)):IL a:=λ x hx=>h x (List.mem_append_left _ hx)
theorem IL.right {a b:List GItem} (h:IL (a++b)):IL b:=λ x hx=>h x (List.mem_append_right _ hx)
theorem last_cases (l:List GItem):l=[]\/∃ a x,l=a++[x]:=by
 rcases List.eq_nil_or_concat l with h|⟨a,x,h⟩
 ·exact .inl h
 ·exact .inr ⟨a,x,by rw[h,List.concat_eq_append]⟩
theorem pressS_EI {n:Nat} {e o:GEd} {k:GKey} (h:EI n e) (hk:Iok k.Item) (ho:pressS e k=some o):EI (2*n+1) o:=by
 have:=h.nl;have:=h.nr;have:=h.nc
 obtain ⟨l,r,c⟩:=e
 have hl:=h.l;have hr:=h.r;have hc:=h.c
 simp only at *
 unfold pressS at ho
 simp only at ho
 split at ho
 ·rcases last_cases l with rfl|⟨a,x,rfl⟩
  ·cases ho
  ·rw[List.getLast?_concat,List.dropLast_concat]at ho;cases ho
   simp only[List.length_append,List.length_singleton]at *
   exact ⟨hl.left, .cons (hl x (by simp)) hr,hc,by simp only;omega,by simp only[List.length_cons];omega,by simp only;omega⟩
 split at ho
 ·cases r with
  | nil=>cases ho
  | cons x r =>
   cases ho
   simp only[List.length_cons]at *
   exact ⟨hl.app (.cons (hr x (by simp)) .nil),λ y hy=>hr y (List.mem_cons_of_mem _ hy),hc,by simp only[List.length_append,List.length_singleton];omega,by simp only[List.tail_cons];omega,by simp only;omega⟩
 split at ho
 ·cases ho;exact ⟨.nil,hl.app hr,hc,by simp,by simp only[List.length_append];omega,by simp only;omega⟩
 split at ho
 ·cases ho;exact ⟨hl.app hr, .nil,hc,by simp only[List.length_append];omega,by simp,by simp only;omega⟩
 split at ho
 ·cases ho;exact ⟨hl.app (.cons hk .nil),hr,hc,by simp only[List.length_append,List.length_singleton];omega,by simp only;omega,by simp only;omega⟩
 split at ho
 ·rcases last_cases l with rfl|⟨a,x,rfl⟩
  ·cases ho
  ·rw[List.getLast?_concat,List.dropLast_concat]at ho;cases ho
   simp only[List.length_append,List.length_singleton]at *
   exact ⟨hl.left,hr,hc.app hl.right,by simp only;omega,by simp only;omega,by simp only[List.length_append,List.length_singleton];omega⟩
 split at ho
 ·rcases last_cases c with rfl|⟨a,x,rfl⟩
  ·cases ho
  ·rw[List.getLast?_concat,List.dropLast_concat]at ho;cases ho
   simp only[List.length_append,List.length_singleton]at *
   exact ⟨hl.app hc.right,hr,hc.left,by simp only[List.length_append,List.length_singleton];omega,by simp only;omega,by simp only;omega⟩
 split at ho
 ·rcases last_cases l with rfl|⟨a,x,rfl⟩
  ·cases ho
  ·rw[List.getLast?_concat,List.dropLast_concat,Option.bind_some]at ho
   cases hb:(rc x k.Item.Kind).2 with
   | false=>rw[hb]at ho;cases ho
   | true =>
    rw[hb]at ho;cases ho
    simp only[List.length_append,List.length_singleton]at *
    exact ⟨hl.left.app (.cons (rc_iok (hl x (by simp)) _) .nil),hr,hc,by simp only[List.length_append,List.length_singleton];omega,by simp only;omega,by simp only;omega⟩
 ·cases ho
theorem app1 {xs:List GItem} (h:xs.length<=4100):app ([]:List GItem) xs=some xs:=by rw[app_eq (by simp;omega)];rfl
theorem own_ed {n:Nat} {e:GEd} (h:EI n e) (hn:n<=4000):g_impl_ownEd e=some e:=by
 have:=h.nl;have:=h.nr;have:=h.nc
 unfold g_impl_ownEd g_slices_Clone_Item
 rw[app1 (by omega),Option.bind_some,app1 (by omega),Option.bind_some,app1 (by omega),Option.bind_some]
theorem get_end {a:List GItem} {x:GItem} (h:a.length<=4000):getI (a++[x]) (IntKind.wrap .i64 (((a++[x]).length:Int)-1))=some x:=by
 rw[wI64 (by rw[List.length_append];omega) (by rw[List.length_append,List.length_singleton];omega),show (((a++[x]).length:Int)-1)=((a.length:Nat):Int) by simp,getI_nat,List.getElem?_concat_length]
theorem sub_end {a:List GItem} {x:GItem} (h:a.length<=4000):subL (a++[x]) 0 (IntKind.wrap .i64 (((a++[x]).length:Int)-1))=some a:=by
 rw[wI64 (by rw[List.length_append];omega) (by rw[List.length_append,List.length_singleton];omega),show (((a++[x]).length:Int)-1)=((a.length:Nat):Int) by simp,subL_take (by omega) (by simp;omega),Int.toNat_natCast,List.take_left]
theorem set_end {a:List GItem} {x y:GItem} (h:a.length<=4000):(a++[x]).set (IntKind.wrap .i64 (((a++[x]).length:Int)-1)).toNat y=a++[y]:=by
 rw[wI64 (by rw[List.length_append];omega) (by rw[List.length_append,List.length_singleton];omega),show (((a++[x]).length:Int)-1)=((a.length:Nat):Int) by simp,Int.toNat_natCast,List.set_append_right _ _ (Nat.le_refl _),Nat.sub_self];rfl
def pressR (e:GEd) (k:GKey):GEd×Bool:=match pressS e k with
 | some o=>(o,edB o)
 | none=>(e,false)
theorem impl_pressed {n:Nat} {e:GEd} {k:GKey} (h:EI n e) (hn:n<=900) (hk:Iok k.Item):g_impl_pressed e k=some (pressR e k):=by
 have h1:=h.nl;have h2:=h.nr;have h3:=h.nc
 have fin:∀ o,pressS e k=some o->((g_impl_EdOk o).bind λ y_29=>some (o,y_29))=some (pressR e k):=λ o ho=>by
  rw[edOk_impl (pressS_EI h hk ho) (by omega),Option.bind_some]
  unfold pressR;rw[ho]
 have non:pressS e k=none->some (e,false)=some (pressR e k):=λ ho=>by unfold pressR;rw[ho]
 unfold g_impl_pressed
 rw[own_ed h (by omega),Option.bind_some]
 obtain ⟨l,r,c⟩:=e
 simp only at h1 h2 h3
 by_cases o0:k.Op=0
 ·rw[show (k.Op==0)=true by simp[o0],cond_true]
  rcases last_cases l with rfl|⟨a,x,rfl⟩
  ·exact non (by unfold pressS;rw[if_pos o0];rfl)
  ·simp only[List.length_append,List.length_singleton]at h1
   rw[show ((((⟨a++[x],r,c⟩:GEd).Left.length:Nat):Int)==0)=false by rw[beq_eq_false_iff_ne];simp;omega,cond_false,get_end (by omega),Option.bind_some,sub_end (by omega)]
   unfold g_slices_Insert_Item gIns
   rw[show ((0:Int)==0)=true from rfl,decide_eq_true (by rfl),decide_eq_true (show r.length < 4294967295 by omega)]
   exact fin _ (by unfold pressS;rw[if_pos o0];simp)
 rw[show (k.Op==0)=false by simp[o0],cond_false]
 by_cases o1:k.Op=1
 ·rw[show (k.Op==1)=true by simp[o1],cond_true]
  cases r with
  | nil=>exact non (by unfold pressS;rw[if_neg o0,if_pos o1];rfl)
  | cons x r =>
   simp only[List.length_cons]at h2
   rw[show ((((⟨l,x::r,c⟩:GEd).Right.length:Nat):Int)==0)=false by rw[beq_eq_false_iff_ne];simp;omega,cond_false,show getI (⟨l,x::r,c⟩:GEd).Right 0=some x from rfl,Option.bind_some,app_eq (by simp;omega),Option.bind_some,subL_drop (by omega) (by simp;omega)]
   exact fin _ (by unfold pressS;rw[if_neg o0,if_pos o1];rfl)
 rw[show (k.Op==1)=false by simp[o1],cond_false]
 by_cases o2:k.Op=2
 ·rw[show (k.Op==2)=true by simp[o2],cond_true]
  unfold g_impl_edItems
  rw[concat2 (by simp only;omega) (by simp only;omega)]
  exact fin _ (by unfold pressS;rw[if_neg o0,if_neg o1,if_pos o2])
 rw[show (k.Op==2)=false by simp[o2],cond_false]
 by_cases o3:k.Op=3
 ·rw[show (k.Op==3)=true by simp[o3],cond_true]
  unfold g_impl_edItems
  rw[concat2 (by simp only;omega) (by simp only;omega)]
  exact fin _ (by unfold pressS;rw[if_neg o0,if_neg o1,if_neg o2,if_pos o3])
 rw[show (k.Op==3)=false by simp[o3],cond_false]
 by_cases o4:k.Op=4
 ·rw[show (k.Op==4)=true by simp[o4],cond_true,app_eq (by simp;omega)]
  exact fin _ (by unfold pressS;rw[if_neg o0,if_neg o1,if_neg o2,if_neg o3,if_pos o4])
 rw[show (k.Op==4)=false by simp[o4],cond_false]
 by_cases o5:k.Op=5
 ·rw[show (k.Op==5)=true by simp[o5],cond_true]
  rcases last_cases l with rfl|⟨a,x,rfl⟩
  ·exact non (by unfold pressS;rw[if_neg o0,if_neg o1,if_neg o2,if_neg o3,if_neg o4,if_pos o5];rfl)
  ·simp only[List.length_append,List.length_singleton]at h1
   rw[show ((((⟨a++[x],r,c⟩:GEd).Left.length:Nat):Int)==0)=false by rw[beq_eq_false_iff_ne];simp;omega,cond_false,get_end (by omega),Option.bind_some,sub_end (by omega),app_eq (by simp;omega)]
   exact fin _ (by unfold pressS;rw[if_neg o0,if_neg o1,if_neg o2,if_neg o3,if_neg o4,if_pos o5];simp)
 rw[show (k.Op==5)=false by simp[o5],cond_false]
 by_cases o6:k.Op=6
 ·rw[show (k.Op==6)=true by simp[o6],cond_true]
  rcases last_cases c with rfl|⟨a,x,rfl⟩
  ·exact non (by unfold pressS;rw[if_neg o0,if_neg o1,if_neg o2,if_neg o3,if_neg o4,if_neg o5,if_pos o6];rfl)
  ·simp only[List.length_append,List.length_singleton]at h3
   rw[decide_eq_false (by rw[wI64 (by show _<=((((a++[x]).length:Nat):Int)-1);rw[List.length_append];omega) (by show ((((a++[x]).length:Nat):Int)-1) < _;rw[List.length_append,List.length_singleton];omega)];show ¬ ((((a++[x]).length:Nat):Int)-1 < 0);rw[List.length_append,List.length_singleton];omega),cond_false,get_end (by omega),Option.bind_some,app_eq (by simp;omega),Option.bind_some,sub_end (by omega)]
   exact fin _ (by unfold pressS;rw[if_neg o0,if_neg o1,if_neg o2,if_neg o3,if_neg o4,if_neg o5,if_pos o6];simp)
 rw[show (k.Op==6)=false by simp[o6],cond_false]
 by_cases o7:k.Op=7
 ·rw[show (k.Op==7)=true by simp[o7],cond_true]
  rcases last_cases l with rfl|⟨a,x,rfl⟩
  ·exact non (by unfold pressS;rw[if_neg o0,if_neg o1,if_neg o2,if_neg o3,if_neg o4,if_neg o5,if_neg o6,if_pos o7];rfl)
  ·simp only[List.length_append,List.length_singleton]at h1
   have hx:Iok x:=h.l x (by simp)
   rw[show ((((⟨a++[x],r,c⟩:GEd).Left.length:Nat):Int)==0)=false by rw[beq_eq_false_iff_ne];simp;omega,cond_false,get_end (by omega),Option.bind_some,rc_impl hx,Option.bind_some]
   have hp:pressS ⟨a++[x],r,c⟩ k=cond (rc x k.Item.Kind).2 (some ⟨a++[(rc x k.Item.Kind).1],r,c⟩) none:=by
    unfold pressS;rw[if_neg o0,if_neg o1,if_neg o2,if_neg o3,if_neg o4,if_neg o5,if_neg o6,if_pos o7];simp
   cases hb:(rc x k.Item.Kind).2 with
   | false=>exact non (by rw[hp,hb];rfl)
   | true =>
    rw[Bool.not_true,cond_false,Option.bind_some,set_end (by omega)]
    exact fin _ (by rw[hp,hb];rfl)
 rw[show (k.Op==7)=false by simp[o7],cond_false]
 exact non (by unfold pressS;rw[if_neg o0,if_neg o1,if_neg o2,if_neg o3,if_neg o4,if_neg o5,if_neg o6,if_neg o7])
def keyR (e:GEd) (k:GKey):GEd×Bool:=cond (pressR e k).2 ((pressR e k).1,true) (e,false)
end Go.Proofs.YtgfamepnkhpemaaGreatDoor
namespace Go.Proofs.YtgfamepnkhpemaaGreatDoor
open Go Go.Fm
set_option maxRecDepth 100000
def Cok (c:GL01Cur):Prop:=0<=c.i/\c.b.length<=1048576
theorem byte_ok {c:GL01Cur} (h:Cok c):Tot (g_spec_l01Byte c) λ r=>0<=r.1/\r.1<=255/\Cok r.2:=by
 unfold g_spec_l01Byte
 refine Tot.bind (Q:=λ r=>0<=r.1/\r.1<=255/\Cok r.2) (.condD (λ hi => ?_) (λ hi => ?_)) λ r hr=>.some hr
 ·obtain ⟨v,hv,_⟩:=getI_ex h.1 hi
  refine .bindE hv (.some ⟨(and_le (by decide) (by decide)).1,(and_le (by decide) (by decide)).2,?_,h.2⟩)
  have:=h.1
  have:=h.2
  show 0<=IntKind.wrap .i64 (c.i+1)
  rw[wI64 (by omega) (by omega)]
  omega
 ·exact .some ⟨(and_le (by decide) (by decide)).1,(and_le (by decide) (by decide)).2,h⟩
theorem below_ok {c:GL01Cur} (h:Cok c) {n:Int} (hn:0 < n):Tot (g_spec_l01Below n c) λ r=>0<=r.1/\r.1 < n/\Cok r.2:=by
 unfold g_spec_l01Below
 refine .condD (λ h0=>by omega) λ _=>.condD (λ h1 => ?_) λ h1 => ?_
 ·refine .bind (byte_ok h) λ a ha => ?_
  obtain ⟨e,g1,g2⟩:=remI_ex (k:=.i64) ha.1 hn
  exact .bindE e (.some ⟨g1,g2,ha.2.2⟩)
 ·refine .bind (byte_ok h) λ a ha=>.bind (byte_ok ha.2.2) λ b hb=>.bind (byte_ok hb.2.2) λ d hd=>.bind (byte_ok hd.2.2) λ x hx => ?_
  rw[wI64 (x:=a.1*16777216) (by omega) (by omega),wI64 (x:=b.1*65536) (by omega) (by omega),wI64 (x:=d.1*256) (by omega) (by omega),wI64 (x:=a.1*16777216+b.1*65536) (by omega) (by omega),
   wI64 (x:=a.1*16777216+b.1*65536+d.1*256) (by omega) (by omega),wI64 (x:=a.1*16777216+b.1*65536+d.1*256+x.1) (by omega) (by omega)]
  obtain ⟨e,g1,g2⟩:=remI_ex (k:=.i64) (a:=a.1*16777216+b.1*65536+d.1*256+x.1) (by omega) hn
  exact .bindE e (.some ⟨g1,g2,hx.2.2⟩)
theorem once_ok {c:GL01Cur} (h:Cok c) {n:Int} (hn:0 < n):Tot (g_spec_l01Once n c) λ r=>Cok r.2 :=
 .bind (below_ok h hn) λ a ha=>.some ha.2.2
theorem pickInt_ok {c:GL01Cur} (h:Cok c) {l:List Int} (hl:0 < l.length):Tot (g_spec_l01PickInt l c) λ r=>r.1 ∈ l/\Cok r.2 :=
 .bind (below_ok h (by omega)) λ a ha=>by
  obtain ⟨v,hv,hm,_⟩:=getI_ex (xs:=l) ha.1 ha.2.1
  exact .bindE hv (.some ⟨hm,ha.2.2⟩)
theorem pick_ok {c:GL01Cur} (h:Cok c) {l:List Bs} (hl:0 < l.length):Tot (g_spec_l01Pick l c) λ r=>r.1 ∈ l/\Cok r.2 :=
 .bind (below_ok h (by omega)) λ a ha=>by
  obtain ⟨v,hv,hm,_⟩:=getI_ex (xs:=l) ha.1 ha.2.1
  exact .bindE hv (.some ⟨hm,ha.2.2⟩)
theorem new_ok {code:List Int} (h:code.length<=1048576):Tot (g_spec_l01New code) Cok:=by
 have key:∀ (k:Nat) (hh i:Int),0<=i->i<=4000->4000-i < k->Tot (g_spec_l01New_l0 code k hh i) λ _=>True:=by
  intro k
  induction k with
  | zero=>intro hh i h0 h1 h2;omega
  | succ k ih =>
   intro hh i h0 h1 h2
   unfold g_spec_l01New_l0
   refine .bind (Q:=λ b=>b=true->i < code.length/\i < 4000) (.condD (λ hi=>.some λ hb=>⟨hi,of_decide_eq_true hb⟩) λ _=>.some λ hb=>nomatch hb) λ b hb => ?_
   refine .cond (λ hc => ?_) λ _=>.some trivial
   obtain ⟨g1,g2⟩:=hb hc
   obtain ⟨v,hv,_⟩:=getI_ex h0 g1
   refine .bindE hv ?_
   rw[wI64 (x:=i+1) (by omega) (by omega)]
   exact ih _ _ (by omega) (by omega) (by omega)
 exact .bind (.bind (key bigK _ 0 (by decide) (by decide) (by decide)) λ a ha=>.some (Q:=λ _=>True) trivial) λ a ha=>.some ⟨Int.le_refl _,h⟩
theorem forLoop {S:Type} {n:Int} {F:Nat->Int->S->Option S} (I:Int->S->Prop) (hn:n<=1000000)
  (hs:∀ k i s,0<=i->i < n->I i s->(∀ s',I (i+1) s'->Tot (F k (i+1) s') (I (max 0 n)))->Tot (F (k+1) i s) (I (max 0 n)))
  (he:∀ k i s,n<=i->I i s->F (k+1) i s=some s) {s:S} (h0:I 0 s):Tot (F bigK 0 s) (I (max 0 n)):=by
 have key:∀ (k:Nat) (i:Int) (s:S),0<=i->i<=max 0 n->I i s->(max 0 n)-i < k->Tot (F k i s) (I (max 0 n)):=by
  intro k
  induction k with
  | zero=>intro i s h0 h1 h2 h3;omega
  | succ k ih =>
   intro i s h0 h1 h2 h3
   by_cases hi:i < n
   ·exact hs k i s h0 hi h2 λ s' hs'=>ih _ _ (by omega) (by omega) hs' (by omega)
   ·rw[he k i s (by omega) h2]
    have:i=max 0 n:=by omega
    subst this
    exact .some h2
 exact key bigK 0 s (Int.le_refl _) (by omega) h0 (by unfold bigK;omega)
theorem i32w' (x:Int) : -2147483648<=IntKind.wrap .i32 x/\IntKind.wrap .i32 x<=2147483647:=by
 unfold IntKind.wrap
 simp only[IntKind.signed,IntKind.bits,if_true]
 constructor<;>(have:=Int.emod_lt_of_pos (x+2147483648) (b:=4294967296) (by decide);have:=Int.emod_nonneg (x+2147483648) (b:=4294967296) (by decide);first|omega|(simp;omega))
theorem int_ok {c:GL01Cur} (h:Cok c):Tot (g_spec_l04Int c) λ r=>(-2147483648<=r.1/\r.1<=2147483647)/\Cok r.2:=by
 unfold g_spec_l04Int
 refine .bind (once_ok h (by decide)) λ a ha=>.cond (λ _ => ?_) λ _ => ?_
 ·exact .bind (below_ok ha (by decide)) λ b hb=>.some ⟨i32w' _,hb.2.2⟩
 ·exact .bind (pickInt_ok ha (by decide)) λ b hb=>.some ⟨i32w' _,hb.2⟩
theorem sLetterAt_ok {k:Int}:Tot (g_spec_LetterAt k) λ v=>0<=v/\v < 256:=by
 unfold g_spec_LetterAt
 rw[specIn_eq,Option.bind_some]
 refine .cond (λ _=>.some (by decide)) λ hc => ?_
 have hk:0<=k/\k<=47:=by simpa using hc
 obtain ⟨v,hv,h0,h1,_⟩:=idxS_ex (l:=[32,114,116,111,101,97,110,105,115,109,99,121,108,103,102,119,100,118,112,98,104,120,117,113,48,49,50,51,52,53,54,55,56,57,106,45,107,46,122,47,59,39,33,43,64,42,44,63]) (i:=k) hk.1 (by simp;omega)
 exact .bindE (a:=_) rfl (.bindE hv (.some ⟨h0,h1⟩))
theorem name_ok {c:GL01Cur} (h:Cok c):Tot (g_spec_l02Name c) λ r=>r.1.length<=10/\Cok r.2:=by
 unfold g_spec_l02Name
 refine .bind (once_ok h (by decide)) λ a ha=>.cond (λ _ => ?_) λ _ => ?_
 ·refine .bind (pick_ok ha (by decide)) λ b hb=>.some ⟨?_,hb.2⟩
  have:=hb.1
  revert this
  generalize b.1=x
  intro hx
  have:∀ y ∈ ([[100,117,112],[111,118,101,114],[115,113,117,97,114,101],[97,33],[50,42],[103,111],[45,105,102],[59],[63],[114,114,114,114,114,114,114],[114,116,111,101,97,110,105],[119,119,119,119,119,119],[113,113,113,113,113],[120]]:List Bs),y.length<=10:=by decide
  exact this x hx
 ·refine .bind (below_ok ha (by decide)) λ b hb => ?_
  rw[wI64 (by omega) (by omega)]
  have:=forLoop (n:=1+b.1) (F:=λ k i s=>g_spec_l02Name_l0 (1+b.1) k s.1 i s.2) (λ i s=>(s.1.length:Int)<=i/\Cok s.2) (by omega) (λ k i s h0 h1 hI hk=>by
   show Tot (g_spec_l02Name_l0 _ (k+1) s.1 i s.2) _
   unfold g_spec_l02Name_l0
   rw[decide_eq_true (by omega),cond_true]
   refine .bind (below_ok hI.2 (by decide)) λ x hx=>.bind sLetterAt_ok λ y hy=>.bindE (app_eq (by simp;omega)) ?_
   rw[wI64 (x:=i+1) (by omega) (by omega)]
   exact hk (_,_) ⟨by simp;omega,hx.2.2⟩) (λ k i s hi _=>by
   show g_spec_l02Name_l0 _ (k+1) s.1 i s.2=_
   unfold g_spec_l02Name_l0
   rw[decide_eq_false (by omega),cond_false]) (s:=([],b.2)) ⟨by simp,hb.2.2⟩
  refine .bind (.bind this λ x hx=>.some (Q:=λ (x:List Int×GL01Cur)=>x.1.length<=10/\Cok x.2) ⟨by have:=hx.1;show x.1.length<=10;omega,hx.2⟩) λ x hx=>.some ⟨?_,hx.2⟩
  unfold strOf;rw[List.length_map];exact hx.1
theorem some_ok {c:GL01Cur} (h:Cok c):Tot (g_spec_l04Some c) λ r=>(r.1.Name.length<=10/\r.1.Raw=0)/\Cok r.2:=by
 unfold g_spec_l04Some
 refine .bind (below_ok h (by decide)) λ a ha=>.cond (λ _ => ?_) λ _=>.cond (λ _ => ?_) λ _=>.cond (λ _ => ?_) λ _ => ?_
 ·exact .bind (int_ok ha.2.2) λ b hb=>.bind (once_ok hb.2 (by decide)) λ d hd=>.some ⟨⟨by simp,rfl⟩,hd⟩
 ·exact .bind (int_ok ha.2.2) λ b hb=>.bind (once_ok hb.2 (by decide)) λ d hd=>.some ⟨⟨by simp,rfl⟩,hd⟩
 ·refine .bind (pick_ok ha.2.2 (by decide)) λ b hb=>.bind (int_ok hb.2) λ d hd=>.some ⟨⟨?_,rfl⟩,hd.2⟩
  have:=hb.1
  revert this
  generalize b.1=x
  intro hx
  have:∀ y ∈ ([[120],[97,116],[113,113,113,113],[116,101,110]]:List Bs),y.length<=10:=by decide
  exact this x hx
 ·exact .bind (below_ok ha.2.2 (by decide)) λ b hb=>.bind (name_ok hb.2.2) λ d hd=>.some ⟨⟨hd.1,rfl⟩,hd.2⟩
theorem word_ok {c:GL01Cur} (h:Cok c):Tot (g_spec_l01Word c) λ r=>(0<=r.1/\r.1 < 4294967296)/\Cok r.2:=by
 unfold g_spec_l01Word
 refine .bind (below_ok h (by decide)) λ a ha=>.cond (λ _ => ?_) λ _=>.cond (λ _ => ?_) λ _ => ?_
 ·exact .bind (pickInt_ok ha.2.2 (by decide)) λ b hb=>.some ⟨wU32_bd _,hb.2⟩
 ·exact .bind (below_ok ha.2.2 (by decide)) λ b hb=>.some ⟨wU32_bd _,hb.2.2⟩
 ·exact .bind (below_ok ha.2.2 (by decide)) λ b hb=>.bind (below_ok hb.2.2 (by decide)) λ d hd=>.some ⟨wU32_bd _,hd.2.2⟩
theorem cells_ok {c:GL01Cur} (h:Cok c):Tot (g_spec_l04Cells c) λ r=>(U32 r.1/\r.1.length<=1000)/\Cok r.2:=by
 unfold g_spec_l04Cells
 refine .bind (below_ok h (by decide)) λ a ha => ?_
 have:=forLoop (n:=a.1) (F:=λ k i s=>g_spec_l04Cells_l0 a.1 k s.1 i s.2) (λ i s=>(U32 s.1/\(s.1.length:Int)<=27*i)/\Cok s.2) (by omega) (λ k i s h0 h1 hI hk=>by
  show Tot (g_spec_l04Cells_l0 _ (k+1) s.1 i s.2) _
  unfold g_spec_l04Cells_l0
  rw[decide_eq_true (by omega),cond_true]
  refine .bind (Q:=λ r=>(U32 r.1/\(r.1.length:Int)<=27*(i+1))/\Cok r.2) ?_ λ r hr => ?_
  ·refine .bind (some_ok hI.2) λ x hx=>.bind (specCells_ok (by have:=hx.1.1;omega) (by have:=hx.1.2;omega)) λ y hy=>.bindE (app_eq (by have:=hI.1.2;have:=hy.2;omega)) (.bind (below_ok hx.2 (by decide)) λ z hz => ?_)
   have hsl:=hI.1.2
   have hyl:=hy.2
   have hl:((s.1++y).length:Int)<=27*i+26:=by rw[List.length_append];omega
   have hu0:=hI.1.1.app hy.1
   have one:∀ v:Int,0<=v/\v < 4294967296->Tot (app (s.1++y) [v]) λ r=>U32 r/\(r.length:Int)<=27*(i+1):=λ v hv=>by
    rw[app_eq (by simp at hl ⊢;omega)];exact .some ⟨hu0.app (.one hv),by simp at hl ⊢;omega⟩
   refine .cond (λ _ => ?_) λ _=>.cond (λ _ => ?_) λ _=>.cond (λ _ => ?_) λ _=>.cond (λ _ => ?_) λ _ => ?_
   ·exact .bind (word_ok hz.2.2) λ w hw=>.bind (one _ hw.1) λ u hu=>.some ⟨hu,hw.2⟩
   ·exact .bind (one _ (by decide)) λ u hu=>.some ⟨hu,hz.2.2⟩
   ·exact .bind (below_ok hz.2.2 (by decide)) λ w hw=>.bind (one _ (wU32_bd _)) λ u hu=>.some ⟨hu,hw.2.2⟩
   ·exact .bind (pickInt_ok hz.2.2 (by decide)) λ w hw=>.bind (one _ (wU32_bd _)) λ u hu=>.some ⟨hu,hw.2⟩
   ·exact .some ⟨⟨hu0,by show ((s.1++y).length:Int)<=_;omega⟩,hz.2.2⟩
  ·rw[wI64 (x:=i+1) (by omega) (by omega)]
   exact hk (_,_) hr) (λ k i s hi _=>by
  show g_spec_l04Cells_l0 _ (k+1) s.1 i s.2=_
  unfold g_spec_l04Cells_l0
  rw[decide_eq_false (by omega),cond_false]) (s:=([],a.2)) ⟨⟨.nil,by simp⟩,ha.2.2⟩
 refine .bind (.bind this λ x hx=>.some (Q:=λ (x:List Int×GL01Cur)=>(U32 x.1/\x.1.length<=1000)/\Cok x.2) ⟨⟨hx.1.1,by have:=hx.1.2;show x.1.length<=1000;omega⟩,hx.2⟩) λ x hx => ?_
 refine .bind (Q:=λ r=>(r.1=true->64 < x.1.length)/\Cok r.2) (.condD (λ hx2=>.bind (once_ok hx.2 (by decide)) λ y hy=>.some ⟨λ _=>by omega,hy⟩) λ _=>.some ⟨(λ e=>nomatch e),hx.2⟩) λ r hr=>.cond (λ hc => ?_) λ _=>.some ⟨hx.1,hr.2⟩
 have:=hr.1 hc
 have hx2:=hx.1.2
 refine .bindE (subL_take (b:=64) (by omega) (by omega)) (.some ⟨⟨λ z hz=>hx.1.1 z (List.mem_of_mem_take hz),by show (List.take _ _).length<=1000;rw[List.length_take];omega⟩,hr.2⟩)
theorem any4_ok {c:GL01Cur} (h:Cok c):Tot (g_spec_l04Any c) λ r=>Iok r.1/\Cok r.2:=by
 unfold g_spec_l04Any
 refine .bind (some_ok h) λ a ha => ?_
 have hn:=ha.1.1
 have hr:=ha.1.2
 have hio:Iok a.1:=⟨by omega,by rw[hr];decide,by rw[hr];decide⟩
 refine .bind (Q:=λ o=>match o with | .inl (x,y,z)=>Iok z/\Cok x | .inr (x,y,z)=>Iok y/\Cok x) (.bind (below_ok ha.2 (by decide)) λ b hb=>.cond (λ _ => ?_) λ _=>.cond (λ _ => ?_) λ _=>.cond (λ _ => ?_) λ _=>.cond (λ _ => ?_) λ _ => ?_) λ o ho => ?_
 ·exact .bind (word_ok hb.2.2) λ w hw=>.some ⟨⟨by simp,hw.1⟩,hw.2⟩
 ·exact .bind (below_ok hb.2.2 (by decide)) λ w hw=>.some ⟨hio,hw.2.2⟩
 ·refine .bind (pick_ok hb.2.2 (by decide)) λ w hw=>.some ⟨⟨?_,hio.2⟩,hw.2⟩
  have hm:=hw.1
  revert hm
  generalize w.1=x
  intro hx
  have:∀ y ∈ ([[],[65],[113,113,113,113,113],[115,113,117,97,114,101,115,113,117,97,114,101]]:List Bs),y.length<=1048576:=by decide
  exact this x hx
 ·exact .bind (below_ok hb.2.2 (by decide)) λ w hw=>.some ⟨⟨hio.1,wU32_bd _⟩,hw.2.2⟩
 ·exact .some ⟨hio,hb.2.2⟩
 ·rcases o with ⟨x,y,z⟩|⟨x,y,z⟩
  ·exact .some ho
  ·exact .some ho
end Go.Proofs.YtgfamepnkhpemaaGreatDoor
namespace Go.Proofs.YtgfamepnkhpemaaGreatDoor
open Go Go.Fm
set_option maxRecDepth 100000
theorem lo_app {n:Nat} {e:GEd} (h:EI n e) (hn:n<=2000) (hb:edB e=true):e.Cut.length<=20/\loB (e.Left++e.Right)=true/\e.Left.length+e.Right.length<=64/\(∀ it ∈ e.Cut,okI it=true)/\∀ it ∈ e.Left++e.Right,okI it=true:=by
 have:=h.nl;have:=h.nr
 unfold edB at hb
 rw[Bool.and_eq_true,Bool.and_eq_true,decide_eq_true_eq]at hb
 obtain ⟨h1,h2,h3⟩:=hb
 have hl:=h.l.app h.r
 have hlen:(e.Left++e.Right).length<=4000:=by rw[List.length_append];omega
 obtain ⟨_,_,cs,ok,_,_,e2⟩:=lo_both hl hlen
 have:=(e2 h3).2
 rw[List.length_append]at this
 exact ⟨h1,h3,this,List.all_eq_true.1 h2,lo_items hl hlen h3⟩
theorem at_ok {e:GEd} {all:List GItem} {m:Nat} (hm:m<=all.length) (hl:all.length<=64):((cond (!decide (0<=(m:Int)/\(m:Int)<=(all.length:Int))) (some (e,false)) ((subL all 0 (m:Int)).bind λ v_8=>(app ([]:List GItem) v_8).bind λ v_9=>(subL all (m:Int) ((all.length:Nat):Int)).bind λ v_10=>(app ([]:List GItem) v_10).bind λ v_11=>some ((⟨v_9,v_11,e.Cut⟩:GEd),true)):Option (GEd×Bool)))=some (⟨all.take m,all.drop m,e.Cut⟩,true):=by
 rw[decide_eq_true (by omega),Bool.not_true,cond_false,subL_take (by omega) (by omega),Option.bind_some,Int.toNat_natCast,app1 (by rw[List.length_take];omega),Option.bind_some,subL_drop (by omega) (by omega),Option.bind_some,Int.toNat_natCast,app1 (by rw[List.length_drop];omega),Option.bind_some]
theorem move_eq {n:Nat} {e:GEd} {k:GKey} (h:EI n e) (hn:n<=900) (hb:edB e=true) (ho:0<=k.Op/\k.Op<=3):∃ o ok,g_spec_l07Move e k.Op=some (o,ok)/\(ok=true->pressS e k=some o)/\(ok=false->pressS e k=none):=by
 obtain ⟨b1,b2,b3,_,_⟩:=lo_app h (by omega) hb
 obtain ⟨al,a1,a2,a3,a4,a5⟩:=all_spec h (by omega)
 have:=a5 b2
 subst this
 unfold g_spec_l07Move
 rw[a1,Option.bind_some]
 obtain ⟨l,r,c⟩:=e
 simp only at b3
 have hal:(l++r).length<=64:=by rw[List.length_append];exact b3
 by_cases o0:k.Op=0
 ·rw[show (k.Op==0)=true by simp[o0],cond_true,Option.bind_some,specIn_eq]
  rcases last_cases l with rfl|⟨a,x,rfl⟩
  ·rw[show IntKind.wrap .i64 ((((⟨[],r,c⟩:GEd).Left.length:Nat):Int)-1) = -1 from rfl,decide_eq_false (by omega)]
   exact ⟨_,false,rfl,(λ h=>nomatch h),λ _=>by unfold pressS;rw[if_pos o0];rfl⟩
  ·rw[List.length_append,List.length_singleton]at b3
   rw[wI64 (x:=(((⟨a++[x],r,c⟩:GEd).Left.length:Nat):Int)-1) (by show _<=((((a++[x]).length:Nat):Int)-1);rw[List.length_append];omega) (by show ((((a++[x]).length:Nat):Int)-1) < _;rw[List.length_append,List.length_singleton];omega),show ((((⟨a++[x],r,c⟩:GEd).Left.length:Nat):Int)-1)=((a.length:Nat):Int) by show ((((a++[x]).length:Nat):Int)-1)=_;rw[List.length_append,List.length_singleton];omega,Option.bind_some]
   show ∃ o ok,(cond (!decide (0<=((a.length:Nat):Int)/\((a.length:Nat):Int)<=(((a++[x]++r).length:Nat):Int))) _ _:Option (GEd×Bool))=_/\_
   rw[at_ok (by simp) hal]
   refine ⟨_,true,rfl,λ _ => ?_,λ h=>nomatch h⟩
   unfold pressS
   rw[if_pos o0]
   simp
 rw[show (k.Op==0)=false by simp[o0],cond_false]
 by_cases o1:k.Op=1
 ·rw[show (k.Op==1)=true by simp[o1],cond_true,Option.bind_some,specIn_eq,wI64 (x:=(((⟨l,r,c⟩:GEd).Left.length:Nat):Int)+1) (by simp only;omega) (by simp only;omega),show ((((⟨l,r,c⟩:GEd).Left.length:Nat):Int)+1)=((l.length+1:Nat):Int) by simp only;omega,Option.bind_some]
  cases r with
  | nil =>
   rw[decide_eq_false (by show ¬ (0<=((l.length+1:Nat):Int)/\((l.length+1:Nat):Int)<=(((l++[]).length:Nat):Int));rw[List.append_nil];omega)]
   exact ⟨_,false,rfl,(λ h=>nomatch h),λ _=>by unfold pressS;rw[if_neg o0,if_pos o1];rfl⟩
  | cons x r =>
   show ∃ o ok,(cond (!decide (0<=((l.length+1:Nat):Int)/\((l.length+1:Nat):Int)<=(((l++x::r).length:Nat):Int))) _ _:Option (GEd×Bool))=_/\_
   rw[at_ok (by simp) hal]
   refine ⟨_,true,rfl,λ _ => ?_,λ h=>nomatch h⟩
   unfold pressS
   rw[if_neg o0,if_pos o1]
   have e1:(l++x::r)=(l++[x])++r:=by simp
   have e2:l.length+1=(l++[x]).length:=by simp
   rw[e1,e2,List.take_left,List.drop_left]
   rfl
 rw[show (k.Op==1)=false by simp[o1],cond_false]
 by_cases o2:k.Op=2
 ·rw[show (k.Op==2)=true by simp[o2],cond_true,Option.bind_some,specIn_eq,Option.bind_some]
  show ∃ o ok,(cond (!decide (0<=((0:Nat):Int)/\((0:Nat):Int)<=(((l++r).length:Nat):Int))) _ _:Option (GEd×Bool))=_/\_
  have:=at_ok (e:=⟨l,r,c⟩) (Nat.zero_le (l++r).length) hal
  refine ⟨_,true,this,λ _ => ?_,λ h=>nomatch h⟩
  unfold pressS
  rw[if_neg o0,if_neg o1,if_pos o2];rfl
 ·rw[show (k.Op==2)=false by simp[o2],cond_false,Option.bind_some,specIn_eq,Option.bind_some]
  have:=at_ok (e:=⟨l,r,c⟩) (Nat.le_refl (l++r).length) hal
  refine ⟨_,true,this,λ _ => ?_,λ h=>nomatch h⟩
  unfold pressS
  rw[if_neg o0,if_neg o1,if_neg o2,if_pos (by omega),List.take_length,List.drop_length]
theorem key_some {e o:GEd} {k:GKey} (hp:pressS e k=some o):keyR e k=cond (edB o) (o,true) (e,false):=by
 unfold keyR pressR;rw[hp]
theorem key_EI {n:Nat} {e:GEd} {k:GKey} (h:EI n e) (hk:Iok k.Item):EI (2*n+1) (keyR e k).1:=by
 unfold keyR pressR
 cases hp:pressS e k with
 | none=>exact ⟨h.l,h.r,h.c,by have:=h.nl;show e.Left.length<=_;omega,by have:=h.nr;show e.Right.length<=_;omega,by have:=h.nc;show e.Cut.length<=_;omega⟩
 | some o =>
  cases hb:edB o with
  | true=>simp only[hb,cond_true];exact pressS_EI h hk hp
  | false=>simp only[hb,cond_false];exact ⟨h.l,h.r,h.c,by have:=h.nl;omega,by have:=h.nr;omega,by have:=h.nc;omega⟩
theorem key_ok2 {e:GEd} {k:GKey} (hb:edB e=true):edB (keyR e k).1=true/\((keyR e k).2=true->pressS e k=some (keyR e k).1)/\((keyR e k).2=false->(keyR e k).1=e):=by
 unfold keyR pressR
 cases hp:pressS e k with
 | none=>exact ⟨hb,(λ h=>nomatch h),λ _=>rfl⟩
 | some o =>
  cases ho:edB o with
  | true=>simp only[ho,cond_true];exact ⟨trivial,λ _=>trivial,λ h=>nomatch h⟩
  | false=>simp only[ho,cond_false];exact ⟨hb,(λ h=>nomatch h),λ _=>trivial⟩
end Go.Proofs.YtgfamepnkhpemaaGreatDoor
namespace Go.Proofs.YtgfamepnkhpemaaGreatDoor
open Go Go.Fm
set_option maxRecDepth 100000
def keysR:List GKey->GEd->Int->Int×GEd
 | [],e,n=>(n,e)
 | k::r,e,n=>keysR r (keyR e k).1 (cond (keyR e k).2 n (n+1))
theorem EI.small {n:Nat} {e:GEd} (h:EI n e) (hn:n<=2000) (hb:edB e=true):EI 100 e:=by
 obtain ⟨h1,_,h2,_⟩:=lo_app h hn hb
 exact ⟨h.l,h.r,h.c,by omega,by omega,by omega⟩
theorem key_next {e:GEd} {k:GKey} (h:EI 100 e) (hk:Iok k.Item) (hb:edB e=true):EI 100 (keyR e k).1/\edB (keyR e k).1=true:=by
 obtain ⟨k1,_⟩:=key_ok2 (k:=k) hb
 exact ⟨(key_EI h hk).small (by omega) k1,k1⟩
theorem keys_ok:∀ (l:List GKey) (e:GEd) (n:Int),(∀ k ∈ l,Iok k.Item)->EI 100 e->edB e=true->EI 100 (keysR l e n).2/\edB (keysR l e n).2=true
 | [],e,n,hk,h,hb=>⟨h,hb⟩
 | k::r,e,n,hk,h,hb=>by
  obtain ⟨a,b⟩:=key_next h (hk k (by simp)) hb
  exact keys_ok r _ _ (λ x hx=>hk x (List.mem_cons_of_mem _ hx)) a b
theorem keyLoop {keys:List GKey} (F:Nat->Int->Int->GEd->Option (Int×GEd)) (hk:∀ k ∈ keys,Iok k.Item) (hl:keys.length<=1000)
  (step:∀ (k n:Nat) (m:Int) (e:GEd) (x:GKey),keys[n]? = some x->n < keys.length->EI 100 e->edB e=true->Iok x.Item->0<=m->m<=n->F (k+1) m n e=F k (cond (keyR e x).2 m (m+1)) ((n+1:Nat):Int) (keyR e x).1)
  (fin:∀ (k n:Nat) (m:Int) (e:GEd),keys.length<=n->F (k+1) m n e=some (m,e)) {e:GEd} (h:EI 100 e) (hb:edB e=true):F bigK 0 0 e=some (keysR keys e 0):=by
 have key:∀ (k n:Nat) (m:Int) (e:GEd),n<=keys.length->keys.length-n < k->EI 100 e->edB e=true->0<=m->m<=n->F k m n e=some (keysR (keys.drop n) e m):=by
  intro k
  induction k with
  | zero=>intro n m e h0 h1;omega
  | succ k ih =>
   intro n m e h0 h1 h2 h3 h4 h5
   by_cases hn:n < keys.length
   ·have hx:=hk keys[n] (List.getElem_mem hn)
    obtain ⟨a,b⟩:=key_next h2 hx h3
    rw[step k n m e keys[n] (List.getElem?_eq_getElem hn) hn h2 h3 hx h4 h5,List.drop_eq_getElem_cons hn,keysR]
    refine ih (n+1) _ _ (by omega) (by omega) a b ?_ ?_
    ·cases (keyR e keys[n]).2
     ·show 0<=m+1;omega
     ·exact h4
    ·cases (keyR e keys[n]).2
     ·show m+1<=((n+1:Nat):Int);omega
     ·show m<=((n+1:Nat):Int);omega
   ·rw[fin k n m e (by omega),List.drop_eq_nil_of_le (by omega)];rfl
 have:=key bigK 0 0 e (Nat.zero_le _) (by unfold bigK;omega) h hb (Int.le_refl _) (by omega)
 rw[List.drop_zero]at this
 exact this
theorem impl_all {e:GEd} {keys:List GKey} (h:EI 100 e) (hk:∀ k ∈ keys,Iok k.Item) (hl:keys.length<=1000):g_impl_PressAll e keys=some (cond (edB e) ((keysR keys e 0).2,(keysR keys e 0).1) (⟨[],[],[]⟩,(keys.length:Int))):=by
 unfold g_impl_PressAll
 rw[edOk_impl h (by omega),Option.bind_some]
 cases hb:edB e with
 | false=>rfl
 | true =>
  rw[Bool.not_true,cond_false,cond_true,own_ed h (by omega),Option.bind_some]
  have L:=keyLoop (keys:=keys) (λ k m i x=>g_impl_PressAll_l0 keys (keys.length:Int) k m i x) hk hl (λ k n m e x hx hn he hb hxi h4 h5=>by
   show g_impl_PressAll_l0 keys (keys.length:Int) (k+1) m n e=_
   rw[g_impl_PressAll_l0,decide_eq_true (by omega),cond_true,getI_nat,hx,Option.bind_some,impl_pressed he (by omega) hxi,Option.bind_some,nxt (by omega)]
   unfold keyR
   cases (pressR e x).2 with
   | true=>rfl
   | false=>rw[Bool.not_false,cond_true,wI64 (x:=m+1) (by omega) (by omega)];rfl) (λ k n m e hn=>by
   show g_impl_PressAll_l0 keys (keys.length:Int) (k+1) m n e=_
   rw[g_impl_PressAll_l0,decide_eq_false (by omega),cond_false]) h hb
  rw[L]
  obtain ⟨a,_⟩:=keys_ok keys e 0 hk h hb
  simp only[Option.bind_some]
  rw[own_ed a (by omega)];rfl
end Go.Proofs.YtgfamepnkhpemaaGreatDoor
namespace Go.Proofs.YtgfamepnkhpemaaGreatDoor
open Go Go.Fm
set_option maxRecDepth 100000
def Fr (v:Int) (run:List Int) (nx:Option Int) (it:GItem) (cs:List Int):Prop :=
 (isName (v % 16)=true/\cs=v::run/\∀ nx',pm v run nx'=some it)\/(isName (v % 16)=false/\cs=[v]/\∀ run' nx',pm v run' nx'=some it)\/(isName (v % 16)=false/\∃ w,nx=some w/\cs=[v,w]/\∀ run',pm v run' (some w)=some it)
theorem pm_free {v:Int} {run:List Int} {nx:Option Int} (hv:0<=v/\v < 4294967296) (hr:∀ c ∈ run,(0<=c/\c < 4294967296)/\runP c=true) (hn:∀ w,nx=some w->0<=w/\w < 4294967296) :
  ∃ it cs,pm v run nx=some it/\g_impl_CellsOf it=some cs/\(it.Kind≠0->v % 16≠0/\Fr v run nx it cs):=by
 have hraw:g_impl_CellsOf (raw v)=some [v]:=cells_raw
 cases h1:isName (v % 16) with
 | true =>
  have hz:v % 16≠0:=λ h=>by rw[h]at h1;exact absurd h1 (by decide)
  obtain ⟨y,hy,hyl,hyp⟩:=unpack_ok (l:=v / 16::run.map (· / 16))
  cases h2:y.2 with
  | false =>
   have e:∀ nx',pm v run nx'=some (raw v):=λ nx'=>by unfold pm;rw[h1,cond_true,hy,Option.bind_some,h2,cond_false]
   exact ⟨raw v,[v],e nx,hraw,λ h=>absurd rfl h⟩
  | true =>
   have ht:v % 16=1\/v % 16=3\/v % 16=4\/v % 16=9\/v % 16=10\/v % 16=11:=by simpa [isName] using h1
   obtain ⟨k,hk,hkt,_⟩:=nameKind_eq ht
   have e:∀ nx',pm v run nx'=some ⟨k,y.1,0,false,0⟩:=λ nx'=>by unfold pm;rw[h1,cond_true,hy,Option.bind_some,h2,cond_true,hk,Option.bind_some]
   have hp:=hyp h2
   obtain ⟨p,hp',_,hpl⟩:=pack_ok (s:=y.1) (by omega)
   rw[hp]at hp'
   cases hp'
   exact ⟨_,_,e nx,cells_name hkt (by omega) hp hpl,λ _=>⟨hz, .inl ⟨h1,nameCells_back hv hr,e⟩⟩⟩
 | false =>
  by_cases h8:v % 16=8
  ·have e:∀ run' nx',pm v run' nx'=some ⟨7,[],IntKind.wrap .i32 v / 32,andI .u32 v 16 != 0,0⟩:=λ run' nx'=>by unfold pm;rw[h1,cond_false,h8];rfl
   exact ⟨_,[v],e run nx,by rw[cells_7];exact short_back hv h8 2,λ _=>⟨by omega, .inr (.inl ⟨h1,rfl,e⟩)⟩⟩
  by_cases h6:v % 16=6
  ·have e:∀ run' nx',pm v run' nx'=some ⟨8,[],IntKind.wrap .i32 v / 32,andI .u32 v 16 != 0,0⟩:=λ run' nx'=>by unfold pm;rw[h1,cond_false,h6];rfl
   exact ⟨_,[v],e run nx,by rw[cells_8];exact short_back hv h6 5,λ _=>⟨by omega, .inr (.inl ⟨h1,rfl,e⟩)⟩⟩
  have b8:(v % 16==8)=false:=by simpa using h8
  have b6:(v % 16==6)=false:=by simpa using h6
  cases h25:(v % 16==2 || v % 16==5) with
  | true =>
   have hz:v % 16≠0:=λ h=>by rw[h]at h25;exact absurd h25 (by decide)
   have e0:pm v run none=some (raw v):=by unfold pm;rw[h1,cond_false,b8,cond_false,b6,cond_false,h25,cond_true]
   cases nx with
   | none=>exact ⟨raw v,[v],e0,hraw,λ h=>absurd rfl h⟩
   | some w =>
    obtain ⟨cs,hcs,_,hcl⟩:=lng_cells (v:=v) (w:=w)
    have e1:∀ run',pm v run' (some w)=cond (decide (cs=[v,w])) (some (lng v w)) (some (raw v)):=λ run'=>by
     unfold pm;rw[h1,cond_false,b8,cond_false,b6,cond_false,h25,cond_true]
     simp only[hcs,Option.bind_some]
    by_cases hc:cs=[v,w]
    ·simp only[decide_eq_true hc,cond_true]at e1
     exact ⟨_,_,e1 run,hcs,λ _=>⟨hz, .inr (.inr ⟨h1,w,rfl,hc,e1⟩)⟩⟩
    ·simp only[decide_eq_false hc,cond_false]at e1
     exact ⟨raw v,[v],e1 run,hraw,λ h=>absurd rfl h⟩
  | false =>
   cases h12:v % 16==12 with
   | false =>
    have e:∀ nx',pm v run nx'=some (raw v):=λ nx'=>by unfold pm;rw[h1,cond_false,b8,cond_false,b6,cond_false,h25,cond_false,h12,cond_false]
    exact ⟨raw v,[v],e nx,hraw,λ h=>absurd rfl h⟩
   | true =>
    have ht:v % 16=12:=by simpa using h12
    have e0:pm v run none=some (raw v):=by unfold pm;rw[h1,cond_false,b8,cond_false,b6,cond_false,h25,cond_false,h12,cond_true]
    cases nx with
    | none=>exact ⟨raw v,[v],e0,hraw,λ h=>absurd rfl h⟩
    | some w =>
     obtain ⟨b,hb,hbf⟩:=field_ok (f:=v / 16)
     have e1:∀ run',pm v run' (some w)=cond b ((g_impl_UnpackOne (v / 16)).bind λ nm=>some ⟨9,nm,IntKind.wrap .i32 w,false,0⟩) (some (raw v)):=λ run'=>by
      unfold pm;rw[h1,cond_false,b8,cond_false,b6,cond_false,h25,cond_false,h12,cond_true]
      simp only[hb,Option.bind_some]
     cases b with
     | false=>exact ⟨raw v,[v],e1 run,hraw,λ h=>absurd rfl h⟩
     | true =>
      obtain ⟨nm,h2,h3,h4⟩:=hbf rfl
      simp only[cond_true,h2,Option.bind_some]at e1
      have hw:=hn w rfl
      refine ⟨_,_,e1 run,cells_9 h4,λ _=>⟨by omega, .inr (.inr ⟨h1,w,rfl,?_,e1⟩)⟩⟩
      rw[or16 (by omega) (by omega) (by decide) (by decide)]
      have:IntKind.wrap .u32 (IntKind.wrap .i32 w)=w:=by
       simp[IntKind.wrap,IntKind.bits,IntKind.signed];split<;>omega
      rw[this,show v / 16*16+12=v by omega]
def Rt (it:GItem):Prop:=Iok it/\it.Kind≠0/\∃ v ct,g_impl_CellsOf it=some (v::ct)/\v % 16≠0/\U32 (v::ct) ∧
 ∀ tl:List Int,U32 tl->(∀ h t,tl=h::t->h % 16≠0)->(v::(ct++tl)).length<=64->g_impl_parseOne (v::(ct++tl))=some it
theorem take_imp {p:Int->Bool}:∀ {l:List Int} {c:Int},c ∈ l.takeWhile p->p c=true
 | a::l,c,h=>by
  rw[List.takeWhile_cons]at h
  cases hp:p a with
  | false=>rw[hp,if_neg (by simp)]at h;cases h
  | true =>
   rw[hp,if_pos rfl]at h
   rcases List.mem_cons.1 h with rfl|h
   ·exact hp
   ·exact take_imp h
theorem take_end {run tl:List Int} (hr:∀ c ∈ run,runP c=true) (h:∀ a t,tl=a::t->a % 16≠0):(run++tl).takeWhile runP=run:=by
 induction run with
 | nil =>
  cases tl with
  | nil=>rfl
  | cons a t =>
   have:runP a=false:=by
    cases hp:runP a with
    | false=>rfl
    | true=>exact absurd (runP_iff.1 hp).2 (h a t rfl)
   rw[List.nil_append,List.takeWhile_cons,this];rfl
 | cons c r ih =>
  rw[List.cons_append,List.takeWhile_cons,hr c List.mem_cons_self,if_pos rfl,ih λ x hx=>hr x (List.mem_cons_of_mem _ hx)]
theorem parses_rt:∀ (its:List GItem) (cells:List Int),U32 cells->cells.length<=64->Parses cells its->(∀ it ∈ its,Iok it)->(∀ it ∈ its,it.Kind≠0)->∀ it ∈ its,Rt it
 | [],_,_,_,_,_,_,it,h=>by cases h
 | it::its,cells,hu,hl,hp,hi,hk,x,hx=>by
  cases hp with
  | cons h1 h2 h3 h4 h5 =>
   rename_i rest cs
   have hur:U32 rest:=λ y hy=>hu y (by rw[h4];exact List.mem_append_right _ hy)
   have hlr:rest.length<=64:=by rw[h4,List.length_append]at hl;omega
   rcases List.mem_cons.1 hx with rfl|hx
   ·refine ⟨hi _ List.mem_cons_self,hk _ List.mem_cons_self,?_⟩
    match cs,h3 with
    | v::ct,_ =>
     have hc:cells=v::(ct++rest):=h4
     rw[hc]at hu hl h1
     have hv:=hu v List.mem_cons_self
     have hut:U32 (ct++rest):=λ y hy=>hu y (List.mem_cons_of_mem _ hy)
     have hrun:∀ c ∈ (ct++rest).takeWhile runP,(0<=c/\c < 4294967296)/\runP c=true:=λ c hc=>⟨hut c (List.takeWhile_subset _ hc),take_imp hc⟩
     have hnx:∀ w,(ct++rest).head? = some w->0<=w/\w < 4294967296:=λ w hw=>hut w (List.mem_of_mem_head? hw)
     obtain ⟨it',cs',g1,g2,g3⟩:=pm_free (v:=v) (run:=(ct++rest).takeWhile runP) (nx:=(ct++rest).head?) hv hrun hnx
     rw[parse_pm hu hl,g1]at h1
     cases h1
     rw[h2]at g2
     cases g2
     obtain ⟨hz,hf⟩:=g3 (hk _ List.mem_cons_self)
     refine ⟨v,ct,h2,hz,λ y hy => ?_,λ tl ht hh htl => ?_⟩
     ·rcases List.mem_cons.1 hy with rfl|hy
      ·exact hv
      ·exact hut y (List.mem_append_left _ hy)
     have hu2:U32 (v::(ct++tl)):=λ y hy=>by
      rcases List.mem_cons.1 hy with rfl|hy
      ·exact hv
      ·rcases List.mem_append.1 hy with hy|hy
       ·exact hut y (List.mem_append_left _ hy)
       ·exact ht y hy
     rw[parse_pm hu2 htl]
     rcases hf with ⟨_,e,hp⟩|⟨hnm,e,hp⟩|⟨hnm,w,hw,e,hp⟩
     ·have hct:ct=(ct++rest).takeWhile runP:=(List.cons.inj e).2
      have hct2:∀ c ∈ ct,runP c=true:=λ c hc=>(hrun c (hct▸hc)).2
      rw[take_end hct2 hh]
      have:=hp (ct++tl).head?
      rw[<-hct]at this
      exact this
     ·exact hp _ _
     ·have hct:ct=[w]:=(List.cons.inj e).2
      subst hct
      exact hp _
   ·exact parses_rt its rest hur hlr h5 (λ y hy=>hi y (List.mem_cons_of_mem _ hy)) (λ y hy=>hk y (List.mem_cons_of_mem _ hy)) x hx
def cellsO (it:GItem):List Int:=(g_impl_CellsOf it).getD []
def cellsL (l:List GItem):List Int:=l.flatMap cellsO
theorem Rt.cells {it:GItem} (h:Rt it):g_impl_CellsOf it=some (cellsO it)/\1<=(cellsO it).length/\U32 (cellsO it)/\∃ v ct,cellsO it=v::ct/\v % 16≠0:=by
 obtain ⟨_,_,v,ct,h1,h2,h3,_⟩:=h
 have e:cellsO it=v::ct:=by unfold cellsO;rw[h1];rfl
 rw[e]
 exact ⟨h1,by simp,h3,v,ct,rfl,h2⟩
theorem cellsL_cons (it:GItem) (l:List GItem):cellsL (it::l)=cellsO it++cellsL l:=by unfold cellsL;rw[List.flatMap_cons]
theorem rt_u32:∀ (l:List GItem),(∀ it ∈ l,Rt it)->U32 (cellsL l)/\(∀ h t,cellsL l=h::t->h % 16≠0)
 | [],_=>⟨(λ x hx=>by cases (hx:x ∈ ([]:List Int))),(λ h t e=>by cases (e:([]:List Int)=h::t))⟩
 | it::l,h=>by
  obtain ⟨_,_,h3,v,ct,e,hv⟩:=(h it List.mem_cons_self).cells
  obtain ⟨i1,_⟩:=rt_u32 l λ x hx=>h x (List.mem_cons_of_mem _ hx)
  rw[cellsL_cons]
  refine ⟨λ x hx => ?_,λ a t ha => ?_⟩
  ·rcases List.mem_append.1 hx with hx|hx
   ·exact h3 x hx
   ·exact i1 x hx
  ·rw[e]at ha
   cases ha
   exact hv
theorem rt_parses:∀ (l:List GItem),(∀ it ∈ l,Rt it)->(cellsL l).length<=64->Parses (cellsL l) l
 | [],_,_=>.nil
 | it::l,h,hl=>by
  have hr:=h it List.mem_cons_self
  obtain ⟨c1,c2,c3,v,ct,e,hv⟩:=hr.cells
  obtain ⟨_,_,v',ct',h1,_,_,hp⟩:=hr
  have e':cellsO it=v'::ct':=by unfold cellsO;rw[h1];rfl
  obtain ⟨u1,u2⟩:=rt_u32 l λ x hx=>h x (List.mem_cons_of_mem _ hx)
  rw[cellsL_cons]at hl ⊢
  have hl2:(cellsL l).length<=64:=by rw[List.length_append]at hl;omega
  refine .cons ?_ c1 c2 rfl (rt_parses l (λ x hx=>h x (List.mem_cons_of_mem _ hx)) hl2)
  rw[e']at hl ⊢
  exact hp _ u1 u2 hl
theorem rt_unparse {l:List GItem} (hr:∀ it ∈ l,Rt it) (hl:(cellsL l).length<=64) (hn:l.length<=4000):g_impl_Unparse l=some (cellsL l,true):=by
 have key:∀ (k n:Nat),n<=l.length->l.length-n < k->g_impl_Unparse_l0 l (l.length:Int) k (cellsL (l.take n)) (n:Int)=some (.inl (cellsL l)):=by
  intro k
  induction k with
  | zero=>intro n h0 h1;omega
  | succ k ih =>
   intro n h0 h1
   rw[g_impl_Unparse_l0]
   by_cases hi:n < l.length
   ·obtain ⟨c1,c2,_⟩:=(hr _ (List.getElem_mem hi)).cells
    have hs:cellsL (l.take (n+1))=cellsL (l.take n)++cellsO l[n]:=by
     unfold cellsL
     rw[List.take_succ_eq_append_getElem hi,List.flatMap_append,List.flatMap_cons,List.flatMap_nil,List.append_nil]
    have hall:cellsL l=cellsL (l.take (n+1))++cellsL (l.drop (n+1)):=by
     unfold cellsL
     rw[<-List.flatMap_append,List.take_append_drop]
    have hle:(cellsL (l.take n)++cellsO l[n]).length<=64:=by rw[<-hs];rw[hall,List.length_append]at hl;omega
    rw[decide_eq_true (by omega),cond_true,getI_nat,List.getElem?_eq_getElem hi,Option.bind_some,c1,Option.bind_some,app_eq (by rw[List.length_append]at hle;omega),Option.bind_some,
     beq_eq_false_iff_ne.mpr (show ((cellsO l[n]).length:Int)≠0 by omega),cond_false,decide_eq_false (by omega),Option.bind_some,cond_false,nxt (by omega),<-hs]
    exact ih (n+1) hi (by omega)
   ·rw[decide_eq_false (by omega),cond_false,List.take_of_length_le (by omega)]
 have k0:=key bigK 0 (Nat.zero_le _) (by unfold bigK;omega)
 unfold g_impl_Unparse
 rw[show g_impl_Unparse_l0 l (l.length:Int) bigK ([]:List Int) 0=some (.inl (cellsL l)) from k0]
 rfl
theorem rt_lo {l:List GItem} (hr:∀ it ∈ l,Rt it) (hl:(cellsL l).length<=64) (hn:l.length<=4000):loB l=true:=by
 have hp:=rt_parses l hr hl
 have hlast:∀ x,l≠x++[rz]:=λ x e=>(hr rz (by rw[e];simp)).2.1 rfl
 have h1:=parseCells_same hl hp hlast
 unfold loB g_impl_ListOk
 rw[rt_unparse hr hl hn,Option.bind_some,cond_true,h1,Option.bind_some,equal_items (by omega),decide_eq_true rfl]
 rfl
theorem sub_cells:∀ {a b:List GItem},a.Sublist b->(cellsL a).length<=(cellsL b).length:=by
 intro a b h
 induction h with
 | slnil=>exact Nat.le_refl _
 | cons x _ ih=>rw[cellsL_cons,List.length_append];omega
 | cons_cons x _ ih=>rw[cellsL_cons,cellsL_cons,List.length_append,List.length_append];omega
theorem sub_rt {a b:List GItem} (h:a.Sublist b) (hr:∀ it ∈ b,Rt it):∀ it ∈ a,Rt it:=λ it hi=>hr it (h.subset hi)
theorem sub_lo {a b:List GItem} (h:a.Sublist b) (hr:∀ it ∈ b,Rt it) (hl:(cellsL b).length<=64) (hn:b.length<=4000):loB a=true :=
 rt_lo (sub_rt h hr) (Nat.le_trans (sub_cells h) hl) (Nat.le_trans h.length_le hn)
theorem rt_ok {it:GItem} (h:Rt it):okI it=true:=by
 obtain ⟨c1,c2,_⟩:=h.cells
 unfold okI g_impl_ItemOk
 rw[c1,Option.bind_some,decide_eq_true (by omega)]
 rfl
end Go.Proofs.YtgfamepnkhpemaaGreatDoor
namespace Go.Fm
section
variable {α:Type} [DecidableEq α]
def lcs:List α->List α->Nat
 | [],_=>0
 | _::_,[]=>0
 | x::xs,y::ys=>if x=y then lcs xs ys+1 else max (lcs xs (y::ys)) (lcs (x::xs) ys)
termination_by a b=>a.length+b.length
theorem lcs_nil (b:List α):lcs [] b=0:=by rw[lcs]
theorem lcs_nilR:∀ a:List α,lcs a []=0
 | []=>by rw[lcs]
 | _::_=>by rw[lcs]
theorem lcs_cons (x y:α) (xs ys:List α):lcs (x::xs) (y::ys)=if x=y then lcs xs ys+1 else max (lcs xs (y::ys)) (lcs (x::xs) ys):=by rw[lcs]
theorem lcs_ex:∀ (n:Nat) (a b:List α),a.length+b.length<=n->∃ l:List α,l.Sublist a/\l.Sublist b/\l.length=lcs a b
 | n,[],b,_=>⟨[],List.Sublist.refl _,List.nil_sublist _,by rw[lcs_nil];rfl⟩
 | n,x::xs,[],_=>⟨[],List.nil_sublist _,List.Sublist.refl _,by rw[lcs_nilR];rfl⟩
 | 0,x::xs,y::ys,h=>by simp at h
 | n+1,x::xs,y::ys,h=>by
  simp only[List.length_cons]at h
  rw[lcs_cons]
  by_cases e:x=y
  ·obtain ⟨l,h1,h2,h3⟩:=lcs_ex n xs ys (by omega)
   subst e
   exact ⟨x::l,h1.cons_cons x,h2.cons_cons x,by rw[if_pos rfl,List.length_cons,h3]⟩
  ·rw[if_neg e]
   obtain ⟨l,h1,h2,h3⟩:=lcs_ex n xs (y::ys) (by simp only[List.length_cons];omega)
   obtain ⟨m,g1,g2,g3⟩:=lcs_ex n (x::xs) ys (by simp only[List.length_cons];omega)
   by_cases hm:lcs xs (y::ys)<=lcs (x::xs) ys
   ·exact ⟨m,g1,g2.cons y,by rw[g3,Nat.max_eq_right hm]⟩
   ·exact ⟨l,h1.cons x,h2,by rw[h3,Nat.max_eq_left (by omega)]⟩
omit [DecidableEq α] in
theorem sub_tail {l xs:List α} {x:α} (h:l.Sublist (x::xs)):l.tail.Sublist xs:=by
 cases h with
 | cons _ h=>exact (List.tail_sublist l).trans h
 | cons_cons _ h=>exact h
omit [DecidableEq α] in
theorem sub_ne {l xs ys:List α} {x y:α} (hne:x≠y) (h:l.Sublist (x::xs)) (g:l.Sublist (y::ys)):l.Sublist xs\/l.Sublist ys:=by
 cases h with
 | cons _ h=>exact .inl h
 | cons_cons _ h =>
  cases g with
  | cons _ g=>exact .inr g
  | cons_cons _ g=>exact absurd rfl hne
theorem lcs_max:∀ (n:Nat) (a b:List α),a.length+b.length<=n->∀ l:List α,l.Sublist a->l.Sublist b->l.length<=lcs a b
 | n,[],b,_,l,h,_=>by rw[List.sublist_nil.1 h];exact Nat.zero_le _
 | n,x::xs,[],_,l,_,h=>by rw[List.sublist_nil.1 h];exact Nat.zero_le _
 | 0,x::xs,y::ys,h,_,_,_=>by simp at h
 | n+1,x::xs,y::ys,h,l,h1,h2=>by
  simp only[List.length_cons]at h
  rw[lcs_cons]
  by_cases e:x=y
  ·rw[if_pos e]
   have:=lcs_max n xs ys (by omega) l.tail (sub_tail h1) (sub_tail h2)
   rw[List.length_tail]at this
   omega
  ·rw[if_neg e]
   rcases sub_ne e h1 h2 with g|g
   ·have:=lcs_max n xs (y::ys) (by simp only[List.length_cons];omega) l g h2
    omega
   ·have:=lcs_max n (x::xs) ys (by simp only[List.length_cons];omega) l h1 g
    omega
theorem lcs_le_of {a b a' b':List α} (h:∀ l:List α,l.Sublist a->l.Sublist b->∃ m:List α,m.length=l.length/\m.Sublist a'/\m.Sublist b'):lcs a b<=lcs a' b':=by
 obtain ⟨l,h1,h2,h3⟩:=lcs_ex _ a b (Nat.le_refl _)
 obtain ⟨m,g1,g2,g3⟩:=h l h1 h2
 rw[<-h3,<-g1]
 exact lcs_max _ a' b' (Nat.le_refl _) m g2 g3
theorem lcs_rev (a b:List α):lcs a.reverse b.reverse=lcs a b :=
 Nat.le_antisymm (lcs_le_of λ l h1 h2=>⟨l.reverse,List.length_reverse,by have:=h1.reverse;rwa [List.reverse_reverse]at this,by have:=h2.reverse;rwa [List.reverse_reverse]at this⟩)
  (lcs_le_of λ l h1 h2=>⟨l.reverse,List.length_reverse,h1.reverse,h2.reverse⟩)
theorem lcs_leL (a b:List α):lcs a b<=a.length:=by
 obtain ⟨l,h1,h2,h3⟩:=lcs_ex _ a b (Nat.le_refl _)
 rw[<-h3];exact h1.length_le
end
end Go.Fm
namespace Go.Proofs.YtgfamepnkhpemaaGreatDoor
open Go Go.Fm
theorem itemEq (x y:GItem):((x.Kind:Int)==y.Kind&&((x.Name:Bs)==y.Name&&((x.N:Int)==y.N&&((x.Hex:Bool)==y.Hex&&((x.Raw:Int)==y.Raw&&true)))))=decide (x=y):=by
 obtain ⟨a1,a2,a3,a4,a5⟩:=x
 obtain ⟨b1,b2,b3,b4,b5⟩:=y
 rw[Bool.eq_iff_iff]
 simp
theorem maxI_eq {a b:Nat}:maxI (a:Int) (b:Int)=((max a b:Nat):Int):=by
 unfold maxI
 omega
theorem getI_le {α:Type} {xs:List α} {i:Nat} {x:α} (h:xs[i]? = some x):getI xs (i:Int)=some x:=by rw[getI_nat];exact h
theorem w1 {n:Nat} (h:n<=1048576):IntKind.wrap .i64 ((n:Int)+1)=((n+1:Nat):Int):=by rw[wI64 (by omega) (by omega)];omega
theorem take_rev {α:Type} {a:List α} {i:Nat} (h:i < a.length):(a.take (i+1)).reverse=a[i]::(a.take i).reverse:=by
 rw[List.take_succ_eq_append_getElem h,List.reverse_append]
 rfl
def Rw (A b:List GItem) (n:Nat) (r:List Int):Prop:=r.length=b.length+1/\∀ k,k<=n->r[k]? = some ((lcs A (b.take k).reverse:Nat):Int)
theorem in_ok {A b:List GItem} {x:GItem} {row:List Int} (hb:b.length<=64) (hA:A.length<=64) (hr:Rw A b b.length row):∀ (k n:Nat) (next:List Int),n<=b.length->b.length-n < k->Rw (x::A) b n next →
  ∃ r,g_impl_common_l1 row b (b.length:Int) x k next (n:Int)=some r/\Rw (x::A) b b.length r:=by
 intro k
 induction k with
 | zero=>intro n next h0 h1;omega
 | succ k ih =>
  intro n next h0 h1 hn
  rw[g_impl_common_l1]
  by_cases hlt:n < b.length
  ·have e1:=getI_nat (xs:=b) (i:=n)
   rw[List.getElem?_eq_getElem hlt]at e1
   have e2:=getI_le (hn.2 n (Nat.le_refl _))
   have e3:=getI_le (hr.2 (n+1) (by omega))
   have e4:=getI_le (hr.2 n (by omega))
   have l1:n+1 < next.length:=by rw[hn.1];omega
   have e5:=getI_nat (xs:=next) (i:=n+1)
   rw[List.getElem?_eq_getElem l1]at e5
   have hw:=w1 (n:=n) (by omega)
   have hT:=lcs_cons x b[n] A (b.take n).reverse
   rw[<-take_rev hlt]at hT
   have hle:=lcs_leL A (b.take n).reverse
   rw[decide_eq_true (by omega),cond_true,e1,hw,e2,e3,e5]
   simp only[Option.bind_some]
   rw[itemEq]
   by_cases he:x=b[n]
   ·rw[decide_eq_true he,cond_true,e4]
    simp only[Option.bind_some]
    have e6:=getI_nat (xs:=next.set ((n+1:Nat):Int).toNat (maxI ((lcs (x::A) (b.take n).reverse:Nat):Int) ((lcs A (b.take (n+1)).reverse:Nat):Int))) (i:=n+1)
    rw[List.getElem?_eq_getElem (by rw[List.length_set];exact l1)]at e6
    rw[e6]
    simp only[Option.bind_some]
    rw[Int.toNat_natCast,List.set_set,w1 (by omega)]
    refine ih (n+1) _ (by omega) (by omega) ⟨by rw[List.length_set];exact hn.1,λ j hj => ?_⟩
    by_cases hj1:j=n+1
    ·subst hj1
     rw[List.getElem?_set_self l1,hT,if_pos he]
    ·rw[List.getElem?_set_ne (λ e=>hj1 e.symm)]
     exact hn.2 j (by omega)
   ·rw[decide_eq_false he,cond_false]
    simp only[Option.bind_some]
    rw[Int.toNat_natCast,maxI_eq]
    refine ih (n+1) _ (by omega) (by omega) ⟨by rw[List.length_set];exact hn.1,λ j hj => ?_⟩
    by_cases hj1:j=n+1
    ·subst hj1
     rw[List.getElem?_set_self l1,hT,if_neg he,Nat.max_comm]
    ·rw[List.getElem?_set_ne (λ e=>hj1 e.symm)]
     exact hn.2 j (by omega)
  ·rw[decide_eq_false (by omega),cond_false]
   have:n=b.length:=by omega
   subst this
   exact ⟨next,rfl,hn⟩
theorem zero_row {A b:List GItem} {z:List Int} (hz:z=List.replicate (b.length+1) 0):Rw A b 0 z:=by
 subst hz
 refine ⟨List.length_replicate,λ k hk => ?_⟩
 have:k=0:=by omega
 subst this
 rw[List.take_zero,List.reverse_nil,lcs_nilR]
 rfl
theorem zero_row0 {b:List GItem} {z:List Int} (hz:z=List.replicate (b.length+1) 0):Rw [] b b.length z:=by
 subst hz
 refine ⟨List.length_replicate,λ k hk => ?_⟩
 rw[lcs_nil,List.getElem?_replicate,if_pos (by omega)]
 rfl
theorem out_ok {a b:List GItem} (ha:a.length<=64) (hb:b.length<=64):∀ (k n:Nat) (row:List Int),n<=a.length->a.length-n < k->Rw (a.take n).reverse b b.length row →
  ∃ r,g_impl_common_l0 b a (a.length:Int) k row (n:Int)=some r/\Rw a.reverse b b.length r:=by
 intro k
 induction k with
 | zero=>intro n next h0 h1;omega
 | succ k ih =>
  intro n row h0 h1 hn
  rw[g_impl_common_l0]
  by_cases hlt:n < a.length
  ·have e1:=getI_nat (xs:=a) (i:=n)
   rw[List.getElem?_eq_getElem hlt]at e1
   rw[decide_eq_true (by omega),cond_true,e1]
   simp only[Option.bind_some]
   have hA:((a.take n).reverse).length<=64:=by rw[List.length_reverse,List.length_take];omega
   obtain ⟨r,h2,h3⟩:=in_ok (x:=a[n]) hb hA hn bigK 0 (List.replicate (b.length+1) 0) (Nat.zero_le _) (by unfold bigK;omega) (zero_row rfl)
   rw[Int.natCast_zero]at h2
   rw[w1 (by omega),mk_eq (by omega) (by omega)]
   simp only[Option.bind_some]
   rw[Int.toNat_natCast,h2]
   simp only[Option.bind_some]
   rw[w1 (by omega)]
   refine ih (n+1) r (by omega) (by omega) ?_
   rw[take_rev hlt]
   exact h3
  ·rw[decide_eq_false (by omega),cond_false]
   have:n=a.length:=by omega
   subst this
   rw[List.take_length]at hn
   exact ⟨row,rfl,hn⟩
theorem common_eq {a b:List GItem} (ha:a.length<=64) (hb:b.length<=64):g_impl_common a b=some ((lcs a b:Nat):Int):=by
 unfold g_impl_common
 rw[w1 (by omega),mk_eq (by omega) (by omega)]
 simp only[Option.bind_some]
 obtain ⟨r,h2,h3⟩:=out_ok ha hb bigK 0 (List.replicate (b.length+1) 0) (Nat.zero_le _) (by unfold bigK;omega) (by rw[List.take_zero,List.reverse_nil];exact zero_row0 rfl)
 rw[Int.natCast_zero]at h2
 rw[Int.toNat_natCast,h2]
 simp only[Option.bind_some]
 rw[getI_le (h3.2 b.length (Nat.le_refl _)),List.take_length,lcs_rev]
 rfl
def T (a b:List GItem) (i k:Nat):Int:=((lcs (a.drop i) (b.drop k):Nat):Int)
def Good (a b:List GItem) (i k:Nat) (rows:List (List Int)):Prop :=
 rows.length=a.length+1/\∀ i',i'<=a.length->∃ r,rows[i']? = some r/\r.length=b.length+1/\∀ k',k'<=b.length->(i < i'\/(i'=i/\k<=k')\/k'=b.length)->r[k']? = some (T a b i' k')
theorem max14 {x y:Nat}:g_spec_l14Max (x:Int) (y:Int)=some ((max x y:Nat):Int):=by
 unfold g_spec_l14Max
 by_cases h:(x:Int) > y
 ·rw[decide_eq_true h,cond_true];congr 1;omega
 ·rw[decide_eq_false h,cond_false];congr 1;omega
theorem T_le {a b:List GItem} {i k:Nat} (ha:a.length<=64):T a b i k<=64/\0<=T a b i k:=by
 unfold T
 have:=lcs_leL (a.drop i) (b.drop k)
 rw[List.length_drop]at this
 omega
theorem T_step {a b:List GItem} {i k:Nat} (hi:i < a.length) (hk:k < b.length):lcs (a.drop i) (b.drop k)=if a[i]=b[k] then lcs (a.drop (i+1)) (b.drop (k+1))+1 else max (lcs (a.drop (i+1)) (b.drop k)) (lcs (a.drop i) (b.drop (k+1))):=by
 have:=lcs_cons a[i] b[k] (a.drop (i+1)) (b.drop (k+1))
 rw[<-List.drop_eq_getElem_cons hi,<-List.drop_eq_getElem_cons hk]at this
 exact this
theorem good_set {a b:List GItem} {i k:Nat} {rows:List (List Int)} {r:List Int} {v:Int} (hi:i < a.length) (hk:k < b.length) (h:Good a b i (k+1) rows) (hr:rows[i]? = some r) (hv:v=T a b i k):Good a b i k (rows.set i (r.set k v)):=by
 refine ⟨by rw[List.length_set];exact h.1,λ i' hi' => ?_⟩
 obtain ⟨q,h1,h2,h3⟩:=h.2 i' hi'
 by_cases he:i'=i
 ·subst he
  rw[hr]at h1
  cases h1
  refine ⟨r.set k v,List.getElem?_set_self (by rw[h.1];omega),by rw[List.length_set];exact h2,λ k' hk' ho => ?_⟩
  by_cases hkk:k'=k
  ·subst hkk
   rw[List.getElem?_set_self (by rw[h2];omega),hv]
  ·rw[List.getElem?_set_ne (λ e=>hkk e.symm)]
   exact h3 k' hk' (by omega)
 ·refine ⟨q,by rw[List.getElem?_set_ne (λ e=>he e.symm)];exact h1,h2,λ k' hk' ho=>h3 k' hk' (by omega)⟩
theorem step_ok {a b:List GItem} {i k:Nat} {rows:List (List Int)} (ha:a.length<=64) (hb:b.length<=64) (hi:i < a.length) (hk:k < b.length) (h:Good a b i (k+1) rows) :
  ∃ rows',g_spec_l22Table_s a b rows (i:Int) (k:Int)=some rows'/\Good a b i k rows':=by
 obtain ⟨r,p1,p2,p3⟩:=h.2 i (by omega)
 obtain ⟨r1,q1,q2,q3⟩:=h.2 (i+1) (by omega)
 have e1:=getI_le p1
 have e2:=getI_le q1
 have e3:=getI_le (q3 k (by omega) (by omega))
 have e4:=getI_le (p3 (k+1) (by omega) (by omega))
 have e5:=getI_le (q3 (k+1) (by omega) (by omega))
 have lk:k < r.length:=by rw[p2];omega
 have e6:=getI_nat (xs:=r) (i:=k)
 rw[List.getElem?_eq_getElem lk]at e6
 have e7:=getI_nat (xs:=a) (i:=i)
 rw[List.getElem?_eq_getElem hi]at e7
 have e8:=getI_nat (xs:=b) (i:=k)
 rw[List.getElem?_eq_getElem hk]at e8
 have hst:=T_step hi hk
 unfold g_spec_l22Table_s
 rw[w1 (by omega),w1 (by omega),e1,e2]
 simp only[Option.bind_some]
 rw[e3,e4]
 simp only[Option.bind_some]
 unfold T
 rw[max14,e6,e7,e8]
 simp only[Option.bind_some]
 rw[itemEq]
 by_cases he:a[i]=b[k]
 ·rw[decide_eq_true he,cond_true,e5]
  simp only[Option.bind_some]
  have e9:=getI_nat (xs:=r.set (k:Int).toNat ((max (lcs (a.drop (i+1)) (b.drop k)) (lcs (a.drop i) (b.drop (k+1))):Nat):Int)) (i:=k)
  rw[List.getElem?_eq_getElem (by rw[List.length_set];exact lk)]at e9
  rw[e9]
  simp only[Option.bind_some]
  have hle:=T_le (a:=a) (b:=b) (i:=i+1) (k:=k+1) ha
  rw[List.set_set,Int.toNat_natCast,Int.toNat_natCast]
  refine ⟨_,rfl,good_set hi hk h p1 ?_⟩
  rw[wI64 (by omega) (by omega)]
  unfold T
  rw[hst,if_pos he]
  omega
 ·rw[decide_eq_false he,cond_false,Int.toNat_natCast,Int.toNat_natCast]
  refine ⟨_,rfl,good_set hi hk h p1 ?_⟩
  unfold T
  rw[hst,if_neg he]
theorem l2_ok {a b:List GItem} {i:Nat} (ha:a.length<=64) (hb:b.length<=64) (hi:i < a.length):∀ (f k:Nat) (rows:List (List Int)),k<=b.length->k < f->Good a b i k rows →
  ∃ rows',g_spec_l22Table_l2 a b (i:Int) f rows ((k:Int)-1)=some rows'/\Good a b i 0 rows':=by
 intro f
 induction f with
 | zero=>intro k rows h0 h1;omega
 | succ f ih =>
  intro k rows h0 h1 h
  rw[g_spec_l22Table_l2]
  cases k with
  | zero=>exact ⟨rows,rfl,h⟩
  | succ k =>
   obtain ⟨rows1,h2,h3⟩:=step_ok ha hb hi (by omega) h
   rw[decide_eq_true (by omega),cond_true,show (((k+1:Nat):Int)-1)=(k:Int) by omega,h2]
   simp only[Option.bind_some]
   rw[wI64 (by omega) (by omega)]
   exact ih k rows1 (by omega) (by omega) h3
theorem l1_ok {a b:List GItem} (ha:a.length<=64) (hb:b.length<=64):∀ (f i:Nat) (rows:List (List Int)),i<=a.length->i < f->Good a b i 0 rows →
  ∃ rows',g_spec_l22Table_l1 a b f rows ((i:Int)-1)=some rows'/\Good a b 0 0 rows':=by
 intro f
 induction f with
 | zero=>intro k rows h0 h1;omega
 | succ f ih =>
  intro i rows h0 h1 h
  rw[g_spec_l22Table_l1]
  cases i with
  | zero=>exact ⟨rows,rfl,h⟩
  | succ i =>
   have hg:Good a b i b.length rows:=⟨h.1,λ i' hi'=>by
    obtain ⟨r,h1,h2,h3⟩:=h.2 i' hi'
    exact ⟨r,h1,h2,λ k' hk' ho=>h3 k' hk' (by omega)⟩⟩
   obtain ⟨rows1,h2,h3⟩:=l2_ok ha hb (i:=i) (by omega) bigK b.length rows (Nat.le_refl _) (by unfold bigK;omega) hg
   rw[decide_eq_true (by omega),cond_true,show (((i+1:Nat):Int)-1)=(i:Int) by omega,wI64 (x:=(b.length:Int)-1) (by omega) (by omega),h2]
   simp only[Option.bind_some]
   rw[wI64 (by omega) (by omega)]
   exact ih i rows1 (by omega) (by omega) h3
theorem l0_ok {a b:List GItem} (ha:a.length<=64) (hb:b.length<=64):∀ (f n:Nat),n<=a.length+1->a.length+1-n < f →
  g_spec_l22Table_l0 a b f (List.replicate n (List.replicate (b.length+1) 0)) (n:Int)=some (List.replicate (a.length+1) (List.replicate (b.length+1) 0)):=by
 intro f
 induction f with
 | zero=>intro n h0 h1;omega
 | succ f ih =>
  intro n h0 h1
  rw[g_spec_l22Table_l0]
  by_cases hn:n<=a.length
  ·rw[decide_eq_true (by omega),cond_true,w1 (by omega),mk_eq (by omega) (by omega)]
   simp only[Option.bind_some]
   rw[app_eq (by rw[List.length_replicate];simp;omega)]
   simp only[Option.bind_some]
   rw[w1 (by omega),Int.toNat_natCast,<-List.replicate_succ']
   exact ih (n+1) (by omega) (by omega)
  ·rw[decide_eq_false (by omega),cond_false]
   have:n=a.length+1:=by omega
   rw[this]
theorem table_ok {a b:List GItem} (ha:a.length<=64) (hb:b.length<=64):∃ rows,g_spec_l22Table a b=some rows/\Good a b 0 0 rows:=by
 unfold g_spec_l22Table
 have h0:=l0_ok ha hb bigK 0 (by omega) (by unfold bigK;omega)
 rw[List.replicate_zero,Int.natCast_zero]at h0
 rw[h0]
 simp only[Option.bind_some]
 rw[wI64 (by omega) (by omega)]
 refine l1_ok ha hb bigK a.length _ (Nat.le_refl _) (by unfold bigK;omega) ⟨List.length_replicate,λ i' hi'=>⟨List.replicate (b.length+1) 0,by rw[List.getElem?_replicate,if_pos (by omega)],List.length_replicate,λ k' hk' ho => ?_⟩⟩
 rw[List.getElem?_replicate,if_pos (by omega)]
 unfold T
 rcases ho with ho|ho|ho
 ·omega
 ·rw[ho.1,List.drop_length,lcs_nil];rfl
 ·rw[ho,List.drop_length,lcs_nilR];rfl
theorem specCommon_eq {a b:List GItem}:g_spec_Common a b=some (if 64 < a.length\/64 < b.length then -1 else ((lcs a b:Nat):Int)):=by
 unfold g_spec_Common
 by_cases ha:a.length<=64
 ·rw[decide_eq_false (by omega),cond_false]
  simp only[Option.bind_some]
  by_cases hb:b.length<=64
  ·rw[decide_eq_false (by omega),cond_false,if_neg (by omega)]
   obtain ⟨rows,h1,h2⟩:=table_ok ha hb
   obtain ⟨r,p1,p2,p3⟩:=h2.2 0 (Nat.zero_le _)
   have e1:=getI_le p1
   have e2:=getI_le (p3 0 (Nat.zero_le _) (by omega))
   rw[Int.natCast_zero]at e1 e2
   rw[h1]
   simp only[Option.bind_some]
   rw[e1]
   simp only[Option.bind_some]
   rw[e2]
   unfold T
   rfl
  ·rw[decide_eq_true (by omega),cond_true,if_pos (by omega)]
 ·rw[decide_eq_true (by omega),cond_true]
  simp only[Option.bind_some,cond_true]
  rw[if_pos (by omega)]
theorem implCommon_eq {a b:List GItem}:g_impl_Common a b=some (if 64 < a.length\/64 < b.length then -1 else ((lcs a b:Nat):Int)):=by
 unfold g_impl_Common
 by_cases ha:a.length<=64
 ·rw[decide_eq_false (by omega),cond_false]
  simp only[Option.bind_some]
  by_cases hb:b.length<=64
  ·rw[decide_eq_false (by omega),cond_false,if_neg (by omega),common_eq ha hb]
   rfl
  ·rw[decide_eq_true (by omega),cond_true,if_pos (by omega)]
 ·rw[decide_eq_true (by omega),cond_true]
  simp only[Option.bind_some,cond_true]
  rw[if_pos (by omega)]
end Go.Proofs.YtgfamepnkhpemaaGreatDoor
namespace Go.Proofs.YtgfamepnkhpemaaGreatDoor
open Go Go.Fm
set_option maxRecDepth 100000
inductive Stp where
 | keep|cut
 | put (it:GItem)
def plan:Nat->List GItem->List GItem->List Stp
 | 0,_,_=>[]
 | _+1,[],[]=>[]
 | n+1,_::xs,[]=>.cut::plan n xs []
 | n+1,[],y::ys=>.put y::plan n [] ys
 | n+1,x::xs,y::ys=>if x=y then .keep::plan n xs ys else if lcs (x::xs) ys<=lcs xs (y::ys) then .cut::plan n xs (y::ys) else .put y::plan n (x::xs) ys
def kR:GKey:=⟨1,⟨0,[],0,false,0⟩⟩
def kH:GKey:=⟨2,⟨0,[],0,false,0⟩⟩
def kX:GKey:=⟨5,⟨0,[],0,false,0⟩⟩
def fK:Stp->List GKey
 | .keep=>[kR]
 | .cut=>[kR,kX]
 | .put _=>[]
def sK:Stp->List GKey
 | .keep=>[kR]
 | .cut=>[]
 | .put y=>[⟨4,y⟩]
def nCut:List Stp->Nat
 | []=>0
 | .cut::r=>nCut r+1
 | .keep::r=>nCut r
 | .put _::r=>nCut r
def F1 (l:List Stp):List GKey:=l.flatMap fK
def S2 (l:List Stp):List GKey:=l.flatMap sK
theorem sub1 {x:GItem} {xs:List GItem}:subL (x::xs) 1 ((((x::xs).length:Nat)):Int)=some xs:=by
 rw[subL_drop (by omega) (by rw[List.length_cons];omega)];rfl
theorem plan_impl:∀ (n:Nat) (x y:List GItem) (first second:List GKey) (cuts k:Nat),x.length+y.length<=n->n < k->x.length<=64->y.length<=64->first.length+2*n<=1000->second.length+2*n<=1000->cuts+n<=1000 →
  g_impl_Plan_l0 k x y first second (cuts:Int)=some (first++F1 (plan n x y),second++S2 (plan n x y),((cuts+nCut (plan n x y):Nat):Int)):=by
 intro n
 induction n with
 | zero =>
  intro x y first second cuts k h hk hx hy h1 h2 h3
  obtain ⟨k,rfl⟩:∃ k',k=k'+1:=⟨k-1,by omega⟩
  have e1:x=[]:=List.length_eq_zero_iff.mp (by omega)
  have e2:y=[]:=List.length_eq_zero_iff.mp (by omega)
  subst e1;subst e2
  rw[g_impl_Plan_l0]
  simp[plan,F1,S2,nCut]
  rfl
 | succ n ih =>
  intro x y first second cuts k h hk hx hy h1 h2 h3
  obtain ⟨k,rfl⟩:∃ k',k=k'+1:=⟨k-1,by omega⟩
  have a1:∀ {z:GKey},app first [z]=some (first++[z]):=app_eq (by rw[List.length_singleton];omega)
  have a2:∀ {z:GKey},app second [z]=some (second++[z]):=app_eq (by rw[List.length_singleton];omega)
  have a3:∀ {z w:GKey},app first [z,w]=some (first++[z,w]):=app_eq (by simp;omega)
  have wc:IntKind.wrap .i64 ((cuts:Int)+1)=((cuts+1:Nat):Int):=by rw[wI64 (by omega) (by omega)];rfl
  rw[g_impl_Plan_l0,wI64 (by omega) (by omega)]
  cases x with
  | nil =>
   cases y with
   | nil=>rw[decide_eq_false (by simp),cond_false];simp[plan,F1,S2,nCut]
   | cons b ys =>
    rw[List.length_cons]at h hy
    rw[decide_eq_true (by simp),cond_true,decide_eq_false (by simp),cond_false,Option.bind_some,cond_false,cond_false,Option.bind_some,cond_false]
    rw[show getI (b::ys) 0=some b from rfl,Option.bind_some,a2,Option.bind_some,sub1,Option.bind_some,
     ih [] ys first _ cuts k (by omega) (by omega) hx (by omega) (by omega) (by rw[List.length_append,List.length_singleton];omega) (by omega)]
    simp[plan,F1,S2,nCut,fK,sK]
  | cons a xs =>
   rw[List.length_cons]at h hx
   cases y with
   | nil =>
    rw[decide_eq_true (by simp),cond_true,decide_eq_true (by simp),cond_true,decide_eq_false (by simp),cond_false,Option.bind_some,cond_false,cond_true]
    rw[show (((([]:List GItem).length:Int))==0)=true from rfl,cond_true,Option.bind_some,cond_true]
    rw[show app first [(⟨1,(⟨0,[],0,false,0⟩:GItem)⟩:GKey),(⟨5,(⟨0,[],0,false,0⟩:GItem)⟩:GKey)]=some (first++[kR,kX]) from a3,Option.bind_some,sub1,Option.bind_some,wc,
     ih xs [] _ second (cuts+1) k (by omega) (by omega) (by omega) hy (by simp;omega) (by omega) (by omega)]
    simp[plan,F1,S2,nCut,fK,sK]
    omega
   | cons b ys =>
    rw[List.length_cons]at h hy
    have hab:=itemEq a b
    rw[decide_eq_true (by simp;omega),cond_true,decide_eq_true (by simp),cond_true,decide_eq_true (by simp),cond_true,show getI (a::xs) 0=some a from rfl,show getI (b::ys) 0=some b from rfl,Option.bind_some,Option.bind_some,hab,Option.bind_some]
    by_cases he:a=b
    ·rw[decide_eq_true he,cond_true]
     rw[show app first [(⟨1,(⟨0,[],0,false,0⟩:GItem)⟩:GKey)]=some (first++[kR]) from a1,Option.bind_some,show app second [(⟨1,(⟨0,[],0,false,0⟩:GItem)⟩:GKey)]=some (second++[kR]) from a2,Option.bind_some,sub1,Option.bind_some,sub1,Option.bind_some,
      ih xs ys _ _ cuts k (by omega) (by omega) (by omega) (by omega) (by simp;omega) (by simp;omega) (by omega),plan,if_pos he]
     simp[F1,S2,nCut,fK,sK]
    ·rw[decide_eq_false he,cond_false,show ((((b::ys).length:Nat):Int)==0)=false by rw[beq_eq_false_iff_ne];simp;omega,cond_false,sub1,Option.bind_some,common_eq (by omega) (by rw[List.length_cons];omega),Option.bind_some,sub1,Option.bind_some,common_eq (by rw[List.length_cons];omega) (by omega),Option.bind_some,Option.bind_some,plan,if_neg he]
     by_cases hl:lcs (a::xs) ys<=lcs xs (b::ys)
     ·rw[decide_eq_true (by omega),cond_true,Option.bind_some,cond_true,if_pos hl]
      rw[show app first [(⟨1,(⟨0,[],0,false,0⟩:GItem)⟩:GKey),(⟨5,(⟨0,[],0,false,0⟩:GItem)⟩:GKey)]=some (first++[kR,kX]) from a3,Option.bind_some,Option.bind_some,wc,
       ih xs (b::ys) _ second (cuts+1) k (by rw[List.length_cons];omega) (by omega) (by omega) (by rw[List.length_cons];omega) (by simp;omega) (by omega) (by omega)]
      simp[F1,S2,nCut,fK,sK]
      omega
     ·rw[decide_eq_false (by omega),cond_true,Option.bind_some,cond_false,if_neg hl,a2,Option.bind_some,Option.bind_some,
       ih (a::xs) ys first _ cuts k (by rw[List.length_cons];omega) (by omega) (by rw[List.length_cons];omega) (by omega) (by omega) (by simp;omega) (by omega)]
      simp[F1,S2,nCut,fK,sK]
theorem plan_spec {x y:List GItem} {t:List (List Int)} (hx:x.length<=64) (hy:y.length<=64) (ht:Good x y 0 0 t):∀ (n i j:Nat) (first second:List GKey) (cuts k:Nat),i<=x.length->j<=y.length->(x.length-i)+(y.length-j)<=n->n < k->first.length+2*n<=1000->second.length+2*n<=1000->cuts+n<=1000 →
  g_spec_Plan_l0 x y t k first second (cuts:Int) (i:Int) (j:Int)=some (first++F1 (plan n (x.drop i) (y.drop j)),second++S2 (plan n (x.drop i) (y.drop j)),((cuts+nCut (plan n (x.drop i) (y.drop j)):Nat):Int)):=by
 intro n
 induction n with
 | zero =>
  intro i j first second cuts k hi hj h hk h1 h2 h3
  obtain ⟨k,rfl⟩:∃ k',k=k'+1:=⟨k-1,by omega⟩
  rw[g_spec_Plan_l0,decide_eq_false (by omega),cond_false,Option.bind_some,decide_eq_false (by omega),cond_false]
  simp[plan,F1,S2,nCut]
 | succ n ih =>
  intro i j first second cuts k hi hj h hk h1 h2 h3
  obtain ⟨k,rfl⟩:∃ k',k=k'+1:=⟨k-1,by omega⟩
  have a1:∀ {z:GKey},app first [z]=some (first++[z]):=app_eq (by rw[List.length_singleton];omega)
  have a2:∀ {z:GKey},app second [z]=some (second++[z]):=app_eq (by rw[List.length_singleton];omega)
  have a3:∀ {z w:GKey},app first [z,w]=some (first++[z,w]):=app_eq (by simp;omega)
  have wc:IntKind.wrap .i64 ((cuts:Int)+1)=((cuts+1:Nat):Int):=by rw[wI64 (by omega) (by omega)];rfl
  have wi:IntKind.wrap .i64 ((i:Int)+1)=((i+1:Nat):Int):=by rw[wI64 (by omega) (by omega)];rfl
  have wj:IntKind.wrap .i64 ((j:Int)+1)=((j+1:Nat):Int):=by rw[wI64 (by omega) (by omega)];rfl
  rw[g_spec_Plan_l0]
  by_cases hix:i < x.length
  ·have dx:=List.drop_eq_getElem_cons hix
   rw[decide_eq_true (by omega),cond_true,Option.bind_some,cond_true,cond_true]
   by_cases hjy:j < y.length
   ·have dy:=List.drop_eq_getElem_cons hjy
    rw[decide_eq_true (by omega),cond_true,getI_nat,List.getElem?_eq_getElem hix,Option.bind_some,getI_nat,List.getElem?_eq_getElem hjy,Option.bind_some,itemEq,Option.bind_some,dx,dy,plan]
    by_cases he:x[i]=y[j]
    ·rw[decide_eq_true he,cond_true,if_pos he]
     rw[show app first [(⟨1,(⟨0,[],0,false,0⟩:GItem)⟩:GKey)]=some (first++[kR]) from a1,Option.bind_some,show app second [(⟨1,(⟨0,[],0,false,0⟩:GItem)⟩:GKey)]=some (second++[kR]) from a2,Option.bind_some,wi,wj,
      ih (i+1) (j+1) _ _ cuts k hix hjy (by omega) (by omega) (by simp;omega) (by simp;omega) (by omega)]
     simp[F1,S2,nCut,fK,sK]
    ·rw[decide_eq_false he,cond_false,if_neg he,show ((j:Int)==(y.length:Int))=false by rw[beq_eq_false_iff_ne];omega,cond_false,wi,wj]
     obtain ⟨r1,p1,p2,p3⟩:=ht.2 (i+1) hix
     obtain ⟨r0,q1,q2,q3⟩:=ht.2 i hi
     have e1:=getI_le p1
     have e2:=getI_le (p3 j hj (by omega))
     have e3:=getI_le q1
     have e4:=getI_le (q3 (j+1) hjy (by omega))
     rw[e1,Option.bind_some,e2,Option.bind_some,e3,Option.bind_some,e4,Option.bind_some,Option.bind_some]
     unfold T
     rw[dx,dy]
     by_cases hl:lcs (x[i]::x.drop (i+1)) (y.drop (j+1))<=lcs (x.drop (i+1)) (y[j]::y.drop (j+1))
     ·rw[decide_eq_true (by omega),cond_true,Option.bind_some,cond_true,if_pos hl]
      rw[show app first [(⟨1,(⟨0,[],0,false,0⟩:GItem)⟩:GKey),(⟨5,(⟨0,[],0,false,0⟩:GItem)⟩:GKey)]=some (first++[kR,kX]) from a3,Option.bind_some,wc,
       ih (i+1) j _ second (cuts+1) k hix hj (by omega) (by omega) (by simp;omega) (by omega) (by omega),dy]
      simp[F1,S2,nCut,fK,sK]
      omega
     ·rw[decide_eq_false (by omega),cond_true,Option.bind_some,cond_false,if_neg hl,a2,Option.bind_some,
       ih i (j+1) first _ cuts k hi hjy (by omega) (by omega) (by omega) (by simp;omega) (by omega),dx]
      simp[F1,S2,nCut,fK,sK]
   ·have dy:y.drop j=[]:=List.drop_eq_nil_of_le (by omega)
    rw[decide_eq_false (by omega),cond_false,Option.bind_some,cond_false,show ((j:Int)==(y.length:Int))=true by rw[beq_iff_eq];omega,cond_true,cond_true,Option.bind_some,cond_true,dx,dy,plan]
    rw[show app first [(⟨1,(⟨0,[],0,false,0⟩:GItem)⟩:GKey),(⟨5,(⟨0,[],0,false,0⟩:GItem)⟩:GKey)]=some (first++[kR,kX]) from a3,Option.bind_some,wc,wi,
     ih (i+1) j _ second (cuts+1) k hix hj (by omega) (by omega) (by simp;omega) (by omega) (by omega),dy]
    simp[F1,S2,nCut,fK,sK]
    omega
  ·have dx:x.drop i=[]:=List.drop_eq_nil_of_le (by omega)
   rw[decide_eq_false (by omega),cond_false,Option.bind_some]
   by_cases hjy:j < y.length
   ·have dy:=List.drop_eq_getElem_cons hjy
    rw[decide_eq_true (by omega),cond_true,cond_false,Option.bind_some,cond_false,cond_false,Option.bind_some,cond_false,getI_nat,List.getElem?_eq_getElem hjy,Option.bind_some,a2,Option.bind_some,wj,dx,dy,plan,
     ih i (j+1) first _ cuts k hi hjy (by omega) (by omega) (by omega) (by simp;omega) (by omega),dx]
    simp[F1,S2,nCut,fK,sK]
   ·have dy:y.drop j=[]:=List.drop_eq_nil_of_le (by omega)
    rw[decide_eq_false (by omega),cond_false,dx,dy]
    simp[plan,F1,S2,nCut]
end Go.Proofs.YtgfamepnkhpemaaGreatDoor
namespace Go.Proofs.YtgfamepnkhpemaaGreatDoor
open Go Go.Fm
set_option maxRecDepth 100000
def keptF:Nat->List GItem->List GItem->List GItem
 | 0,_,_=>[]
 | _+1,[],[]=>[]
 | n+1,_::xs,[]=>keptF n xs []
 | n+1,[],_::ys=>keptF n [] ys
 | n+1,x::xs,y::ys=>if x=y then x::keptF n xs ys else if lcs (x::xs) ys<=lcs xs (y::ys) then keptF n xs (y::ys) else keptF n (x::xs) ys
def cutF:Nat->List GItem->List GItem->List GItem
 | 0,_,_=>[]
 | _+1,[],[]=>[]
 | n+1,x::xs,[]=>x::cutF n xs []
 | n+1,[],_::ys=>cutF n [] ys
 | n+1,x::xs,y::ys=>if x=y then cutF n xs ys else if lcs (x::xs) ys<=lcs xs (y::ys) then x::cutF n xs (y::ys) else cutF n (x::xs) ys
def nPut:List Stp->Nat
 | []=>0
 | .put _::r=>nPut r+1
 | .keep::r=>nPut r
 | .cut::r=>nPut r
theorem kept_sub:∀ (n:Nat) (x y:List GItem),(keptF n x y).Sublist y:=by
 intro n
 induction n with
 | zero=>intro x y;rw[keptF];exact List.nil_sublist _
 | succ n ih =>
  intro x y
  cases x with
  | nil=>cases y with
   | nil=>rw[keptF];exact List.nil_sublist _
   | cons b ys=>rw[keptF];exact (ih [] ys).cons b
  | cons a xs=>cases y with
   | nil=>rw[keptF];exact ih xs []
   | cons b ys =>
    rw[keptF]
    by_cases h:a=b
    ·rw[if_pos h,h];exact (ih xs ys).cons_cons b
    ·rw[if_neg h]
     split
     ·exact ih xs (b::ys)
     ·exact (ih (a::xs) ys).cons b
theorem counts:∀ (n:Nat) (x y:List GItem),x.length+y.length<=n->(keptF n x y).length=lcs x y/\(cutF n x y).length=nCut (plan n x y)/\x.length=(keptF n x y).length+nCut (plan n x y)/\y.length=(keptF n x y).length+nPut (plan n x y):=by
 intro n
 induction n with
 | zero =>
  intro x y h
  have e1:x=[]:=List.length_eq_zero_iff.mp (by omega)
  have e2:y=[]:=List.length_eq_zero_iff.mp (by omega)
  subst e1;subst e2
  rw[keptF,cutF,plan,lcs_nil]
  exact ⟨rfl,rfl,rfl,rfl⟩
 | succ n ih =>
  intro x y h
  cases x with
  | nil=>cases y with
   | nil=>rw[keptF,cutF,plan,lcs_nil];exact ⟨rfl,rfl,rfl,rfl⟩
   | cons b ys =>
    rw[List.length_cons]at h
    obtain ⟨q1,q2,q3,q4⟩:=ih [] ys (by omega)
    rw[lcs_nil]at q1
    rw[keptF,cutF,plan,lcs_nil,nCut,nPut,List.length_cons]
    exact ⟨q1,q2,q3,by omega⟩
  | cons a xs=>cases y with
   | nil =>
    rw[List.length_cons]at h
    obtain ⟨q1,q2,q3,q4⟩:=ih xs [] (by omega)
    rw[lcs_nilR]at q1
    rw[keptF,cutF,plan,lcs_nilR,nCut,nPut,List.length_cons,List.length_cons]
    exact ⟨q1,by omega,by omega,q4⟩
   | cons b ys =>
    rw[List.length_cons,List.length_cons]at h
    rw[keptF,cutF,plan,lcs_cons]
    by_cases he:a=b
    ·obtain ⟨q1,q2,q3,q4⟩:=ih xs ys (by omega)
     simp only[if_pos he,nCut,nPut,List.length_cons]
     exact ⟨by omega,q2,by omega,by omega⟩
    ·simp only[if_neg he]
     by_cases hl:lcs (a::xs) ys<=lcs xs (b::ys)
     ·obtain ⟨q1,q2,q3,q4⟩:=ih xs (b::ys) (by rw[List.length_cons];omega)
      simp only[if_pos hl,nCut,nPut,List.length_cons]at q4 ⊢
      exact ⟨by omega,by omega,by omega,by omega⟩
     ·obtain ⟨q1,q2,q3,q4⟩:=ih (a::xs) ys (by rw[List.length_cons];omega)
      simp only[if_neg hl,nCut,nPut,List.length_cons]at q3 ⊢
      exact ⟨by omega,by omega,by omega,by omega⟩
theorem cut_mem:∀ (n:Nat) (x y:List GItem),∀ it ∈ cutF n x y,it ∈ x:=by
 intro n
 induction n with
 | zero=>intro x y it h;rw[cutF]at h;cases h
 | succ n ih =>
  intro x y it h
  cases x with
  | nil=>cases y with
   | nil=>rw[cutF]at h;cases h
   | cons b ys=>rw[cutF]at h;exact ih [] ys it h
  | cons a xs=>cases y with
   | nil =>
    rw[cutF]at h
    rcases List.mem_cons.1 h with rfl|h
    ·exact List.mem_cons_self
    ·exact List.mem_cons_of_mem _ (ih xs [] it h)
   | cons b ys =>
    rw[cutF]at h
    split at h
    ·exact List.mem_cons_of_mem _ (ih xs ys it h)
    ·split at h
     ·rcases List.mem_cons.1 h with rfl|h
      ·exact List.mem_cons_self
      ·exact List.mem_cons_of_mem _ (ih xs (b::ys) it h)
     ·exact ih (a::xs) ys it h
structure Base (B:List GItem):Prop where
 r:∀ it ∈ B,Rt it
 c:(cellsL B).length<=64
 n:B.length<=4000
theorem ed_base {B L R C:List GItem} (hB:Base B) (hs:(L++R).Sublist B) (hc:C.length<=20) (hk:∀ it ∈ C,okI it=true):edB ⟨L,R,C⟩=true:=by
 unfold edB
 rw[Bool.and_eq_true,Bool.and_eq_true]
 exact ⟨decide_eq_true hc,List.all_eq_true.mpr hk,sub_lo hs hB.r hB.c hB.n⟩
theorem keyR_ok {e o:GEd} {k:GKey} (hp:pressS e k=some o) (hb:edB o=true):keyR e k=(o,true):=by rw[key_some hp,hb];rfl
theorem press_R (L xs C:List GItem) (a:GItem):pressS ⟨L,a::xs,C⟩ kR=some ⟨L++[a],xs,C⟩:=rfl
theorem press_X (L R C:List GItem) (a:GItem):pressS ⟨L++[a],R,C⟩ kX=some ⟨L,R,C++[a]⟩:=by
 unfold pressS
 rw[if_neg (by decide),if_neg (by decide),if_neg (by decide),if_neg (by decide),if_neg (by decide),if_pos (show kX.Op=5 from rfl)]
 show Option.map _ (L++[a]).getLast? = _
 rw[List.getLast?_concat]
 show some (GEd.mk (L++[a]).dropLast R (C++[a]))=_
 rw[List.dropLast_concat]
theorem keys_app:∀ (a b:List GKey) (e:GEd) (m:Int),keysR (a++b) e m=keysR b (keysR a e m).2 (keysR a e m).1
 | [],b,e,m=>rfl
 | k::a,b,e,m=>by rw[List.cons_append,keysR,keysR,keys_app a b]
theorem F1_cons (s:Stp) (l:List Stp):F1 (s::l)=fK s++F1 l:=by unfold F1;rw[List.flatMap_cons]
theorem S2_cons (s:Stp) (l:List Stp):S2 (s::l)=sK s++S2 l:=by unfold S2;rw[List.flatMap_cons]
theorem phase1 {B:List GItem} (hB:Base B):∀ (n:Nat) (x y L C:List GItem) (m:Int),x.length+y.length<=n->(L++x).Sublist B->C.length+nCut (plan n x y)<=20->(∀ it ∈ C,okI it=true) →
  keysR (F1 (plan n x y)) ⟨L,x,C⟩ m=(m,⟨L++keptF n x y,[],C++cutF n x y⟩):=by
 intro n
 induction n with
 | zero =>
  intro x y L C m h hs hc hk
  have e1:x=[]:=List.length_eq_zero_iff.mp (by omega)
  subst e1
  rw[plan,keptF,cutF]
  simp[F1,keysR]
 | succ n ih =>
  intro x y L C m h hs hc hk
  have keep1:∀ {a:GItem} {xs:List GItem},x=a::xs->keyR ⟨L,a::xs,C⟩ kR=(⟨L++[a],xs,C⟩,true):=λ e =>
   keyR_ok (press_R _ _ _ _) (ed_base hB (by rw[List.append_assoc];rw[e]at hs;exact hs) (by omega) hk)
  have okx:∀ {a:GItem} {xs:List GItem},x=a::xs->okI a=true:=λ e=>rt_ok (hB.r _ (hs.subset (by rw[e];simp)))
  have okC:∀ {a:GItem},okI a=true->∀ it ∈ C++[a],okI it=true:=λ ha it hi=>by
   rcases List.mem_append.1 hi with hi|hi
   ·exact hk it hi
   ·rw[List.mem_singleton.1 hi];exact ha
  cases x with
  | nil=>cases y with
   | nil=>rw[plan,keptF,cutF];simp[F1,keysR]
   | cons b ys =>
    rw[List.length_cons]at h
    rw[plan,nCut]at hc
    rw[plan,F1_cons,keptF,cutF]
    exact ih [] ys L C m (by omega) hs hc hk
  | cons a xs =>
   have hdrop:(L++xs).Sublist B:=(List.Sublist.append (List.Sublist.refl L) ((List.Sublist.refl xs).cons a)).trans hs
   have hmove:((L++[a])++xs).Sublist B:=by rw[List.append_assoc];exact hs
   cases y with
   | nil =>
    rw[List.length_cons]at h
    rw[plan,nCut]at hc
    have hcut:keyR ⟨L++[a],xs,C⟩ kX=(⟨L,xs,C++[a]⟩,true):=keyR_ok (press_X _ _ _ _) (ed_base hB hdrop (by rw[List.length_append,List.length_singleton];omega) (okC (okx rfl)))
    rw[plan,F1_cons,keptF,cutF]
    show keysR (kR::kX::F1 _) _ _=_
    rw[keysR,keep1 rfl,keysR,hcut]
    show keysR (F1 (plan n xs [])) ⟨L,xs,C++[a]⟩ m=_
    rw[ih xs [] L (C++[a]) m (by omega) hdrop (by rw[List.length_append,List.length_singleton];omega) (okC (okx rfl)),List.append_assoc]
    rfl
   | cons b ys =>
    rw[List.length_cons,List.length_cons]at h
    rw[plan]at hc ⊢
    rw[keptF,cutF]
    by_cases he:a=b
    ·simp only[if_pos he]at hc ⊢
     rw[nCut]at hc
     rw[F1_cons]
     show keysR (kR::F1 _) _ _=_
     rw[keysR,keep1 rfl]
     show keysR (F1 (plan n xs ys)) ⟨L++[a],xs,C⟩ m=_
     rw[ih xs ys (L++[a]) C m (by omega) hmove hc hk,List.append_assoc]
     rfl
    ·simp only[if_neg he]at hc ⊢
     by_cases hl:lcs (a::xs) ys<=lcs xs (b::ys)
     ·simp only[if_pos hl]at hc ⊢
      rw[nCut]at hc
      have hcut:keyR ⟨L++[a],xs,C⟩ kX=(⟨L,xs,C++[a]⟩,true):=keyR_ok (press_X _ _ _ _) (ed_base hB hdrop (by rw[List.length_append,List.length_singleton];omega) (okC (okx rfl)))
      rw[F1_cons]
      show keysR (kR::kX::F1 _) _ _=_
      rw[keysR,keep1 rfl,keysR,hcut]
      show keysR (F1 (plan n xs (b::ys))) ⟨L,xs,C++[a]⟩ m=_
      rw[ih xs (b::ys) L (C++[a]) m (by rw[List.length_cons];omega) hdrop (by rw[List.length_append,List.length_singleton];omega) (okC (okx rfl)),List.append_assoc]
      rfl
     ·simp only[if_neg hl]at hc ⊢
      rw[nCut]at hc
      rw[F1_cons]
      exact ih (a::xs) ys L C m (by rw[List.length_cons];omega) hs hc hk
theorem phase2 {B:List GItem} (hB:Base B):∀ (n:Nat) (x y L C:List GItem) (m:Int),x.length+y.length<=n->L++y=B->C.length<=20->(∀ it ∈ C,okI it=true) →
  keysR (S2 (plan n x y)) ⟨L,keptF n x y,C⟩ m=(m,⟨L++y,[],C⟩):=by
 intro n
 induction n with
 | zero =>
  intro x y L C m h hs hc hk
  have e2:y=[]:=List.length_eq_zero_iff.mp (by omega)
  subst e2
  rw[plan,keptF]
  simp[S2,keysR]
 | succ n ih =>
  intro x y L C m h hs hc hk
  cases y with
  | nil=>cases x with
   | nil=>rw[plan,keptF];simp[S2,keysR]
   | cons a xs =>
    rw[List.length_cons]at h
    rw[plan,S2_cons,keptF]
    exact ih xs [] L C m (by omega) hs hc hk
  | cons b ys =>
   have hput:∀ (x':List GItem),keyR ⟨L,keptF n x' ys,C⟩ ⟨4,b⟩=(⟨L++[b],keptF n x' ys,C⟩,true):=λ x' =>
    keyR_ok rfl (ed_base hB (by rw[List.append_assoc,<-hs];exact List.Sublist.append (List.Sublist.refl L) ((kept_sub n x' ys).cons_cons b)) hc hk)
   have hs':(L++[b])++ys=B:=by rw[List.append_assoc];exact hs
   cases x with
   | nil =>
    rw[List.length_cons]at h
    rw[plan,S2_cons,keptF]
    show keysR (⟨4,b⟩::S2 _) _ _=_
    rw[keysR,hput]
    show keysR (S2 (plan n [] ys)) ⟨L++[b],keptF n [] ys,C⟩ m=_
    rw[ih [] ys (L++[b]) C m (by omega) hs' hc hk,List.append_assoc]
    rfl
   | cons a xs =>
    rw[List.length_cons,List.length_cons]at h
    rw[plan,keptF]
    by_cases he:a=b
    ·simp only[if_pos he]
     subst he
     have hkeep:keyR ⟨L,a::keptF n xs ys,C⟩ kR=(⟨L++[a],keptF n xs ys,C⟩,true) :=
      keyR_ok (press_R _ _ _ _) (ed_base hB (by rw[List.append_assoc,<-hs];exact List.Sublist.append (List.Sublist.refl L) ((kept_sub n xs ys).cons_cons a)) hc hk)
     rw[S2_cons]
     show keysR (kR::S2 _) _ _=_
     rw[keysR,hkeep]
     show keysR (S2 (plan n xs ys)) ⟨L++[a],keptF n xs ys,C⟩ m=_
     rw[ih xs ys (L++[a]) C m (by omega) hs' hc hk,List.append_assoc]
     rfl
    ·simp only[if_neg he]
     by_cases hl:lcs (a::xs) ys<=lcs xs (b::ys)
     ·simp only[if_pos hl]
      rw[S2_cons]
      exact ih xs (b::ys) L C m (by rw[List.length_cons];omega) hs hc hk
     ·simp only[if_neg hl]
      rw[S2_cons]
      show keysR (⟨4,b⟩::S2 _) _ _=_
      rw[keysR,hput]
      show keysR (S2 (plan n (a::xs) ys)) ⟨L++[b],keptF n (a::xs) ys,C⟩ m=_
      rw[ih (a::xs) ys (L++[b]) C m (by rw[List.length_cons];omega) hs' hc hk,List.append_assoc]
      rfl
def keysP (n:Nat) (x y:List GItem):List GKey:=F1 (plan n x y)++([kH]++S2 (plan n x y))
theorem all_keys {x y:List GItem} {n:Nat} (hn:x.length+y.length<=n) (hx:Base x) (hy:Base y) (hc:nCut (plan n x y)<=20) :
  keysR (keysP n x y) ⟨[],x,[]⟩ 0=(0,⟨y,[],cutF n x y⟩):=by
 obtain ⟨q1,q2,q3,q4⟩:=counts n x y hn
 have hkc:∀ it ∈ cutF n x y,okI it=true:=λ it h=>rt_ok (hx.r it (cut_mem n x y it h))
 unfold keysP
 rw[keys_app,phase1 hx n x y [] [] 0 hn (by rw[List.nil_append];exact List.Sublist.refl _) (by rw[List.length_nil];omega) (λ it h=>by cases h)]
 show keysR (kH::S2 (plan n x y)) ⟨keptF n x y,[],cutF n x y⟩ 0=_
 have hh:keyR ⟨keptF n x y,[],cutF n x y⟩ kH=(⟨[],keptF n x y,cutF n x y⟩,true) :=
  keyR_ok (show pressS ⟨keptF n x y,[],cutF n x y⟩ kH=some ⟨[],keptF n x y,cutF n x y⟩ by
   show some (GEd.mk [] (keptF n x y++[]) (cutF n x y))=_
   rw[List.append_nil]) (ed_base hy (by rw[List.nil_append];exact kept_sub n x y) (by omega) hkc)
 rw[keysR,hh]
 have:=phase2 hy n x y [] (cutF n x y) 0 hn rfl (by omega) hkc
 rw[List.nil_append]at this
 exact this
end Go.Proofs.YtgfamepnkhpemaaGreatDoor
namespace Go.Proofs.YtgfamepnkhpemaaGreatDoor
open Go Go.Fm
set_option maxRecDepth 100000
theorem imm_l0 (cells:List Int):∀ (k:Nat) (out:List GItem) (i:Int),g_spec_ParseCells_imm_l0 cells k out i=g_spec_ParseCells_l0 cells k out i
 | 0,_,_=>rfl
 | k+1,out,i=>by
  rw[g_spec_ParseCells_imm_l0,g_spec_ParseCells_l0]
  have:(λ y_7:GItem×Int=>(app out [y_7.1]).bind λ v_8=>g_spec_ParseCells_imm_l0 cells k v_8 (IntKind.wrap .i64 (i+y_7.2)))=λ y_7=>(app out [y_7.1]).bind λ v_8=>g_spec_ParseCells_l0 cells k v_8 (IntKind.wrap .i64 (i+y_7.2)):=by
   funext y
   congr 1
   funext v
   exact imm_l0 cells k v _
  rw[this]
theorem imm_l1:∀ (k:Nat) (out:List GItem),g_spec_ParseCells_imm_l1 k out=g_spec_ParseCells_l1 k out
 | 0,_=>rfl
 | k+1,out=>by
  rw[g_spec_ParseCells_imm_l1,g_spec_ParseCells_l1]
  have:(λ v_13:List GItem=>g_spec_ParseCells_imm_l1 k v_13)=λ v_13=>g_spec_ParseCells_l1 k v_13:=by
   funext v
   exact imm_l1 k v
  rw[this]
theorem imm_parse (c:List Int):g_spec_ParseCells_imm c=g_spec_ParseCells c:=by
 unfold g_spec_ParseCells_imm g_spec_ParseCells
 rw[imm_l0]
 have:(λ out_3:List GItem=>(g_spec_ParseCells_imm_l1 bigK out_3).bind λ out_10=>some out_10)=λ out_3=>(g_spec_ParseCells_l1 bigK out_3).bind λ out_10=>some out_10:=by
  funext o;rw[imm_l1]
 rw[this]
def rawB (l:List GItem):Bool:=l.any λ x=>x.Kind==0
theorem hasRaw_eq {l:List GItem} (hl:l.length<=1000):g_impl_hasRaw l=some (rawB l):=by
 unfold g_impl_hasRaw g_slices_ContainsFunc_Item_impl_hasRawc1 g_slices_IndexFunc_Item_impl_hasRawc1
 obtain ⟨o,h1,h2⟩:=idxLoop (L:=l) (λ x=>x.Kind==0) (g_slices_IndexFunc_Item_impl_hasRawc1_l0 l (l.length:Int)) (λ k i x hx hi=>by
  rw[g_slices_IndexFunc_Item_impl_hasRawc1_l0,decide_eq_true (by omega),cond_true,getI_nat,hx,Option.bind_some]
  unfold g_impl_hasRawc1
  rw[Option.bind_some,nxt (by omega)]) (λ k i hi=>by rw[g_slices_IndexFunc_Item_impl_hasRawc1_l0,decide_eq_false (by omega),cond_false]) (by omega)
 rw[h1]
 unfold rawB
 cases o with
 | inl u =>
  simp only[Option.bind_some]
  rw[h2,show decide ((-1:Int) ≥ 0)=false from rfl]
 | inr v =>
  simp only[Option.bind_some]
  rw[h2.2,decide_eq_true h2.1]
theorem plain_eq {l:List GItem} (hl:l.length<=1000):g_spec_l22Plain l=some (!rawB l):=by
 unfold g_spec_l22Plain
 have h1:=allLoop (L:=l) (bad:=false) (λ _ x => !(x.Kind==0)) (g_spec_l22Plain_l0 l) (λ k i x hx hi=>by
  rw[g_spec_l22Plain_l0,decide_eq_true (by omega),cond_true,getI_nat,hx,Option.bind_some,nxt (by omega)]
  cases (x.Kind==0)<;>rfl) (λ k i hi=>by rw[g_spec_l22Plain_l0,decide_eq_false (by omega),cond_false]) (by omega)
 rw[h1,allN_const]
 have e:(l.all λ x => !(x.Kind==0)) = !rawB l:=by unfold rawB;rw[List.not_any_eq_all_not]
 rw[e]
 cases rawB l<;>rfl
theorem concat3 {a b c:List GKey} (ha:a.length<=4000) (hb:b.length<=4000) (hc:c.length<=4000):g_slices_Concat_Key [a,b,c]=some (a++(b++c)):=by
 have e0:g_slices_Concat_Key_l0 [a,b,c] 3 bigK 0 0=some ((a.length:Int)+b.length+c.length):=by
  rw[show bigK=(bigK-4)+1+1+1+1 by unfold bigK;omega,g_slices_Concat_Key_l0,show decide ((0:Int) < 3)=true from rfl,cond_true,show getI [a,b,c] 0=some a from rfl,Option.bind_some,wI64 (x:=0+(a.length:Int)) (by omega) (by omega),decide_eq_false (by omega),cond_false,Option.bind_some,show IntKind.wrap .i64 ((0:Int)+1)=1 from rfl]
  rw[g_slices_Concat_Key_l0,show decide ((1:Int) < 3)=true from rfl,cond_true,show getI [a,b,c] 1=some b from rfl,Option.bind_some,wI64 (x:=0+(a.length:Int)+(b.length:Int)) (by omega) (by omega),decide_eq_false (by omega),cond_false,Option.bind_some,show IntKind.wrap .i64 ((1:Int)+1)=2 from rfl]
  rw[g_slices_Concat_Key_l0,show decide ((2:Int) < 3)=true from rfl,cond_true,show getI [a,b,c] 2=some c from rfl,Option.bind_some,wI64 (x:=0+(a.length:Int)+(b.length:Int)+(c.length:Int)) (by omega) (by omega),decide_eq_false (by omega),cond_false,Option.bind_some,show IntKind.wrap .i64 ((2:Int)+1)=3 from rfl]
  rw[g_slices_Concat_Key_l0,show decide ((3:Int) < 3)=false from rfl,cond_false]
  congr 1;omega
 have e1:g_slices_Concat_Key_l1 [a,b,c] 3 bigK [] 0=some (a++(b++c)):=by
  rw[show bigK=(bigK-4)+1+1+1+1 by unfold bigK;omega,g_slices_Concat_Key_l1,show decide ((0:Int) < 3)=true from rfl,cond_true,show getI [a,b,c] 0=some a from rfl,Option.bind_some,app_eq (by simp;omega),Option.bind_some,show IntKind.wrap .i64 ((0:Int)+1)=1 from rfl]
  rw[g_slices_Concat_Key_l1,show decide ((1:Int) < 3)=true from rfl,cond_true,show getI [a,b,c] 1=some b from rfl,Option.bind_some,app_eq (by simp;omega),Option.bind_some,show IntKind.wrap .i64 ((1:Int)+1)=2 from rfl]
  rw[g_slices_Concat_Key_l1,show decide ((2:Int) < 3)=true from rfl,cond_true,show getI [a,b,c] 2=some c from rfl,Option.bind_some,app_eq (by simp;omega),Option.bind_some,show IntKind.wrap .i64 ((2:Int)+1)=3 from rfl]
  rw[g_slices_Concat_Key_l1,show decide ((3:Int) < 3)=false from rfl,cond_false,List.nil_append,List.append_assoc]
 have e2:g_slices_Grow_Key_emp ((a.length:Int)+b.length+c.length)=some []:=by
  unfold g_slices_Grow_Key_emp
  rw[decide_eq_false (by omega),cond_false,Option.bind_some,show IntKind.wrap .i64 ((0:Int)-0)=0 from rfl,wI64 (by omega) (by omega)]
  by_cases h:(a.length:Int)+b.length+c.length-0 > 0
  ·rw[decide_eq_true h,cond_true,mk_eq (by omega) (by omega),Option.bind_some,subL_take (by omega) (by simp;omega)];rfl
  ·rw[decide_eq_false h,cond_false];rfl
 unfold g_slices_Concat_Key
 rw[show (([a,b,c].length:Nat):Int)=3 from rfl,e0]
 simp only[Option.bind_some]
 rw[e2]
 simp only[Option.bind_some]
 rw[e1];rfl
theorem plan_len:∀ (n:Nat) (x y:List GItem),(plan n x y).length<=n
 | 0,_,_=>Nat.le_refl _
 | n+1,[],[]=>Nat.zero_le _
 | n+1,_::xs,[]=>by rw[plan,List.length_cons];have:=plan_len n xs [];omega
 | n+1,[],_::ys=>by rw[plan,List.length_cons];have:=plan_len n [] ys;omega
 | n+1,x::xs,y::ys=>by
  rw[plan]
  have h1:=plan_len n xs ys
  have h2:=plan_len n xs (y::ys)
  have h3:=plan_len n (x::xs) ys
  repeat' split
  all_goals rw[List.length_cons];omega
theorem F1_len:∀ l:List Stp,(F1 l).length<=2*l.length
 | []=>Nat.zero_le _
 | s::l=>by
  have:=F1_len l
  rw[F1_cons,List.length_append,List.length_cons]
  have h2:(fK s).length<=2:=by cases s<;>simp[fK]
  omega
theorem S2_len:∀ l:List Stp,(S2 l).length<=l.length
 | []=>Nat.zero_le _
 | s::l=>by
  have:=S2_len l
  rw[S2_cons,List.length_append,List.length_cons]
  have h2:(sK s).length<=1:=by cases s<;>simp[sK]
  omega
theorem keys_len (x y:List GItem):(keysP 128 x y).length<=400/\1<=(keysP 128 x y).length:=by
 have h1:=F1_len (plan 128 x y)
 have h2:=S2_len (plan 128 x y)
 have h3:=plan_len 128 x y
 unfold keysP
 rw[List.length_append,List.length_append,List.length_singleton]
 omega
theorem plans {a b:List Int} (ha:U32 a) (hb:U32 b):(g_impl_Plan a b=some ([],false)/\∃ ks,g_spec_Plan a b=some (ks,false)) ∨
  (∃ x y a' b' za zb,a.length<=64/\b.length<=64/\g_impl_ParseCells a=some x/\g_impl_ParseCells b=some y/\a=a'++List.replicate za 0/\b=b'++List.replicate zb 0/\Parses a' x/\Parses b' y/\rawB x=false/\rawB y=false/\nCut (plan 128 x y)<=20/\g_impl_Plan a b=some (keysP 128 x y,true)/\∃ ks,g_spec_Plan a b=some (ks,true)):=by
 have big:∀ {c:List Int},64 < c.length->g_impl_ParseCells c=some []:=λ h=>by
  unfold g_impl_ParseCells;rw[decide_eq_true (by omega),cond_true]
 have tot:∀ {c:List Int},U32 c->∃ z,g_impl_ParseCells c=some z:=λ hc=>by
  by_cases hl:‹List Int›.length<=64
  ·obtain ⟨its,_,_,h,_⟩:=parseCells_ok hc hl;exact ⟨its,h⟩
  ·exact ⟨[],big (by omega)⟩
 by_cases hl:a.length<=64/\b.length<=64
 ·obtain ⟨x,a',za,pa,ea,qa,_⟩:=parseCells_ok ha hl.1
  obtain ⟨y,b',zb,pb,eb,qb,_⟩:=parseCells_ok hb hl.2
  have lx:x.length<=64:=by have:=qa.len;rw[ea,List.length_append]at hl;omega
  have ly:y.length<=64:=by have:=qb.len;rw[eb,List.length_append]at hl;omega
  have hi:g_impl_Plan a b=cond (rawB x || rawB y) (some ([],false)) (cond (decide (((nCut (plan 128 x y):Nat):Int) > 20)) (some ([],false)) (some (keysP 128 x y,true))):=by
   unfold g_impl_Plan
   rw[decide_eq_false (by omega),cond_false,decide_eq_false (by omega),Option.bind_some,cond_false,pa,Option.bind_some,pb,Option.bind_some,hasRaw_eq (by omega),hasRaw_eq (by omega)]
   have hloop:=plan_impl 128 x y [] [] 0 bigK (by omega) (by unfold bigK;omega) lx ly (by simp) (by simp) (by omega)
   rw[List.nil_append,List.nil_append,Nat.zero_add]at hloop
   have h1:=F1_len (plan 128 x y)
   have h2:=S2_len (plan 128 x y)
   have h3:=plan_len 128 x y
   cases rawB x with
   | true=>rfl
   | false =>
    cases rawB y with
    | true=>rfl
    | false =>
     rw[Option.bind_some,cond_false,Option.bind_some,Option.bind_some,cond_false,show (0:Int)=((0:Nat):Int) from rfl,hloop,Option.bind_some]
     show cond _ _ _=_
     rw[show (false || false)=false from rfl,cond_false]
     congr 1
     show Option.bind (g_slices_Concat_Key [F1 (plan 128 x y),[kH],S2 (plan 128 x y)]) _=_
     rw[concat3 (by omega) (by simp) (by omega)];rfl
  have hs:∃ ks,g_spec_Plan a b=cond (rawB x || rawB y) (some ([],false)) (cond (decide (((nCut (plan 128 x y):Nat):Int) > 20)) (some ([],false)) (some (ks,true))):=by
   unfold g_spec_Plan
   rw[imm_parse,imm_parse,parseCells_eq ha,parseCells_eq hb,pa,Option.bind_some,pb,Option.bind_some,decide_eq_false (by omega),cond_false,decide_eq_false (by omega),cond_false,plain_eq (by omega),plain_eq (by omega)]
   cases rawB x with
   | true=>exact ⟨[],rfl⟩
   | false =>
    cases rawB y with
    | true=>exact ⟨[],rfl⟩
    | false =>
     obtain ⟨t,ht,hg⟩:=table_ok (a:=x) (b:=y) lx ly
     have hloop:=plan_spec lx ly hg 128 0 0 [] [] 0 bigK (Nat.zero_le _) (Nat.zero_le _) (by omega) (by unfold bigK;omega) (by simp) (by simp) (by omega)
     rw[List.nil_append,List.nil_append,Nat.zero_add,List.drop_zero,List.drop_zero]at hloop
     have h1:=F1_len (plan 128 x y)
     have h2:=S2_len (plan 128 x y)
     have h3:=plan_len 128 x y
     refine ⟨F1 (plan 128 x y)++[kH]++S2 (plan 128 x y),?_⟩
     rw[Option.bind_some,show (!(!false))=false from rfl,cond_false,Option.bind_some,Option.bind_some,show (!(!false))=false from rfl,cond_false,ht,Option.bind_some,show (0:Int)=((0:Nat):Int) from rfl,hloop,Option.bind_some]
     show cond _ _ _=_
     rw[show (false || false)=false from rfl,cond_false]
     congr 1
     show Option.bind (app (F1 (plan 128 x y)) [kH]) _=_
     rw[app_eq (by rw[List.length_singleton];omega),Option.bind_some,app_eq (by rw[List.length_append,List.length_singleton];omega)];rfl
  obtain ⟨ks,hs⟩:=hs
  cases hr:(rawB x || rawB y) with
  | true=>rw[hr,cond_true]at hi hs;exact .inl ⟨hi,[],hs⟩
  | false =>
   rw[hr,cond_false]at hi hs
   rw[Bool.or_eq_false_iff]at hr
   by_cases hc:nCut (plan 128 x y)<=20
   ·rw[decide_eq_false (by omega),cond_false]at hi hs
    exact .inr ⟨x,y,a',b',za,zb,hl.1,hl.2,pa,pb,ea,eb,qa,qb,hr.1,hr.2,hc,hi,ks,hs⟩
   ·rw[decide_eq_true (by omega),cond_true]at hi hs
    exact .inl ⟨hi,[],hs⟩
 ·refine .inl ⟨?_,[],?_⟩
  ·unfold g_impl_Plan
   by_cases h1:a.length<=64
   ·rw[decide_eq_false (by omega),cond_false,decide_eq_true (by omega),Option.bind_some,cond_true]
   ·rw[decide_eq_true (by omega),cond_true,Option.bind_some,cond_true]
  ·obtain ⟨x,px⟩:=tot ha
   obtain ⟨y,py⟩:=tot hb
   unfold g_spec_Plan
   rw[imm_parse,imm_parse,parseCells_eq ha,parseCells_eq hb,px,Option.bind_some,py,Option.bind_some]
   by_cases h1:a.length<=64
   ·rw[decide_eq_false (by omega),cond_false,decide_eq_true (by omega),cond_true,Option.bind_some,cond_true]
   ·rw[decide_eq_true (by omega),cond_true,Option.bind_some,cond_true]
end Go.Proofs.YtgfamepnkhpemaaGreatDoor
namespace Go.Proofs.YtgfamepnkhpemaaGreatDoor
open Go Go.Fm
set_option maxRecDepth 100000
end Go.Proofs.YtgfamepnkhpemaaGreatDoor
namespace Go.Proofs.YtgfamepnkhpemaaGreatDoor
open Go Go.Fm
theorem dec_len:∀ (k u:Nat),u < 10 ^ (k+1)->(Lib.decDigits u).length<=k+1:=by
 intro k
 induction k with
 | zero =>
  intro u h
  rw[Lib.decDigits,dif_pos (by omega)];simp
 | succ k ih =>
  intro u h
  rw[Lib.decDigits]
  split
  ·simp
  ·have:u / 10 < 10 ^ (k+1):=by rw[Nat.div_lt_iff_lt_mul (by omega)];rw[Nat.pow_succ]at h;omega
   have:=ih (u / 10) this
   simp;omega
theorem itoa_len {n:Int} (h0 : -9223372036854775808<=n) (h1:n<=9223372036854775807):(Lib.itoa n).length<=21:=by
 unfold Lib.itoa
 split
 ·have:=dec_len 19 n.natAbs (by omega)
  simp;omega
 ·have:=dec_len 19 n.toNat (by omega)
  omega
theorem impl_dec {n:Int} (h0 : -9223372036854775808<=n) (h1:n<=9223372036854775807):g_impl_DecText n=some (Lib.itoa n):=by
 unfold g_impl_DecText g_strconv_Itoa gItoa
 rw[decide_eq_true ⟨h0,h1⟩];rfl
theorem digit {d:Nat} (h:d < 10):subL ([48,49,50,51,52,53,54,55,56,57]:List UInt8) (d:Int) (IntKind.wrap .i64 ((d:Int)+1))=some [UInt8.ofNat (48+d)]:=by
 match d,h with
 | 0,_=>rfl
 | 1,_=>rfl
 | 2,_=>rfl
 | 3,_=>rfl
 | 4,_=>rfl
 | 5,_=>rfl
 | 6,_=>rfl
 | 7,_=>rfl
 | 8,_=>rfl
 | 9,_=>rfl
theorem tm10 (u:Nat):Int.tmod (u:Int) 10=((u % 10:Nat):Int):=(Int.ofNat_tmod u 10).symm
theorem td10 (u:Nat):Int.tdiv (u:Int) 10=((u / 10:Nat):Int):=(Int.ofNat_tdiv u 10).symm
theorem spec_loop:∀ (u k:Nat) (m:Int) (out:List UInt8),m.natAbs=u->u≠0->u<=9223372036854775808->u < k->out.length+(Lib.decDigits u).length<=1000->(m < 0\/u < 9223372036854775808) →
  g_spec_DecText_l0 k out m=some (Lib.decDigits u++out):=by
 intro u
 induction u using Nat.strongRecOn with
 | _ u ih =>
  intro k m out hm h0 h1 hk ho hr
  obtain ⟨k,rfl⟩:∃ k',k=k'+1:=⟨k-1,by omega⟩
  rw[g_spec_DecText_l0,show (m != 0)=true by simp;omega,cond_true]
  have hd:((cond (decide ((Int.tmod m 10) < 0)) (some (IntKind.wrap .i64 (0-(Int.tmod m 10)))) (some (Int.tmod m 10)):Option Int))=some ((u % 10:Nat):Int):=by
   have h2:Int.tmod m 10=if m < 0 then -((u % 10:Nat):Int) else ((u % 10:Nat):Int):=by
    split
    ·have:m = -(u:Int):=by omega
     rw[this,Int.neg_tmod,tm10]
    ·have:m=(u:Int):=by omega
     rw[this,tm10]
   rw[h2]
   by_cases hneg:m < 0
   ·rw[if_pos hneg]
    by_cases hz:u % 10=0
    ·rw[hz];rfl
    ·rw[decide_eq_true (by omega),cond_true,wI64 (by omega) (by omega)]
     congr 1;omega
   ·rw[if_neg hneg,decide_eq_false (by omega),cond_false]
  have hq:IntKind.wrap .i64 (Int.tdiv m 10)=if m < 0 then -((u / 10:Nat):Int) else ((u / 10:Nat):Int):=by
   split
   ·have:m = -(u:Int):=by omega
    rw[this,Int.neg_tdiv,td10,wI64 (by omega) (by omega)]
   ·have:m=(u:Int):=by omega
    rw[this,td10,wI64 (by omega) (by omega)]
  rw[hd,Option.bind_some,digit (Nat.mod_lt _ (by omega)),Option.bind_some,catS_eq (by simp;omega),Option.bind_some,hq]
  by_cases h10:u < 10
  ·obtain ⟨k,rfl⟩:∃ k',k=k'+1:=⟨k-1,by omega⟩
   rw[Lib.decDigits,dif_pos h10,Nat.div_eq_of_lt h10,Nat.mod_eq_of_lt h10]
   have:(if m < 0 then -((0:Nat):Int) else ((0:Nat):Int))=0:=by split<;>rfl
   rw[this,g_spec_DecText_l0]
   rfl
  ·have hlen:(Lib.decDigits u).length=(Lib.decDigits (u / 10)).length+1:=by
    rw[Lib.decDigits.eq_def u,dif_neg h10];simp
   rw[ih (u / 10) (by omega) k _ _ (by split<;>omega) (by omega) (by omega) (by omega) (by simp;omega) (by split<;>omega)]
   rw[Lib.decDigits.eq_def u,dif_neg h10]
   simp
theorem spec_dec {n:Int} (h0 : -9223372036854775808<=n) (h1:n<=9223372036854775807):g_spec_DecText n=some (Lib.itoa n):=by
 unfold g_spec_DecText
 by_cases hz:n=0
 ·subst hz
  have:Lib.itoa 0=[48]:=by
   unfold Lib.itoa
   rw[if_neg (by omega),Lib.decDigits];rfl
  rw[this];rfl
 ·rw[show (n==0)=false by simp[hz],cond_false,spec_loop n.natAbs bigK n [] rfl (by omega) (by omega) (by unfold bigK;omega) (by have:=dec_len 19 n.natAbs (by omega);simp;omega) (by omega),Option.bind_some]
  unfold Lib.itoa
  have:=dec_len 19 n.natAbs (by omega)
  by_cases hn:n < 0
  ·rw[decide_eq_true hn,cond_true,if_pos hn,catS_eq (by simp;omega)]
   simp
  ·rw[decide_eq_false hn,cond_false,if_neg hn,show n.toNat=n.natAbs by omega]
   simp
end Go.Proofs.YtgfamepnkhpemaaGreatDoor
namespace Go.Proofs.YtgfamepnkhpemaaGreatDoor
open Go Go.Fm
def hexC (d:Nat):UInt8:=UInt8.ofNat (if d < 10 then 48+d else 87+d)
def hexD (u:Nat):List UInt8:=if h:u < 16 then [hexC u] else hexD (u / 16)++[hexC (u % 16)]
termination_by u
decreasing_by omega
theorem hdigit {d:Nat} (h:d < 16):subL ([48,49,50,51,52,53,54,55,56,57,97,98,99,100,101,102]:List UInt8) (d:Int) (IntKind.wrap .i64 ((d:Int)+1))=some [hexC d]:=by
 match d,h with
 | 0,_=>rfl
 | 1,_=>rfl
 | 2,_=>rfl
 | 3,_=>rfl
 | 4,_=>rfl
 | 5,_=>rfl
 | 6,_=>rfl
 | 7,_=>rfl
 | 8,_=>rfl
 | 9,_=>rfl
 | 10,_=>rfl
 | 11,_=>rfl
 | 12,_=>rfl
 | 13,_=>rfl
 | 14,_=>rfl
 | 15,_=>rfl
 | n+16,h=>exact absurd h (by omega)
theorem hidx {d:Nat} (h:d < 16):idxS ([48,49,50,51,52,53,54,55,56,57,97,98,99,100,101,102,103,104,105,106,107,108,109,110,111,112,113,114,115,116,117,118,119,120,121,122]:List UInt8) (d:Int)=some ((hexC d).toNat:Int):=by
 match d,h with
 | 0,_=>rfl
 | 1,_=>rfl
 | 2,_=>rfl
 | 3,_=>rfl
 | 4,_=>rfl
 | 5,_=>rfl
 | 6,_=>rfl
 | 7,_=>rfl
 | 8,_=>rfl
 | 9,_=>rfl
 | 10,_=>rfl
 | 11,_=>rfl
 | 12,_=>rfl
 | 13,_=>rfl
 | 14,_=>rfl
 | 15,_=>rfl
 | n+16,h=>exact absurd h (by omega)
theorem tm16 (u:Nat):Int.tmod (u:Int) 16=((u % 16:Nat):Int):=(Int.ofNat_tmod u 16).symm
theorem td16 (u:Nat):Int.tdiv (u:Int) 16=((u / 16:Nat):Int):=(Int.ofNat_tdiv u 16).symm
theorem hexD_len:∀ (k u:Nat),u < 16 ^ (k+1)->(hexD u).length<=k+1:=by
 intro k
 induction k with
 | zero=>intro u h;rw[hexD,dif_pos (by omega)];simp
 | succ k ih =>
  intro u h
  rw[hexD]
  split
  ·simp
  ·have:=ih (u / 16) (by rw[Nat.div_lt_iff_lt_mul (by omega)];rw[Nat.pow_succ]at h;omega)
   simp;omega
theorem specHex_loop:∀ (u k:Nat) (out:List UInt8),u≠0->u < 4294967296->u < k->out.length+(hexD u).length<=1000->g_spec_HexText_l0 k out (u:Int)=some (hexD u++out):=by
 intro u
 induction u using Nat.strongRecOn with
 | _ u ih =>
  intro k out h0 h1 hk ho
  obtain ⟨k,rfl⟩:∃ k',k=k'+1:=⟨k-1,by omega⟩
  rw[g_spec_HexText_l0,decide_eq_true (by omega),cond_true,tm16,hdigit (Nat.mod_lt _ (by omega)),Option.bind_some,catS_eq (by simp;omega),Option.bind_some,td16,wI64 (by omega) (by omega)]
  by_cases h16:u < 16
  ·obtain ⟨k,rfl⟩:∃ k',k=k'+1:=⟨k-1,by omega⟩
   rw[hexD,dif_pos h16,Nat.div_eq_of_lt h16,Nat.mod_eq_of_lt h16,g_spec_HexText_l0]
   rfl
  ·have hlen:(hexD u).length=(hexD (u / 16)).length+1:=by
    rw[hexD.eq_def u,dif_neg h16];simp
   rw[ih (u / 16) (by omega) k _ (by omega) (by omega) (by omega) (by simp;omega),hexD.eq_def u,dif_neg h16]
   simp
theorem spec_hex {n:Int} (h0:0<=n) (h1:n < 4294967296):g_spec_HexText n=some (hexD n.toNat):=by
 unfold g_spec_HexText
 by_cases hz:n=0
 ·subst hz
  rw[hexD,dif_pos (by decide)];rfl
 ·have hl:=hexD_len 7 n.toNat (by omega)
  have:=specHex_loop n.toNat bigK [] (by omega) (by omega) (by unfold bigK;omega) (by simp;omega)
  rw[show ((n.toNat:Nat):Int)=n by omega]at this
  rw[show (n==0)=false by simp[hz],cond_false,wI64 (by omega) (by omega),this]
  simp
def hexI (u:Nat):List Int:=(hexD u).map λ b=>(b.toNat:Int)
theorem drop_set_at {α:Type} {p:List α} {n:Nat} {x:α} (h:n < p.length):(p.set n x).drop n=x::p.drop (n+1):=by
 rw[List.drop_eq_getElem_cons (by simpa using h),List.getElem_set_self,List.drop_set_of_lt (by omega)]
theorem hex_loop:∀ (d u k i:Nat) (p:List Int),u < 16 ^ (d+1)->u < 4294967296->d+1<=i->i<=65->p.length=65->d < k →
  ∃ (u' i':Nat) (p':List Int),g_istrconv_formatBits_l0 4 16 15 k (u:Int) (i:Int) p=some ((u':Int),(i':Int),p')/\u' < 16/\1<=i'/\i'<=65/\p'.length=65/\hexI u++p.drop i=((hexC u').toNat:Int)::p'.drop i':=by
 intro d
 induction d with
 | zero =>
  intro u k i p hu _ hi hi2 hp hk
  obtain ⟨k,rfl⟩:∃ k',k=k'+1:=⟨k-1,by omega⟩
  rw[g_istrconv_formatBits_l0,decide_eq_false (by omega),cond_false]
  refine ⟨u,i,p,rfl,by omega,hi,hi2,hp,?_⟩
  unfold hexI
  rw[hexD,dif_pos (by omega)];rfl
 | succ d ih =>
  intro u k i p hu hu2 hi hi2 hp hk
  obtain ⟨k,rfl⟩:∃ k',k=k'+1:=⟨k-1,by omega⟩
  rw[g_istrconv_formatBits_l0]
  by_cases h16:u < 16
  ·rw[decide_eq_false (by omega),cond_false]
   refine ⟨u,i,p,rfl,by omega,by omega,hi2,hp,?_⟩
   unfold hexI
   rw[hexD,dif_pos (by omega)];rfl
  ·have hm:andI .u64 (u:Int) 15=((u % 16:Nat):Int):=by
    have:=and_mask (k:=.u64) (a:=(u:Int)) (n:=4) (by omega) (by show (u:Int) < 2 ^ 64;omega) (by decide)
    rw[show ((2:Int) ^ 4-1)=15 from rfl]at this
    rw[this];omega
   rw[decide_eq_true (by omega),cond_true,hm,hidx (Nat.mod_lt _ (by omega)),Option.bind_some,hp]
   rw[show chk (Nat.beq 65 65)=some () from rfl,Option.bind_some,wI64 (by omega) (by omega),show (i:Int)-1=((i-1:Nat):Int) by omega,getI_nat,List.getElem?_eq_getElem (by omega),Option.bind_some]
   rw[show shrI .u64 (u:Int) 4=some ((u / 16:Nat):Int) by
    unfold shrI
    rw[if_pos (by decide),show min (Int.toNat 4) (IntKind.bits .u64)=4 from rfl]
    congr 1]
   rw[Option.bind_some]
   obtain ⟨u',i',p',g1,g2,g3,g4,g5,g6⟩:=ih (u / 16) k (i-1) (p.set (i-1) ((hexC (u % 16)).toNat:Int)) (by rw[Nat.div_lt_iff_lt_mul (by omega)];rw[Nat.pow_succ]at hu;omega) (by omega) (by omega) (by omega) (by simpa using hp) (by omega)
   refine ⟨u',i',p',g1,g2,g3,g4,g5,?_⟩
   rw[<-g6,drop_set_at (by omega),show i-1+1=i by omega]
   unfold hexI
   rw[hexD.eq_def u,dif_neg h16]
   simp
theorem bytes_back:∀ (l:List UInt8),strOf (l.map λ b=>(b.toNat:Int))=l
 | []=>rfl
 | b::r=>by
  have:=bytes_back r
  unfold strOf at this ⊢
  simp only[List.map_cons]
  rw[this]
  congr 1
  simp
theorem impl_hex {n:Int} (h0:0<=n) (h1:n < 4294967296):g_impl_HexText n=some (hexD n.toNat):=by
 unfold g_impl_HexText g_strconv_FormatUint g_istrconv_FormatUint
 rw[wU64 h0 (by omega),show ((16:Int)==10)=false from rfl,cond_false]
 unfold g_istrconv_formatBits
 rw[show (decide ((16:Int) < 2))=false from rfl,show ((16:Int)==10)=false from rfl,show (decide ((16:Int) > 36))=false from rfl,
  show g_istrconv_isPowerOfTwo 16=some true by kernel_rfl,show g_math_bits_TrailingZeros (IntKind.wrap .u64 16)=some 4 by kernel_rfl]
 simp only[cond_true,cond_false,Option.bind_some]
 rw[show IntKind.wrap .u64 4=4 from rfl,show IntKind.wrap .u64 (IntKind.wrap .u64 16-1)=15 from rfl,show IntKind.wrap .u64 16=16 from rfl]
 obtain ⟨u',i',p',g1,g2,g3,g4,g5,g6⟩:=hex_loop 7 n.toNat bigK 65 (zB 65) (by omega) (by omega) (by omega) (by omega) rfl (by unfold bigK;omega)
 rw[show ((n.toNat:Nat):Int)=n by omega,show ((65:Nat):Int)=65 from rfl]at g1
 rw[g1]
 have hx:=hidx g2
 simp only[Option.bind_some]at hx ⊢
 rw[hx]
 simp only[Option.bind_some]
 rw[g5,show chk (Nat.beq 65 65)=some () from rfl]
 simp only[Option.bind_some]
 rw[wI64 (by omega) (by omega),show (i':Int)-1=((i'-1:Nat):Int) by omega,getI_nat,List.getElem?_eq_getElem (by omega)]
 simp only[Option.bind_some,Int.toNat_natCast]
 rw[List.length_set,g5,show chk (Nat.beq 65 65)=some () from rfl]
 simp only[Option.bind_some]
 have hl:(p'.set (i'-1) ((hexC u').toNat:Int)).length=65:=by simpa using g5
 rw[subL_eq (by omega) (by omega) (by rw[hl];omega)]
 simp only[Option.bind_some,Int.toNat_natCast]
 rw[drop_set_at (by omega),show i'-1+1=i' by omega,<-g6,List.take_of_length_le (by rw[g6,List.length_cons,List.length_drop];omega),List.drop_eq_nil_of_le (by exact Nat.le_refl _),List.append_nil]
 exact congrArg some (bytes_back _)
end Go.Proofs.YtgfamepnkhpemaaGreatDoor
namespace Go.Proofs.YtgfamepnkhpemaaGreatDoor
open Go Go.Fm
set_option maxRecDepth 100000
structure ItS (it:GItem):Prop where
 n:it.Name.length<=1048576
 r:0<=it.Raw/\it.Raw < 4294967296
def itemOkB (it:GItem):Bool:=(g_spec_ItemOk it).getD false
theorem itemOk_spec {it:GItem} (h:ItS it):g_spec_ItemOk it=some (itemOkB it):=by
 obtain ⟨cs,hc,_⟩:=specCells_ok h.n h.r
 unfold itemOkB g_spec_ItemOk
 rw[hc]
 rfl
theorem itemOk_impl {it:GItem} (h:ItS it):g_impl_ItemOk it=some (itemOkB it):=by
 rw[<-itemOk_spec h]
 unfold g_impl_ItemOk g_spec_ItemOk
 rw[cells_eq h.n]
theorem itemOk_kind {it:GItem} (h:ItS it) (hb:itemOkB it=true):0<=it.Kind/\it.Kind<=9:=by
 have hi:=itemOk_impl h
 rw[hb]at hi
 by_cases hk:0<=it.Kind/\it.Kind<=9
 ·exact hk
 ·exfalso
  have e:∀ j:Int,0<=j->j<=9->(it.Kind==j)=false:=λ j h0 h1=>by rw[beq_eq_false_iff_ne];omega
  unfold g_impl_ItemOk g_impl_CellsOf g_impl_nameTag at hi
  simp only[e 0 (by decide) (by decide),e 1 (by decide) (by decide),e 2 (by decide) (by decide),e 3 (by decide) (by decide),e 4 (by decide) (by decide),e 5 (by decide) (by decide),e 6 (by decide) (by decide),e 7 (by decide) (by decide),e 8 (by decide) (by decide),e 9 (by decide) (by decide),
   cond_false,cond_true,Bool.false_and,Option.bind_some,show (decide ((0:Int) > 0))=false from rfl]at hi
  simp at hi
theorem dec_text (n:Int):∃ t,g_spec_DecText (IntKind.wrap .i64 n)=some t/\g_impl_DecText (IntKind.wrap .i64 n)=some t/\t.length<=21:=by
 obtain ⟨h0,h1⟩:=wI64_bd n
 exact ⟨_,spec_dec h0 (by omega),impl_dec h0 (by omega),itoa_len h0 (by omega)⟩
theorem hex_text {n:Int} (h0:0<=n) (h1:n < 4294967296):∃ t,g_spec_HexText n=some t/\g_impl_HexText n=some t/\t.length<=8 :=
 ⟨_,spec_hex h0 h1,impl_hex h0 h1,hexD_len 7 n.toNat (by omega)⟩
theorem item_both {it:GItem} (h:ItS it):∃ t,g_spec_ItemText it=some t/\g_impl_ItemText it=some t/\t.length<=it.Name.length+60:=by
 unfold g_spec_ItemText g_impl_ItemText
 rw[itemOk_spec h,itemOk_impl h]
 simp only[Option.bind_some]
 cases hb:itemOkB it
 ·exact ⟨[],rfl,rfl,by simp⟩
 ·rw[Bool.not_true,cond_false,cond_false]
  obtain ⟨k0,k1⟩:=itemOk_kind h hb
  obtain ⟨K,nm,n,hex,raw⟩:=it
  obtain ⟨hn,r0,r1⟩:=h
  simp only at hn r0 r1 k0 k1 ⊢
  obtain ⟨dt,d1,d2,d3⟩:=dec_text n
  obtain ⟨u0,u1⟩:=wU32_bd n
  obtain ⟨ht,e1,e2,e3⟩:=hex_text u0 u1
  obtain ⟨rt,f1,f2,f3⟩:=hex_text r0 r1
  have hK:K=0\/K=1\/K=2\/K=3\/K=4\/K=5\/K=6\/K=7\/K=8\/K=9:=by omega
  have c:∀ (a b:List UInt8),a.length<=2000000->b.length<=2000000->catS a b=some (a++b):=λ a b h1 h2=>catS_eq (by omega)
  unfold g_impl_digits
  rw[e2,d2,f1,f2,e1,d1]
  rcases hK with rfl|rfl|rfl|rfl|rfl|rfl|rfl|rfl|rfl|rfl
  ·refine ⟨[37]++rt,?_,?_,by simp;omega⟩
   ·show ((catS [37] rt).bind λ v=>some (.inr v):Option (Unit ⊕ Bs)).bind _=_
    rw[c _ _ (by simp) (by omega)];rfl
   ·show (catS [37] rt).bind _=_
    rw[c _ _ (by simp) (by omega)];rfl
  ·exact ⟨[126]++nm,(show (catS [126] nm).bind _=_ by rw[c _ _ (by simp) (by omega)];rfl),(show (catS [126] nm).bind _=_ by rw[c _ _ (by simp) (by omega)];rfl),by simp⟩
  ·exact ⟨[58]++nm,(show (catS [58] nm).bind _=_ by rw[c _ _ (by simp) (by omega)];rfl),(show (catS [58] nm).bind _=_ by rw[c _ _ (by simp) (by omega)];rfl),by simp⟩
  ·exact ⟨[61]++nm,(show (catS [61] nm).bind _=_ by rw[c _ _ (by simp) (by omega)];rfl),(show (catS [61] nm).bind _=_ by rw[c _ _ (by simp) (by omega)];rfl),by simp⟩
  ·exact ⟨[34]++nm,(show (catS [34] nm).bind _=_ by rw[c _ _ (by simp) (by omega)];rfl),(show (catS [34] nm).bind _=_ by rw[c _ _ (by simp) (by omega)];rfl),by simp⟩
  ·exact ⟨[94]++nm,(show (catS [94] nm).bind _=_ by rw[c _ _ (by simp) (by omega)];rfl),(show (catS [94] nm).bind _=_ by rw[c _ _ (by simp) (by omega)];rfl),by simp⟩
  ·exact ⟨[95]++nm,(show (catS [95] nm).bind _=_ by rw[c _ _ (by simp) (by omega)];rfl),(show (catS [95] nm).bind _=_ by rw[c _ _ (by simp) (by omega)];rfl),by simp⟩
  ·cases hex
   ·refine ⟨[126,35]++dt,?_,?_,by simp;omega⟩
    ·show ((catS [126] [35]).bind λ v_10=>(some dt).bind λ y_11=>(catS v_10 y_11).bind λ v_12=>some (.inr v_12):Option (Unit ⊕ Bs)).bind _=_
     rw[c [126] [35] (by simp) (by simp)]
     simp only[Option.bind_some]
     rw[c _ _ (by simp) (by omega)];rfl
    ·show ((catS [35] dt).bind λ v_7=>some v_7:Option Bs).bind (λ y=>(catS [126] y).bind _)=_
     rw[c _ _ (by simp) (by omega)]
     simp only[Option.bind_some]
     rw[c _ _ (by simp) (by simp;omega)];rfl
   ·refine ⟨[126,36]++ht,?_,?_,by simp;omega⟩
    ·show ((catS [126] [36]).bind λ v_10=>(some ht).bind λ y_11=>(catS v_10 y_11).bind λ v_12=>some (.inr v_12):Option (Unit ⊕ Bs)).bind _=_
     rw[c [126] [36] (by simp) (by simp)]
     simp only[Option.bind_some]
     rw[c _ _ (by simp) (by omega)];rfl
    ·show ((catS [36] ht).bind λ v_7=>some v_7:Option Bs).bind (λ y=>(catS [126] y).bind _)=_
     rw[c _ _ (by simp) (by omega)]
     simp only[Option.bind_some]
     rw[c _ _ (by simp) (by simp;omega)];rfl
  ·cases hex
   ·refine ⟨[61,35]++dt,?_,?_,by simp;omega⟩
    ·show ((catS [61] [35]).bind λ v_10=>(some dt).bind λ y_11=>(catS v_10 y_11).bind λ v_12=>some (.inr v_12):Option (Unit ⊕ Bs)).bind _=_
     rw[c [61] [35] (by simp) (by simp)]
     simp only[Option.bind_some]
     rw[c _ _ (by simp) (by omega)];rfl
    ·show ((catS [35] dt).bind λ v_7=>some v_7:Option Bs).bind (λ y=>(catS [61] y).bind _)=_
     rw[c _ _ (by simp) (by omega)]
     simp only[Option.bind_some]
     rw[c _ _ (by simp) (by simp;omega)];rfl
   ·refine ⟨[61,36]++ht,?_,?_,by simp;omega⟩
    ·show ((catS [61] [36]).bind λ v_10=>(some ht).bind λ y_11=>(catS v_10 y_11).bind λ v_12=>some (.inr v_12):Option (Unit ⊕ Bs)).bind _=_
     rw[c [61] [36] (by simp) (by simp)]
     simp only[Option.bind_some]
     rw[c _ _ (by simp) (by omega)];rfl
    ·show ((catS [36] ht).bind λ v_7=>some v_7:Option Bs).bind (λ y=>(catS [61] y).bind _)=_
     rw[c _ _ (by simp) (by omega)]
     simp only[Option.bind_some]
     rw[c _ _ (by simp) (by simp;omega)];rfl
  ·refine ⟨[38]++nm++[35]++dt,?_,?_,by simp;omega⟩
   ·show ((catS [38] nm).bind λ v_13=>(catS v_13 [35]).bind λ v_14=>(some dt).bind λ y_15=>(catS v_14 y_15).bind λ v_16=>some (.inr v_16):Option (Unit ⊕ Bs)).bind _=_
    rw[c _ _ (by simp) (by omega)]
    simp only[Option.bind_some]
    rw[c _ _ (by simp;omega) (by simp)]
    simp only[Option.bind_some]
    rw[c _ _ (by simp;omega) (by omega)];rfl
   ·show (catS [38] nm).bind (λ v_10=>((catS [35] dt).bind λ v_7=>some v_7:Option Bs).bind _)=_
    rw[c _ _ (by simp) (by omega),c [35] dt (by simp) (by omega)]
    simp only[Option.bind_some]
    rw[c _ _ (by simp;omega) (by simp;omega)]
    simp
def itemT (it:GItem):Bs:=(g_spec_ItemText it).getD []
theorem itemT_ok {it:GItem} (h:ItS it):g_spec_ItemText it=some (itemT it)/\g_impl_ItemText it=some (itemT it)/\(itemT it).length<=it.Name.length+60:=by
 obtain ⟨t,h1,h2,h3⟩:=item_both h
 have:itemT it=t:=by unfold itemT;rw[h1];rfl
 rw[this];exact ⟨h1,h2,h3⟩
def partOf (x:GKey):Option Bs:=cond (x.Op==1) (some [62]) (cond (x.Op==5) (some [120]) (cond (x.Op==2) (some [124]) (cond (x.Op==4&&itemOkB x.Item) (some (43::itemT x.Item)) none)))
def partsOfK:List GKey->Option (List Bs)
 | []=>some []
 | x::r=>match partOf x,partsOfK r with
  | some t,some ts=>some (t::ts)
  | _,_=>none
def costK:List GKey->Nat
 | []=>0
 | x::r=>x.Item.Name.length+70+costK r
theorem partOf_len {x:GKey} (h:ItS x.Item) {t:Bs} (ht:partOf x=some t):t.length<=x.Item.Name.length+61:=by
 unfold partOf at ht
 cases h1:x.Op==1<;>rw[h1]at ht<;>simp only[cond_true,cond_false]at ht
 ·cases h2:x.Op==5<;>rw[h2]at ht<;>simp only[cond_true,cond_false]at ht
  ·cases h3:x.Op==2<;>rw[h3]at ht<;>simp only[cond_true,cond_false]at ht
   ·cases h4:(x.Op==4&&itemOkB x.Item)<;>rw[h4]at ht<;>simp only[cond_true,cond_false]at ht
    ·cases ht
    ·cases ht
     have:=(itemT_ok h).2.2
     simp;omega
   ·cases ht;simp
  ·cases ht;simp
 ·cases ht;simp
theorem bsOf_app (a b:Bs):bsOf (a++b)=bsOf a++bsOf b:=by unfold bsOf;simp
theorem bsOf_ln (a:Bs):(bsOf a).length=a.length:=by unfold bsOf;simp
theorem spec_step {keys:List GKey} {k n:Nat} {x:GKey} {out:List Int} (hx:keys[n]? = some x) (hn:n < keys.length) (hm:keys.length<=1048576) (h:ItS x.Item) (ho:out.length+x.Item.Name.length+70<=4000000000) :
  g_spec_PlanText_l0 keys (k+1) out (n:Int)=match partOf x with
   | some t=>g_spec_PlanText_l0 keys k ((if n=0 then out else out++[32])++bsOf t) ((n+1:Nat):Int)
   | none=>some (.inr []):=by
 have hs:(cond (decide ((n:Int) > 0)) ((app out [32]).bind λ v_12=>some v_12) (some out):Option (List Int))=some (if n=0 then out else out++[32]):=by
  by_cases h0:n=0
  ·subst h0;rfl
  ·rw[decide_eq_true (by omega),cond_true,app_eq (by simp;omega),if_neg h0];rfl
 have hl:(if n=0 then out else out++[32]).length<=out.length+1:=by split<;>simp
 rw[g_spec_PlanText_l0,decide_eq_true (by omega),cond_true,hs]
 generalize (if n=0 then out else out++[32])=o at hl
 simp only[Option.bind_some,getI_nat,hx]
 obtain ⟨i1,i2,i3⟩:=itemT_ok h
 unfold partOf
 cases h1:x.Op==1<;>simp only[cond_true,cond_false]
 ·cases h2:x.Op==5<;>simp only[cond_true,cond_false]
  ·cases h3:x.Op==2<;>simp only[cond_true,cond_false]
   ·cases h4:x.Op==4<;>simp only[cond_true,cond_false,Bool.false_and,Bool.true_and,Option.bind_some]
    rw[itemOk_spec h]
    simp only[Option.bind_some]
    cases h5:itemOkB x.Item<;>simp only[cond_true,cond_false,Option.bind_some]
    rw[i1]
    simp only[Option.bind_some]
    rw[catS_eq (by have:=h.n;simp;omega)]
    simp only[Option.bind_some]
    rw[app_eq (by rw[bsOf_ln];simp;omega)]
    simp only[Option.bind_some]
    rw[nxt (by omega)]
    rfl
   ·rw[app_eq (by simp;omega)]
    simp only[Option.bind_some]
    rw[nxt (by omega)];rfl
  ·rw[app_eq (by simp;omega)]
   simp only[Option.bind_some]
   rw[nxt (by omega)];rfl
 ·rw[app_eq (by simp;omega)]
  simp only[Option.bind_some]
  rw[nxt (by omega)];rfl
theorem impl_step {keys:List GKey} {k n:Nat} {x:GKey} {parts:List Bs} (hx:keys[n]? = some x) (hn:n < keys.length) (hm:keys.length<=1048576) (h:ItS x.Item) (ho:parts.length<=n) :
  g_impl_PlanText_l0 keys (keys.length:Int) (k+1) parts (n:Int)=match partOf x with
   | some t=>g_impl_PlanText_l0 keys (keys.length:Int) k (parts++[t]) ((n+1:Nat):Int)
   | none=>some (.inr []):=by
 rw[g_impl_PlanText_l0,decide_eq_true (by omega),cond_true]
 simp only[Option.bind_some,getI_nat,hx]
 obtain ⟨i1,i2,i3⟩:=itemT_ok h
 unfold partOf
 cases h1:x.Op==1<;>simp only[cond_true,cond_false]
 ·cases h2:x.Op==5<;>simp only[cond_true,cond_false]
  ·cases h3:x.Op==2<;>simp only[cond_true,cond_false]
   ·cases h4:x.Op==4<;>simp only[cond_true,cond_false,Bool.false_and,Bool.true_and,Option.bind_some]
    rw[itemOk_impl h]
    simp only[Option.bind_some]
    cases h5:itemOkB x.Item<;>simp only[cond_true,cond_false,Option.bind_some]
    rw[i2]
    simp only[Option.bind_some]
    rw[catS_eq (by have:=h.n;simp;omega)]
    simp only[Option.bind_some]
    rw[app_eq (by simp;omega)]
    simp only[Option.bind_some]
    rw[nxt (by omega)]
    rfl
   ·rw[app_eq (by simp;omega)]
    simp only[Option.bind_some]
    rw[nxt (by omega)]
  ·rw[app_eq (by simp;omega)]
   simp only[Option.bind_some]
   rw[nxt (by omega)]
 ·rw[app_eq (by simp;omega)]
  simp only[Option.bind_some]
  rw[nxt (by omega)]
def glue (n:Nat) (ts:List Bs):Bs:=if n=0 then Lib.join ts [32] else Lib.joinTail [32] ts
theorem glue_cons (n:Nat) (t:Bs) (ts:List Bs):glue n (t::ts)=(if n=0 then [] else [32])++t++glue (n+1) ts:=by
 unfold glue
 rw[if_neg (by omega:¬ n+1=0)]
 split
 ·rw[Lib.join_cons];rfl
 ·simp[Lib.joinTail]
theorem glue_nil (n:Nat):glue n []=[]:=by unfold glue;split<;>rfl
theorem spec_loopP {keys:List GKey} (hm:keys.length<=1048576) (hi:∀ x ∈ keys,ItS x.Item):∀ (k n:Nat) (out:List Int),n<=keys.length->keys.length-n < k->out.length+costK (keys.drop n)<=4000000000 →
  g_spec_PlanText_l0 keys k out (n:Int)=some (match partsOfK (keys.drop n) with|some ts=>.inl (out++bsOf (glue n ts))|none=>.inr [])/\∀ ts,partsOfK (keys.drop n)=some ts->(glue n ts).length<=costK (keys.drop n):=by
 intro k
 induction k with
 | zero=>intro n out h0 h1;omega
 | succ k ih =>
  intro n out h0 h1 h2
  by_cases hn:n < keys.length
  ·rw[List.drop_eq_getElem_cons hn]at h2 ⊢
   have hx:=hi _ (List.getElem_mem hn)
   rw[show costK (keys[n]::keys.drop (n+1))=keys[n].Item.Name.length+70+costK (keys.drop (n+1)) from rfl]at h2 ⊢
   rw[spec_step (List.getElem?_eq_getElem hn) hn hm hx (by omega)]
   cases hp:partOf keys[n] with
   | none =>
    refine ⟨?_,λ ts h => ?_⟩
    ·simp only[partsOfK,hp]
    ·simp only[partsOfK,hp]at h;cases h
   | some t =>
    have hl:=partOf_len hx hp
    obtain ⟨g1,g2⟩:=ih (n+1) ((if n=0 then out else out++[32])++bsOf t) (by omega) (by omega) (by
     have:(if n=0 then out else out++[32]).length<=out.length+1:=by split<;>simp
     rw[List.length_append,bsOf_ln];omega)
    simp only[partsOfK,hp]
    cases hq:partsOfK (keys.drop (n+1)) with
    | none =>
     rw[hq]at g1
     exact ⟨g1,λ ts h=>by cases h⟩
    | some ts =>
     rw[hq]at g1
     refine ⟨?_,λ us h => ?_⟩
     ·simp only
      rw[g1,glue_cons]
      simp only[bsOf_app]
      by_cases h0:n=0
      ·rw[if_pos h0,if_pos h0];simp[bsOf]
      ·rw[if_neg h0,if_neg h0];simp[bsOf]
     ·cases h
      have:=g2 ts hq
      rw[glue_cons]
      have h3:(if n=0 then ([]:Bs) else [32]).length<=1:=by split<;>simp
      simp only[List.length_append];omega
  ·rw[List.drop_eq_nil_of_le (by omega)]
   refine ⟨?_,λ ts h=>by cases h;rw[glue_nil];simp⟩
   rw[g_spec_PlanText_l0,decide_eq_false (by omega),cond_false]
   simp[partsOfK,glue_nil,bsOf]
theorem partsOfK_len:∀ {l:List GKey} {ts:List Bs},partsOfK l=some ts->ts.length=l.length
 | [],ts,h=>by cases h;rfl
 | x::r,ts,h=>by
  unfold partsOfK at h
  split at h
  ·rename_i t us h1 h2
   cases h
   simp[partsOfK_len h2]
  ·cases h
theorem impl_loopP {keys:List GKey} (hm:keys.length<=1048576) (hi:∀ x ∈ keys,ItS x.Item):∀ (k n:Nat) (parts:List Bs),n<=keys.length->keys.length-n < k->parts.length<=n →
  g_impl_PlanText_l0 keys (keys.length:Int) k parts (n:Int)=some (match partsOfK (keys.drop n) with|some ts=>.inl (parts++ts)|none=>.inr []):=by
 intro k
 induction k with
 | zero=>intro n out h0 h1;omega
 | succ k ih =>
  intro n parts h0 h1 h2
  by_cases hn:n < keys.length
  ·rw[List.drop_eq_getElem_cons hn]
   have hx:=hi _ (List.getElem_mem hn)
   rw[impl_step (List.getElem?_eq_getElem hn) hn hm hx h2]
   cases hp:partOf keys[n] with
   | none=>simp only[partsOfK,hp]
   | some t =>
    simp only[partsOfK,hp]
    rw[ih (n+1) _ (by omega) (by omega) (by simp;omega)]
    cases hq:partsOfK (keys.drop (n+1)) with
    | none=>rfl
    | some ts=>simp
  ·rw[List.drop_eq_nil_of_le (by omega)]
   rw[g_impl_PlanText_l0,decide_eq_false (by omega),cond_false]
   simp[partsOfK]
structure KeyW (x:GKey):Prop where
 n:x.Item.Name.length<=9223372036854775807
 r:0<=x.Item.Raw/\x.Item.Raw < 4294967296
end Go.Proofs.YtgfamepnkhpemaaGreatDoor
namespace Go.Proofs.YtgfamepnkhpemaaGreatDoor
open Go Go.Fm
set_option maxRecDepth 100000
theorem sameC (l:List Int) (h:l.length<=4000):g_laws_sameCells l l=some true :=
 eqRefl (g_laws_sameCells_l0 l l) _ rfl (λ k n x hx hn=>by
  rw[g_laws_sameCells_l0,decide_eq_true (by omega),cond_true,getI_nat,hx]
  simp only[Option.bind_some,bne_self',cond_false]
  rw[nxt (by omega)]) (λ k n hn=>by rw[g_laws_sameCells_l0,decide_eq_false (by omega),cond_false]) (by omega)
theorem padded_eq {c:List Int} (h:c.length<=64):g_laws_padded c=some (c++List.replicate (64-c.length) 0):=by
 have key:∀ (k j:Nat),c.length+j<=64->64-(c.length+j) < k->g_laws_padded_l0 k (c++List.replicate j 0)=some (c++List.replicate (64-c.length) 0):=by
  intro k
  induction k with
  | zero=>intro j h0 h1;omega
  | succ k ih =>
   intro j h0 h1
   rw[g_laws_padded_l0]
   by_cases hj:c.length+j < 64
   ·rw[decide_eq_true (by rw[List.length_append,List.length_replicate];omega),cond_true,app_eq (by simp;omega),Option.bind_some,List.append_assoc,<-List.replicate_succ']
    exact ih (j+1) (by omega) (by omega)
   ·rw[decide_eq_false (by rw[List.length_append,List.length_replicate];omega),cond_false,show j=64-c.length by omega]
 unfold g_laws_padded
 rw[app_eq (by simp;omega),Option.bind_some,List.nil_append]
 have:=key bigK 0 (by omega) (by unfold bigK;omega)
 rw[List.replicate_zero,List.append_nil]at this
 rw[this];rfl
def putN:List GKey->Nat
 | []=>0
 | k::r=>(if k.Op=4 then 1 else 0)+putN r
theorem putN_app:∀ (a b:List GKey),putN (a++b)=putN a+putN b
 | [],b=>by rw[List.nil_append,putN,Nat.zero_add]
 | k::a,b=>by rw[List.cons_append,putN,putN,putN_app a b];omega
theorem putN_F1:∀ l:List Stp,putN (F1 l)=0
 | []=>rfl
 | s::l=>by
  rw[F1_cons,putN_app,putN_F1 l]
  cases s<;>rfl
theorem putN_S2:∀ l:List Stp,putN (S2 l)=nPut l
 | []=>rfl
 | s::l=>by
  rw[S2_cons,putN_app,putN_S2 l]
  cases s with
  | keep=>rw[nPut];exact Nat.zero_add _
  | cut=>rw[nPut];exact Nat.zero_add _
  | put y=>rw[nPut];show putN [⟨4,y⟩]+nPut l=_;rw[show putN [⟨4,y⟩]=1 from rfl];omega
theorem put_loop {keys:List GKey} (hl:keys.length<=1000):g_laws_FnPlan_l0 keys bigK 0 0=some ((putN keys:Nat):Int):=by
 have key:∀ (k n m:Nat),n<=keys.length->keys.length-n < k->m<=n->g_laws_FnPlan_l0 keys k (m:Int) (n:Int)=some ((m+putN (keys.drop n):Nat):Int):=by
  intro k
  induction k with
  | zero=>intro n m h0 h1;omega
  | succ k ih =>
   intro n m h0 h1 h2
   rw[g_laws_FnPlan_l0]
   by_cases hn:n < keys.length
   ·rw[decide_eq_true (by omega),cond_true,getI_nat,List.getElem?_eq_getElem hn,Option.bind_some,nxt (n:=n) (by omega),nxt (n:=m) (by omega),List.drop_eq_getElem_cons hn,putN]
    by_cases h4:keys[n].Op=4
    ·rw[h4,if_pos rfl,show ((4:Int)==4)=true from rfl,cond_true,Option.bind_some,ih (n+1) (m+1) hn (by omega) (by omega),Nat.add_assoc]
    ·rw[if_neg h4,beq_eq_false_iff_ne.mpr h4,cond_false,Option.bind_some,ih (n+1) m hn (by omega) (by omega),Nat.zero_add]
   ·rw[decide_eq_false (by omega),cond_false,List.drop_eq_nil_of_le (by omega),putN,Nat.add_zero]
 have:=key bigK 0 0 (Nat.zero_le _) (by unfold bigK;omega) (Nat.zero_le _)
 rw[List.drop_zero,Nat.zero_add]at this
 exact this
theorem iok_its {it:GItem} (h:Iok it):ItS it:=⟨h.1,h.2⟩
theorem ok_its {it:GItem} (h:Iok it):itemOkB it=okI it:=by
 have:=itemOk_impl (iok_its h)
 rw[(itemOk h).1]at this
 exact (Option.some.inj this).symm
theorem blank_iok:Iok ⟨0,[],0,false,0⟩:=blank_ok
theorem mem_F1:∀ {l:List Stp} {k:GKey},k ∈ F1 l->k=kR\/k=kX
 | [],k,h=>by cases (h:k ∈ ([]:List GKey))
 | s::l,k,h=>by
  rw[F1_cons]at h
  rcases List.mem_append.1 h with h|h
  ·cases s with
   | keep=>exact .inl (List.mem_singleton.1 h)
   | cut =>
    rcases List.mem_cons.1 h with h|h
    ·exact .inl h
    ·exact .inr (List.mem_singleton.1 h)
   | put y=>cases (h:k ∈ ([]:List GKey))
  ·exact mem_F1 h
theorem mem_S2 {Q:GItem->Prop}:∀ {l:List Stp} {k:GKey},(∀ y,Stp.put y ∈ l->Q y)->k ∈ S2 l->k=kR\/∃ y,k=⟨4,y⟩/\Q y
 | [],k,_,h=>by cases (h:k ∈ ([]:List GKey))
 | s::l,k,hq,h=>by
  rw[S2_cons]at h
  rcases List.mem_append.1 h with h|h
  ·cases s with
   | keep=>exact .inl (List.mem_singleton.1 h)
   | cut=>cases (h:k ∈ ([]:List GKey))
   | put y=>exact .inr ⟨y,List.mem_singleton.1 h,hq y List.mem_cons_self⟩
  ·exact mem_S2 (λ y hy=>hq y (List.mem_cons_of_mem _ hy)) h
theorem put_mem:∀ (n:Nat) (x y:List GItem),∀ it,Stp.put it ∈ plan n x y->it ∈ y:=by
 intro n
 induction n with
 | zero=>intro x y it h;rw[plan]at h;cases h
 | succ n ih =>
  intro x y it h
  cases x with
  | nil=>cases y with
   | nil=>rw[plan]at h;cases h
   | cons b ys =>
    rw[plan]at h
    rcases List.mem_cons.1 h with h|h
    ·cases h;exact List.mem_cons_self
    ·exact List.mem_cons_of_mem _ (ih [] ys it h)
  | cons a xs=>cases y with
   | nil =>
    rw[plan]at h
    rcases List.mem_cons.1 h with h|h
    ·cases h
    ·exact ih xs [] it h
   | cons b ys =>
    rw[plan]at h
    split at h
    ·rcases List.mem_cons.1 h with h|h
     ·cases h
     ·exact List.mem_cons_of_mem _ (ih xs ys it h)
    ·split at h
     ·rcases List.mem_cons.1 h with h|h
      ·cases h
      ·exact ih xs (b::ys) it h
     ·rcases List.mem_cons.1 h with h|h
      ·cases h;exact List.mem_cons_self
      ·exact List.mem_cons_of_mem _ (ih (a::xs) ys it h)
theorem mem_keys {x y:List GItem} (hy:∀ it ∈ y,Rt it):∀ k ∈ keysP 128 x y,Iok k.Item/\∃ t,partOf k=some t/\t≠[]:=by
 intro k hk
 unfold keysP at hk
 have hR:Iok kR.Item/\∃ t,partOf kR=some t/\t≠[]:=⟨blank_iok,[62],rfl,by simp⟩
 rcases List.mem_append.1 hk with h|h
 ·rcases mem_F1 h with rfl|rfl
  ·exact hR
  ·exact ⟨blank_iok,[120],rfl,by simp⟩
 ·rcases List.mem_append.1 h with h|h
  ·rw[List.mem_singleton.1 h]
   exact ⟨blank_iok,[124],rfl,by simp⟩
  ·rcases mem_S2 (Q:=Rt) (λ y hp=>hy y (put_mem 128 _ _ y hp)) h with rfl|⟨z,rfl,hz⟩
   ·exact hR
   ·refine ⟨hz.1,43::itemT z,?_,by simp⟩
    unfold partOf
    show cond ((4:Int)==4&&itemOkB z) (some (43::itemT z)) none=_
    rw[ok_its hz.1,rt_ok hz];rfl
theorem parts_some:∀ {l:List GKey},(∀ k ∈ l,∃ t,partOf k=some t/\t≠[])->∃ ts,partsOfK l=some ts/\(∀ t ∈ ts,t≠[])
 | [],_=>⟨[],rfl,λ t h=>by cases h⟩
 | k::l,h=>by
  obtain ⟨t,ht,hn⟩:=h k List.mem_cons_self
  obtain ⟨ts,hts,hns⟩:=parts_some (l:=l) λ x hx=>h x (List.mem_cons_of_mem _ hx)
  refine ⟨t::ts,?_,λ u hu => ?_⟩
  ·rw[partsOfK,ht,hts]
  ·rcases List.mem_cons.1 hu with rfl|hu
   ·exact hn
   ·exact hns u hu
theorem text_ne {x y:List GItem} (hy:∀ it ∈ y,Rt it) (hn:∀ it ∈ y,it.Name.length<=1048576):∃ t,g_impl_PlanText (keysP 128 x y)=some t/\t≠[]:=by
 have hm:=mem_keys (x:=x) hy
 obtain ⟨kl,k1⟩:=keys_len x y
 obtain ⟨ts,hts,hne⟩:=parts_some λ k hk=>(hm k hk).2
 have hi:∀ k ∈ keysP 128 x y,ItS k.Item:=λ k hk=>iok_its (hm k hk).1
 have hc:costK (keysP 128 x y)<=4000000000:=by
  have:∀ l:List GKey,(∀ k ∈ l,ItS k.Item)->costK l<=l.length*1048646:=by
   intro l
   induction l with
   | nil=>intro _;exact Nat.le_refl _
   | cons k l ih =>
    intro h
    have h1:=(h k List.mem_cons_self).n
    have h2:=ih λ z hz=>h z (List.mem_cons_of_mem _ hz)
    rw[show costK (k::l)=k.Item.Name.length+70+costK l from rfl,List.length_cons,Nat.add_mul]
    omega
  have h1:=this _ hi
  have h2:(keysP 128 x y).length*1048646<=400*1048646:=Nat.mul_le_mul_right _ kl
  omega
 have L:=impl_loopP (by omega) hi bigK 0 [] (Nat.zero_le _) (by unfold bigK;omega) (Nat.le_refl _)
 obtain ⟨_,s2⟩:=spec_loopP (by omega) hi bigK 0 [] (Nat.zero_le _) (by unfold bigK;omega) (by simpa using hc)
 rw[List.drop_zero]at L s2
 rw[hts]at L
 have hlen:=s2 ts hts
 have e:glue 0 ts=Lib.join ts [32]:=by unfold glue;rw[if_pos rfl]
 have hl2:=partsOfK_len hts
 refine ⟨Lib.join ts [32],?_,?_⟩
 ·unfold g_impl_PlanText
  rw[show (0:Int)=((0:Nat):Int) from rfl,L]
  simp only[Option.bind_some,List.nil_append]
  unfold g_strings_Join gJoin
  rw[e]at hlen
  rw[decide_eq_true ⟨by omega,by omega⟩]
  rfl
 ·cases ts with
  | nil=>rw[List.length_nil]at hl2;omega
  | cons t ts =>
   rw[Lib.join_cons]
   intro h
   exact hne t List.mem_cons_self (List.append_eq_nil_iff.mp h).1
theorem law_core {a b:List Int} (ha:U32 a) (hb:U32 b) :
  ((g_impl_Plan a b).bind λ y_5=>(g_spec_Plan a b).bind λ y_6=>cond (y_5.2 != y_6.2) (some false) (cond (!y_5.2) (some ((y_5.1.length:Int)==0)) ((g_impl_OpenEd a).bind λ y_7=>(g_impl_PressAll y_7 y_5.1).bind λ y_8=>(cond (decide (y_8.2 > 0)) (some true) ((g_impl_EdCells y_8.1).bind λ y_10=>(g_laws_padded y_10).bind λ y_11=>(g_laws_padded b).bind λ y_12=>(g_laws_sameCells y_11 y_12).bind λ y_13=>some (!y_13)):Option (Bool)).bind λ v_9=>cond v_9 (some false) (((g_laws_FnPlan_l0 y_5.1 bigK 0 0).bind λ puts_22=>some puts_22:Option (Int)).bind λ puts_14=>(g_impl_ParseCells a).bind λ y_25=>(g_impl_ParseCells b).bind λ y_26=>(g_impl_Common y_25 y_26).bind λ y_27=>cond (puts_14==(IntKind.wrap .i64 ((y_26.length:Int)-y_27))) (cond ((y_8.1.Cut.length:Int)==(IntKind.wrap .i64 ((y_25.length:Int)-y_27))) ((g_impl_PlanText y_5.1).bind λ y_28=>some ((y_28==[])==((y_5.1.length:Int)==0))) (some false)) (some false)))))=some true:=by
 rcases plans ha hb with ⟨h1,ks,h2⟩|⟨x,y,a',b',za,zb,la,lb,pa,pb,ea,eb,qa,qb,ra,rb,hc,h1,ks,h2⟩
 ·rw[h1,h2];rfl
 ·rw[h1,h2,Option.bind_some,Option.bind_some,show ((true != true):Bool)=false from rfl,cond_false,Bool.not_true,cond_false]
  have la':a'.length<=64:=by rw[ea,List.length_append]at la;omega
  have lb':b'.length<=64:=by rw[eb,List.length_append]at lb;omega
  have ua':U32 a':=λ z hz=>ha z (by rw[ea];exact List.mem_append_left _ hz)
  have ub':U32 b':=λ z hz=>hb z (by rw[eb];exact List.mem_append_left _ hz)
  have ix:=parses_iok x a' ua' la' qa
  have iy:=parses_iok y b' ub' lb' qb
  have nx:∀ it ∈ x,it.Kind≠0:=λ it hi h=>by
   have:rawB x=true:=List.any_eq_true.mpr ⟨it,hi,by rw[h];rfl⟩
   rw[ra]at this;exact nomatch this
  have ny:∀ it ∈ y,it.Kind≠0:=λ it hi h=>by
   have:rawB y=true:=List.any_eq_true.mpr ⟨it,hi,by rw[h];rfl⟩
   rw[rb]at this;exact nomatch this
  have rx:=parses_rt x a' ua' la' qa ix nx
  have ry:=parses_rt y b' ub' lb' qb iy ny
  have cells_of_parse:∀ {c:List Int} {l:List GItem},Parses c l->cellsL l=c:=by
   intro c l h
   induction h with
   | nil=>rfl
   | cons g1 g2 g3 g4 g5 ih=>rw[cellsL_cons,ih,g4];unfold cellsO;rw[g2];rfl
  have cx:=cells_of_parse qa
  have cy:=cells_of_parse qb
  have lx:x.length<=64:=Nat.le_trans qa.len la'
  have ly:y.length<=64:=Nat.le_trans qb.len lb'
  have bx:Base x:=⟨rx,by rw[cx];exact la',by omega⟩
  have by_:Base y:=⟨ry,by rw[cy];exact lb',by omega⟩
  obtain ⟨kl,k1⟩:=keys_len x y
  obtain ⟨q1,q2,q3,q4⟩:=counts 128 x y (by omega)
  have hm:=mem_keys (x:=x) ry
  have ei:EI 100 ⟨[],x,[]⟩:=⟨.nil,ix, .nil,Nat.zero_le _,by show x.length<=100;omega,Nat.zero_le _⟩
  have eb0:edB ⟨[],x,[]⟩=true:=ed_base bx (by rw[List.nil_append];exact List.Sublist.refl _) (Nat.zero_le _) (λ it h=>by cases h)
  have hpress:=impl_all (e:=⟨[],x,[]⟩) (keys:=keysP 128 x y) ei (λ k hk=>(hm k hk).1) (by omega)
  rw[eb0,cond_true,all_keys (by omega) bx by_ hc]at hpress
  have hopen:g_impl_OpenEd a=some ⟨[],x,[]⟩:=by unfold g_impl_OpenEd;rw[pa];rfl
  rw[hopen,Option.bind_some,hpress,Option.bind_some]
  have icut:IL (cutF 128 x y):=λ it hi=>ix it (cut_mem 128 x y it hi)
  have ef:EI 100 ⟨y,[],cutF 128 x y⟩:=⟨iy, .nil,icut,by show y.length<=100;omega,Nat.zero_le _,by show (cutF 128 x y).length<=100;omega⟩
  have ebf:edB ⟨y,[],cutF 128 x y⟩=true:=ed_base by_ (by rw[List.append_nil];exact List.Sublist.refl _) (by omega) (λ it h=>rt_ok (rx it (cut_mem 128 x y it h)))
  have hcells:g_impl_EdCells ⟨y,[],cutF 128 x y⟩=some (cellsL y):=by
   unfold g_impl_EdCells g_impl_edItems
   rw[edOk_impl ef (by omega),ebf,Option.bind_some,Bool.not_true,cond_false]
   show Option.bind (Option.bind (g_slices_Concat_Item [y,[]]) _) _=_
   rw[concat2 (by omega) (Nat.zero_le _),List.append_nil,Option.bind_some,Option.bind_some,rt_unparse ry (by rw[cy];exact lb') (by omega)];rfl
  show Option.bind (cond (decide ((0:Int) > 0)) _ _) _=_
  rw[decide_eq_false (by omega),cond_false,hcells,Option.bind_some,padded_eq (by rw[cy];exact lb'),Option.bind_some,padded_eq lb,Option.bind_some]
  have hpad:b++List.replicate (64-b.length) 0=cellsL y++List.replicate (64-(cellsL y).length) 0:=by
   rw[cy]
   have hl:b.length=b'.length+zb:=by rw[eb,List.length_append,List.length_replicate]
   refine (congrArg (λ z=>z++List.replicate (64-b.length) (0:Int)) eb).trans ?_
   show (b'++List.replicate zb 0)++List.replicate (64-b.length) 0=_
   rw[List.append_assoc,List.replicate_append_replicate,show zb+(64-b.length)=64-b'.length by omega]
  rw[hpad,sameC _ (by rw[List.length_append,List.length_replicate,cy];omega),Option.bind_some,Option.bind_some,Bool.not_true,cond_false,put_loop (keys:=keysP 128 x y) (by omega),Option.bind_some,Option.bind_some,pa,Option.bind_some,pb,Option.bind_some]
  have hcom:g_impl_Common x y=some ((lcs x y:Nat):Int):=by rw[implCommon_eq,if_neg (by omega)]
  obtain ⟨t,ht,hne⟩:=text_ne (x:=x) ry (λ it hi=>(iy it hi).1)
  have hput:putN (keysP 128 x y)=nPut (plan 128 x y):=by
   unfold keysP
   rw[putN_app,putN_app,putN_F1,putN_S2]
   show 0+(0+nPut _)=_
   omega
  rw[hcom,Option.bind_some,hput,wI64 (by omega) (by omega),show (((nPut (plan 128 x y):Nat):Int)==(y.length:Int)-((lcs x y:Nat):Int))=true by rw[beq_iff_eq];omega,cond_true,wI64 (by omega) (by omega)]
  show cond (((cutF 128 x y).length:Int)==(x.length:Int)-((lcs x y:Nat):Int)) _ _=_
  rw[show (((cutF 128 x y).length:Int)==(x.length:Int)-((lcs x y:Nat):Int))=true by rw[beq_iff_eq];omega,cond_true,ht,Option.bind_some]
  rw[show ((t==[]):Bool)=false from beq_eq_false_iff_ne.mpr hne,show (((keysP 128 x y).length:Int)==0)=false by rw[beq_eq_false_iff_ne];omega]
  rfl
end Go.Proofs.YtgfamepnkhpemaaGreatDoor
