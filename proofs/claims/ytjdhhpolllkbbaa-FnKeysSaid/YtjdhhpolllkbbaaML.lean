import Derived.Test.YtjdhhpolllkbbaaMK
set_option linter.all false
namespace Go.Proofs.Ytjdhhpolllkbbaa
open Go Go.Fm
theorem plainE (a b c:Bool):(cond a (cond (!b) (some c) (some false)) (some false):Option Bool)=some (a&&(!b&&c)):=by cases a<;>cases b<;>cases c<;>rfl
theorem cells_eq {it:GItem} (hs:it.Name.length<=1048576):g_spec_CellsOf it=g_impl_CellsOf it:=by
 obtain ⟨K,nm,n,hex,raw⟩:=it
 obtain ⟨t,ht,t0,t1,tk⟩:=nameTag_vals K
 obtain ⟨p,hp,_,hpl⟩:=pack_ok (s:=nm) hs
 simp only at hs
 unfold g_spec_CellsOf g_impl_CellsOf
 simp only[tag_eq,ht,plainE,Option.bind_some,beq_self_eq_true,Bool.true_and,Bool.and_true,hp]
 generalize (n==0)=bn
 generalize (raw==0)=br
 by_cases k0:K=0
 ·subst k0
  have:t=0:=by
   have h:g_impl_nameTag 0=some 0:=by kernel_rfl
   rw[h]at ht;cases ht;rfl
  subst this
  cases nm with
  | nil=>cases bn<;>cases hex<;>simp
  | cons a b=>simp
 by_cases k7:K=7
 ·subst k7
  have:t=0:=by
   have h:g_impl_nameTag 7=some 0:=by kernel_rfl
   rw[h]at ht;cases ht;rfl
  subst this
  rw[num_eq (.inl rfl) (.inl rfl)]
  cases nm with
  | nil=>cases br<;>simp<;>cases g_impl_numberCells n hex 8 2<;>rfl
  | cons a b=>simp
 by_cases k8:K=8
 ·subst k8
  have:t=0:=by
   have h:g_impl_nameTag 8=some 0:=by kernel_rfl
   rw[h]at ht;cases ht;rfl
  subst this
  rw[num_eq (.inr rfl) (.inr rfl)]
  cases nm with
  | nil=>cases br<;>simp<;>cases g_impl_numberCells n hex 6 5<;>rfl
  | cons a b=>simp
 by_cases k9:K=9
 ·subst k9
  have:t=0:=by
   have h:g_impl_nameTag 9=some 0:=by kernel_rfl
   rw[h]at ht;cases ht;rfl
  subst this
  rw[word_eq (by decide) (by decide) hs hp hpl]
  cases p with
  | nil=>simp[nameCells]
  | cons f r =>
   cases r with
   | nil =>
    have hg:getI [f] 0=some f:=rfl
    have ha:∀ x y:Int,app [x] [y]=some [x,y]:=λ x y=>app_eq (by simp)
    cases br<;>cases hex<;>simp[nameCells,hg,ha]
   | cons g r =>
    have h2:∀ (a b:Int) (r:List Int),(((a::b::r).length:Int)==1)=false:=λ a b r=>by simp;omega
    simp only[nameCells,List.map_cons,h2,Option.bind_some,cond_false]
    cases br<;>cases hex<;>simp
 ·have e0:(K==0)=false:=by simpa using k0
  have e7:(K==7)=false:=by simpa using k7
  have e8:(K==8)=false:=by simpa using k8
  have e9:(K==9)=false:=by simpa using k9
  rw[word_eq t0 t1 hs hp hpl]
  have hc:=cells_l0 hpl bigK 0 t [] (Nat.zero_le _) (by unfold bigK;omega) rfl (λ h=>by omega)
  simp only[Int.natCast_zero,List.drop_zero,List.nil_append]at hc
  simp only[e0,e7,e8,e9,cond_false,Bool.false_and,hc,Option.bind_some]
  cases bn<;>cases br<;>cases hex<;>by_cases h0:0 < t<;>simp[h0]
theorem name_l0 {cells:List Int} (hu:U32 cells) (hl:cells.length<=64):∀ (k n:Nat) (fields:List Int),n<=cells.length->cells.length-n < k->fields.length+(cells.length-n)<=65 →
  g_spec_l04Name_l0 cells k fields n=some (fields++((cells.drop n).takeWhile runP).map (· / 16)):=by
 intro k
 induction k with
 | zero=>intro n fields h0 h1;omega
 | succ k ih =>
  intro n fields h0 h1 h2
  unfold g_spec_l04Name_l0
  by_cases hn:n < cells.length
  ·have hx:=hu cells[n] (List.getElem_mem hn)
   rw[decide_eq_true (by omega),getI_nat,List.getElem?_eq_getElem hn,List.drop_eq_getElem_cons hn]
   simp only[cond_true,Option.bind_some]
   rw[Int.tmod_eq_emod_of_nonneg hx.1,Int.tdiv_eq_ediv_of_nonneg hx.1]
   have hc:(cond (cells[n] % 16==0) (some (cells[n] != 0)) (some false):Option Bool)=some (runP cells[n]):=by
    unfold runP
    cases cells[n] % 16==0<;>cases cells[n] != 0<;>rfl
   rw[hc,Option.bind_some]
   cases hr:runP cells[n] with
   | true =>
    simp only[cond_true]
    rw[wU32 (by omega) (by omega),app_eq (by simp;omega),Option.bind_some,wI64 (by omega) (by omega),show ((n:Int)+1)=((n+1:Nat):Int) by omega,ih (n+1) _ (by omega) (by omega) (by simp;omega),List.takeWhile_cons,hr]
    simp
   | false =>
    simp only[cond_false]
    rw[List.takeWhile_cons,hr]
    simp
  ·rw[decide_eq_false (by omega),cond_false,List.drop_eq_nil_of_le (by omega)]
   simp
theorem kind_eq {t:Int} (h0:0<=t) (h1:t < 16):g_spec_l04Kind t=(if isName t then g_impl_nameKind t else some (-1))/\(isName t=true->∃ k,g_impl_nameKind t=some k/\1<=k):=by
 have h:(List.range 16).all (λ t=>g_spec_l04Kind (t:Int)==(if isName (t:Int) then g_impl_nameKind (t:Int) else some (-1))&&(!isName (t:Int) || (match g_impl_nameKind (t:Int) with|some k=>decide (1<=k)|none=>false)))=true:=by kernel_rfl
 have h:=List.all_eq_true.1 h t.toNat (List.mem_range.2 (by omega))
 rw[Int.toNat_of_nonneg h0,Bool.and_eq_true]at h
 refine ⟨eq_of_beq h.1,λ hn => ?_⟩
 have h2:=h.2
 rw[hn]at h2
 cases hk:g_impl_nameKind t with
 | none=>rw[hk]at h2;simp at h2
 | some k=>rw[hk]at h2;exact ⟨k,rfl,by simpa using h2⟩
theorem num_long {n:Int} {hex:Bool} {s l:Int} {cs:List Int} (h:g_impl_numberCells n hex s l=some cs):cs.length=1\/cs=[orI .u32 (cond hex 16 0) l,IntKind.wrap .u32 n]:=by
 unfold g_impl_numberCells at h
 have hb:(cond hex (some 16) (some 0):Option Int)=some (cond hex 16 0):=by cases hex<;>rfl
 have hc:(cond (decide (n ≥ -67108864)) (some (decide (n<=67108863))) (some false):Option Bool)=some (decide (n ≥ -67108864)&&decide (n<=67108863)):=by cases decide (n ≥ -67108864)<;>rfl
 rw[hb,hc]at h
 simp only[Option.bind_some]at h
 cases h2:(decide (n ≥ -67108864)&&decide (n<=67108863)) with
 | true=>rw[h2]at h;cases h;exact .inl rfl
 | false=>rw[h2]at h;cases h;exact .inr rfl
theorem nameCells_len {t:Int} {l:List Int}:(nameCells t l).length=l.length:=by cases l<;>simp[nameCells]
theorem item_eq {cells tl:List Int} {n:Nat} {v:Int} (hu:U32 cells) (hl:cells.length<=64) (hd:cells.drop n=v::tl) :
  Tot (g_spec_l04Item cells n) λ r=>pm v (tl.takeWhile runP) tl.head? = some r.1/\∀ cs,g_impl_CellsOf r.1=some cs->r.2=cs.length:=by
 have hn:n < cells.length:=by
  rcases Nat.lt_or_ge n cells.length with h|h
  ·exact h
  ·rw[List.drop_eq_nil_of_le h]at hd;cases hd
 have hc:=List.drop_eq_getElem_cons hn
 rw[hd]at hc
 have hv0:cells[n]=v:=(List.cons.inj hc).1.symm
 have htl:cells.drop (n+1)=tl:=(List.cons.inj hc).2.symm
 have hv:=hu v (by rw[<-hv0];exact List.getElem_mem hn)
 have hge:getI cells n=some v:=by rw[getI_nat,List.getElem?_eq_getElem hn,hv0]
 have hn1:IntKind.wrap .i64 ((n:Int)+1)=((n+1:Nat):Int):=by rw[wI64 (by omega) (by omega)];omega
 have htlen:tl.length=cells.length-(n+1):=by rw[<-htl,List.length_drop]
 have hnx:getI cells ((n+1:Nat):Int)=tl.head? := by rw[getI_nat,<-htl,List.head?_drop]
 have hraw:∀ cs,g_impl_CellsOf (raw v)=some cs->(1:Int)=cs.length:=λ cs h=>by rw[show g_impl_CellsOf (raw v)=some [v] from cells_raw]at h;cases h;rfl
 have e16:IntKind.wrap .u32 (Int.tdiv v 16)=v / 16:=by rw[Int.tdiv_eq_ediv_of_nonneg hv.1,wU32 (by omega) (by omega)]
 have hkd:=kind_eq (t:=v % 16) (by omega) (by omega)
 unfold g_spec_l04Item
 simp only[hge,Option.bind_some]
 rw[Int.tmod_eq_emod_of_nonneg hv.1,hkd.1,e16,hn1]
 cases h1:isName (v % 16) with
 | true =>
  obtain ⟨kd,hkd1,hkd2⟩:=hkd.2 h1
  rw[if_pos rfl,hkd1]
  have hs:=name_l0 hu hl bigK (n+1) [v / 16] (by omega) (by unfold bigK;omega) (by simp;omega)
  rw[htl,List.singleton_append]at hs
  have hul:U32 (v / 16::(tl.takeWhile runP).map (· / 16)):=λ x hx=>by
   rcases List.mem_cons.1 hx with rfl|hx
   ·omega
   ·obtain ⟨y,hy,rfl⟩:=List.mem_map.1 hx
    have:=hu y (List.mem_of_mem_drop (by rw[htl];exact (List.takeWhile_sublist runP).subset hy))
    omega
  obtain ⟨y,hy,hyl,hyp⟩:=unpack_ok (l:=v / 16::(tl.takeWhile runP).map (· / 16))
  have hnm:g_spec_l04Name cells n kd=some (cond (!y.2) ((⟨0,[],0,false,0⟩:GItem),0) ((⟨kd,y.1,0,false,0⟩:GItem),(((v / 16::(tl.takeWhile runP).map (· / 16)).length:Nat):Int))):=by
   unfold g_spec_l04Name
   rw[hge]
   simp only[Option.bind_some]
   rw[e16,hn1,hs]
   simp only[Option.bind_some]
   rw[unpack_eq hul,hy]
   simp only[Option.bind_some]
   cases y.2<;>rfl
  simp only[Option.bind_some]
  rw[decide_eq_true (by omega),cond_true,hnm]
  simp only[Option.bind_some]
  unfold pm
  rw[h1,cond_true,hy,Option.bind_some]
  cases h2:y.2 with
  | false=>exact .some ⟨rfl,hraw⟩
  | true =>
   have e:((((v / 16::(tl.takeWhile runP).map (· / 16)).length:Nat):Int)==0)=false:=by simp;omega
   simp only[Bool.not_true,cond_false,cond_true,e]
   refine .some ⟨by rw[hkd1];rfl,λ cs hcs => ?_⟩
   obtain ⟨t,ht,t0,t1,_⟩:=nameTag_vals kd
   have hp:=hyp h2
   obtain ⟨p,hp',_,hpl⟩:=pack_ok (s:=y.1) (by omega)
   rw[hp]at hp'
   cases hp'
   have ht0:0 < t:=by
    have hh:(List.range 16).all (λ x => !isName (x:Int) || (match (g_impl_nameKind (x:Int)).bind g_impl_nameTag with|some t=>decide (0 < t)|none=>false))=true:=by kernel_rfl
    have hh:=List.all_eq_true.1 hh (v % 16).toNat (List.mem_range.2 (by omega))
    rw[Int.toNat_of_nonneg (by omega),h1,hkd1,Option.bind_some,ht]at hh
    simpa using hh
   rw[cells_name ht ht0 hp hpl]at hcs
   cases hcs
   rw[nameCells_len]
 | false =>
  rw[if_neg (by decide)]
  simp only[Option.bind_some]
  rw[show decide ((-1:Int) ≥ 0)=false from rfl,cond_false]
  have hpm:∀ nx,pm v (tl.takeWhile runP) nx=(cond (v % 16==8) (some ⟨7,[],IntKind.wrap .i32 v / 32,andI .u32 v 16 != 0,0⟩) (cond (v % 16==6) (some ⟨8,[],IntKind.wrap .i32 v / 32,andI .u32 v 16 != 0,0⟩)
   (cond (v % 16==2 || v % 16==5) (match nx with
    | none=>some (raw v)
    | some w=>(g_impl_CellsOf (lng v w)).bind λ y=>cond (decide (y=[v,w])) (some (lng v w)) (some (raw v)))
   (cond (v % 16==12) (match nx with
    | none=>some (raw v)
    | some w=>(g_impl_FieldOk (v / 16)).bind λ b=>cond b ((g_impl_UnpackOne (v / 16)).bind λ nm=>some ⟨9,nm,IntKind.wrap .i32 w,false,0⟩) (some (raw v))) (some (raw v)))))):=λ nx=>by
   unfold pm;rw[h1];first|done|(cases nx<;>rfl)
  rw[hpm]
  by_cases h8:v % 16=8
  ·have hN:g_spec_l04Number cells n=some (⟨7,[],IntKind.wrap .i32 v / 32,andI .u32 v 16 != 0,0⟩,1):=by
    unfold g_spec_l04Number
    rw[hge]
    simp only[Option.bind_some]
    rw[Int.tmod_eq_emod_of_nonneg hv.1,h8]
    rfl
   rw[h8,hN]
   refine .some ⟨rfl,λ cs hcs => ?_⟩
   rw[cells_7,short_back hv h8 2]at hcs
   cases hcs;rfl
  by_cases h6:v % 16=6
  ·have hN:g_spec_l04Number cells n=some (⟨8,[],IntKind.wrap .i32 v / 32,andI .u32 v 16 != 0,0⟩,1):=by
    unfold g_spec_l04Number
    rw[hge]
    simp only[Option.bind_some]
    rw[Int.tmod_eq_emod_of_nonneg hv.1,h6]
    rfl
   rw[h6,hN]
   refine .some ⟨rfl,λ cs hcs => ?_⟩
   rw[cells_8,short_back hv h6 5]at hcs
   cases hcs;rfl
  have b8:(v % 16==8)=false:=by simpa using h8
  have b6:(v % 16==6)=false:=by simpa using h6
  rw[b8,b6]
  simp only[cond_false]
  cases h25:(v % 16==2 || v % 16==5) with
  | true =>
   have hch:(cond (v % 16==2) (some true) (some (v % 16==5)):Option Bool)=some true:=by
    revert h25
    cases v % 16==2<;>cases v % 16==5<;>simp
   rw[hch]
   simp only[Option.bind_some,cond_true]
   have hit:(cond (v % 16==5) (some (⟨8,[],0,andI .u32 v 16 != 0,0⟩:GItem)) (some ⟨7,[],0,andI .u32 v 16 != 0,0⟩))=some (cond (v % 16==5) (⟨8,[],0,andI .u32 v 16 != 0,0⟩:GItem) ⟨7,[],0,andI .u32 v 16 != 0,0⟩):=by
    cases v % 16==5<;>rfl
   have hlg:∀ w,(⟨(cond (v % 16==5) (⟨8,[],0,andI .u32 v 16 != 0,0⟩:GItem) ⟨7,[],0,andI .u32 v 16 != 0,0⟩).Kind,(cond (v % 16==5) (⟨8,[],0,andI .u32 v 16 != 0,0⟩:GItem) ⟨7,[],0,andI .u32 v 16 != 0,0⟩).Name,IntKind.wrap .i32 w,
     (cond (v % 16==5) (⟨8,[],0,andI .u32 v 16 != 0,0⟩:GItem) ⟨7,[],0,andI .u32 v 16 != 0,0⟩).Hex,(cond (v % 16==5) (⟨8,[],0,andI .u32 v 16 != 0,0⟩:GItem) ⟨7,[],0,andI .u32 v 16 != 0,0⟩).Raw⟩:GItem)=lng v w:=λ w=>by
    unfold lng;cases v % 16==5<;>rfl
   have hN:g_spec_l04Number cells n=(match tl.head? with
     | none=>some ((⟨0,[],0,false,0⟩:GItem),0)
     | some w=>cond (v / 32 != 0) (some ((⟨0,[],0,false,0⟩:GItem),0)) ((g_impl_CellsOf (lng v w)).bind λ y=>some (lng v w,IntKind.wrap .i64 (IntKind.wrap .i64 (Int.tdiv (y.length:Int) 2)*2)))):=by
    unfold g_spec_l04Number
    rw[hge]
    simp only[Option.bind_some]
    rw[Int.tmod_eq_emod_of_nonneg hv.1,b6,b8,hn1]
    simp only[cond_false,hit,Option.bind_some]
    rw[Int.tdiv_eq_ediv_of_nonneg hv.1,wU32 (x:=v / 32) (by omega) (by omega)]
    cases tl with
    | nil =>
     rw[decide_eq_true (by simp at htlen;omega)]
     rfl
    | cons w r =>
     rw[decide_eq_false (by simp at htlen;omega),hnx]
     simp only[cond_false,Option.bind_some,List.head?_cons,hlg]
     cases v / 32 != 0 with
     | true=>rfl
     | false =>
      simp only[cond_false]
      rw[cells_eq (by unfold lng;cases v % 16==5<;>simp)]
   rw[hN]
   cases tl with
   | nil=>exact .some ⟨rfl,hraw⟩
   | cons w r =>
    simp only[List.head?_cons]
    obtain ⟨cs,hcs,_,hcl⟩:=lng_cells (v:=v) (w:=w)
    have hw:=hu w (List.mem_of_mem_drop (by rw[htl];exact List.mem_cons_self ..))
    rw[hcs]
    simp only[Option.bind_some]
    have hlong:cs=[v,w] ↔ (v / 32=0/\cs.length=2):=by
     have hww:IntKind.wrap .u32 (IntKind.wrap .i32 w)=w:=by
      simp[IntKind.wrap,IntKind.bits,IntKind.signed];split<;>omega
     have hcs2:cs.length=1\/cs=[orI .u32 (cond (andI .u32 v 16 != 0) 16 0) (v % 16),w]:=by
      have h25':v % 16=2\/v % 16=5:=by simpa using h25
      unfold lng at hcs
      rcases h25' with h2|h5
      ·rw[h2,show ((2:Int)==5)=false from rfl,cond_false,cells_7]at hcs
       have:=num_long hcs
       rw[hww]at this
       rw[h2];exact this
      ·rw[h5,show ((5:Int)==5)=true from rfl,cond_true,cells_8]at hcs
       have:=num_long hcs
       rw[hww]at this
       rw[h5];exact this
     have hor:orI .u32 (cond (andI .u32 v 16 != 0) 16 0) (v % 16)=v % 32:=by
      rw[and16 hv.1 hv.2]
      by_cases hb:v / 16 % 2=1
      ·rw[decide_eq_true hb,cond_true,orU (by decide) (by decide) (by omega) (by omega),show (16:Int).toNat=2 ^ 4*1 from rfl,or_low 4 (by omega)];omega
      ·rw[decide_eq_false hb,cond_false,orU (by decide) (by decide) (by omega) (by omega),show (0:Int).toNat=2 ^ 4*0 from rfl,or_low 4 (by omega)];omega
     rw[hor]at hcs2
     constructor
     ·intro h
      rcases hcs2 with h1|h2
      ·rw[h]at h1;simp at h1
      ·rw[h]at h2 ⊢
       have:=(List.cons.inj h2).1
       exact ⟨by omega,rfl⟩
     ·intro h
      rcases hcs2 with h1|h2
      ·omega
      ·rw[h2,show v % 32=v by omega]
    by_cases h32:v / 32=0
    ·rw[h32,show ((0:Int) != 0)=false from rfl,cond_false]
     by_cases h2:cs.length=2
     ·rw[decide_eq_true (hlong.2 ⟨h32,h2⟩),h2]
      exact .some ⟨rfl,λ cs' h=>by
       have:(IntKind.wrap .i64 (IntKind.wrap .i64 (Int.tdiv ((2:Nat):Int) 2)*2))=2:=by decide
       rw[show g_impl_CellsOf (lng v w)=some cs from hcs]at h
       cases h
       rw[h2];rfl⟩
     ·have h1:cs.length=0\/cs.length=1:=by omega
      rw[decide_eq_false (λ h=>h2 (hlong.1 h).2)]
      rcases h1 with h1|h1<;>rw[h1]<;>exact .some ⟨rfl,hraw⟩
    ·have:(v / 32 != 0)=true:=by simpa using h32
     rw[this,decide_eq_false (λ h=>h32 (hlong.1 h).1)]
     exact .some ⟨rfl,hraw⟩
  | false =>
   have hch:(cond (v % 16==2) (some true) (some (v % 16==5)):Option Bool)=some false:=by
    revert h25
    cases v % 16==2<;>cases v % 16==5<;>simp
   rw[hch]
   simp only[Option.bind_some,cond_false]
   cases h12:v % 16==12 with
   | false=>exact .some ⟨rfl,hraw⟩
   | true =>
    simp only[cond_true]
    cases tl with
    | nil =>
     rw[decide_eq_false (by simp at htlen;omega)]
     exact .some ⟨rfl,hraw⟩
    | cons w r =>
     obtain ⟨b,hb,hbf⟩:=field_ok (f:=v / 16)
     rw[decide_eq_true (by simp at htlen;omega),hnx,fieldOk_eq (by omega) (by omega),hb]
     simp only[cond_true,Option.bind_some,List.head?_cons]
     cases b with
     | false=>exact .some ⟨rfl,hraw⟩
     | true =>
      obtain ⟨nm,h2,h3,h4⟩:=hbf rfl
      rw[cond_true,unpackOne_eq (by omega) (by omega),h2]
      simp only[cond_true,Option.bind_some]
      refine .some ⟨rfl,λ cs hcs => ?_⟩
      rw[cells_9 h4]at hcs
      cases hcs;rfl
theorem specParse_l0 {cells:List Int} (hu:U32 cells) (hl:cells.length<=64):∀ (k n:Nat) (out its:List GItem),n<=cells.length->Parses (cells.drop n) its->cells.length-n < k->out.length+(cells.length-n)<=64->g_spec_ParseCells_l0 cells k out n=some (out++its):=by
 intro k
 induction k with
 | zero=>intro n out its _ _ h;omega
 | succ k ih =>
  intro n out its hn hp h hlo
  unfold g_spec_ParseCells_l0
  by_cases hlt:n < cells.length
  ·have hd:=List.drop_eq_getElem_cons hlt
   have hud:U32 (cells[n]::cells.drop (n+1)):=λ x hx=>hu x (List.mem_of_mem_drop (by rw[hd];exact hx))
   have hld:(cells[n]::cells.drop (n+1)).length<=64:=by rw[<-hd,List.length_drop];omega
   obtain ⟨r,hr,hpm,hrl⟩:=item_eq hu hl hd
   rw[<-parse_pm hud hld]at hpm
   have hp':=hp
   rw[hd]at hp'
   cases hp' with
   | cons h1 h2 h3 h4 h5 =>
    rename_i rest cs it its'
    rw[h1]at hpm
    have hri:it=r.1:=Option.some.inj hpm
    have hrl2:=hrl cs (by rw[<-hri];exact h2)
    have hlen:cells.length-n=cs.length+rest.length:=by rw[<-List.length_drop,hd,h4,List.length_append]
    rw[decide_eq_true (by omega),cond_true,hr,Option.bind_some,app_eq (by simp;omega),Option.bind_some,hrl2,wI64 (by omega) (by omega),show (n:Int)+(cs.length:Int)=((n+cs.length:Nat):Int) by omega]
    have hd2:cells.drop (n+cs.length)=rest:=by rw[<-List.drop_drop,hd,h4,List.drop_left]
    rw[ih (n+cs.length) _ its' (by omega) (by rw[hd2];exact h5) (by omega) (by simp;omega),List.append_assoc,<-hri]
    rfl
  ·rw[decide_eq_false (by omega),cond_false]
   have:cells.drop n=[]:=List.drop_eq_nil_of_le (by omega)
   rw[this]at hp
   cases hp with
   | nil=>rw[List.append_nil]
   | cons h1 h2 h3 h4 h5 =>
    have:=congrArg List.length h4
    simp at this;omega
theorem specStrip_eq:∀ (k:Nat) (out:List GItem),out.length<=64->g_spec_ParseCells_l1 k out=g_impl_ParseCells_l1 k out ((out.length:Int)-1):=by
 intro k
 induction k with
 | zero=>intro out _;rfl
 | succ k ih =>
  intro out hl
  unfold g_spec_ParseCells_l1 g_impl_ParseCells_l1
  rcases List.eq_nil_or_concat out with rfl|⟨xs,x,rfl⟩
  ·rfl
  ·simp only[List.concat_eq_append]at *
   have hlen:(xs++[x]).length=xs.length+1:=by simp
   rw[decide_eq_true (by omega),decide_eq_true (by omega),wI64 (x:=(((xs++[x]).length:Nat):Int)-1) (by omega) (by omega),show (((xs++[x]).length:Nat):Int)-1=((xs.length:Nat):Int) by omega,getI_nat,List.getElem?_concat_length]
   simp only[cond_true,Option.bind_some,isRz]
   by_cases hx:x=rz
   ·rw[decide_eq_true hx,cond_true,cond_true,subL_take (by omega) (by omega),Option.bind_some,Option.bind_some,Int.toNat_natCast,List.take_left,wI64 (by omega) (by omega)]
    exact ih xs (by omega)
   ·rw[decide_eq_false hx];rfl
theorem parseCells_eq {cells:List Int} (hu:U32 cells):g_spec_ParseCells cells=g_impl_ParseCells cells:=by
 unfold g_spec_ParseCells g_impl_ParseCells
 by_cases hl:(cells.length:Int) > 64
 ·rw[decide_eq_true hl,cond_true,cond_true]
 ·rw[decide_eq_false hl,cond_false,cond_false]
  have hl:cells.length<=64:=by omega
  obtain ⟨all,hp⟩:=parses_ex _ cells (Nat.le_refl _) hu hl
  have hlen:=hp.len
  have h1:=specParse_l0 hu hl bigK 0 [] all (Nat.zero_le _) hp (by unfold bigK;omega) (by simpa using hl)
  rw[show ((0:Nat):Int)=0 from rfl]at h1
  rw[h1,parse_l0 bigK cells [] all hp (by unfold bigK;omega) (by simpa using hl)]
  simp only[Option.bind_some,List.nil_append]
  rw[wI64 (by omega) (by omega),specStrip_eq _ _ (by omega)]
  cases g_impl_ParseCells_l1 bigK all ((all.length:Int)-1)<;>rfl
end Go.Proofs.Ytjdhhpolllkbbaa
namespace Go.Proofs.Ytjdhhpolllkbbaa
open Go Go.Fm
def Iok (it:GItem):Prop:=it.Name.length<=1048576/\0<=it.Raw/\it.Raw < 4294967296
def IL (l:List GItem):Prop:=∀ it ∈ l,Iok it
theorem IL.nil:IL []:=λ it h=>by simp at h
theorem IL.cons {it:GItem} {l:List GItem} (h:Iok it) (hl:IL l):IL (it::l):=λ x hx=>by
 rcases List.mem_cons.1 hx with rfl|hx
 ·exact h
 ·exact hl x hx
theorem IL.app {a b:List GItem} (ha:IL a) (hb:IL b):IL (a++b):=λ x hx=>by
 rcases List.mem_append.1 hx with h|h
 ·exact ha x h
 ·exact hb x h
theorem iok {k:Int} {nm:Bs} {n:Int} {hex:Bool} (h:nm.length<=1048576):Iok ⟨k,nm,n,hex,0⟩:=⟨h,by show (0:Int)<=0;decide,by show (0:Int) < 4294967296;decide⟩
theorem specUnparse_ok {l:List GItem} (hl:IL l) (hn:l.length<=1048576):Tot (g_spec_Unparse l) λ r=>U32 r.1/\r.1.length<=64:=by
 unfold g_spec_Unparse
 have key:∀ (k:Nat) (out:List Int) (i:Int),U32 out->out.length<=64->0<=i->i<=l.length->l.length-i < k->Tot (g_spec_Unparse_l0 l k out i) λ o=>match o with | .inl r=>U32 r/\r.length<=64 | .inr q=>q=([],false):=by
  intro k
  induction k with
  | zero=>intro out i h0 h1 h2 h3 h4;omega
  | succ k ih =>
   intro out i h0 h1 h2 h3 h4
   unfold g_spec_Unparse_l0
   refine .condD (λ hi => ?_) λ _=>.some ⟨h0,h1⟩
   obtain ⟨v,hv,hm,_⟩:=getI_ex h2 hi
   have hio:=hl v hm
   refine .bindE hv (.bind (specCells_ok hio.1 hio.2) λ cs hcs=>.bind (Q:=λ b=>b=false->out.length+cs.length<=64) (.cond (λ _=>.some λ h=>nomatch h) λ _ => ?_) λ b hb=>.cond (λ _=>.some rfl) λ hc => ?_)
   ·rw[wI64 (by omega) (by omega)]
    exact .some λ h=>by have:=of_decide_eq_false h;omega
   ·have:=hb hc
    refine .bindE (app_eq (by omega)) ?_
    rw[wI64 (x:=i+1) (by omega) (by omega)]
    exact ih _ _ (h0.app hcs.1) (by rw[List.length_append];omega) (by omega) (by omega) (by omega)
 refine .bind (Q:=λ o=>match o with | .inl r=>U32 r/\r.length<=64 | .inr q=>q=([],false)) (.bind (key bigK [] 0 .nil (by simp) (by decide) (by omega) (by unfold bigK;omega)) λ o ho => ?_) λ o ho => ?_
 ·cases o with
  | inl r=>exact .some ho
  | inr r=>exact .some ho
 ·cases o with
  | inl r=>exact .some ho
  | inr r=>rw[show r=([],false) from ho];exact .some ⟨.nil,by simp⟩
def upR:List Int ⊕ Bool->List Int ⊕ (List Int×Bool):=λ o=>match o with | .inl x=>.inl x | .inr b=>.inr ([],b)
theorem unparse_l0_eq {l:List GItem} (hl:IL l) (hn:l.length<=1048576):∀ (k n:Nat) (out:List Int),n<=l.length->out.length<=64->g_spec_Unparse_l0 l k out n=(g_impl_Unparse_l0 l (l.length:Int) k out n).map upR:=by
 intro k
 induction k with
 | zero=>intro n out _ _;rfl
 | succ k ih =>
  intro n out h0 h1
  unfold g_spec_Unparse_l0 g_impl_Unparse_l0
  by_cases h:n < l.length
  ·have hi:=hl l[n] (List.getElem_mem h)
   obtain ⟨cs,hcs,_,hcl⟩:=specCells_ok hi.1 hi.2
   rw[decide_eq_true (by omega),getI_nat,List.getElem?_eq_getElem h]
   simp only[cond_true,Option.bind_some]
   rw[<-cells_eq hi.1,hcs]
   simp only[Option.bind_some]
   rw[app_eq (by omega)]
   simp only[Option.bind_some]
   rw[wI64 (x:=(out.length:Int)+(cs.length:Int)) (by omega) (by omega),show (out.length:Int)+(cs.length:Int)=(((out++cs).length:Nat):Int) by rw[List.length_append];omega]
   cases hb:((cs.length:Int)==0) with
   | true=>rfl
   | false =>
    simp only[cond_false,Option.bind_some]
    by_cases hc:((((out++cs).length:Nat):Int)) > 64
    ·rw[decide_eq_true hc];rfl
    ·rw[decide_eq_false hc,cond_false,cond_false,wI64 (by omega) (by omega),show ((n:Int)+1)=((n+1:Nat):Int) by omega]
     exact ih _ _ (by omega) (by omega)
  ·rw[decide_eq_false (by omega),cond_false,cond_false];rfl
theorem unparse_eq {l:List GItem} (hl:IL l) (hn:l.length<=1048576):g_spec_Unparse l=g_impl_Unparse l:=by
 unfold g_spec_Unparse g_impl_Unparse
 have:=unparse_l0_eq hl hn bigK 0 [] (Nat.zero_le _) (by simp)
 rw[Int.natCast_zero]at this
 rw[this]
 cases g_impl_Unparse_l0 l (l.length:Int) bigK [] 0 with
 | none=>rfl
 | some o=>cases o<;>rfl
theorem itemBeq (v w:GItem):((v.Kind:Int)==w.Kind&&((v.Name:Bs)==w.Name&&((v.N:Int)==w.N&&((v.Hex:Bool)==w.Hex&&((v.Raw:Int)==w.Raw&&true)))))=decide (v=w):=by
 obtain ⟨a,b,c,d,e⟩:=v
 obtain ⟨a',b',c',d',e'⟩:=w
 rw[Bool.eq_iff_iff]
 simp
theorem neI (x y:GItem):(x != y) = !decide (x=y):=by
 by_cases h:x=y
 ·subst h;simp
 ·rw[decide_eq_false h];simpa using h
theorem same_items {a b:List GItem} (hm:a.length<=1048576):g_spec_l04Same a b=some (decide (a=b)) :=
 eqList (g_spec_l04Same_l0 a b) _ rfl (λ k i=>by rw[g_spec_l04Same_l0];simp only[itemBeq,neI]) (by omega)
theorem equal_items {a b:List GItem} (hm:a.length<=1048576):g_slices_Equal_Item a b=some (decide (a=b)) :=
 eqList (g_slices_Equal_Item_l0 a b (a.length:Int)) _ rfl (λ k i=>by rw[g_slices_Equal_Item_l0];simp only[itemBeq,neI]) (by omega)
theorem listOk_both {l:List GItem} (hl:IL l) (hn:l.length<=1048576):∃ cs ok lo,g_spec_Unparse l=some (cs,ok)/\g_impl_Unparse l=some (cs,ok)/\U32 cs/\cs.length<=64/\g_spec_ListOk l=some lo/\g_impl_ListOk l=some lo/\(lo=true->l.length<=64):=by
 obtain ⟨r,hr,hu,hrl⟩:=specUnparse_ok hl hn
 obtain ⟨cs,ok⟩:=r
 have hr2:=hr
 rw[unparse_eq hl hn]at hr2
 obtain ⟨its,cells',z,h1,h2,h3,_⟩:=parseCells_ok hu hrl
 have hil:=h3.len
 have hcl:cells'.length<=64:=by rw[h2,List.length_append]at hrl;omega
 have hs:g_spec_ListOk l=some (ok&&decide (its=l)):=by
  unfold g_spec_ListOk
  rw[hr]
  cases ok with
  | false=>rfl
  | true =>
   simp only[Option.bind_some,cond_true,Bool.true_and]
   rw[parseCells_eq hu,h1]
   simp only[Option.bind_some]
   rw[same_items (by omega)]
   rfl
 have hi:g_impl_ListOk l=some (ok&&decide (its=l)):=by
  unfold g_impl_ListOk
  rw[hr2]
  cases ok with
  | false=>rfl
  | true =>
   simp only[Option.bind_some,cond_true,Bool.true_and]
   rw[h1]
   simp only[Option.bind_some]
   rw[equal_items (by omega)]
   rfl
 refine ⟨cs,ok,_,hr,hr2,hu,hrl,hs,hi,λ h => ?_⟩
 rw[Bool.and_eq_true,decide_eq_true_eq]at h
 rw[<-h.2]
 omega
end Go.Proofs.Ytjdhhpolllkbbaa
namespace Go.Proofs.Ytjdhhpolllkbbaa
open Go Go.Fm
set_option maxRecDepth 100000
theorem pm_raw {v:Int} {run:List Int} {nx:Option Int} {it:GItem} (h:pm v run nx=some it):it.Raw=0\/it.Raw=v:=by
 unfold pm at h
 cases h1:isName (v % 16) with
 | true =>
  rw[h1,cond_true,Option.bind_eq_some_iff]at h
  obtain ⟨y,_,h⟩:=h
  cases hy:y.2 with
  | true =>
   rw[hy,cond_true,Option.bind_eq_some_iff]at h
   obtain ⟨k,_,h⟩:=h
   cases h;exact .inl rfl
  | false=>rw[hy,cond_false]at h;cases h;exact .inr rfl
 | false =>
  rw[h1,cond_false]at h
  cases h8:v % 16==8 with
  | true=>rw[h8,cond_true]at h;cases h;exact .inl rfl
  | false =>
   rw[h8,cond_false]at h
   cases h6:v % 16==6 with
   | true=>rw[h6,cond_true]at h;cases h;exact .inl rfl
   | false =>
    rw[h6,cond_false]at h
    cases h25:(v % 16==2 || v % 16==5) with
    | true =>
     rw[h25,cond_true]at h
     cases nx with
     | none=>cases h;exact .inr rfl
     | some w =>
      simp only[Option.bind_eq_some_iff]at h
      obtain ⟨y,_,h⟩:=h
      cases hd:decide (y=[v,w]) with
      | true=>rw[hd,cond_true]at h;cases h;left;unfold lng;cases v % 16==5<;>rfl
      | false=>rw[hd,cond_false]at h;cases h;exact .inr rfl
    | false =>
     rw[h25,cond_false]at h
     cases h12:v % 16==12 with
     | true =>
      rw[h12,cond_true]at h
      cases nx with
      | none=>cases h;exact .inr rfl
      | some w =>
       simp only[Option.bind_eq_some_iff]at h
       obtain ⟨y,_,h⟩:=h
       cases y with
       | true =>
        rw[cond_true,Option.bind_eq_some_iff]at h
        obtain ⟨nm,_,h⟩:=h
        cases h;exact .inl rfl
       | false=>rw[cond_false]at h;cases h;exact .inr rfl
     | false=>rw[h12,cond_false]at h;cases h;exact .inr rfl
theorem parses_iok:∀ (its:List GItem) (cells:List Int),U32 cells->cells.length<=64->Parses cells its->IL its
 | [],_,_,_,_=>.nil
 | i::its,cells,hu,hl,hp=>by
  cases hp with
  | cons h1 h2 h3 h4 h5 =>
   rename_i rest cs
   have hlen:cells.length=cs.length+rest.length:=by rw[h4,List.length_append]
   have hr:=parses_iok its rest (λ x hx=>hu x (by rw[h4];exact List.mem_append_right _ hx)) (by omega) h5
   cases cells with
   | nil=>simp at hlen;omega
   | cons v tl =>
    obtain ⟨it',cs',g1,g2,g3,_⟩:=parse_ok hu hl
    rw[h1]at g1
    cases g1
    rw[parse_pm hu hl]at h1
    have hv:=hu v (List.mem_cons_self ..)
    refine .cons ⟨by omega,?_⟩ hr
    rcases pm_raw h1 with h|h<;>rw[h]
    ·decide
    ·exact hv
theorem idxLoop {α:Type} {L:List α} (p:α->Bool) (F:Nat->Int->Option (Unit ⊕ Int)) (step:∀ (k n:Nat) (x:α),L[n]? = some x->n < L.length->F (k+1) n=cond (p x) (some (.inr (n:Int))) (F k ((n+1:Nat):Int)))
  (fin:∀ k n:Nat,L.length<=n->F (k+1) n=some (.inl ())) (hm:L.length<=16777216):∃ o,F bigK 0=some o/\(match o with | .inl _=>L.any p=false | .inr v=>0<=v/\L.any p=true):=by
 have key:∀ (k n:Nat),n<=L.length->L.length-n < k->∃ o,F k n=some o/\(match o with | .inl _=>(L.drop n).any p=false | .inr v=>0<=v/\(L.drop n).any p=true):=by
  intro k
  induction k with
  | zero=>intro n h0 h1;omega
  | succ k ih =>
   intro n h0 h1
   by_cases hn:n < L.length
   ·rw[step k n L[n] (List.getElem?_eq_getElem hn) hn,List.drop_eq_getElem_cons hn,List.any_cons]
    cases hp:p L[n] with
    | true=>exact ⟨_,rfl,by show 0<=(n:Int)/\_;exact ⟨by omega,rfl⟩⟩
    | false =>
     rw[cond_false,Bool.false_or]
     exact ih (n+1) (by omega) (by omega)
   ·rw[fin k n (by omega),List.drop_eq_nil_of_le (by omega)]
    exact ⟨_,rfl,rfl⟩
 have:=key bigK 0 (Nat.zero_le _) (by unfold bigK;omega)
 rw[List.drop_zero]at this
 exact this
def okI (it:GItem):Bool:=(g_impl_ItemOk it).getD false
theorem itemOk {it:GItem} (h:Iok it):g_impl_ItemOk it=some (okI it)/\g_spec_ItemOk it=some (okI it):=by
 obtain ⟨cs,hcs,_⟩:=specCells_ok h.1 h.2
 have hi:g_impl_ItemOk it=some (decide ((cs.length:Int) > 0)):=by unfold g_impl_ItemOk;rw[<-cells_eq h.1,hcs];rfl
 have ho:okI it=decide ((cs.length:Int) > 0):=by unfold okI;rw[hi];rfl
 refine ⟨by rw[hi,ho],?_⟩
 unfold g_spec_ItemOk
 rw[hcs,ho];rfl
def loB (l:List GItem):Bool:=(g_impl_ListOk l).getD false
theorem lo_both {l:List GItem} (hl:IL l) (hn:l.length<=4000):g_impl_ListOk l=some (loB l)/\g_spec_ListOk l=some (loB l)/\∃ cs ok,g_impl_Unparse l=some (cs,ok)/\cs.length<=64/\(loB l=true->ok=true/\l.length<=64):=by
 obtain ⟨cs,ok,lo,e1,e2,e3,e4,e5,e6,e7⟩:=listOk_both hl (by omega)
 have hb:loB l=lo:=by unfold loB;rw[e6];rfl
 refine ⟨by rw[e6,hb],by rw[e5,hb],cs,ok,e2,e4,λ h=>⟨?_,e7 (hb▸h)⟩⟩
 rw[hb]at h
 subst h
 unfold g_impl_ListOk at e6
 rw[e2,Option.bind_some]at e6
 cases ok with
 | true=>rfl
 | false=>cases e6
theorem unparse_ok {l:List GItem}:∀ (k n:Nat) (out r:List Int),g_impl_Unparse_l0 l (l.length:Int) k out (n:Int)=some (.inl r)->l.length<=4000->n<=l.length->∀ it ∈ l.drop n,okI it=true:=by
 intro k
 induction k with
 | zero=>intro n out r h;cases h
 | succ k ih =>
  intro n out r h hn h0 it hm
  rw[g_impl_Unparse_l0]at h
  by_cases hi:n < l.length
  ·rw[decide_eq_true (by omega),cond_true,getI_nat,List.getElem?_eq_getElem hi,Option.bind_some,Option.bind_eq_some_iff]at h
   obtain ⟨cs,e1,h⟩:=h
   rw[Option.bind_eq_some_iff]at h
   obtain ⟨o2,e2,h⟩:=h
   cases hz:((cs.length:Int)==0) with
   | true=>rw[hz,cond_true,Option.bind_some,cond_true]at h;cases h
   | false =>
    rw[hz,cond_false,Option.bind_some]at h
    cases hd:decide ((o2.length:Int) > 64) with
    | true=>rw[hd,cond_true]at h;cases h
    | false =>
     rw[hd,cond_false,wI64 (by omega) (by omega),show ((n:Int)+1)=((n+1:Nat):Int) by omega]at h
     rw[List.drop_eq_getElem_cons hi]at hm
     rcases List.mem_cons.1 hm with rfl|hm
     ·unfold okI g_impl_ItemOk
      rw[e1]
      show decide ((cs.length:Int) > 0)=true
      rw[beq_eq_false_iff_ne]at hz
      exact decide_eq_true (by omega)
     ·exact ih (n+1) o2 r h hn (by omega) it hm
  ·rw[List.drop_eq_nil_of_le (by omega)]at hm;cases hm
theorem lo_items {l:List GItem} (hl:IL l) (hn:l.length<=4000) (h:loB l=true):∀ it ∈ l,okI it=true:=by
 obtain ⟨_,_,cs,ok,e1,_,e2⟩:=lo_both hl hn
 obtain ⟨rfl,_⟩:=e2 h
 unfold g_impl_Unparse at e1
 rw[Option.bind_eq_some_iff]at e1
 obtain ⟨o,e1,e3⟩:=e1
 rw[Option.bind_eq_some_iff]at e1
 obtain ⟨q,e1,e4⟩:=e1
 cases q with
 | inr v =>
  cases e4
  simp only[Option.some.injEq,Prod.mk.injEq]at e3
  exfalso
  -- a loop that stops says no
  have:∀ (k:Nat) (out:List Int) (n:Int) (v:Bool),g_impl_Unparse_l0 l (l.length:Int) k out n=some (.inr v)->v=false:=by
   intro k
   induction k with
   | zero=>intro out n v h;cases h
   | succ k ih =>
    intro out n v h
    rw[g_impl_Unparse_l0]at h
    cases hd:decide (n < (l.length:Int)) with
    | false=>rw[hd,cond_false]at h;cases h
    | true =>
     rw[hd,cond_true,Option.bind_eq_some_iff]at h
     obtain ⟨a,_,h⟩:=h
     rw[Option.bind_eq_some_iff]at h
     obtain ⟨b,_,h⟩:=h
     rw[Option.bind_eq_some_iff]at h
     obtain ⟨c,_,h⟩:=h
     rw[Option.bind_eq_some_iff]at h
     obtain ⟨d,_,h⟩:=h
     cases d with
     | true=>cases h;rfl
     | false=>exact ih _ _ _ h
  have:=this _ _ _ _ e1
  rw[this]at e3
  cases e3.2
 | inl r =>
  rw[<-Int.natCast_zero]at e1
  exact λ it hm=>unparse_ok bigK 0 [] r e1 hn (Nat.zero_le _) it (by rw[List.drop_zero];exact hm)
theorem concat2 {a b:List GItem} (ha:a.length<=4000) (hb:b.length<=4000):g_slices_Concat_Item [a,b]=some (a++b):=by
 have e0:g_slices_Concat_Item_l0 [a,b] 2 bigK 0 0=some ((a.length:Int)+b.length):=by
  rw[show bigK=(bigK-3)+1+1+1 by unfold bigK;omega,g_slices_Concat_Item_l0,show decide ((0:Int) < 2)=true from rfl,cond_true,show getI [a,b] 0=some a from rfl,Option.bind_some,wI64 (x:=0+(a.length:Int)) (by omega) (by omega),decide_eq_false (by omega),cond_false,Option.bind_some,show IntKind.wrap .i64 ((0:Int)+1)=1 from rfl]
  rw[g_slices_Concat_Item_l0,show decide ((1:Int) < 2)=true from rfl,cond_true,show getI [a,b] 1=some b from rfl,Option.bind_some,wI64 (x:=0+(a.length:Int)+(b.length:Int)) (by omega) (by omega),decide_eq_false (by omega),cond_false,Option.bind_some,show IntKind.wrap .i64 ((1:Int)+1)=2 from rfl]
  rw[g_slices_Concat_Item_l0,show decide ((2:Int) < 2)=false from rfl,cond_false]
  congr 1;omega
 have e1:g_slices_Concat_Item_l1 [a,b] 2 bigK [] 0=some (a++b):=by
  rw[show bigK=(bigK-3)+1+1+1 by unfold bigK;omega,g_slices_Concat_Item_l1,show decide ((0:Int) < 2)=true from rfl,cond_true,show getI [a,b] 0=some a from rfl,Option.bind_some,app_eq (by simp;omega),Option.bind_some,show IntKind.wrap .i64 ((0:Int)+1)=1 from rfl]
  rw[g_slices_Concat_Item_l1,show decide ((1:Int) < 2)=true from rfl,cond_true,show getI [a,b] 1=some b from rfl,Option.bind_some,app_eq (by simp;omega),Option.bind_some,show IntKind.wrap .i64 ((1:Int)+1)=2 from rfl]
  rw[g_slices_Concat_Item_l1,show decide ((2:Int) < 2)=false from rfl,cond_false];rfl
 have e2:g_slices_Grow_Item_emp ((a.length:Int)+b.length)=some []:=by
  unfold g_slices_Grow_Item_emp
  rw[decide_eq_false (by omega),cond_false,Option.bind_some,show IntKind.wrap .i64 ((0:Int)-0)=0 from rfl,wI64 (by omega) (by omega)]
  by_cases h:(a.length:Int)+b.length-0 > 0
  ·rw[decide_eq_true h,cond_true,mk_eq (by omega) (by omega),Option.bind_some,subL_take (by omega) (by simp;omega)];rfl
  ·rw[decide_eq_false h,cond_false];rfl
 unfold g_slices_Concat_Item
 rw[show (([a,b].length:Nat):Int)=2 from rfl,e0]
 simp only[Option.bind_some]
 rw[e2]
 simp only[Option.bind_some]
 rw[e1];rfl
structure EI (n:Nat) (e:GEd):Prop where
 l:IL e.Left
 r:IL e.Right
 c:IL e.Cut
 nl:e.Left.length<=n
 nr:e.Right.length<=n
 nc:e.Cut.length<=n
def edB (e:GEd):Bool:=decide (e.Cut.length<=20)&&(e.Cut.all okI&&loB (e.Left++e.Right))
theorem edOk_impl {n:Nat} {e:GEd} (h:EI n e) (hn:n<=2000):g_impl_EdOk e=some (edB e):=by
 have:=h.nl;have:=h.nr;have:=h.nc
 unfold g_impl_EdOk edB
 by_cases hc:e.Cut.length<=20
 case neg=>rw[decide_eq_false (by omega),decide_eq_false hc];rfl
 rw[decide_eq_true (by omega),cond_true,decide_eq_true hc,Bool.true_and]
 unfold g_slices_ContainsFunc_Item_impl_EdOkc1 g_slices_IndexFunc_Item_impl_EdOkc1 g_impl_edItems
 obtain ⟨o,h1,h2⟩:=idxLoop (L:=e.Cut) (λ it => !okI it) (g_slices_IndexFunc_Item_impl_EdOkc1_l0 e.Cut (e.Cut.length:Int)) (λ k i x hx hi=>by
  rw[g_slices_IndexFunc_Item_impl_EdOkc1_l0,decide_eq_true (by omega),cond_true,getI_nat,hx,Option.bind_some]
  unfold g_impl_EdOkc1
  rw[(itemOk (h.c x (List.mem_of_getElem? hx))).1,nxt (by omega)];rfl) (λ k i hi=>by rw[g_slices_IndexFunc_Item_impl_EdOkc1_l0,decide_eq_false (by omega),cond_false]) (by omega)
 have ea:e.Cut.all okI = !(e.Cut.any λ it => !okI it):=by rw[List.not_any_eq_all_not];simp
 have hlo:=(lo_both (h.l.app h.r) (by rw[List.length_append];omega)).1
 rw[h1,ea]
 have ct:∀ b:Bool,(cond (!b) ((g_slices_Concat_Item [e.Left,e.Right]).bind λ y_3=>some y_3:Option (List GItem)) none).bind (λ y_4=>(g_impl_ListOk y_4).bind λ y_5=>some y_5)=(cond (!b) (some (loB (e.Left++e.Right))) none:Option Bool):=λ b=>by
  cases b with
  | true=>rfl
  | false=>rw[Bool.not_false,cond_true,cond_true,concat2 (by omega) (by omega),Option.bind_some,Option.bind_some,hlo];rfl
 cases o with
 | inl u =>
  simp only[Option.bind_some]
  rw[h2,show decide ((-1:Int) ≥ 0)=false from rfl]
  simp only[Bool.not_false,cond_true,Bool.true_and]
  rw[concat2 (by omega) (by omega),Option.bind_some,Option.bind_some,hlo];rfl
 | inr v =>
  simp only[Option.bind_some]
  rw[h2.2,decide_eq_true h2.1];rfl
theorem blank_ok:Iok ⟨0,[],0,false,0⟩:=iok (by simp)
theorem all_spec {n:Nat} {e:GEd} (h:EI n e) (hn:n<=2000):∃ l,g_spec_l07All e=some l/\IL l/\l.length<=4000/\loB l=loB (e.Left++e.Right)/\(loB (e.Left++e.Right)=true->l=e.Left++e.Right):=by
 have:=h.nl;have:=h.nr
 unfold g_spec_l07All
 have hl:=lo_both (h.l.app h.r) (by rw[List.length_append];omega)
 by_cases hb:e.Left.length > 64\/e.Right.length > 64
 ·have hf:loB (e.Left++e.Right)=false:=by
   cases hq:loB (e.Left++e.Right) with
   | false=>rfl
   | true =>
    obtain ⟨_,_,cs,ok,_,_,e2⟩:=hl
    have:=(e2 hq).2
    rw[List.length_append]at this
    omega
  have hi:IL (List.replicate 65 (⟨0,[],0,false,0⟩:GItem)):=λ it hm=>by rw[List.eq_of_mem_replicate hm];exact blank_ok
  have hf2:loB (List.replicate 65 (⟨0,[],0,false,0⟩:GItem))=false:=by
   cases hq:loB (List.replicate 65 (⟨0,[],0,false,0⟩:GItem)) with
   | false=>rfl
   | true =>
    obtain ⟨_,_,cs,ok,_,_,e2⟩:=lo_both hi (by rw[List.length_replicate];omega)
    have:=(e2 hq).2
    rw[List.length_replicate]at this
    omega
  refine ⟨List.replicate 65 ⟨0,[],0,false,0⟩,?_,hi,by rw[List.length_replicate];omega,by rw[hf,hf2],λ h=>by rw[hf]at h;cases h⟩
  have e1:(cond (decide ((e.Left.length:Int) > 64)) (some true) (some (decide ((e.Right.length:Int) > 64))):Option Bool)=some true:=by
   by_cases h1:e.Left.length > 64
   ·rw[decide_eq_true (by omega),cond_true]
   ·rw[decide_eq_false (by omega),cond_false,decide_eq_true (by omega)]
  rw[e1,Option.bind_some,cond_true,mk_eq (by omega) (by omega)];rfl
 ·refine ⟨e.Left++e.Right,?_,h.l.app h.r,by rw[List.length_append];omega,rfl,λ _=>rfl⟩
  rw[decide_eq_false (by omega),cond_false,decide_eq_false (by omega),Option.bind_some,cond_false,app_eq (by simp;omega),Option.bind_some,app_eq (by simp;omega)];rfl
theorem edOk_spec {n:Nat} {e:GEd} (h:EI n e) (hn:n<=2000):g_spec_EdOk e=some (edB e):=by
 have:=h.nl;have:=h.nr;have:=h.nc
 unfold g_spec_EdOk edB
 by_cases hc:e.Cut.length<=20
 case neg=>rw[decide_eq_true (by omega),decide_eq_false hc];rfl
 rw[decide_eq_false (by omega),cond_false,decide_eq_true hc,Bool.true_and]
 have h0:=allLoop (L:=e.Cut) (bad:=false) (λ _ it=>okI it) (g_spec_EdOk_l0 e) (λ k i x hx hi=>by
  rw[g_spec_EdOk_l0,decide_eq_true (by omega),cond_true,getI_nat,hx,Option.bind_some,(itemOk (h.c x (List.mem_of_getElem? hx))).2,Option.bind_some,nxt (by omega)]
  cases okI x<;>rfl) (λ k i hi=>by rw[g_spec_EdOk_l0,decide_eq_false (by omega),cond_false]) (by omega)
 obtain ⟨l,a1,a2,a3,a4,_⟩:=all_spec h hn
 rw[h0,allN_const]
 cases hq:e.Cut.all okI with
 | false=>rfl
 | true =>
  simp only[cond_true,if_true,Option.bind_some,Bool.true_and]
  rw[a1,Option.bind_some,(lo_both a2 a3).2.1,a4];rfl
end Go.Proofs.Ytjdhhpolllkbbaa
namespace Go.Proofs.Ytjdhhpolllkbbaa
open Go Go.Fm
set_option maxRecDepth 100000
def blank:GItem:=⟨0,[],0,false,0⟩
def wordK (k:Int):Bool:=decide (1<=k/\k<=6)
def numK (k:Int):Bool:=decide (7<=k/\k<=8)
def rc (it:GItem) (k:Int):GItem×Bool:=cond (!okI it || (!(wordK it.Kind&&wordK k)&&(!(numK it.Kind&&numK k)&&decide (k≠it.Kind)))) (blank,false) (⟨k,it.Name,it.N,it.Hex,it.Raw⟩,true)
theorem tag_pos (k:Int):∃ t,g_impl_nameTag k=some t/\decide (t > 0)=wordK k:=by
 unfold g_impl_nameTag wordK
 by_cases h1:k=1
 ·subst h1;exact ⟨_,rfl,rfl⟩
 by_cases h2:k=2
 ·subst h2;exact ⟨_,rfl,rfl⟩
 by_cases h3:k=3
 ·subst h3;exact ⟨_,rfl,rfl⟩
 by_cases h4:k=4
 ·subst h4;exact ⟨_,rfl,rfl⟩
 by_cases h5:k=5
 ·subst h5;exact ⟨_,rfl,rfl⟩
 by_cases h6:k=6
 ·subst h6;exact ⟨_,rfl,rfl⟩
 refine ⟨0,?_,?_⟩
 ·rw[show (k==1)=false by simp[h1],show (k==2)=false by simp[h2],show (k==3)=false by simp[h3],show (k==4)=false by simp[h4],show (k==5)=false by simp[h5],show (k==6)=false by simp[h6]];rfl
 ·rw[show decide ((0:Int) > 0)=false from rfl,decide_eq_false (by omega)]
theorem num_b (k:Int):(cond (k==7) true (k==8))=numK k:=by
 unfold numK
 by_cases h7:k=7
 ·subst h7;rfl
 by_cases h8:k=8
 ·subst h8;rfl
 rw[show (k==7)=false by simp[h7],show (k==8)=false by simp[h8],decide_eq_false (by omega)];rfl
theorem neq_b (a b:Int):(a != b)=decide (b≠a):=by
 by_cases h:a=b
 ·subst h;simp
 ·have h':b≠a:=λ e=>h e.symm
  simp[h,h']
theorem rc_impl {it:GItem} (h:Iok it) (k:Int):g_impl_Recolor it k=some (rc it k):=by
 unfold g_impl_Recolor rc
 obtain ⟨t1,a1,a2⟩:=tag_pos it.Kind
 obtain ⟨t2,b1,b2⟩:=tag_pos k
 have e1:((cond (it.Kind==7) (cond (k==7) (some true) (some (k==8))) (cond (it.Kind==8) (cond (k==7) (some true) (some (k==8))) (some false)):Option (Bool)))=some (numK it.Kind&&numK k):=by
  rw[<-num_b it.Kind,<-num_b k]
  cases it.Kind==7<;>cases it.Kind==8<;>cases k==7<;>cases k==8<;>rfl
 rw[a1,Option.bind_some,a2,b1,Option.bind_some,b2,e1,(itemOk h).1,show (k != it.Kind)=decide (k≠it.Kind) by by_cases hk:k=it.Kind<;>simp[hk]]
 cases wordK it.Kind<;>cases wordK k<;>cases (numK it.Kind&&numK k)<;>cases okI it<;>cases decide (k≠it.Kind)<;>rfl
theorem rc_spec {it:GItem} (h:Iok it) (k:Int):g_spec_Recolor it k=some (rc it k):=by
 unfold g_spec_Recolor rc
 rw[specIn_eq,specIn_eq,specIn_eq,specIn_eq,(itemOk h).2,neq_b it.Kind k]
 show _=some (cond (!okI it || (!(wordK it.Kind&&wordK k)&&(!(numK it.Kind&&numK k)&&decide (k≠it.Kind)))) (blank,false) (⟨k,it.Name,it.N,it.Hex,it.Raw⟩,true))
 unfold wordK numK
 cases decide (1<=it.Kind/\it.Kind<=6)<;>cases decide (1<=k/\k<=6)<;>cases decide (7<=it.Kind/\it.Kind<=8)<;>cases decide (7<=k/\k<=8)<;>cases okI it<;>cases decide (k≠it.Kind)<;>rfl
theorem rc_iok {it:GItem} (h:Iok it) (k:Int):Iok (rc it k).1:=by
 unfold rc
 cases (!okI it || (!(wordK it.Kind&&wordK k)&&(!(numK it.Kind&&numK k)&&decide (k≠it.Kind))))
 ·exact h
 ·exact blank_ok
def pressS (e:GEd) (k:GKey):Option GEd :=
 if k.Op=0 then e.Left.getLast?.map λ x=>⟨e.Left.dropLast,x::e.Right,e.Cut⟩
 else if k.Op=1 then e.Right.head?.map λ x=>⟨e.Left++[x],e.Right.tail,e.Cut⟩
 else if k.Op=2 then some ⟨[],e.Left++e.Right,e.Cut⟩
 else if k.Op=3 then some ⟨e.Left++e.Right,[],e.Cut⟩
 else if k.Op=4 then some ⟨e.Left++[k.Item],e.Right,e.Cut⟩
 else if k.Op=5 then e.Left.getLast?.map λ x=>⟨e.Left.dropLast,e.Right,e.Cut++[x]⟩
 else if k.Op=6 then e.Cut.getLast?.map λ x=>⟨e.Left++[x],e.Right,e.Cut.dropLast⟩
 else if k.Op=7 then e.Left.getLast?.bind λ x=>cond (rc x k.Item.Kind).2 (some ⟨e.Left.dropLast++[(rc x k.Item.Kind).1],e.Right,e.Cut⟩) none
 else none
theorem IL.left {a b:List GItem} (h:IL (a++b)):IL a:=λ x hx=>h x (List.mem_append_left _ hx)
theorem IL.right {a b:List GItem} (h:IL (a++b)):IL b:=λ x hx=>h x (List.mem_append_right _ hx)
theorem last_cases (l:List GItem):l=[]\/∃ a x,l=a++[x]:=by
 rcases List.eq_nil_or_concat l with h|⟨a,x,h⟩
 ·exact .inl h
 ·exact .inr ⟨a,x,by rw[h,List.concat_eq_append]⟩
theorem pressS_EI {n:Nat} {e o:GEd} {k:GKey} (h:EI n e) (hk:Iok k.Item) (ho:pressS e k=some o):EI (2*n+1) o:=by
 have:=h.nl;have:=h.nr;have:=h.nc
 obtain ⟨l,r,c⟩:=e
 have hl:=h.l;have hr:=h.r;have hc:=h.c
 simp only at *
 unfold pressS at ho
 simp only at ho
 split at ho
 ·rcases last_cases l with rfl|⟨a,x,rfl⟩
  ·cases ho
  ·rw[List.getLast?_concat,List.dropLast_concat]at ho;cases ho
   simp only[List.length_append,List.length_singleton]at *
   exact ⟨hl.left, .cons (hl x (by simp)) hr,hc,by simp only;omega,by simp only[List.length_cons];omega,by simp only;omega⟩
 split at ho
 ·cases r with
  | nil=>cases ho
  | cons x r =>
   cases ho
   simp only[List.length_cons]at *
   exact ⟨hl.app (.cons (hr x (by simp)) .nil),λ y hy=>hr y (List.mem_cons_of_mem _ hy),hc,by simp only[List.length_append,List.length_singleton];omega,by simp only[List.tail_cons];omega,by simp only;omega⟩
 split at ho
 ·cases ho;exact ⟨.nil,hl.app hr,hc,by simp,by simp only[List.length_append];omega,by simp only;omega⟩
 split at ho
 ·cases ho;exact ⟨hl.app hr, .nil,hc,by simp only[List.length_append];omega,by simp,by simp only;omega⟩
 split at ho
 ·cases ho;exact ⟨hl.app (.cons hk .nil),hr,hc,by simp only[List.length_append,List.length_singleton];omega,by simp only;omega,by simp only;omega⟩
 split at ho
 ·rcases last_cases l with rfl|⟨a,x,rfl⟩
  ·cases ho
  ·rw[List.getLast?_concat,List.dropLast_concat]at ho;cases ho
   simp only[List.length_append,List.length_singleton]at *
   exact ⟨hl.left,hr,hc.app hl.right,by simp only;omega,by simp only;omega,by simp only[List.length_append,List.length_singleton];omega⟩
 split at ho
 ·rcases last_cases c with rfl|⟨a,x,rfl⟩
  ·cases ho
  ·rw[List.getLast?_concat,List.dropLast_concat]at ho;cases ho
   simp only[List.length_append,List.length_singleton]at *
   exact ⟨hl.app hc.right,hr,hc.left,by simp only[List.length_append,List.length_singleton];omega,by simp only;omega,by simp only;omega⟩
 split at ho
 ·rcases last_cases l with rfl|⟨a,x,rfl⟩
  ·cases ho
  ·rw[List.getLast?_concat,List.dropLast_concat,Option.bind_some]at ho
   cases hb:(rc x k.Item.Kind).2 with
   | false=>rw[hb]at ho;cases ho
   | true =>
    rw[hb]at ho;cases ho
    simp only[List.length_append,List.length_singleton]at *
    exact ⟨hl.left.app (.cons (rc_iok (hl x (by simp)) _) .nil),hr,hc,by simp only[List.length_append,List.length_singleton];omega,by simp only;omega,by simp only;omega⟩
 ·cases ho
theorem app1 {xs:List GItem} (h:xs.length<=4100):app ([]:List GItem) xs=some xs:=by rw[app_eq (by simp;omega)];rfl
theorem own_ed {n:Nat} {e:GEd} (h:EI n e) (hn:n<=4000):g_impl_ownEd e=some e:=by
 have:=h.nl;have:=h.nr;have:=h.nc
 unfold g_impl_ownEd g_slices_Clone_Item
 rw[app1 (by omega),Option.bind_some,app1 (by omega),Option.bind_some,app1 (by omega),Option.bind_some]
theorem copy_ed {n:Nat} {e:GEd} (h:EI n e) (hn:n<=4000):g_spec_l07Copy e=some e:=by
 have:=h.nl;have:=h.nr;have:=h.nc
 unfold g_spec_l07Copy
 rw[app1 (by omega),Option.bind_some,app1 (by omega),Option.bind_some,app1 (by omega),Option.bind_some]
theorem get_end {a:List GItem} {x:GItem} (h:a.length<=4000):getI (a++[x]) (IntKind.wrap .i64 (((a++[x]).length:Int)-1))=some x:=by
 rw[wI64 (by rw[List.length_append];omega) (by rw[List.length_append,List.length_singleton];omega),show (((a++[x]).length:Int)-1)=((a.length:Nat):Int) by simp,getI_nat,List.getElem?_concat_length]
theorem sub_end {a:List GItem} {x:GItem} (h:a.length<=4000):subL (a++[x]) 0 (IntKind.wrap .i64 (((a++[x]).length:Int)-1))=some a:=by
 rw[wI64 (by rw[List.length_append];omega) (by rw[List.length_append,List.length_singleton];omega),show (((a++[x]).length:Int)-1)=((a.length:Nat):Int) by simp,subL_take (by omega) (by simp;omega),Int.toNat_natCast,List.take_left]
theorem set_end {a:List GItem} {x y:GItem} (h:a.length<=4000):(a++[x]).set (IntKind.wrap .i64 (((a++[x]).length:Int)-1)).toNat y=a++[y]:=by
 rw[wI64 (by rw[List.length_append];omega) (by rw[List.length_append,List.length_singleton];omega),show (((a++[x]).length:Int)-1)=((a.length:Nat):Int) by simp,Int.toNat_natCast,List.set_append_right _ _ (Nat.le_refl _),Nat.sub_self];rfl
def pressR (e:GEd) (k:GKey):GEd×Bool:=match pressS e k with
 | some o=>(o,edB o)
 | none=>(e,false)
theorem impl_pressed {n:Nat} {e:GEd} {k:GKey} (h:EI n e) (hn:n<=900) (hk:Iok k.Item):g_impl_pressed e k=some (pressR e k):=by
 have h1:=h.nl;have h2:=h.nr;have h3:=h.nc
 have fin:∀ o,pressS e k=some o->((g_impl_EdOk o).bind λ y_29=>some (o,y_29))=some (pressR e k):=λ o ho=>by
  rw[edOk_impl (pressS_EI h hk ho) (by omega),Option.bind_some]
  unfold pressR;rw[ho]
 have non:pressS e k=none->some (e,false)=some (pressR e k):=λ ho=>by unfold pressR;rw[ho]
 unfold g_impl_pressed
 rw[own_ed h (by omega),Option.bind_some]
 obtain ⟨l,r,c⟩:=e
 simp only at h1 h2 h3
 by_cases o0:k.Op=0
 ·rw[show (k.Op==0)=true by simp[o0],cond_true]
  rcases last_cases l with rfl|⟨a,x,rfl⟩
  ·exact non (by unfold pressS;rw[if_pos o0];rfl)
  ·simp only[List.length_append,List.length_singleton]at h1
   rw[show ((((⟨a++[x],r,c⟩:GEd).Left.length:Nat):Int)==0)=false by rw[beq_eq_false_iff_ne];simp;omega,cond_false,get_end (by omega),Option.bind_some,sub_end (by omega)]
   unfold g_slices_Insert_Item gIns
   rw[show ((0:Int)==0)=true from rfl,decide_eq_true (by rfl),decide_eq_true (show r.length < 4294967295 by omega)]
   exact fin _ (by unfold pressS;rw[if_pos o0];simp)
 rw[show (k.Op==0)=false by simp[o0],cond_false]
 by_cases o1:k.Op=1
 ·rw[show (k.Op==1)=true by simp[o1],cond_true]
  cases r with
  | nil=>exact non (by unfold pressS;rw[if_neg o0,if_pos o1];rfl)
  | cons x r =>
   simp only[List.length_cons]at h2
   rw[show ((((⟨l,x::r,c⟩:GEd).Right.length:Nat):Int)==0)=false by rw[beq_eq_false_iff_ne];simp;omega,cond_false,show getI (⟨l,x::r,c⟩:GEd).Right 0=some x from rfl,Option.bind_some,app_eq (by simp;omega),Option.bind_some,subL_drop (by omega) (by simp;omega)]
   exact fin _ (by unfold pressS;rw[if_neg o0,if_pos o1];rfl)
 rw[show (k.Op==1)=false by simp[o1],cond_false]
 by_cases o2:k.Op=2
 ·rw[show (k.Op==2)=true by simp[o2],cond_true]
  unfold g_impl_edItems
  rw[concat2 (by simp only;omega) (by simp only;omega)]
  exact fin _ (by unfold pressS;rw[if_neg o0,if_neg o1,if_pos o2])
 rw[show (k.Op==2)=false by simp[o2],cond_false]
 by_cases o3:k.Op=3
 ·rw[show (k.Op==3)=true by simp[o3],cond_true]
  unfold g_impl_edItems
  rw[concat2 (by simp only;omega) (by simp only;omega)]
  exact fin _ (by unfold pressS;rw[if_neg o0,if_neg o1,if_neg o2,if_pos o3])
 rw[show (k.Op==3)=false by simp[o3],cond_false]
 by_cases o4:k.Op=4
 ·rw[show (k.Op==4)=true by simp[o4],cond_true,app_eq (by simp;omega)]
  exact fin _ (by unfold pressS;rw[if_neg o0,if_neg o1,if_neg o2,if_neg o3,if_pos o4])
 rw[show (k.Op==4)=false by simp[o4],cond_false]
 by_cases o5:k.Op=5
 ·rw[show (k.Op==5)=true by simp[o5],cond_true]
  rcases last_cases l with rfl|⟨a,x,rfl⟩
  ·exact non (by unfold pressS;rw[if_neg o0,if_neg o1,if_neg o2,if_neg o3,if_neg o4,if_pos o5];rfl)
  ·simp only[List.length_append,List.length_singleton]at h1
   rw[show ((((⟨a++[x],r,c⟩:GEd).Left.length:Nat):Int)==0)=false by rw[beq_eq_false_iff_ne];simp;omega,cond_false,get_end (by omega),Option.bind_some,sub_end (by omega),app_eq (by simp;omega)]
   exact fin _ (by unfold pressS;rw[if_neg o0,if_neg o1,if_neg o2,if_neg o3,if_neg o4,if_pos o5];simp)
 rw[show (k.Op==5)=false by simp[o5],cond_false]
 by_cases o6:k.Op=6
 ·rw[show (k.Op==6)=true by simp[o6],cond_true]
  rcases last_cases c with rfl|⟨a,x,rfl⟩
  ·exact non (by unfold pressS;rw[if_neg o0,if_neg o1,if_neg o2,if_neg o3,if_neg o4,if_neg o5,if_pos o6];rfl)
  ·simp only[List.length_append,List.length_singleton]at h3
   rw[decide_eq_false (by rw[wI64 (by show _<=((((a++[x]).length:Nat):Int)-1);rw[List.length_append];omega) (by show ((((a++[x]).length:Nat):Int)-1) < _;rw[List.length_append,List.length_singleton];omega)];show ¬ ((((a++[x]).length:Nat):Int)-1 < 0);rw[List.length_append,List.length_singleton];omega),cond_false,get_end (by omega),Option.bind_some,app_eq (by simp;omega),Option.bind_some,sub_end (by omega)]
   exact fin _ (by unfold pressS;rw[if_neg o0,if_neg o1,if_neg o2,if_neg o3,if_neg o4,if_neg o5,if_pos o6];simp)
 rw[show (k.Op==6)=false by simp[o6],cond_false]
 by_cases o7:k.Op=7
 ·rw[show (k.Op==7)=true by simp[o7],cond_true]
  rcases last_cases l with rfl|⟨a,x,rfl⟩
  ·exact non (by unfold pressS;rw[if_neg o0,if_neg o1,if_neg o2,if_neg o3,if_neg o4,if_neg o5,if_neg o6,if_pos o7];rfl)
  ·simp only[List.length_append,List.length_singleton]at h1
   have hx:Iok x:=h.l x (by simp)
   rw[show ((((⟨a++[x],r,c⟩:GEd).Left.length:Nat):Int)==0)=false by rw[beq_eq_false_iff_ne];simp;omega,cond_false,get_end (by omega),Option.bind_some,rc_impl hx,Option.bind_some]
   have hp:pressS ⟨a++[x],r,c⟩ k=cond (rc x k.Item.Kind).2 (some ⟨a++[(rc x k.Item.Kind).1],r,c⟩) none:=by
    unfold pressS;rw[if_neg o0,if_neg o1,if_neg o2,if_neg o3,if_neg o4,if_neg o5,if_neg o6,if_pos o7];simp
   cases hb:(rc x k.Item.Kind).2 with
   | false=>exact non (by rw[hp,hb];rfl)
   | true =>
    rw[Bool.not_true,cond_false,Option.bind_some,set_end (by omega)]
    exact fin _ (by rw[hp,hb];rfl)
 rw[show (k.Op==7)=false by simp[o7],cond_false]
 exact non (by unfold pressS;rw[if_neg o0,if_neg o1,if_neg o2,if_neg o3,if_neg o4,if_neg o5,if_neg o6,if_neg o7])
def keyR (e:GEd) (k:GKey):GEd×Bool:=cond (pressR e k).2 ((pressR e k).1,true) (e,false)
theorem impl_press {n:Nat} {e:GEd} {k:GKey} (h:EI n e) (hn:n<=900) (hk:Iok k.Item):g_impl_Press e k=some (cond (edB e) (keyR e k) (⟨[],[],[]⟩,false)):=by
 unfold g_impl_Press
 rw[edOk_impl h (by omega),Option.bind_some]
 cases edB e with
 | false=>rfl
 | true =>
  rw[Bool.not_true,cond_false,cond_true,impl_pressed h hn hk,Option.bind_some]
  unfold keyR
  cases hb:(pressR e k).2 with
  | false=>rw[Bool.not_false,cond_true,own_ed h (by omega)];rfl
  | true =>
   rw[Bool.not_true,cond_false,cond_true]
   have:EI (2*n+1) (pressR e k).1:=by
    unfold pressR at hb ⊢
    cases hp:pressS e k with
    | none=>rw[hp]at hb;cases hb
    | some o=>exact pressS_EI h hk hp
   rw[own_ed this (by omega)];rfl
end Go.Proofs.Ytjdhhpolllkbbaa
namespace Go.Proofs.Ytjdhhpolllkbbaa
open Go Go.Fm
set_option maxRecDepth 100000
def Cok (c:GL01Cur):Prop:=0<=c.i/\c.b.length<=1048576
theorem byte_ok {c:GL01Cur} (h:Cok c):Tot (g_spec_l01Byte c) λ r=>0<=r.1/\r.1<=255/\Cok r.2:=by
 unfold g_spec_l01Byte
 refine Tot.bind (Q:=λ r=>0<=r.1/\r.1<=255/\Cok r.2) (.condD (λ hi => ?_) (λ hi => ?_)) λ r hr=>.some hr
 ·obtain ⟨v,hv,_⟩:=getI_ex h.1 hi
  refine .bindE hv (.some ⟨(and_le (by decide) (by decide)).1,(and_le (by decide) (by decide)).2,?_,h.2⟩)
  have:=h.1
  have:=h.2
  show 0<=IntKind.wrap .i64 (c.i+1)
  rw[wI64 (by omega) (by omega)]
  omega
 ·exact .some ⟨(and_le (by decide) (by decide)).1,(and_le (by decide) (by decide)).2,h⟩
theorem below_ok {c:GL01Cur} (h:Cok c) {n:Int} (hn:0 < n):Tot (g_spec_l01Below n c) λ r=>0<=r.1/\r.1 < n/\Cok r.2:=by
 unfold g_spec_l01Below
 refine .condD (λ h0=>by omega) λ _=>.condD (λ h1 => ?_) λ h1 => ?_
 ·refine .bind (byte_ok h) λ a ha => ?_
  obtain ⟨e,g1,g2⟩:=remI_ex (k:=.i64) ha.1 hn
  exact .bindE e (.some ⟨g1,g2,ha.2.2⟩)
 ·refine .bind (byte_ok h) λ a ha=>.bind (byte_ok ha.2.2) λ b hb=>.bind (byte_ok hb.2.2) λ d hd=>.bind (byte_ok hd.2.2) λ x hx => ?_
  rw[wI64 (x:=a.1*16777216) (by omega) (by omega),wI64 (x:=b.1*65536) (by omega) (by omega),wI64 (x:=d.1*256) (by omega) (by omega),wI64 (x:=a.1*16777216+b.1*65536) (by omega) (by omega),
   wI64 (x:=a.1*16777216+b.1*65536+d.1*256) (by omega) (by omega),wI64 (x:=a.1*16777216+b.1*65536+d.1*256+x.1) (by omega) (by omega)]
  obtain ⟨e,g1,g2⟩:=remI_ex (k:=.i64) (a:=a.1*16777216+b.1*65536+d.1*256+x.1) (by omega) hn
  exact .bindE e (.some ⟨g1,g2,hx.2.2⟩)
theorem once_ok {c:GL01Cur} (h:Cok c) {n:Int} (hn:0 < n):Tot (g_spec_l01Once n c) λ r=>Cok r.2 :=
 .bind (below_ok h hn) λ a ha=>.some ha.2.2
theorem pickInt_ok {c:GL01Cur} (h:Cok c) {l:List Int} (hl:0 < l.length):Tot (g_spec_l01PickInt l c) λ r=>r.1 ∈ l/\Cok r.2 :=
 .bind (below_ok h (by omega)) λ a ha=>by
  obtain ⟨v,hv,hm,_⟩:=getI_ex (xs:=l) ha.1 ha.2.1
  exact .bindE hv (.some ⟨hm,ha.2.2⟩)
theorem pick_ok {c:GL01Cur} (h:Cok c) {l:List Bs} (hl:0 < l.length):Tot (g_spec_l01Pick l c) λ r=>r.1 ∈ l/\Cok r.2 :=
 .bind (below_ok h (by omega)) λ a ha=>by
  obtain ⟨v,hv,hm,_⟩:=getI_ex (xs:=l) ha.1 ha.2.1
  exact .bindE hv (.some ⟨hm,ha.2.2⟩)
theorem new_ok {code:List Int} (h:code.length<=1048576):Tot (g_spec_l01New code) Cok:=by
 have key:∀ (k:Nat) (hh i:Int),0<=i->i<=4000->4000-i < k->Tot (g_spec_l01New_l0 code k hh i) λ _=>True:=by
  intro k
  induction k with
  | zero=>intro hh i h0 h1 h2;omega
  | succ k ih =>
   intro hh i h0 h1 h2
   unfold g_spec_l01New_l0
   refine .bind (Q:=λ b=>b=true->i < code.length/\i < 4000) (.condD (λ hi=>.some λ hb=>⟨hi,of_decide_eq_true hb⟩) λ _=>.some λ hb=>nomatch hb) λ b hb => ?_
   refine .cond (λ hc => ?_) λ _=>.some trivial
   obtain ⟨g1,g2⟩:=hb hc
   obtain ⟨v,hv,_⟩:=getI_ex h0 g1
   refine .bindE hv ?_
   rw[wI64 (x:=i+1) (by omega) (by omega)]
   exact ih _ _ (by omega) (by omega) (by omega)
 exact .bind (.bind (key bigK _ 0 (by decide) (by decide) (by decide)) λ a ha=>.some (Q:=λ _=>True) trivial) λ a ha=>.some ⟨Int.le_refl _,h⟩
theorem forLoop {S:Type} {n:Int} {F:Nat->Int->S->Option S} (I:Int->S->Prop) (hn:n<=1000000)
  (hs:∀ k i s,0<=i->i < n->I i s->(∀ s',I (i+1) s'->Tot (F k (i+1) s') (I (max 0 n)))->Tot (F (k+1) i s) (I (max 0 n)))
  (he:∀ k i s,n<=i->I i s->F (k+1) i s=some s) {s:S} (h0:I 0 s):Tot (F bigK 0 s) (I (max 0 n)):=by
 have key:∀ (k:Nat) (i:Int) (s:S),0<=i->i<=max 0 n->I i s->(max 0 n)-i < k->Tot (F k i s) (I (max 0 n)):=by
  intro k
  induction k with
  | zero=>intro i s h0 h1 h2 h3;omega
  | succ k ih =>
   intro i s h0 h1 h2 h3
   by_cases hi:i < n
   ·exact hs k i s h0 hi h2 λ s' hs'=>ih _ _ (by omega) (by omega) hs' (by omega)
   ·rw[he k i s (by omega) h2]
    have:i=max 0 n:=by omega
    subst this
    exact .some h2
 exact key bigK 0 s (Int.le_refl _) (by omega) h0 (by unfold bigK;omega)
theorem i32w' (x:Int) : -2147483648<=IntKind.wrap .i32 x/\IntKind.wrap .i32 x<=2147483647:=by
 unfold IntKind.wrap
 simp only[IntKind.signed,IntKind.bits,if_true]
 constructor<;>(have:=Int.emod_lt_of_pos (x+2147483648) (b:=4294967296) (by decide);have:=Int.emod_nonneg (x+2147483648) (b:=4294967296) (by decide);first|omega|(simp;omega))
theorem int_ok {c:GL01Cur} (h:Cok c):Tot (g_spec_l04Int c) λ r=>(-2147483648<=r.1/\r.1<=2147483647)/\Cok r.2:=by
 unfold g_spec_l04Int
 refine .bind (once_ok h (by decide)) λ a ha=>.cond (λ _ => ?_) λ _ => ?_
 ·exact .bind (below_ok ha (by decide)) λ b hb=>.some ⟨i32w' _,hb.2.2⟩
 ·exact .bind (pickInt_ok ha (by decide)) λ b hb=>.some ⟨i32w' _,hb.2⟩
theorem sLetterAt_ok {k:Int}:Tot (g_spec_LetterAt k) λ v=>0<=v/\v < 256:=by
 unfold g_spec_LetterAt
 rw[specIn_eq,Option.bind_some]
 refine .cond (λ _=>.some (by decide)) λ hc => ?_
 have hk:0<=k/\k<=47:=by simpa using hc
 obtain ⟨v,hv,h0,h1,_⟩:=idxS_ex (l:=[32,114,116,111,101,97,110,105,115,109,99,121,108,103,102,119,100,118,112,98,104,120,117,113,48,49,50,51,52,53,54,55,56,57,106,45,107,46,122,47,59,39,33,43,64,42,44,63]) (i:=k) hk.1 (by simp;omega)
 exact .bindE (a:=_) rfl (.bindE hv (.some ⟨h0,h1⟩))
theorem name_ok {c:GL01Cur} (h:Cok c):Tot (g_spec_l02Name c) λ r=>r.1.length<=10/\Cok r.2:=by
 unfold g_spec_l02Name
 refine .bind (once_ok h (by decide)) λ a ha=>.cond (λ _ => ?_) λ _ => ?_
 ·refine .bind (pick_ok ha (by decide)) λ b hb=>.some ⟨?_,hb.2⟩
  have:=hb.1
  revert this
  generalize b.1=x
  intro hx
  have:∀ y ∈ ([[100,117,112],[111,118,101,114],[115,113,117,97,114,101],[97,33],[50,42],[103,111],[45,105,102],[59],[63],[114,114,114,114,114,114,114],[114,116,111,101,97,110,105],[119,119,119,119,119,119],[113,113,113,113,113],[120]]:List Bs),y.length<=10:=by decide
  exact this x hx
 ·refine .bind (below_ok ha (by decide)) λ b hb => ?_
  rw[wI64 (by omega) (by omega)]
  have:=forLoop (n:=1+b.1) (F:=λ k i s=>g_spec_l02Name_l0 (1+b.1) k s.1 i s.2) (λ i s=>(s.1.length:Int)<=i/\Cok s.2) (by omega) (λ k i s h0 h1 hI hk=>by
   show Tot (g_spec_l02Name_l0 _ (k+1) s.1 i s.2) _
   unfold g_spec_l02Name_l0
   rw[decide_eq_true (by omega),cond_true]
   refine .bind (below_ok hI.2 (by decide)) λ x hx=>.bind sLetterAt_ok λ y hy=>.bindE (app_eq (by simp;omega)) ?_
   rw[wI64 (x:=i+1) (by omega) (by omega)]
   exact hk (_,_) ⟨by simp;omega,hx.2.2⟩) (λ k i s hi _=>by
   show g_spec_l02Name_l0 _ (k+1) s.1 i s.2=_
   unfold g_spec_l02Name_l0
   rw[decide_eq_false (by omega),cond_false]) (s:=([],b.2)) ⟨by simp,hb.2.2⟩
  refine .bind (.bind this λ x hx=>.some (Q:=λ (x:List Int×GL01Cur)=>x.1.length<=10/\Cok x.2) ⟨by have:=hx.1;show x.1.length<=10;omega,hx.2⟩) λ x hx=>.some ⟨?_,hx.2⟩
  unfold strOf;rw[List.length_map];exact hx.1
theorem some_ok {c:GL01Cur} (h:Cok c):Tot (g_spec_l04Some c) λ r=>(r.1.Name.length<=10/\r.1.Raw=0)/\Cok r.2:=by
 unfold g_spec_l04Some
 refine .bind (below_ok h (by decide)) λ a ha=>.cond (λ _ => ?_) λ _=>.cond (λ _ => ?_) λ _=>.cond (λ _ => ?_) λ _ => ?_
 ·exact .bind (int_ok ha.2.2) λ b hb=>.bind (once_ok hb.2 (by decide)) λ d hd=>.some ⟨⟨by simp,rfl⟩,hd⟩
 ·exact .bind (int_ok ha.2.2) λ b hb=>.bind (once_ok hb.2 (by decide)) λ d hd=>.some ⟨⟨by simp,rfl⟩,hd⟩
 ·refine .bind (pick_ok ha.2.2 (by decide)) λ b hb=>.bind (int_ok hb.2) λ d hd=>.some ⟨⟨?_,rfl⟩,hd.2⟩
  have:=hb.1
  revert this
  generalize b.1=x
  intro hx
  have:∀ y ∈ ([[120],[97,116],[113,113,113,113],[116,101,110]]:List Bs),y.length<=10:=by decide
  exact this x hx
 ·exact .bind (below_ok ha.2.2 (by decide)) λ b hb=>.bind (name_ok hb.2.2) λ d hd=>.some ⟨⟨hd.1,rfl⟩,hd.2⟩
theorem word_ok {c:GL01Cur} (h:Cok c):Tot (g_spec_l01Word c) λ r=>(0<=r.1/\r.1 < 4294967296)/\Cok r.2:=by
 unfold g_spec_l01Word
 refine .bind (below_ok h (by decide)) λ a ha=>.cond (λ _ => ?_) λ _=>.cond (λ _ => ?_) λ _ => ?_
 ·exact .bind (pickInt_ok ha.2.2 (by decide)) λ b hb=>.some ⟨wU32_bd _,hb.2⟩
 ·exact .bind (below_ok ha.2.2 (by decide)) λ b hb=>.some ⟨wU32_bd _,hb.2.2⟩
 ·exact .bind (below_ok ha.2.2 (by decide)) λ b hb=>.bind (below_ok hb.2.2 (by decide)) λ d hd=>.some ⟨wU32_bd _,hd.2.2⟩
theorem cells_ok {c:GL01Cur} (h:Cok c):Tot (g_spec_l04Cells c) λ r=>(U32 r.1/\r.1.length<=1000)/\Cok r.2:=by
 unfold g_spec_l04Cells
 refine .bind (below_ok h (by decide)) λ a ha => ?_
 have:=forLoop (n:=a.1) (F:=λ k i s=>g_spec_l04Cells_l0 a.1 k s.1 i s.2) (λ i s=>(U32 s.1/\(s.1.length:Int)<=27*i)/\Cok s.2) (by omega) (λ k i s h0 h1 hI hk=>by
  show Tot (g_spec_l04Cells_l0 _ (k+1) s.1 i s.2) _
  unfold g_spec_l04Cells_l0
  rw[decide_eq_true (by omega),cond_true]
  refine .bind (Q:=λ r=>(U32 r.1/\(r.1.length:Int)<=27*(i+1))/\Cok r.2) ?_ λ r hr => ?_
  ·refine .bind (some_ok hI.2) λ x hx=>.bind (specCells_ok (by have:=hx.1.1;omega) (by have:=hx.1.2;omega)) λ y hy=>.bindE (app_eq (by have:=hI.1.2;have:=hy.2;omega)) (.bind (below_ok hx.2 (by decide)) λ z hz => ?_)
   have hsl:=hI.1.2
   have hyl:=hy.2
   have hl:((s.1++y).length:Int)<=27*i+26:=by rw[List.length_append];omega
   have hu0:=hI.1.1.app hy.1
   have one:∀ v:Int,0<=v/\v < 4294967296->Tot (app (s.1++y) [v]) λ r=>U32 r/\(r.length:Int)<=27*(i+1):=λ v hv=>by
    rw[app_eq (by simp at hl ⊢;omega)];exact .some ⟨hu0.app (.one hv),by simp at hl ⊢;omega⟩
   refine .cond (λ _ => ?_) λ _=>.cond (λ _ => ?_) λ _=>.cond (λ _ => ?_) λ _=>.cond (λ _ => ?_) λ _ => ?_
   ·exact .bind (word_ok hz.2.2) λ w hw=>.bind (one _ hw.1) λ u hu=>.some ⟨hu,hw.2⟩
   ·exact .bind (one _ (by decide)) λ u hu=>.some ⟨hu,hz.2.2⟩
   ·exact .bind (below_ok hz.2.2 (by decide)) λ w hw=>.bind (one _ (wU32_bd _)) λ u hu=>.some ⟨hu,hw.2.2⟩
   ·exact .bind (pickInt_ok hz.2.2 (by decide)) λ w hw=>.bind (one _ (wU32_bd _)) λ u hu=>.some ⟨hu,hw.2⟩
   ·exact .some ⟨⟨hu0,by show ((s.1++y).length:Int)<=_;omega⟩,hz.2.2⟩
  ·rw[wI64 (x:=i+1) (by omega) (by omega)]
   exact hk (_,_) hr) (λ k i s hi _=>by
  show g_spec_l04Cells_l0 _ (k+1) s.1 i s.2=_
  unfold g_spec_l04Cells_l0
  rw[decide_eq_false (by omega),cond_false]) (s:=([],a.2)) ⟨⟨.nil,by simp⟩,ha.2.2⟩
 refine .bind (.bind this λ x hx=>.some (Q:=λ (x:List Int×GL01Cur)=>(U32 x.1/\x.1.length<=1000)/\Cok x.2) ⟨⟨hx.1.1,by have:=hx.1.2;show x.1.length<=1000;omega⟩,hx.2⟩) λ x hx => ?_
 refine .bind (Q:=λ r=>(r.1=true->64 < x.1.length)/\Cok r.2) (.condD (λ hx2=>.bind (once_ok hx.2 (by decide)) λ y hy=>.some ⟨λ _=>by omega,hy⟩) λ _=>.some ⟨(λ e=>nomatch e),hx.2⟩) λ r hr=>.cond (λ hc => ?_) λ _=>.some ⟨hx.1,hr.2⟩
 have:=hr.1 hc
 have hx2:=hx.1.2
 refine .bindE (subL_take (b:=64) (by omega) (by omega)) (.some ⟨⟨λ z hz=>hx.1.1 z (List.mem_of_mem_take hz),by show (List.take _ _).length<=1000;rw[List.length_take];omega⟩,hr.2⟩)
theorem any4_ok {c:GL01Cur} (h:Cok c):Tot (g_spec_l04Any c) λ r=>Iok r.1/\Cok r.2:=by
 unfold g_spec_l04Any
 refine .bind (some_ok h) λ a ha => ?_
 have hn:=ha.1.1
 have hr:=ha.1.2
 have hio:Iok a.1:=⟨by omega,by rw[hr];decide,by rw[hr];decide⟩
 refine .bind (Q:=λ o=>match o with | .inl (x,y,z)=>Iok z/\Cok x | .inr (x,y,z)=>Iok y/\Cok x) (.bind (below_ok ha.2 (by decide)) λ b hb=>.cond (λ _ => ?_) λ _=>.cond (λ _ => ?_) λ _=>.cond (λ _ => ?_) λ _=>.cond (λ _ => ?_) λ _ => ?_) λ o ho => ?_
 ·exact .bind (word_ok hb.2.2) λ w hw=>.some ⟨⟨by simp,hw.1⟩,hw.2⟩
 ·exact .bind (below_ok hb.2.2 (by decide)) λ w hw=>.some ⟨hio,hw.2.2⟩
 ·refine .bind (pick_ok hb.2.2 (by decide)) λ w hw=>.some ⟨⟨?_,hio.2⟩,hw.2⟩
  have hm:=hw.1
  revert hm
  generalize w.1=x
  intro hx
  have:∀ y ∈ ([[],[65],[113,113,113,113,113],[115,113,117,97,114,101,115,113,117,97,114,101]]:List Bs),y.length<=1048576:=by decide
  exact this x hx
 ·exact .bind (below_ok hb.2.2 (by decide)) λ w hw=>.some ⟨⟨hio.1,wU32_bd _⟩,hw.2.2⟩
 ·exact .some ⟨hio,hb.2.2⟩
 ·rcases o with ⟨x,y,z⟩|⟨x,y,z⟩
  ·exact .some ho
  ·exact .some ho
theorem EI.cut {n:Nat} {e:GEd} {it:GItem} (h:EI n e) (hi:Iok it) (hc:e.Cut.length < n):EI n ⟨e.Left,e.Right,e.Cut++[it]⟩ :=
 ⟨h.l,h.r,h.c.app (.cons hi .nil),h.nl,h.nr,by show (e.Cut++[it]).length<=n;simp;omega⟩
theorem make7_ok {c:GL01Cur} (h:Cok c):Tot (g_spec_l07Make c) λ r=>(EI 100 r.1/\r.1.Left.length<=64/\r.1.Cut.length<=20)/\Cok r.2:=by
 unfold g_spec_l07Make
 refine .bind (cells_ok h) λ a ha => ?_
 refine .bind (Q:=λ r=>U32 r/\r.length<=64) (.condD (λ hx=>.bindE (subL_take (b:=64) (by omega) (by omega)) (.some ⟨λ z hz=>ha.1.1 z (List.mem_of_mem_take hz),by rw[List.length_take];omega⟩)) λ hx=>.some ⟨ha.1.1,by omega⟩) λ cs hcs => ?_
 obtain ⟨its,cells',z,h1,h2,h3,_⟩:=parseCells_ok hcs.1 hcs.2
 have hil:=h3.len
 have hcl:=hcs.2
 rw[h2,List.length_append]at hcl
 have hio:IL its:=parses_iok its cells' (λ x hx=>hcs.1 x (by rw[h2];exact List.mem_append_left _ hx)) (by omega) h3
 refine .bindE (by rw[parseCells_eq hcs.1];exact h1) ?_
 rw[wI64 (x:=(its.length:Int)+1) (by omega) (by omega)]
 refine .bind (below_ok ha.2 (by omega)) λ b hb => ?_
 obtain ⟨b0,b1,b2⟩:=hb
 rw[subL_take (by omega) (by omega),Option.bind_some,app_eq (by simp;omega),Option.bind_some,subL_drop (by omega) (by omega),Option.bind_some,app_eq (by simp;omega),Option.bind_some,List.nil_append,List.nil_append]
 refine .bind (below_ok b2 (by decide)) λ d hd => ?_
 refine .bind (Q:=λ r=>(0<=r.1/\r.1<=20)/\Cok r.2) (.bind (once_ok hd.2.2 (by decide)) λ x hx=>.cond (λ _=>.bind (below_ok hx (by decide)) λ y hy=>.some ⟨?_,hy.2.2⟩) λ _=>.some ⟨by show 0<=d.1/\d.1<=20;omega,hx⟩) λ n hn => ?_
 ·show 0<=IntKind.wrap .i64 (18+y.1)/\IntKind.wrap .i64 (18+y.1)<=20
  rw[wI64 (by omega) (by omega)];omega
 have e0:EI 100 ⟨its.take b.1.toNat,its.drop b.1.toNat,[]⟩:=⟨λ x hx=>hio x (List.mem_of_mem_take hx),λ x hx=>hio x (List.mem_of_mem_drop hx), .nil,by show (List.take _ _).length<=100;rw[List.length_take];omega,by show (List.drop _ _).length<=100;rw[List.length_drop];omega,by simp⟩
 have L:=forLoop (n:=n.1) (F:=λ k i (s:GL01Cur×GEd)=>g_spec_l07Make_l0 n.1 k i s.1 s.2) (λ i s=>Cok s.1/\EI 100 s.2/\s.2.Left.length<=64/\(s.2.Cut.length:Int)=i) (by omega) (λ k i s h0 h1 hI hk=>by
  show Tot (g_spec_l07Make_l0 _ (k+1) i s.1 s.2) _
  unfold g_spec_l07Make_l0
  obtain ⟨i1,i2,i3,i4⟩:=hI
  rw[decide_eq_true h1,cond_true]
  refine .bind (some_ok i1) λ x hx=>.bindE (app_eq (by simp;omega)) ?_
  rw[wI64 (x:=i+1) (by omega) (by omega)]
  have hxi:Iok x.1:=⟨by have:=hx.1.1;omega,by rw[hx.1.2];decide,by rw[hx.1.2];decide⟩
  exact hk (_,_) ⟨hx.2,i2.cut hxi (by omega),i3,by show ((s.2.Cut++[x.1]).length:Int)=i+1;simp;omega⟩) (λ k i s hi _=>by
  show g_spec_l07Make_l0 _ (k+1) i s.1 s.2=_
  unfold g_spec_l07Make_l0
  rw[decide_eq_false (by omega),cond_false]) (s:=(n.2,⟨its.take b.1.toNat,its.drop b.1.toNat,[]⟩)) ⟨hn.2,e0,by show (List.take _ _).length<=64;rw[List.length_take];omega,rfl⟩
 refine .bind (.bind L λ x hx=>.some (Q:=λ (s:GL01Cur×GEd)=>Cok s.1/\EI 100 s.2/\s.2.Left.length<=64/\s.2.Cut.length<=20) ⟨hx.1,hx.2.1,hx.2.2.1,by have:=hx.2.2.2;show x.2.Cut.length<=20;omega⟩) λ x hx=>.some ⟨⟨hx.2.1,hx.2.2.1,hx.2.2.2⟩,hx.1⟩
theorem any7_ok {c:GL01Cur} (h:Cok c):Tot (g_spec_l07Any c) λ r=>EI 100 r.1/\Cok r.2:=by
 unfold g_spec_l07Any
 refine .bind (make7_ok h) λ a ha => ?_
 obtain ⟨⟨he,hl,hc⟩,hk⟩:=ha
 have hsev:Iok ⟨0,[],0,false,7⟩:=⟨by simp,by decide,by decide⟩
 have loop:∀ (k:Nat) (x:GL01Cur) (e:GEd),Cok x->EI 100 e->e.Cut.length<=21->22-e.Cut.length < k->Tot (g_spec_l07Any_l0 k x e) λ r=>EI 100 r.2/\Cok r.1:=by
  intro k
  induction k with
  | zero=>intro x e h0 h1 h2 h3;omega
  | succ k ih =>
   intro x e h0 h1 h2 h3
   unfold g_spec_l07Any_l0
   refine .bind (below_ok h0 (by decide)) λ b hb => ?_
   rw[wI64 (by omega) (by omega)]
   refine .condD (λ hlt=>.bindE (app_eq (by simp;omega)) ?_) λ _=>.some ⟨h1,hb.2.2⟩
   exact ih _ _ hb.2.2 (h1.cut hsev (by omega)) (by show (e.Cut++[_]).length<=21;simp;omega) (by show 22-(e.Cut++[_]).length < k;simp;omega)
 refine .bind (Q:=λ (r:GL01Cur×GEd)=>EI 100 r.2/\Cok r.1) (.bind (below_ok hk (by decide)) λ b hb=>.cond (λ _ => ?_) λ _=>.cond (λ _ => ?_) λ _=>.cond (λ _ => ?_) λ _=>.some ⟨he,hb.2.2⟩) λ r hr=>.some hr
 ·exact .bind (any4_ok hb.2.2) λ x hx=>.bindE (app_eq (by simp;omega)) (.some ⟨he.cut hx.1 (by omega),hx.2⟩)
 ·exact .bind (any4_ok hb.2.2) λ x hx=>.bindE (app_eq (by simp;omega)) (.some ⟨⟨he.l.app (.cons hx.1 .nil),he.r,he.c,by show (a.1.Left++[x.1]).length<=100;simp;omega,he.nr,he.nc⟩,hx.2⟩)
 ·exact .bind (loop bigK b.2 a.1 hb.2.2 he (by omega) (by unfold bigK;omega)) λ r hr=>.some hr
theorem key_ok {c:GL01Cur} (h:Cok c):Tot (g_spec_l07Key c) λ r=>Iok r.1.Item/\Cok r.2:=by
 unfold g_spec_l07Key
 refine .bind (below_ok h (by decide)) λ a ha => ?_
 refine .bind (Q:=λ (r:GL01Cur×GKey)=>Iok r.2.Item/\Cok r.1) (.bind (Q:=λ (r:Bool×GL01Cur)=>Cok r.2) (.cond (λ _=>.some ha.2.2) λ _=>.bind (once_ok ha.2.2 (by decide)) λ x hx=>.some hx) λ r hr=>.cond (λ _=>.bind (any4_ok hr) λ x hx=>.some hx) λ _=>.some ⟨blank_ok,hr⟩) λ r hr => ?_
 refine .bind (Q:=λ (r:GL01Cur×GKey)=>Iok r.2.Item/\Cok r.1) (.cond (λ _=>.bind (below_ok hr.2 (by decide)) λ x hx=>.some ⟨iok (by simp),hx.2.2⟩) λ _=>.some hr) λ q hq=>.some hq
end Go.Proofs.Ytjdhhpolllkbbaa
namespace Go.Proofs.Ytjdhhpolllkbbaa
open Go Go.Fm
set_option maxRecDepth 100000
theorem lo_app {n:Nat} {e:GEd} (h:EI n e) (hn:n<=2000) (hb:edB e=true):e.Cut.length<=20/\loB (e.Left++e.Right)=true/\e.Left.length+e.Right.length<=64/\(∀ it ∈ e.Cut,okI it=true)/\∀ it ∈ e.Left++e.Right,okI it=true:=by
 have:=h.nl;have:=h.nr
 unfold edB at hb
 rw[Bool.and_eq_true,Bool.and_eq_true,decide_eq_true_eq]at hb
 obtain ⟨h1,h2,h3⟩:=hb
 have hl:=h.l.app h.r
 have hlen:(e.Left++e.Right).length<=4000:=by rw[List.length_append];omega
 obtain ⟨_,_,cs,ok,_,_,e2⟩:=lo_both hl hlen
 have:=(e2 h3).2
 rw[List.length_append]at this
 exact ⟨h1,h3,this,List.all_eq_true.1 h2,lo_items hl hlen h3⟩
theorem at_ok {e:GEd} {all:List GItem} {m:Nat} (hm:m<=all.length) (hl:all.length<=64):((cond (!decide (0<=(m:Int)/\(m:Int)<=(all.length:Int))) (some (e,false)) ((subL all 0 (m:Int)).bind λ v_8=>(app ([]:List GItem) v_8).bind λ v_9=>(subL all (m:Int) ((all.length:Nat):Int)).bind λ v_10=>(app ([]:List GItem) v_10).bind λ v_11=>some ((⟨v_9,v_11,e.Cut⟩:GEd),true)):Option (GEd×Bool)))=some (⟨all.take m,all.drop m,e.Cut⟩,true):=by
 rw[decide_eq_true (by omega),Bool.not_true,cond_false,subL_take (by omega) (by omega),Option.bind_some,Int.toNat_natCast,app1 (by rw[List.length_take];omega),Option.bind_some,subL_drop (by omega) (by omega),Option.bind_some,Int.toNat_natCast,app1 (by rw[List.length_drop];omega),Option.bind_some]
theorem move_eq {n:Nat} {e:GEd} {k:GKey} (h:EI n e) (hn:n<=900) (hb:edB e=true) (ho:0<=k.Op/\k.Op<=3):∃ o ok,g_spec_l07Move e k.Op=some (o,ok)/\(ok=true->pressS e k=some o)/\(ok=false->pressS e k=none):=by
 obtain ⟨b1,b2,b3,_,_⟩:=lo_app h (by omega) hb
 obtain ⟨al,a1,a2,a3,a4,a5⟩:=all_spec h (by omega)
 have:=a5 b2
 subst this
 unfold g_spec_l07Move
 rw[a1,Option.bind_some]
 obtain ⟨l,r,c⟩:=e
 simp only at b3
 have hal:(l++r).length<=64:=by rw[List.length_append];exact b3
 by_cases o0:k.Op=0
 ·rw[show (k.Op==0)=true by simp[o0],cond_true,Option.bind_some,specIn_eq]
  rcases last_cases l with rfl|⟨a,x,rfl⟩
  ·rw[show IntKind.wrap .i64 ((((⟨[],r,c⟩:GEd).Left.length:Nat):Int)-1) = -1 from rfl,decide_eq_false (by omega)]
   exact ⟨_,false,rfl,(λ h=>nomatch h),λ _=>by unfold pressS;rw[if_pos o0];rfl⟩
  ·rw[List.length_append,List.length_singleton]at b3
   rw[wI64 (x:=(((⟨a++[x],r,c⟩:GEd).Left.length:Nat):Int)-1) (by show _<=((((a++[x]).length:Nat):Int)-1);rw[List.length_append];omega) (by show ((((a++[x]).length:Nat):Int)-1) < _;rw[List.length_append,List.length_singleton];omega),show ((((⟨a++[x],r,c⟩:GEd).Left.length:Nat):Int)-1)=((a.length:Nat):Int) by show ((((a++[x]).length:Nat):Int)-1)=_;rw[List.length_append,List.length_singleton];omega,Option.bind_some]
   show ∃ o ok,(cond (!decide (0<=((a.length:Nat):Int)/\((a.length:Nat):Int)<=(((a++[x]++r).length:Nat):Int))) _ _:Option (GEd×Bool))=_/\_
   rw[at_ok (by simp) hal]
   refine ⟨_,true,rfl,λ _ => ?_,λ h=>nomatch h⟩
   unfold pressS
   rw[if_pos o0]
   simp
 rw[show (k.Op==0)=false by simp[o0],cond_false]
 by_cases o1:k.Op=1
 ·rw[show (k.Op==1)=true by simp[o1],cond_true,Option.bind_some,specIn_eq,wI64 (x:=(((⟨l,r,c⟩:GEd).Left.length:Nat):Int)+1) (by simp only;omega) (by simp only;omega),show ((((⟨l,r,c⟩:GEd).Left.length:Nat):Int)+1)=((l.length+1:Nat):Int) by simp only;omega,Option.bind_some]
  cases r with
  | nil =>
   rw[decide_eq_false (by show ¬ (0<=((l.length+1:Nat):Int)/\((l.length+1:Nat):Int)<=(((l++[]).length:Nat):Int));rw[List.append_nil];omega)]
   exact ⟨_,false,rfl,(λ h=>nomatch h),λ _=>by unfold pressS;rw[if_neg o0,if_pos o1];rfl⟩
  | cons x r =>
   show ∃ o ok,(cond (!decide (0<=((l.length+1:Nat):Int)/\((l.length+1:Nat):Int)<=(((l++x::r).length:Nat):Int))) _ _:Option (GEd×Bool))=_/\_
   rw[at_ok (by simp) hal]
   refine ⟨_,true,rfl,λ _ => ?_,λ h=>nomatch h⟩
   unfold pressS
   rw[if_neg o0,if_pos o1]
   have e1:(l++x::r)=(l++[x])++r:=by simp
   have e2:l.length+1=(l++[x]).length:=by simp
   rw[e1,e2,List.take_left,List.drop_left]
   rfl
 rw[show (k.Op==1)=false by simp[o1],cond_false]
 by_cases o2:k.Op=2
 ·rw[show (k.Op==2)=true by simp[o2],cond_true,Option.bind_some,specIn_eq,Option.bind_some]
  show ∃ o ok,(cond (!decide (0<=((0:Nat):Int)/\((0:Nat):Int)<=(((l++r).length:Nat):Int))) _ _:Option (GEd×Bool))=_/\_
  have:=at_ok (e:=⟨l,r,c⟩) (Nat.zero_le (l++r).length) hal
  refine ⟨_,true,this,λ _ => ?_,λ h=>nomatch h⟩
  unfold pressS
  rw[if_neg o0,if_neg o1,if_pos o2];rfl
 ·rw[show (k.Op==2)=false by simp[o2],cond_false,Option.bind_some,specIn_eq,Option.bind_some]
  have:=at_ok (e:=⟨l,r,c⟩) (Nat.le_refl (l++r).length) hal
  refine ⟨_,true,this,λ _ => ?_,λ h=>nomatch h⟩
  unfold pressS
  rw[if_neg o0,if_neg o1,if_neg o2,if_pos (by omega),List.take_length,List.drop_length]
theorem change_eq {n:Nat} {e:GEd} {k:GKey} (h:EI n e) (hn:n<=900) (ho:¬(0<=k.Op/\k.Op<=3)):∃ o ok,g_spec_l07Change e k=some (o,ok)/\(ok=true->pressS e k=some o)/\(ok=false->pressS e k=none):=by
 have h1:=h.nl;have h2:=h.nr;have h3:=h.nc
 unfold g_spec_l07Change
 obtain ⟨l,r,c⟩:=e
 simp only at h1 h2 h3
 have p0:¬ k.Op=0:=by omega
 have p1:¬ k.Op=1:=by omega
 have p2:¬ k.Op=2:=by omega
 have p3:¬ k.Op=3:=by omega
 have pS:∀ e,pressS e k=if k.Op=4 then some ⟨e.Left++[k.Item],e.Right,e.Cut⟩
 else if k.Op=5 then e.Left.getLast?.map λ x=>⟨e.Left.dropLast,e.Right,e.Cut++[x]⟩
 else if k.Op=6 then e.Cut.getLast?.map λ x=>⟨e.Left++[x],e.Right,e.Cut.dropLast⟩
 else if k.Op=7 then e.Left.getLast?.bind λ x=>cond (rc x k.Item.Kind).2 (some ⟨e.Left.dropLast++[(rc x k.Item.Kind).1],e.Right,e.Cut⟩) none
 else none:=λ e=>by unfold pressS;rw[if_neg p0,if_neg p1,if_neg p2,if_neg p3]
 by_cases o4:k.Op=4
 ·rw[show (k.Op==4)=true by simp[o4],cond_true,app_eq (by simp;omega)]
  exact ⟨_,true,rfl,λ _=>by rw[pS,if_pos o4],λ h=>nomatch h⟩
 rw[show (k.Op==4)=false by simp[o4],cond_false]
 by_cases o5:k.Op=5
 ·rw[show (k.Op==5)=true by simp[o5],cond_true,Option.bind_some]
  rcases last_cases l with rfl|⟨a,x,rfl⟩
  ·rw[show decide ((((⟨[],r,c⟩:GEd).Left.length:Nat):Int) > 0)=false from rfl,cond_false,show (k.Op==6)=false by simp[o5],cond_false,Option.bind_some,cond_false,show (k.Op==7)=false by simp[o5]]
   exact ⟨_,false,rfl,(λ h=>nomatch h),λ _=>by rw[pS,if_neg o4,if_pos o5];rfl⟩
  ·simp only[List.length_append,List.length_singleton]at h1
   rw[decide_eq_true (show (((a++[x]).length:Nat):Int) > 0 by rw[List.length_append,List.length_singleton];omega),cond_true,get_end (by omega),Option.bind_some,app_eq (by simp;omega),Option.bind_some,sub_end (by omega)]
   exact ⟨_,true,rfl,λ _=>by rw[pS,if_neg o4,if_pos o5];simp,λ h=>nomatch h⟩
 rw[show (k.Op==5)=false by simp[o5],cond_false,Option.bind_some,cond_false]
 by_cases o6:k.Op=6
 ·rw[show (k.Op==6)=true by simp[o6],cond_true,Option.bind_some]
  rcases last_cases c with rfl|⟨a,x,rfl⟩
  ·rw[show decide ((((⟨l,r,[]⟩:GEd).Cut.length:Nat):Int) > 0)=false from rfl,cond_false,show (k.Op==7)=false by simp[o6]]
   exact ⟨_,false,rfl,(λ h=>nomatch h),λ _=>by rw[pS,if_neg o4,if_neg o5,if_pos o6];rfl⟩
  ·simp only[List.length_append,List.length_singleton]at h3
   rw[decide_eq_true (show (((a++[x]).length:Nat):Int) > 0 by rw[List.length_append,List.length_singleton];omega),cond_true,get_end (by omega),Option.bind_some,app_eq (by simp;omega),Option.bind_some,sub_end (by omega)]
   exact ⟨_,true,rfl,λ _=>by rw[pS,if_neg o4,if_neg o5,if_pos o6];simp,λ h=>nomatch h⟩
 rw[show (k.Op==6)=false by simp[o6],cond_false,Option.bind_some,cond_false]
 by_cases o7:k.Op=7
 ·rw[show (k.Op==7)=true by simp[o7],cond_true,Option.bind_some]
  rcases last_cases l with rfl|⟨a,x,rfl⟩
  ·rw[show decide ((((⟨[],r,c⟩:GEd).Left.length:Nat):Int) > 0)=false from rfl,cond_false]
   exact ⟨_,false,rfl,(λ h=>nomatch h),λ _=>by rw[pS,if_neg o4,if_neg o5,if_neg o6,if_pos o7];rfl⟩
  ·simp only[List.length_append,List.length_singleton]at h1
   have hx:Iok x:=h.l x (by simp)
   rw[decide_eq_true (show (((a++[x]).length:Nat):Int) > 0 by rw[List.length_append,List.length_singleton];omega),cond_true,get_end (by omega),Option.bind_some,rc_spec hx,Option.bind_some,Option.bind_some,set_end (by omega)]
   have hp:pressS ⟨a++[x],r,c⟩ k=cond (rc x k.Item.Kind).2 (some ⟨a++[(rc x k.Item.Kind).1],r,c⟩) none:=by
    rw[pS,if_neg o4,if_neg o5,if_neg o6,if_pos o7];simp
   refine ⟨_,(rc x k.Item.Kind).2,rfl,λ hb => ?_,λ hb => ?_⟩
   ·rw[hp,hb];rfl
   ·rw[hp,hb];rfl
 rw[show (k.Op==7)=false by simp[o7],cond_false,Option.bind_some,cond_false]
 exact ⟨_,false,rfl,(λ h=>nomatch h),λ _=>by rw[pS,if_neg o4,if_neg o5,if_neg o6,if_neg o7]⟩
theorem key_some {e o:GEd} {k:GKey} (hp:pressS e k=some o):keyR e k=cond (edB o) (o,true) (e,false):=by
 unfold keyR pressR;rw[hp]
theorem key_none {e:GEd} {k:GKey} (hp:pressS e k=none):keyR e k=(e,false):=by
 unfold keyR pressR;rw[hp];rfl
theorem spec_press {n:Nat} {e:GEd} {k:GKey} (h:EI n e) (hn:n<=900) (hk:Iok k.Item):g_spec_Press e k=some (cond (edB e) (keyR e k) (⟨[],[],[]⟩,false)):=by
 unfold g_spec_Press
 rw[edOk_spec h (by omega),Option.bind_some]
 cases hb:edB e with
 | false=>rfl
 | true =>
  rw[Bool.not_true,cond_false,cond_true,copy_ed h (by omega),Option.bind_some,specIn_eq,Option.bind_some]
  have key:∃ o ok,(cond (decide (0<=k.Op/\k.Op<=3)) ((g_spec_l07Move e k.Op).bind λ y_10=>some (y_10.2,y_10.1)) ((g_spec_l07Change e k).bind λ y_11=>some (y_11.2,y_11.1)):Option (Bool×GEd))=some (ok,o)/\(ok=true->pressS e k=some o)/\(ok=false->pressS e k=none):=by
   by_cases hop:0<=k.Op/\k.Op<=3
   ·obtain ⟨o,ok,e1,e2,e3⟩:=move_eq h hn hb hop
    exact ⟨o,ok,by rw[decide_eq_true hop,cond_true,e1];rfl,e2,e3⟩
   ·obtain ⟨o,ok,e1,e2,e3⟩:=change_eq h hn hop
    exact ⟨o,ok,by rw[decide_eq_false hop,cond_false,e1];rfl,e2,e3⟩
  obtain ⟨o,ok,e1,e2,e3⟩:=key
  rw[e1]
  simp only[Option.bind_some]
  cases ok with
  | false =>
   have hp:=e3 rfl
   rw[Bool.not_false,cond_true,Option.bind_some,cond_true]
   rw[key_none hp]
  | true =>
   have hp:=e2 rfl
   rw[Bool.not_true,cond_false,edOk_spec (pressS_EI h hk hp) (by omega),Option.bind_some,Option.bind_some]
   rw[key_some hp]
   cases edB o<;>rfl
theorem sameI (l:List GItem) (h:l.length<=4000):g_laws_sameItems l l=some true :=
 Eq.trans (eqList (a:=l) (b:=l) (g_laws_sameItems_l0 l l) (g_laws_sameItems l l) rfl (λ k i=>by rw[g_laws_sameItems_l0];simp only[itemBeq,neI]) (by omega)) (by rw[decide_eq_true rfl])
theorem same_ed {n:Nat} {e:GEd} (h:EI n e) (hn:n<=4000):g_laws_sameEd e e=some true:=by
 have:=h.nl;have:=h.nr;have:=h.nc
 unfold g_laws_sameEd
 rw[sameI _ (by omega),Option.bind_some,cond_true,sameI _ (by omega),Option.bind_some,cond_true,sameI _ (by omega)];rfl
theorem noEd:EI 0 ⟨[],[],[]⟩:=⟨.nil, .nil, .nil,Nat.le_refl _,Nat.le_refl _,Nat.le_refl _⟩
theorem key_EI {n:Nat} {e:GEd} {k:GKey} (h:EI n e) (hk:Iok k.Item):EI (2*n+1) (keyR e k).1:=by
 unfold keyR pressR
 cases hp:pressS e k with
 | none=>exact ⟨h.l,h.r,h.c,by have:=h.nl;show e.Left.length<=_;omega,by have:=h.nr;show e.Right.length<=_;omega,by have:=h.nc;show e.Cut.length<=_;omega⟩
 | some o =>
  cases hb:edB o with
  | true=>simp only[hb,cond_true];exact pressS_EI h hk hp
  | false=>simp only[hb,cond_false];exact ⟨h.l,h.r,h.c,by have:=h.nl;omega,by have:=h.nr;omega,by have:=h.nc;omega⟩
theorem key_ok2 {e:GEd} {k:GKey} (hb:edB e=true):edB (keyR e k).1=true/\((keyR e k).2=true->pressS e k=some (keyR e k).1)/\((keyR e k).2=false->(keyR e k).1=e):=by
 unfold keyR pressR
 cases hp:pressS e k with
 | none=>exact ⟨hb,(λ h=>nomatch h),λ _=>rfl⟩
 | some o =>
  cases ho:edB o with
  | true=>simp only[ho,cond_true];exact ⟨trivial,λ _=>trivial,λ h=>nomatch h⟩
  | false=>simp only[ho,cond_false];exact ⟨hb,(λ h=>nomatch h),λ _=>trivial⟩
end Go.Proofs.Ytjdhhpolllkbbaa
namespace Go.Proofs.Ytjdhhpolllkbbaa
open Go Go.Fm
set_option maxRecDepth 100000
def keysR:List GKey->GEd->Int->Int×GEd
 | [],e,n=>(n,e)
 | k::r,e,n=>keysR r (keyR e k).1 (cond (keyR e k).2 n (n+1))
theorem EI.small {n:Nat} {e:GEd} (h:EI n e) (hn:n<=2000) (hb:edB e=true):EI 100 e:=by
 obtain ⟨h1,_,h2,_⟩:=lo_app h hn hb
 exact ⟨h.l,h.r,h.c,by omega,by omega,by omega⟩
theorem key_next {e:GEd} {k:GKey} (h:EI 100 e) (hk:Iok k.Item) (hb:edB e=true):EI 100 (keyR e k).1/\edB (keyR e k).1=true:=by
 obtain ⟨k1,_⟩:=key_ok2 (k:=k) hb
 exact ⟨(key_EI h hk).small (by omega) k1,k1⟩
theorem keys_ok:∀ (l:List GKey) (e:GEd) (n:Int),(∀ k ∈ l,Iok k.Item)->EI 100 e->edB e=true->EI 100 (keysR l e n).2/\edB (keysR l e n).2=true
 | [],e,n,hk,h,hb=>⟨h,hb⟩
 | k::r,e,n,hk,h,hb=>by
  obtain ⟨a,b⟩:=key_next h (hk k (by simp)) hb
  exact keys_ok r _ _ (λ x hx=>hk x (List.mem_cons_of_mem _ hx)) a b
theorem keyLoop {keys:List GKey} (F:Nat->Int->Int->GEd->Option (Int×GEd)) (hk:∀ k ∈ keys,Iok k.Item) (hl:keys.length<=1000)
  (step:∀ (k n:Nat) (m:Int) (e:GEd) (x:GKey),keys[n]? = some x->n < keys.length->EI 100 e->edB e=true->Iok x.Item->0<=m->m<=n->F (k+1) m n e=F k (cond (keyR e x).2 m (m+1)) ((n+1:Nat):Int) (keyR e x).1)
  (fin:∀ (k n:Nat) (m:Int) (e:GEd),keys.length<=n->F (k+1) m n e=some (m,e)) {e:GEd} (h:EI 100 e) (hb:edB e=true):F bigK 0 0 e=some (keysR keys e 0):=by
 have key:∀ (k n:Nat) (m:Int) (e:GEd),n<=keys.length->keys.length-n < k->EI 100 e->edB e=true->0<=m->m<=n->F k m n e=some (keysR (keys.drop n) e m):=by
  intro k
  induction k with
  | zero=>intro n m e h0 h1;omega
  | succ k ih =>
   intro n m e h0 h1 h2 h3 h4 h5
   by_cases hn:n < keys.length
   ·have hx:=hk keys[n] (List.getElem_mem hn)
    obtain ⟨a,b⟩:=key_next h2 hx h3
    rw[step k n m e keys[n] (List.getElem?_eq_getElem hn) hn h2 h3 hx h4 h5,List.drop_eq_getElem_cons hn,keysR]
    refine ih (n+1) _ _ (by omega) (by omega) a b ?_ ?_
    ·cases (keyR e keys[n]).2
     ·show 0<=m+1;omega
     ·exact h4
    ·cases (keyR e keys[n]).2
     ·show m+1<=((n+1:Nat):Int);omega
     ·show m<=((n+1:Nat):Int);omega
   ·rw[fin k n m e (by omega),List.drop_eq_nil_of_le (by omega)];rfl
 have:=key bigK 0 0 e (Nat.zero_le _) (by unfold bigK;omega) h hb (Int.le_refl _) (by omega)
 rw[List.drop_zero]at this
 exact this
theorem impl_all {e:GEd} {keys:List GKey} (h:EI 100 e) (hk:∀ k ∈ keys,Iok k.Item) (hl:keys.length<=1000):g_impl_PressAll e keys=some (cond (edB e) ((keysR keys e 0).2,(keysR keys e 0).1) (⟨[],[],[]⟩,(keys.length:Int))):=by
 unfold g_impl_PressAll
 rw[edOk_impl h (by omega),Option.bind_some]
 cases hb:edB e with
 | false=>rfl
 | true =>
  rw[Bool.not_true,cond_false,cond_true,own_ed h (by omega),Option.bind_some]
  have L:=keyLoop (keys:=keys) (λ k m i x=>g_impl_PressAll_l0 keys (keys.length:Int) k m i x) hk hl (λ k n m e x hx hn he hb hxi h4 h5=>by
   show g_impl_PressAll_l0 keys (keys.length:Int) (k+1) m n e=_
   rw[g_impl_PressAll_l0,decide_eq_true (by omega),cond_true,getI_nat,hx,Option.bind_some,impl_pressed he (by omega) hxi,Option.bind_some,nxt (by omega)]
   unfold keyR
   cases (pressR e x).2 with
   | true=>rfl
   | false=>rw[Bool.not_false,cond_true,wI64 (x:=m+1) (by omega) (by omega)];rfl) (λ k n m e hn=>by
   show g_impl_PressAll_l0 keys (keys.length:Int) (k+1) m n e=_
   rw[g_impl_PressAll_l0,decide_eq_false (by omega),cond_false]) h hb
  rw[L]
  obtain ⟨a,_⟩:=keys_ok keys e 0 hk h hb
  simp only[Option.bind_some]
  rw[own_ed a (by omega)];rfl
theorem spec_all {e:GEd} {keys:List GKey} (h:EI 100 e) (hk:∀ k ∈ keys,Iok k.Item) (hl:keys.length<=1000):g_spec_PressAll e keys=some (cond (edB e) ((keysR keys e 0).2,(keysR keys e 0).1) (⟨[],[],[]⟩,(keys.length:Int))):=by
 unfold g_spec_PressAll
 rw[edOk_spec h (by omega),Option.bind_some]
 cases hb:edB e with
 | false=>rfl
 | true =>
  rw[Bool.not_true,cond_false,cond_true]
  have L:=keyLoop (keys:=keys) (λ k m i x=>g_spec_PressAll_l0 keys k m i x) hk hl (λ k n m e x hx hn he hb hxi h4 h5=>by
   show g_spec_PressAll_l0 keys (k+1) m n e=_
   rw[g_spec_PressAll_l0,decide_eq_true (by omega),cond_true,getI_nat,hx,Option.bind_some,spec_press he (by omega) hxi,hb,cond_true,Option.bind_some,nxt (by omega)]
   cases (keyR e x).2 with
   | true=>rfl
   | false=>rw[Bool.not_false,cond_true,wI64 (x:=m+1) (by omega) (by omega)];rfl) (λ k n m e hn=>by
   show g_spec_PressAll_l0 keys (k+1) m n e=_
   rw[g_spec_PressAll_l0,decide_eq_false (by omega),cond_false]) h hb
  rw[L]
  obtain ⟨a,_⟩:=keys_ok keys e 0 hk h hb
  simp only[Option.bind_some]
  rw[copy_ed a (by omega)];rfl
theorem draw_all {code:List Int} (hc:code.length<=1048576):Tot (g_spec_DrawPressAll code) λ r=>EI 100 r.1/\(∀ k ∈ r.2,Iok k.Item)/\r.2.length<=1000:=by
 unfold g_spec_DrawPressAll
 refine .bind (new_ok hc) λ c h=>.bind (any7_ok h) λ a ha=>.bind (below_ok ha.2 (by decide)) λ b hb => ?_
 have L:=forLoop (n:=b.1) (F:=λ k i (s:List GKey×GL01Cur)=>g_spec_DrawPressAll_l0 b.1 k s.1 i s.2) (λ i s=>((∀ k ∈ s.1,Iok k.Item)/\(s.1.length:Int)=i)/\Cok s.2) (by omega) (λ k i s h0 h1 hI hk=>by
  show Tot (g_spec_DrawPressAll_l0 _ (k+1) s.1 i s.2) _
  unfold g_spec_DrawPressAll_l0
  rw[decide_eq_true h1,cond_true]
  have:=hI.1.2
  refine .bind (key_ok hI.2) λ x hx=>.bindE (app_eq (by simp;omega)) ?_
  rw[wI64 (x:=i+1) (by omega) (by omega)]
  exact hk (_,_) ⟨⟨λ y hy=>(List.mem_append.1 hy).elim (hI.1.1 y) λ hy=>by rw[List.mem_singleton.1 hy];exact hx.1,by show ((s.1++[x.1]).length:Int)=i+1;simp;omega⟩,hx.2⟩) (λ k i s hi _=>by
  show g_spec_DrawPressAll_l0 _ (k+1) s.1 i s.2=_
  unfold g_spec_DrawPressAll_l0
  rw[decide_eq_false (by omega),cond_false]) (s:=([],b.2)) ⟨⟨(λ k hk=>nomatch hk),rfl⟩,hb.2.2⟩
 refine .bind (.bind L λ x hx=>.some (Q:=λ (r:List GKey×GL01Cur)=>(∀ k ∈ r.1,Iok k.Item)/\r.1.length<=1000) ⟨hx.1.1,by have:=hx.1.2;show x.1.length<=1000;omega⟩) λ x hx=>.some ⟨ha.1,hx.1,hx.2⟩
theorem lo_nil:loB []=true:=by unfold loB;rw[show g_impl_ListOk []=some true from by kernel_rfl];rfl
theorem law_fnKeys (code:List Int):g_laws_FnKeys code=some true:=by
 unfold g_laws_FnKeys g_laws_big
 rw[Option.bind_some]
 by_cases hc:code.length<=1048576
 case neg=>rw[decide_eq_true (by omega),cond_true]
 rw[decide_eq_false (by omega),cond_false]
 obtain ⟨q,e1,hE,hK,hL⟩:=draw_all hc
 obtain ⟨e,keys⟩:=q
 simp only at hE hK hL
 rw[e1,Option.bind_some]
 simp only
 rw[impl_all hE hK hL,spec_all hE hK hL]
 simp only[Option.bind_some,bne_self',cond_false]
 rw[edOk_spec hE (by omega)]
 cases hb:edB e with
 | false =>
  simp only[cond_false]
  rw[edOk_impl noEd (by omega)]
  have:edB ⟨[],[],[]⟩=true:=by unfold edB;simp only[List.append_nil];rw[lo_nil];rfl
  rw[this]
  simp only[Option.bind_some,Bool.not_true,cond_false,Bool.not_false,cond_true,beq_self_eq_true]
 | true =>
  simp only[cond_true]
  obtain ⟨a,b⟩:=keys_ok keys e 0 hK hE hb
  rw[edOk_impl a (by omega),b]
  simp only[Option.bind_some,Bool.not_true,cond_false]
  have L:=keyLoop (keys:=keys) (λ k m i x=>g_laws_FnKeys_l0 keys k m i x) hK hL (λ k n m e x hx hn he hb hxi h4 h5=>by
   show g_laws_FnKeys_l0 keys (k+1) m n e=_
   rw[g_laws_FnKeys_l0,decide_eq_true (by omega),cond_true,getI_nat,hx,Option.bind_some,impl_press he (by omega) hxi,hb,cond_true,Option.bind_some,nxt (by omega)]
   cases (keyR e x).2 with
   | true=>rfl
   | false=>rw[Bool.not_false,cond_true,wI64 (x:=m+1) (by omega) (by omega)];rfl) (λ k n m e hn=>by
   show g_laws_FnKeys_l0 keys (k+1) m n e=_
   rw[g_laws_FnKeys_l0,decide_eq_false (by omega),cond_false]) hE hb
  rw[L]
  simp only[Option.bind_some,beq_self_eq_true,cond_true]
  rw[same_ed a (by omega)];rfl
end Go.Proofs.Ytjdhhpolllkbbaa

namespace Go.Proofs.Ytjdhhpolllkbbaa
open Go Go.Fm
set_option maxRecDepth 100000
theorem ans_FnKeys (x0:List Int) (g0:(λ xs:List Int=>xs.length<=maxLen/\∀ x ∈ xs,(λ n:Int=>(Lit.int .u8 n).wf=true) x) x0) :
  Ans Try.prog 5 [.one (.imm 1 x0.length (x0.flatMap (eI .u8)))] [] λ v _=>v=Go.Fm.one (.bool true):=λ hm=>by
 obtain ⟨r,h1,a,b,c,_⟩:=ce_laws_FnKeys (x0) true (good_pure rfl rfl) (law_fnKeys x0) hm
 exact ⟨r,h1,a,b⟩
end Go.Proofs.Ytjdhhpolllkbbaa
