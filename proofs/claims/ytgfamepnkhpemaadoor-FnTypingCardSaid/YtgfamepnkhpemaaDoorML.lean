import Derived.Test.YtgfamepnkhpemaaDoorMK
set_option linter.all false
namespace Go.Proofs.YtgfamepnkhpemaaDoor
open Go Go.Fm
set_option maxRecDepth 100000
theorem last_cases (l:List GItem):(l.length=0/\l.getLast? = none)\/(0 < l.length/\∃ x,l.getLast? = some x/\getI l ((l.length-1:Nat):Int)=some x):=by
 cases h:l.getLast? with
 | none=>exact .inl ⟨by rw[List.getLast?_eq_none_iff.mp h];rfl,rfl⟩
 | some x =>
  refine .inr ⟨?_,x,rfl,last_get h⟩
  cases l with
  | nil=>exact nomatch h
  | cons a l=>simp
theorem last9_impl {l:List GItem} (h2:l.length<=1048576):(cond (decide ((IntKind.wrap .i64 ((l.length:Int)-1)) ≥ 0)) ((getI l (IntKind.wrap .i64 ((l.length:Int)-1))).bind λ v_34=>some (v_34.Kind==9)) (some false):Option Bool)=some (decide (∃ x,l.getLast? = some x/\x.Kind=9)):=by
 rcases last_cases l with ⟨h0,hn⟩|⟨h0,x,hx,hg⟩
 ·rw[h0,show IntKind.wrap .i64 (((0:Nat):Int)-1) = -1 from by decide,hn]
  rw[decide_eq_false (by omega),cond_false,decide_eq_false (by rintro ⟨x,e,_⟩;exact nomatch e)]
 ·rw[lastW l h0 h2,hg,hx,decide_eq_true (by omega),cond_true,Option.bind_some]
  by_cases h9:x.Kind=9
  ·rw[decide_eq_true ⟨x,rfl,h9⟩,h9];rfl
  ·rw[decide_eq_false (by rintro ⟨y,e,h⟩;cases e;exact h9 h),beq_eq_false_iff_ne.mpr h9]
theorem last9_spec {l:List GItem} (h2:l.length<=1048576):(cond (decide ((l.length:Int) > 0)) ((getI l (IntKind.wrap .i64 ((l.length:Int)-1))).bind λ v_34=>some (v_34.Kind==9)) (some false):Option Bool)=some (decide (∃ x,l.getLast? = some x/\x.Kind=9)):=by
 rcases last_cases l with ⟨h0,hn⟩|⟨h0,x,hx,hg⟩
 ·rw[h0,hn]
  rw[decide_eq_false (by omega),cond_false,decide_eq_false (by rintro ⟨x,e,_⟩;exact nomatch e)]
 ·rw[lastW l h0 h2,hg,hx,decide_eq_true (by omega),cond_true,Option.bind_some]
  by_cases h9:x.Kind=9
  ·rw[decide_eq_true ⟨x,rfl,h9⟩,h9];rfl
  ·rw[decide_eq_false (by rintro ⟨y,e,h⟩;cases e;exact h9 h),beq_eq_false_iff_ne.mpr h9]
theorem app1 {out:List GItem} {x:GItem} (h:out.length<=1048576):app out [x]=some (out++[x]):=app_eq (by simp only[List.length_cons,List.length_nil];omega)
theorem b36 {b:UInt8}:b.toNat=36 ↔ b=36:=⟨λ h=>UInt8.toNat_inj.mp h,λ h=>by rw[h];rfl⟩
theorem sm_36 {b:UInt8} {r:List UInt8} (h:b=36):(smV (b::r)).2=false:=sm_dollar (b36.mpr h)
theorem wordF_eq (out:List GItem) (kd:Int) (b:UInt8) (r:List UInt8):wordF out kd (b::r) =
  if kd=3/\(numV b r).2.2=true then (out++[⟨8,[],(numV b r).1,(numV b r).2.1,0⟩],true)
  else if kd=1/\(numV b r).2.2=true then (out++[⟨7,[],(numV b r).1,(numV b r).2.1,0⟩],true)
  else if (smV (b::r)).2=true/\kd=9/\∃ x,out.getLast? = some x/\x.Kind=9 then
   (match out.getLast? with|some x=>(out.set (out.length-1) ⟨x.Kind,x.Name,(smV (b::r)).1,x.Hex,x.Raw⟩,true)|none=>(out,true))
  else (out++[⟨kd,b::r,0,false,0⟩],itemOkB ⟨kd,b::r,0,false,0⟩):=rfl
theorem l16Number_eq {kd:Int} {b:UInt8} {r:List UInt8}:∃ it,g_spec_l16Number kd (b::r)=some (it,decide ((kd=3\/kd=1)/\(numV b r).2.2=true)) ∧
  ((kd=3\/kd=1)/\(numV b r).2.2=true->it=⟨if kd=1 then 7 else 8,[],(numV b r).1,(numV b r).2.1,0⟩):=by
 unfold g_spec_l16Number
 have hk:(cond (kd==1) (some (⟨7,[],0,false,0⟩:GItem)) (some (⟨8,[],0,false,0⟩:GItem)):Option GItem)=some ⟨if kd=1 then 7 else 8,[],0,false,0⟩:=by
  by_cases h:kd=1
  ·rw[if_pos h,h];rfl
  ·rw[if_neg h,beq_eq_false_iff_ne.mpr h];rfl
 rw[hk,Option.bind_some]
 have hc:(cond (kd != 3) (some (kd != 1)) (some false):Option Bool)=some (decide (¬ (kd=3\/kd=1))):=by
  by_cases h3:kd=3
  ·rw[h3];rfl
  ·by_cases h1:kd=1
   ·rw[h1];rfl
   ·rw[show (kd != 3)=true by simp[h3],show (kd != 1)=true by simp[h1],decide_eq_true (by omega)];rfl
 rw[hc,Option.bind_some]
 by_cases hp:kd=3\/kd=1
 ·rw[decide_eq_false (not_not_intro hp),cond_false,idx_head,Option.bind_some]
  unfold numV
  by_cases h36:b=36
  ·rw[if_pos h36,show ((b.toNat:Int)==36)=true by rw[b36.mpr h36];rfl,cond_true,subL_drop (by omega) (by rw[List.length_cons];omega),Option.bind_some]
   show ∃ it,Option.bind (g_spec_ReadHex r) _=_/\_
   rw[spec_rh,Option.bind_some]
   refine ⟨_,?_,λ _=>rfl⟩
   cases h:(hexV r).2 with
   | true=>rw[decide_eq_true ⟨hp,rfl⟩]
   | false=>rw[decide_eq_false (by rintro ⟨_,h⟩;exact nomatch h)]
  ·rw[if_neg h36,show ((b.toNat:Int)==36)=false by rw[beq_eq_false_iff_ne];intro h;exact h36 (b36.mp (by omega)),cond_false,l06Dec_eq,Option.bind_some]
   refine ⟨_,?_,λ _=>rfl⟩
   cases h:(smV (b::r)).2 with
   | true=>rw[decide_eq_true ⟨hp,rfl⟩]
   | false=>rw[decide_eq_false (by rintro ⟨_,h⟩;exact nomatch h)]
 ·rw[decide_eq_true hp,cond_true]
  exact ⟨_,by rw[decide_eq_false (λ q=>hp q.1)],λ q=>absurd q.1 hp⟩
theorem word_spec {out:List GItem} {kd:Int} {b:UInt8} {r:List UInt8} (ho:out.length<=1048576) (hw:(b::r).length<=1048576):g_spec_l16Word out kd (b::r)=some (wordF out kd (b::r)):=by
 unfold g_spec_l16Word
 obtain ⟨it,e,hit⟩:=l16Number_eq (kd:=kd) (b:=b) (r:=r)
 rw[e,Option.bind_some,wordF_eq]
 by_cases hn:(kd=3\/kd=1)/\(numV b r).2.2=true
 ·rw[decide_eq_true hn,cond_true,app1 ho,Option.bind_some,hit hn]
  rcases hn with ⟨h3|h1,h2⟩
  ·rw[if_neg (show ¬ kd=1 by omega),if_pos ⟨h3,h2⟩]
  ·rw[if_pos h1,if_neg (λ q=>absurd q.1 (by omega)),if_pos ⟨h1,h2⟩]
 ·rw[decide_eq_false hn,cond_false,if_neg (λ q=>hn ⟨.inl q.1,q.2⟩),if_neg (λ q=>hn ⟨.inr q.1,q.2⟩),l06Dec_eq,Option.bind_some]
  have hitem:((app out [(⟨kd,b::r,0,false,0⟩:GItem)]).bind λ v_12=>(g_spec_ItemOk (⟨kd,b::r,0,false,0⟩:GItem)).bind λ y_13=>some (v_12,y_13))=some (out++[⟨kd,b::r,0,false,0⟩],itemOkB ⟨kd,b::r,0,false,0⟩):=by
   rw[app1 ho,Option.bind_some,itemOk_spec (itS_w hw),Option.bind_some]
  cases hs:(smV (b::r)).2 with
  | false=>rw[cond_false,Option.bind_some,cond_false,hitem,if_neg (by rintro ⟨h,_⟩;exact nomatch h)]
  | true =>
   rw[cond_true,last9_spec ho]
   by_cases h9:kd=9
   ·rw[h9,show ((9:Int)==9)=true from rfl,cond_true,Option.bind_some]
    by_cases hl:∃ x,out.getLast? = some x/\x.Kind=9
    ·obtain ⟨x,hx,hk⟩:=hl
     rcases last_cases out with ⟨h0,hn⟩|⟨h0,y,hy,hg⟩
     ·rw[hn]at hx;exact nomatch hx
     ·rw[hx]at hy;cases hy
      rw[decide_eq_true ⟨x,hx,hk⟩,cond_true,lastW out h0 ho,hg,Option.bind_some,if_pos ⟨rfl,rfl,x,hx,hk⟩,hx]
      rfl
    ·rw[decide_eq_false hl,cond_false,if_neg (λ q=>hl q.2.2),<-h9,hitem]
   ·rw[beq_eq_false_iff_ne.mpr h9,cond_false,Option.bind_some,cond_false,hitem,if_neg (λ q=>h9 q.2.1)]
theorem cut_eq (b:UInt8) (r:List UInt8):g_strings_CutPrefix (b::r) [36]=some (if b=36 then (r,true) else (b::r,false)):=by
 unfold g_strings_CutPrefix g_istringslite_CutPrefix g_istringslite_HasPrefix
 rw[decide_eq_true (by simp only[List.length_cons,List.length_nil];omega),cond_true,subL_take (by omega) (by simp only[List.length_cons,List.length_nil];omega),Option.bind_some,Option.bind_some]
 by_cases h:b=36
 ·subst h
  rw[if_pos rfl]
  show Option.bind (Option.bind (subL _ _ _) _) _=_
  rw[subL_drop (by simp only[List.length_cons,List.length_nil];omega) (by simp only[List.length_cons,List.length_nil];omega)]
  rfl
 ·rw[if_neg h,show (List.take (([36]:List UInt8).length:Int).toNat (b::r)==[36])=false by rw[beq_eq_false_iff_ne];intro e;exact h (List.cons.inj e).1]
  rfl
theorem typed_num {b:UInt8} {r:List UInt8} (hw:(b::r).length<=1048576):∃ v hx,g_impl_typedNumber (b::r)=some (v,hx,(numV b r).2.2)/\((numV b r).2.2=true->v=(numV b r).1/\hx=(numV b r).2.1):=by
 unfold g_impl_typedNumber
 obtain ⟨v,hv,hq⟩:=small_eq hw
 rw[cut_eq,Option.bind_some]
 unfold numV
 rw[List.length_cons]at hw
 by_cases h:b=36
 ·rw[if_pos h,if_pos h]
  show ∃ v hx,Option.bind (Option.bind (g_impl_ReadHex r) _) _=_/\_
  rw[impl_rh (by omega),Option.bind_some]
  cases hh:(hexV r).2 with
  | true=>rw[cond_true,Option.bind_some];exact ⟨_,_,rfl,λ _=>⟨rfl,rfl⟩⟩
  | false =>
   rw[cond_false,Option.bind_some]
   show ∃ v hx,Option.bind (g_impl_small _) _=_/\_
   rw[hv,sm_36 h]
   exact ⟨_,_,rfl,λ h=>nomatch h⟩
 ·rw[if_neg h,if_neg h]
  show ∃ v hx,Option.bind (g_impl_small _) _=_/\_
  rw[hv]
  exact ⟨_,_,rfl,λ h=>⟨hq h,rfl⟩⟩
theorem step_impl {vs:List GSpot} {n:Int} {k i:Nat} {out:List GItem} {kd kd':Int} {sp:GSpot} {b:UInt8} {r:List UInt8} (hi:(i:Int) < n) (hi2:i<=1048576) (hg:getI vs (i:Int)=some sp) (hsp:sp.word.length<=1048576) (hs:stripW kd sp.word=(kd',b::r)) (ho:out.length<=1048576) :
  g_impl_Typed_l0 vs n (k+1) out kd (i:Int)=if (wordF out kd' (b::r)).2=true then g_impl_Typed_l0 vs n k (wordF out kd' (b::r)).1 kd' ((i+1:Nat):Int) else some (.inr (IntKind.wrap .i64 (sp.at_+1))):=by
 have hw:(b::r).length<=1048576:=by have:=strip_len sp.word kd;rw[hs]at this;exact Nat.le_trans this hsp
 have hnx:IntKind.wrap .i64 ((i:Int)+1)=((i+1:Nat):Int):=by rw[wI64 (by omega) (by omega)];rfl
 rw[g_impl_Typed_l0,decide_eq_true hi,cond_true,hg,Option.bind_some,strip_impl _ _ _ (by unfold bigK;omega),Option.bind_some,hs,hnx]
 show Option.bind (cond (b::r==[]) _ _) _=_
 rw[show ((b::r)==[])=false from rfl,cond_false]
 generalize hp:wordF out kd' (b::r)=p
 rw[wordF_eq]at hp
 obtain ⟨v,hx,hn,hv⟩:=typed_num hw
 rw[hn,Option.bind_some]
 have hitem:∀ {f:(List GItem×Int) ⊕ Int->Option (List GItem ⊕ Int)},Option.bind ((g_impl_ItemOk (⟨kd',b::r,0,false,0⟩:GItem)).bind λ y_36=>cond (!y_36) (some (.inr (IntKind.wrap .i64 (sp.at_+1)))) ((app out [(⟨kd',b::r,0,false,0⟩:GItem)]).bind λ v_37=>some (.inl (v_37,kd')))) f
   = if itemOkB ⟨kd',b::r,0,false,0⟩=true then f (.inl (out++[⟨kd',b::r,0,false,0⟩],kd')) else f (.inr (IntKind.wrap .i64 (sp.at_+1))):=by
  intro f
  rw[itemOk_impl (itS_w hw),Option.bind_some,app1 ho]
  cases itemOkB ⟨kd',b::r,0,false,0⟩ with
  | true=>rw[if_pos rfl];rfl
  | false=>rw[if_neg (λ h=>nomatch h)];rfl
 cases hok:(numV b r).2.2 with
 | false =>
  have hsm:(smV (b::r)).2=false:=by
   unfold numV at hok
   split at hok
   ·rename_i h;exact sm_36 h
   ·exact hok
  rw[hok,if_neg (λ q=>nomatch q.2),if_neg (λ q=>nomatch q.2),hsm,if_neg (λ q=>nomatch q.1)]at hp
  subst hp
  simp only[cond_false,Option.bind_some]
  rw[hitem]
 | true =>
  obtain ⟨rfl,rfl⟩:=hv hok
  rw[hok]at hp
  simp only[cond_true,Option.bind_some]
  by_cases h3:kd'=3
  ·subst h3
   rw[if_pos ⟨rfl,rfl⟩]at hp
   subst hp
   rw[show ((3:Int)==3)=true from rfl,cond_true,app1 ho,if_pos rfl];rfl
  ·rw[if_neg (λ q=>h3 q.1)]at hp
   rw[beq_eq_false_iff_ne.mpr h3,cond_false]
   by_cases h1:kd'=1
   ·subst h1
    rw[if_pos ⟨rfl,rfl⟩]at hp
    subst hp
    rw[show ((1:Int)==1)=true from rfl,cond_true,app1 ho,if_pos rfl];rfl
   ·rw[if_neg (λ q=>h1 q.1)]at hp
    rw[beq_eq_false_iff_ne.mpr h1,cond_false,last9_impl ho]
    by_cases h36:b=36
    ·have e1:(numV b r).2.1=true:=by unfold numV;rw[if_pos h36]
     rw[sm_36 h36,if_neg (λ q=>nomatch q.1)]at hp
     subst hp
     rw[e1,Bool.not_true,cond_false,Option.bind_some,cond_false,hitem]
    ·have e1:(numV b r).2.1=false:=by unfold numV;rw[if_neg h36]
     have e2:(numV b r).1=(smV (b::r)).1:=by unfold numV;rw[if_neg h36]
     have e3:(smV (b::r)).2=true:=by unfold numV at hok;rw[if_neg h36]at hok;exact hok
     rw[e3]at hp
     rw[e1,e2,Bool.not_false,cond_true]
     by_cases h9:kd'=9
     ·rw[show (kd'==9)=true by rw[h9];rfl,cond_true,Option.bind_some]
      by_cases hl:∃ x,out.getLast? = some x/\x.Kind=9
      ·obtain ⟨x,hx,hk⟩:=hl
       rcases last_cases out with ⟨h0,hn⟩|⟨h0,y,hy,hg⟩
       ·rw[hn]at hx;exact nomatch hx
       ·rw[hx]at hy;cases hy
        rw[if_pos ⟨rfl,h9,x,hx,hk⟩,hx]at hp
        subst hp
        rw[decide_eq_true ⟨x,hx,hk⟩,cond_true,lastW out h0 ho,hg,Option.bind_some,if_pos rfl]
        rfl
      ·rw[if_neg (λ q=>hl q.2.2)]at hp
       subst hp
       rw[decide_eq_false hl,cond_false,hitem]
     ·rw[if_neg (λ q=>h9 q.2.1)]at hp
      subst hp
      rw[beq_eq_false_iff_ne.mpr h9,cond_false,Option.bind_some,cond_false,hitem]
end Go.Proofs.YtgfamepnkhpemaaDoor
namespace Go.Proofs.YtgfamepnkhpemaaDoor
open Go Go.Fm
set_option maxRecDepth 100000
def blB (b:UInt8):Bool:=b.toNat==32 || b.toNat==9 || b.toNat==10
theorem blank_spec (b:UInt8):g_spec_l01Blank (b.toNat:Int)=some (blB b):=by
 unfold g_spec_l01Blank blB
 have e:∀ m:Nat,((b.toNat:Int)==(m:Int))=(b.toNat==m):=λ m=>by
  cases h:(b.toNat==m) with
  | true=>rw[beq_iff_eq]at h ⊢;omega
  | false=>rw[beq_eq_false_iff_ne]at h ⊢;omega
 rw[show (32:Int)=((32:Nat):Int) from rfl,show (9:Int)=((9:Nat):Int) from rfl,show (10:Int)=((10:Nat):Int) from rfl,e,e,e]
 cases b.toNat==32<;>cases b.toNat==9<;>rfl
theorem blank_impl (b:UInt8):g_impl_isSpace (b.toNat:Int)=some (blB b):=by
 unfold g_impl_isSpace blB
 have e:∀ m:Nat,((b.toNat:Int)==(m:Int))=(b.toNat==m):=λ m=>by
  cases h:(b.toNat==m) with
  | true=>rw[beq_iff_eq]at h ⊢;omega
  | false=>rw[beq_eq_false_iff_ne]at h ⊢;omega
 rw[show (32:Int)=((32:Nat):Int) from rfl,show (9:Int)=((9:Nat):Int) from rfl,show (10:Int)=((10:Nat):Int) from rfl,e,e,e]
 cases b.toNat==32<;>cases b.toNat==10<;>cases b.toNat==9<;>rfl
def wordLen:List UInt8->Nat
 | []=>0
 | b::r=>if blB b=true then 0 else wordLen r+1
theorem wordLen_le:∀ l:List UInt8,wordLen l<=l.length
 | []=>Nat.le_refl _
 | b::r=>by rw[wordLen];have:=wordLen_le r;split<;>simp<;>omega
theorem drop_at {s:List UInt8} {i:Nat} {b:UInt8} {r:List UInt8} (h:s.drop i=b::r):i < s.length/\s[i]? = some b/\s.drop (i+1)=r:=by
 have hl:i < s.length:=by
  rcases Nat.lt_or_ge i s.length with h'|h'
  ·exact h'
  ·rw[List.drop_eq_nil_of_le h']at h;exact nomatch h
 have e:=List.drop_eq_getElem_cons hl
 rw[h]at e
 exact ⟨hl,by rw[List.getElem?_eq_getElem hl,(List.cons.inj e).1],(List.cons.inj e).2.symm⟩
theorem drop_none {s:List UInt8} {i:Nat} (h:s.drop i=[]):s.length<=i:=List.drop_eq_nil_iff.mp h
theorem end_spec {s:List UInt8} (hs:s.length<=1048576):∀ (l:List UInt8) (k i:Nat),s.drop i=l->i<=s.length->l.length < k->g_spec_Typed_l1 s k (i:Int)=some ((i+wordLen l:Nat):Int):=by
 intro l
 induction l with
 | nil =>
  intro k i h hi hk
  obtain ⟨k,rfl⟩:∃ k',k=k'+1:=⟨k-1,by omega⟩
  rw[g_spec_Typed_l1,decide_eq_false (by have:=drop_none h;omega)];rfl
 | cons b r ih =>
  intro k i h hi hk
  obtain ⟨k,rfl⟩:∃ k',k=k'+1:=⟨k-1,by omega⟩
  obtain ⟨hl,hg,hd⟩:=drop_at h
  rw[List.length_cons]at hk
  rw[g_spec_Typed_l1,decide_eq_true (by omega),cond_true,idxS_at hg,Option.bind_some,blank_spec,Option.bind_some,Option.bind_some,wordLen]
  cases hb:blB b with
  | true=>rw[Bool.not_true,cond_false,if_pos rfl];rfl
  | false =>
   rw[Bool.not_false,cond_true,if_neg (λ h=>nomatch h),wI64 (by omega) (by omega),show (i:Int)+1=((i+1:Nat):Int) from rfl,ih k (i+1) hd hl (by omega),show i+1+wordLen r=i+(wordLen r+1) by omega]
theorem end_impl {s:List UInt8} (hs:s.length<=1048576):∀ (l:List UInt8) (k i:Nat),s.drop i=l->i<=s.length->l.length < k->g_impl_spots_l1 s k (i:Int)=some ((i+wordLen l:Nat):Int):=by
 intro l
 induction l with
 | nil =>
  intro k i h hi hk
  obtain ⟨k,rfl⟩:∃ k',k=k'+1:=⟨k-1,by omega⟩
  rw[g_impl_spots_l1,decide_eq_false (by have:=drop_none h;omega)];rfl
 | cons b r ih =>
  intro k i h hi hk
  obtain ⟨k,rfl⟩:∃ k',k=k'+1:=⟨k-1,by omega⟩
  obtain ⟨hl,hg,hd⟩:=drop_at h
  rw[List.length_cons]at hk
  rw[g_impl_spots_l1,decide_eq_true (by omega),cond_true,idxS_at hg,Option.bind_some,blank_impl,Option.bind_some,Option.bind_some,wordLen]
  cases hb:blB b with
  | true=>rw[Bool.not_true,cond_false,if_pos rfl];rfl
  | false =>
   rw[Bool.not_false,cond_true,if_neg (λ h=>nomatch h),wI64 (by omega) (by omega),show (i:Int)+1=((i+1:Nat):Int) from rfl,ih k (i+1) hd hl (by omega),show i+1+wordLen r=i+(wordLen r+1) by omega]
def spotsL:Nat->Int->List UInt8->List GSpot
 | 0,_,_=>[]
 | _+1,_,[]=>[]
 | f+1,p,b::r=>if blB b=true then spotsL f (p+1) r else ⟨(b::r).take (wordLen (b::r)),p⟩::spotsL f (p+wordLen (b::r)) ((b::r).drop (wordLen (b::r)))
theorem wordLen_pos {b:UInt8} {r:List UInt8} (h:blB b=false):1<=wordLen (b::r):=by rw[wordLen,h];simp
theorem sub_word {s:List UInt8} {i:Nat} {l:List UInt8} (h:s.drop i=l) (hi:i<=s.length):subL s (i:Int) ((i+wordLen l:Nat):Int)=some (l.take (wordLen l)):=by
 have hw:=wordLen_le l
 have hl:l.length=s.length-i:=by rw[<-h,List.length_drop]
 rw[subL_eq (by omega) (by omega) (by omega),show ((i:Nat):Int).toNat=i from rfl,h,show (((i+wordLen l:Nat):Int).toNat-i)=wordLen l by omega]
theorem spots_impl {s:List UInt8} (hs:s.length<=1048576):∀ (f i k:Nat) (out:List GSpot) (l:List UInt8),s.drop i=l->i<=s.length->l.length<=f->f < k->out.length<=i →
  g_impl_spots_l0 s k out (i:Int)=some (out++spotsL f i l):=by
 intro f
 induction f with
 | zero =>
  intro i k out l h hi hf hk ho
  obtain ⟨k,rfl⟩:∃ k',k=k'+1:=⟨k-1,by omega⟩
  have hn:l=[]:=List.length_eq_zero_iff.mp (by omega)
  subst hn
  rw[g_impl_spots_l0,decide_eq_false (by have:=drop_none h;omega),cond_false,spotsL,List.append_nil]
 | succ f ih =>
  intro i k out l h hi hf hk ho
  obtain ⟨k,rfl⟩:∃ k',k=k'+1:=⟨k-1,by omega⟩
  cases l with
  | nil=>rw[g_impl_spots_l0,decide_eq_false (by have:=drop_none h;omega),cond_false,spotsL,List.append_nil]
  | cons b r =>
   obtain ⟨hl,hg,hd⟩:=drop_at h
   have hlen:(b::r).length=s.length-i:=by rw[<-h,List.length_drop]
   have hwl:=wordLen_le (b::r)
   rw[List.length_cons]at hf
   rw[g_impl_spots_l0,decide_eq_true (by omega),cond_true,idxS_at hg,Option.bind_some,blank_impl,Option.bind_some,spotsL]
   cases hb:blB b with
   | true =>
    rw[cond_true,if_pos rfl,wI64 (by omega) (by omega),show (i:Int)+1=((i+1:Nat):Int) from rfl]
    exact ih (i+1) k out r hd hl (by omega) (by omega) (by omega)
   | false =>
    have hp:=wordLen_pos (r:=r) hb
    rw[cond_false,if_neg (λ h=>nomatch h),end_impl hs (b::r) bigK i h hi (by unfold bigK;omega),Option.bind_some,sub_word h hi,Option.bind_some,app_eq (by rw[List.length_singleton];omega),Option.bind_some,
     ih (i+wordLen (b::r)) k _ ((b::r).drop (wordLen (b::r))) (by rw[<-h,List.drop_drop]) (by omega) (by rw[List.length_drop,List.length_cons];omega) (by omega) (by rw[List.length_append,List.length_singleton];omega)]
    rw[List.append_assoc];rfl
def foldF:List GSpot->List GItem->Int->List GItem ⊕ Int
 | [],out,kd=>.inl out
 | sp::r,out,kd =>
  if (stripW kd sp.word).2=[] then foldF r out (stripW kd sp.word).1
  else if (wordF out (stripW kd sp.word).1 (stripW kd sp.word).2).2=true then foldF r (wordF out (stripW kd sp.word).1 (stripW kd sp.word).2).1 (stripW kd sp.word).1
  else .inr (sp.at_+1)
theorem wordF_len (out:List GItem) (kd:Int) (w:List UInt8):(wordF out kd w).1.length<=out.length+1:=by
 cases w with
 | nil=>exact Nat.le_succ _
 | cons b r =>
  rw[wordF_eq]
  repeat' split
  all_goals simp
def SpOk (n:Nat) (l:List GSpot):Prop:=∀ sp ∈ l,sp.word.length<=1048576/\0<=sp.at_/\sp.at_ < n
theorem fold_impl {vs:List GSpot} (hv:vs.length<=1048576) (ho:SpOk 1048576 vs):∀ (l:List GSpot) (k i:Nat) (out:List GItem) (kd:Int),vs.drop i=l->i<=vs.length->l.length < k->out.length<=i →
  g_impl_Typed_l0 vs (vs.length:Int) k out kd (i:Int)=some (foldF l out kd):=by
 intro l
 induction l with
 | nil =>
  intro k i out kd h hi hk hout
  obtain ⟨k,rfl⟩:∃ k',k=k'+1:=⟨k-1,by omega⟩
  rw[g_impl_Typed_l0,decide_eq_false (by have:=List.drop_eq_nil_iff.mp h;omega),cond_false,foldF]
 | cons sp r ih =>
  intro k i out kd h hi hk hout
  obtain ⟨k,rfl⟩:∃ k',k=k'+1:=⟨k-1,by omega⟩
  have hl:i < vs.length:=by
   rcases Nat.lt_or_ge i vs.length with h'|h'
   ·exact h'
   ·rw[List.drop_eq_nil_of_le h']at h;exact nomatch h
  have e:=List.drop_eq_getElem_cons hl
  rw[h]at e
  have hg:getI vs (i:Int)=some sp:=by rw[getI_nat,List.getElem?_eq_getElem hl,(List.cons.inj e).1]
  have hd:vs.drop (i+1)=r:=(List.cons.inj e).2.symm
  obtain ⟨o1,o2,o3⟩:=ho sp (List.mem_of_mem_drop (by rw[h];exact List.mem_cons_self))
  rw[List.length_cons]at hk
  rw[foldF]
  generalize hs:stripW kd sp.word=p
  obtain ⟨kd',w⟩:=p
  cases w with
  | nil =>
   rw[if_pos rfl,g_impl_Typed_l0,decide_eq_true (by omega),cond_true,hg,Option.bind_some,strip_impl _ _ _ (by unfold bigK;omega),Option.bind_some,hs]
   show g_impl_Typed_l0 _ _ _ _ _ _=_
   rw[wI64 (by omega) (by omega)]
   exact ih k (i+1) out kd' hd hl (by omega) (by omega)
  | cons b t =>
   rw[if_neg (by simp),step_impl (by omega) (by omega) hg o1 hs (by omega)]
   have:=wordF_len out kd' (b::t)
   cases hw:(wordF out kd' (b::t)).2 with
   | true=>rw[if_pos rfl,if_pos rfl];exact ih k (i+1) _ kd' hd hl (by omega) (by omega)
   | false=>rw[if_neg (λ h=>nomatch h),if_neg (λ h=>nomatch h),wI64 (by omega) (by omega)]
def outS (r:List GItem ⊕ Int):List GItem ⊕ (List GItem×Int):=match r with | .inl l=>.inl l | .inr p=>.inr ([],p)
theorem fold_spec {s:List UInt8} (hs:s.length<=6000):∀ (f i k:Nat) (out:List GItem) (kd:Int) (l:List UInt8),s.drop i=l->i<=s.length->l.length<=f->f < k->out.length<=i →
  g_spec_Typed_l0 s k out kd (i:Int)=some (outS (foldF (spotsL f i l) out kd)):=by
 intro f
 induction f with
 | zero =>
  intro i k out kd l h hi hf hk ho
  obtain ⟨k,rfl⟩:∃ k',k=k'+1:=⟨k-1,by omega⟩
  have hn:l=[]:=List.length_eq_zero_iff.mp (by omega)
  subst hn
  rw[g_spec_Typed_l0,decide_eq_false (by have:=drop_none h;omega),cond_false,spotsL,foldF];rfl
 | succ f ih =>
  intro i k out kd l h hi hf hk ho
  obtain ⟨k,rfl⟩:∃ k',k=k'+1:=⟨k-1,by omega⟩
  cases l with
  | nil=>rw[g_spec_Typed_l0,decide_eq_false (by have:=drop_none h;omega),cond_false,spotsL,foldF];rfl
  | cons b r =>
   obtain ⟨hl,hg,hd⟩:=drop_at h
   have hlen:(b::r).length=s.length-i:=by rw[<-h,List.length_drop]
   have hwl:=wordLen_le (b::r)
   rw[List.length_cons]at hf
   rw[g_spec_Typed_l0,decide_eq_true (by omega),cond_true,idxS_at hg,Option.bind_some,blank_spec,Option.bind_some,spotsL]
   cases hb:blB b with
   | true =>
    rw[cond_true,if_pos rfl,wI64 (by omega) (by omega),show (i:Int)+1=((i+1:Nat):Int) from rfl]
    exact ih (i+1) k out kd r hd hl (by omega) (by omega) (by omega)
   | false =>
    have hp:=wordLen_pos (r:=r) hb
    have htk:((b::r).take (wordLen (b::r))).length<=6000:=by rw[List.length_take];omega
    rw[cond_false,if_neg (λ h=>nomatch h),end_spec (by omega) (b::r) bigK i h hi (by unfold bigK;omega),Option.bind_some,sub_word h hi,Option.bind_some,strip_spec _ _ _ (by unfold bigK;omega),Option.bind_some,foldF]
    have hsl:=strip_len ((b::r).take (wordLen (b::r))) kd
    have go:∀ (o:List GItem) (kd':Int),o.length<=i+wordLen (b::r)->g_spec_Typed_l0 s k o kd' ((i+wordLen (b::r):Nat):Int)=some (outS (foldF (spotsL f ((i:Int)+wordLen (b::r)) ((b::r).drop (wordLen (b::r)))) o kd')):=λ o kd' h1 =>
     ih (i+wordLen (b::r)) k o kd' _ (by rw[<-h,List.drop_drop]) (by omega) (by rw[List.length_drop,List.length_cons];omega) (by omega) h1
    generalize hs':stripW kd ((b::r).take (wordLen (b::r)))=p at hsl ⊢
    obtain ⟨kd',w⟩:=p
    cases w with
    | nil =>
     rw[if_pos rfl]
     show g_spec_Typed_l0 _ _ _ _ _=_
     exact go out kd' (by omega)
    | cons c t =>
     have h1:(c::t).length<=6000:=Nat.le_trans hsl htk
     show Option.bind (cond ((c::t) != []) _ _) _=_
     rw[show ((c::t) != [])=true from rfl,cond_true,word_spec (by omega) (by omega),Option.bind_some,if_neg (by simp)]
     have:=wordF_len out kd' (c::t)
     cases hw:(wordF out kd' (c::t)).2 with
     | true =>
      rw[if_pos rfl]
      show g_spec_Typed_l0 _ _ _ _ _=_
      exact go _ kd' (by omega)
     | false =>
      rw[if_neg (λ h=>nomatch h),wI64 (by omega) (by omega)]
      rfl
theorem spots_ok {n:Nat}:∀ (f p:Nat) (l:List UInt8),p+l.length<=n->n<=1048576->SpOk n (spotsL f p l)/\(spotsL f p l).length<=l.length:=by
 intro f
 induction f with
 | zero=>intro p l h hn;rw[spotsL];exact ⟨(λ _ h=>nomatch h),Nat.zero_le _⟩
 | succ f ih =>
  intro p l h hn
  cases l with
  | nil=>rw[spotsL];exact ⟨(λ _ h=>nomatch h),Nat.zero_le _⟩
  | cons b r =>
   have hwl:=wordLen_le (b::r)
   rw[spotsL]
   cases hb:blB b with
   | true =>
    rw[if_pos rfl]
    rw[List.length_cons]at h
    obtain ⟨q1,q2⟩:=ih (p+1) r (by omega) hn
    exact ⟨q1,by rw[List.length_cons];exact Nat.le_trans q2 (Nat.le_succ _)⟩
   | false =>
    have hp:=wordLen_pos (r:=r) hb
    rw[if_neg (λ h=>nomatch h)]
    obtain ⟨q1,q2⟩:=ih (p+wordLen (b::r)) ((b::r).drop (wordLen (b::r))) (by rw[List.length_drop];omega) hn
    rw[List.length_drop]at q2
    refine ⟨λ sp hsp => ?_,?_⟩
    ·rcases List.mem_cons.mp hsp with rfl|h'
     ·refine ⟨?_,Int.natCast_nonneg p,?_⟩
      ·show (List.take _ _).length<=_
       rw[List.length_take];omega
      ·show (p:Int) < n
       rw[List.length_cons]at h;omega
     ·exact q1 sp h'
    ·rw[List.length_cons]
     have:(spotsL f ((p:Int)+(wordLen (b::r):Nat)) ((b::r).drop (wordLen (b::r)))).length<=(b::r).length-wordLen (b::r):=q2
     omega
def spotsOf (s:List UInt8):List GSpot:=spotsL s.length 0 s
def typedR (s:List UInt8):List GItem×Int:=if s.length > 6000 then ([],1) else match foldF (spotsOf s) [] 3 with | .inl l=>(l,0) | .inr p=>([],p)
theorem impl_typed (s:List UInt8):g_impl_Typed s=some (typedR s):=by
 unfold g_impl_Typed typedR
 by_cases h:s.length > 6000
 ·rw[decide_eq_true (by omega),cond_true,if_pos h]
 ·rw[decide_eq_false (by omega),cond_false,if_neg h]
  obtain ⟨q1,q2⟩:=spots_ok (n:=1048576) s.length 0 s (by omega) (Nat.le_refl _)
  have hsp:g_impl_spots s=some (spotsOf s):=by
   unfold g_impl_spots
   rw[show g_impl_spots_l0 s bigK ([]:List GSpot) 0=some ([]++spotsL s.length 0 s) from spots_impl (by omega) s.length 0 bigK [] s rfl (by omega) (Nat.le_refl _) (by unfold bigK;omega) (Nat.le_refl _)]
   rfl
  have hf:g_impl_Typed_l0 (spotsOf s) ((spotsOf s).length:Int) bigK ([]:List GItem) 3 0=some (foldF (spotsOf s) [] 3) :=
   fold_impl (vs:=spotsOf s) (Nat.le_trans q2 (by omega)) q1 (spotsOf s) bigK 0 [] 3 rfl (Nat.zero_le _) (Nat.lt_of_le_of_lt q2 (by unfold bigK;omega)) (Nat.le_refl _)
  rw[hsp,Option.bind_some,hf,Option.bind_some]
  cases foldF (spotsOf s) [] 3<;>rfl
theorem spec_typed (s:List UInt8):g_spec_Typed s=some (typedR s):=by
 unfold g_spec_Typed typedR
 by_cases h:s.length > 6000
 ·rw[decide_eq_true (by omega),cond_true,if_pos h]
 ·rw[decide_eq_false (by omega),cond_false,if_neg h]
  have hf:g_spec_Typed_l0 s bigK ([]:List GItem) 3 0=some (outS (foldF (spotsOf s) [] 3)) :=
   fold_spec (by omega) s.length 0 bigK [] 3 s rfl (Nat.zero_le _) (Nat.le_refl _) (by unfold bigK;omega) (Nat.le_refl _)
  rw[hf,Option.bind_some]
  cases foldF (spotsOf s) [] 3<;>rfl
end Go.Proofs.YtgfamepnkhpemaaDoor
namespace Go.Proofs.YtgfamepnkhpemaaDoor
open Go Go.Fm
set_option maxRecDepth 100000
theorem fold_len:∀ (l:List GSpot) (out:List GItem) (kd:Int) (r:List GItem),foldF l out kd=.inl r->r.length<=out.length+l.length:=by
 intro l
 induction l with
 | nil=>intro out kd r h;rw[foldF]at h;cases h;exact Nat.le_refl _
 | cons sp t ih =>
  intro out kd r h
  rw[foldF]at h
  rw[List.length_cons]
  split at h
  ·have:=ih _ _ _ h;omega
  ·split at h
   ·have:=ih _ _ _ h
    have:=wordF_len out (stripW kd sp.word).1 (stripW kd sp.word).2
    omega
   ·exact nomatch h
theorem spotsOf_ok {s:List UInt8} (h:s.length<=6000):SpOk s.length (spotsOf s)/\(spotsOf s).length<=s.length:=by
 have:=spots_ok (n:=s.length) s.length 0 s (by omega) (by omega)
 exact this
theorem typed_len (s:List UInt8):(typedR s).1.length<=6000:=by
 unfold typedR
 split
 ·exact Nat.zero_le _
 ·rename_i h
  split
  ·rename_i l hl
   have:=fold_len _ _ _ _ hl
   have:=(spotsOf_ok (s:=s) (by omega)).2
   show l.length<=_
   rw[List.length_nil]at *
   omega
  ·exact Nat.zero_le _
end Go.Proofs.YtgfamepnkhpemaaDoor
namespace Go.Proofs.YtgfamepnkhpemaaDoor
open Go Go.Fm
set_option maxRecDepth 100000
def JI (x:GItem):Prop:=g_impl_ItemOk x=some true/\(x.Kind=9->x.Hex=false/\x.Raw=0)
theorem nums_ok {n s l:Int} {hex:Bool}:∃ cs,g_impl_numberCells n hex s l=some cs/\0 < cs.length:=by
 unfold g_impl_numberCells
 have h1:∃ b,(cond hex (some 16) (some 0):Option Int)=some b:=by cases hex<;>exact ⟨_,rfl⟩
 have h2:∃ b,(cond (decide (n ≥ (-67108864))) (some (decide (n<=67108863))) (some false):Option Bool)=some b:=by cases decide (n ≥ (-67108864))<;>exact ⟨_,rfl⟩
 obtain ⟨b1,h1⟩:=h1
 obtain ⟨b2,h2⟩:=h2
 rw[h1,Option.bind_some,h2,Option.bind_some]
 cases b2<;>exact ⟨_,rfl,by simp⟩
theorem ok_8 {n:Int} {hex:Bool}:JI ⟨8,[],n,hex,0⟩:=by
 refine ⟨?_,λ h=>nomatch h⟩
 obtain ⟨cs,h,hl⟩:=nums_ok (n:=n) (s:=6) (l:=5) (hex:=hex)
 unfold g_impl_ItemOk g_impl_CellsOf g_impl_nameTag
 simp[h]
 omega
theorem ok_7 {n:Int} {hex:Bool}:JI ⟨7,[],n,hex,0⟩:=by
 refine ⟨?_,λ h=>nomatch h⟩
 obtain ⟨cs,h,hl⟩:=nums_ok (n:=n) (s:=8) (l:=2) (hex:=hex)
 unfold g_impl_ItemOk g_impl_CellsOf g_impl_nameTag
 simp[h]
 omega
theorem var_n {name:Bs} {n m:Int}:g_impl_ItemOk ⟨9,name,n,false,0⟩=g_impl_ItemOk ⟨9,name,m,false,0⟩:=by
 unfold g_impl_ItemOk g_impl_CellsOf g_impl_nameTag
 simp
 cases g_impl_Pack name with
 | none=>rfl
 | some p =>
  simp
  cases hc:((p.length:Int)==1) with
  | false=>rfl
  | true =>
   simp
   cases getI p 0 with
   | none=>rfl
   | some v=>rfl
theorem wordF_ok {out:List GItem} {kd:Int} {w:List UInt8} (hw:w.length<=1048576) (h:∀ x ∈ out,JI x) (hb:(wordF out kd w).2=true):∀ x ∈ (wordF out kd w).1,JI x:=by
 have app:∀ {y:GItem},JI y->∀ x ∈ out++[y],JI x:=λ hy x hx=>by
  rcases List.mem_append.mp hx with h'|h'
  ·exact h x h'
  ·rw[List.mem_singleton.mp h'];exact hy
 cases w with
 | nil=>exact h
 | cons b r =>
  rw[wordF_eq]at hb ⊢
  split
  ·exact app ok_8
  ·split
   ·exact app ok_7
   ·split
    ·rename_i hc
     obtain ⟨_,_,x,hx,h9⟩:=hc
     rw[hx]
     intro y hy
     rcases List.mem_or_eq_of_mem_set hy with h'|h'
     ·exact h y h'
     ·have hj:=h x (List.mem_of_getLast? hx)
      obtain ⟨k,nm,n,hex,raw⟩:=x
      obtain rfl:k=9:=h9
      obtain ⟨e1,e2⟩:=hj.2 rfl
      obtain rfl:hex=false:=e1
      obtain rfl:raw=0:=e2
      rw[h']
      exact ⟨var_n.trans hj.1,λ _=>⟨rfl,rfl⟩⟩
    ·rename_i h1 h2 h3
     rw[if_neg h1,if_neg h2,if_neg h3]at hb
     have hb':itemOkB ⟨kd,b::r,0,false,0⟩=true:=hb
     exact app ⟨by rw[itemOk_impl (itS_w hw),hb'],λ _=>⟨rfl,rfl⟩⟩
theorem fold_ok {n:Nat}:∀ (l:List GSpot) (out:List GItem) (kd:Int) (r:List GItem),SpOk n l->(∀ x ∈ out,JI x)->foldF l out kd=.inl r->∀ x ∈ r,JI x:=by
 intro l
 induction l with
 | nil=>intro out kd r _ h e;rw[foldF]at e;cases e;exact h
 | cons sp t ih =>
  intro out kd r hs h e
  have ht:SpOk n t:=λ s hm=>hs s (List.mem_cons_of_mem _ hm)
  have hsp:=hs sp List.mem_cons_self
  have hsl:=strip_len sp.word kd
  rw[foldF]at e
  split at e
  ·exact ih _ _ _ ht h e
  ·split at e
   ·rename_i hb
    exact ih _ _ _ ht (wordF_ok (by omega) h hb) e
   ·exact nomatch e
theorem fold_at {n:Nat}:∀ (l:List GSpot) (out:List GItem) (kd p:Int),SpOk n l->foldF l out kd=.inr p->1<=p/\p<=n:=by
 intro l
 induction l with
 | nil=>intro out kd p _ e;rw[foldF]at e;exact nomatch e
 | cons sp t ih =>
  intro out kd p hs e
  have ht:SpOk n t:=λ s hm=>hs s (List.mem_cons_of_mem _ hm)
  obtain ⟨_,q1,q2⟩:=hs sp List.mem_cons_self
  rw[foldF]at e
  split at e
  ·exact ih _ _ _ ht e
  ·split at e
   ·exact ih _ _ _ ht e
   ·cases e;omega
theorem typed_ok (s:List UInt8):(∀ x ∈ (typedR s).1,JI x)/\0<=(typedR s).2/\(typedR s).2<=(s.length:Int)+1:=by
 unfold typedR
 split
 ·exact ⟨(λ x h=>by cases (h:x ∈ ([]:List GItem))),by decide,by show (1:Int)<=_;omega⟩
 ·rename_i h
  obtain ⟨q1,q2⟩:=spotsOf_ok (s:=s) (by omega)
  split
  ·rename_i l hl
   exact ⟨fold_ok _ _ _ _ q1 (λ x h=>by cases h) hl,Int.le_refl 0,by show (0:Int)<=_;omega⟩
  ·rename_i p hp
   obtain ⟨a,b⟩:=fold_at _ _ _ _ q1 hp
   exact ⟨(λ x h=>by cases (h:x ∈ ([]:List GItem))),by show 0<=p;omega,by show p<=_;omega⟩
def two (sp:GSpot):GSpot:=⟨sp.word,sp.at_+2⟩
theorem spots_two:∀ (f:Nat) (p:Int) (l:List UInt8),spotsL f (p+2) l=(spotsL f p l).map two:=by
 intro f
 induction f with
 | zero=>intro p l;rw[spotsL,spotsL];rfl
 | succ f ih =>
  intro p l
  cases l with
  | nil=>rw[spotsL,spotsL];rfl
  | cons b r =>
   rw[spotsL,spotsL]
   split
   ·rw[show p+2+1=p+1+2 by omega,ih]
   ·rw[List.map_cons,show p+2+(wordLen (b::r):Int)=p+(wordLen (b::r):Int)+2 by omega,ih];rfl
theorem fold_two:∀ (l:List GSpot) (out:List GItem) (kd:Int),foldF (l.map two) out kd=match foldF l out kd with | .inl r=>.inl r | .inr p=>.inr (p+2):=by
 intro l
 induction l with
 | nil=>intro out kd;rw[List.map_nil,foldF]
 | cons sp t ih =>
  intro out kd
  rw[List.map_cons,foldF,foldF]
  show (if (stripW kd sp.word).2=[] then _ else if (wordF out (stripW kd sp.word).1 (stripW kd sp.word).2).2=true then _ else _)=_
  by_cases h1:(stripW kd sp.word).2=[]
  ·rw[if_pos h1,if_pos h1];exact ih _ _
  ·rw[if_neg h1,if_neg h1]
   by_cases h2:(wordF out (stripW kd sp.word).1 (stripW kd sp.word).2).2=true
   ·rw[if_pos h2,if_pos h2];exact ih _ _
   ·rw[if_neg h2,if_neg h2]
    show Sum.inr (sp.at_+2+1)=Sum.inr (sp.at_+1+2)
    congr 1;omega
theorem typed_two {s:List UInt8} (h:s.length+2<=6000):typedR ([71,32]++s)=((typedR s).1,if (typedR s).2=0 then 0 else (typedR s).2+2):=by
 have hsp:spotsOf ([71,32]++s)=⟨[71],0⟩::(spotsOf s).map two:=by
  unfold spotsOf
  rw[show (([71,32]:List UInt8)++s).length=s.length+1+1 by simp,show ([71,32]:List UInt8)++s=71::32::s from rfl,spotsL,if_neg (by decide)]
  rw[show wordLen (71::32::s)=1 by rw[wordLen,wordLen,if_neg (by decide),if_pos (by decide)]]
  show (⟨[71],0⟩:GSpot)::spotsL (s.length+1) (0+1) (32::s)=_
  rw[spotsL,if_pos (by decide),show (0:Int)+1+1=0+2 from rfl,spots_two]
 unfold typedR
 rw[if_neg (by simp;omega),if_neg (by omega),hsp,foldF,show stripW 3 [71]=(3,[]) by rw[stripW,if_pos (by decide),stripW];decide,if_pos rfl,fold_two]
 obtain ⟨q1,q2⟩:=spotsOf_ok (s:=s) (by omega)
 cases hf:foldF (spotsOf s) [] 3 with
 | inl r=>rfl
 | inr p =>
  have:=fold_at _ _ _ _ q1 hf
  show (([]:List GItem),p+2)=([],if p=0 then 0 else p+2)
  rw[if_neg (by omega)]
theorem sameItems_self {a:List GItem} (h:a.length<=1048576):g_laws_sameItems a a=some true :=
 eqRefl (g_laws_sameItems_l0 a a) _ rfl (λ k n x hx hn=>by
  rw[g_laws_sameItems_l0,decide_eq_true (by omega),cond_true,getI_nat,hx]
  simp only[Option.bind_some,beq_self_eq_true,Bool.true_and,Bool.and_true,Bool.not_true,cond_false]
  rw[nxt (by omega)]) (λ k n hn=>by rw[g_laws_sameItems_l0,decide_eq_false (by omega),cond_false]) (by omega)
theorem items_loop {l:List GItem} (hl:l.length<=1048576) (h:∀ x ∈ l,JI x):g_laws_FnTyping_l0 l bigK 0=some (.inl ()):=by
 have key:∀ (j k n:Nat),n+j=l.length->j < k->g_laws_FnTyping_l0 l k (n:Int)=some (.inl ()):=by
  intro j
  induction j with
  | zero =>
   intro k n e hk
   obtain ⟨k,rfl⟩:∃ k',k=k'+1:=⟨k-1,by omega⟩
   rw[g_laws_FnTyping_l0,decide_eq_false (by omega),cond_false]
  | succ j ih =>
   intro k n e hk
   obtain ⟨k,rfl⟩:∃ k',k=k'+1:=⟨k-1,by omega⟩
   rw[g_laws_FnTyping_l0,decide_eq_true (by omega),cond_true,getI_nat,List.getElem?_eq_getElem (by omega),Option.bind_some,(h _ (List.getElem_mem (by omega))).1,Option.bind_some,Bool.not_true,cond_false,nxt (by omega)]
   exact ih k (n+1) (by omega) (by omega)
 exact key l.length bigK 0 (by omega) (by unfold bigK;omega)
end Go.Proofs.YtgfamepnkhpemaaDoor
namespace Go.Proofs.YtgfamepnkhpemaaDoor
open Go Go.Fm
set_option maxRecDepth 100000
def Cok (c:GL01Cur):Prop:=0<=c.i/\c.b.length<=1048576
theorem byte_ok {c:GL01Cur} (h:Cok c):Tot (g_spec_l01Byte c) λ r=>0<=r.1/\r.1<=255/\Cok r.2:=by
 unfold g_spec_l01Byte
 refine Tot.bind (Q:=λ r=>0<=r.1/\r.1<=255/\Cok r.2) (.condD (λ hi => ?_) (λ hi => ?_)) λ r hr=>.some hr
 ·obtain ⟨v,hv,_⟩:=getI_ex h.1 hi
  refine .bindE hv (.some ⟨(and_le (by decide) (by decide)).1,(and_le (by decide) (by decide)).2,?_,h.2⟩)
  have:=h.1
  have:=h.2
  show 0<=IntKind.wrap .i64 (c.i+1)
  rw[wI64 (by omega) (by omega)]
  omega
 ·exact .some ⟨(and_le (by decide) (by decide)).1,(and_le (by decide) (by decide)).2,h⟩
theorem below_ok {c:GL01Cur} (h:Cok c) {n:Int} (hn:0 < n):Tot (g_spec_l01Below n c) λ r=>0<=r.1/\r.1 < n/\Cok r.2:=by
 unfold g_spec_l01Below
 refine .condD (λ h0=>by omega) λ _=>.condD (λ h1 => ?_) λ h1 => ?_
 ·refine .bind (byte_ok h) λ a ha => ?_
  obtain ⟨e,g1,g2⟩:=remI_ex (k:=.i64) ha.1 hn
  exact .bindE e (.some ⟨g1,g2,ha.2.2⟩)
 ·refine .bind (byte_ok h) λ a ha=>.bind (byte_ok ha.2.2) λ b hb=>.bind (byte_ok hb.2.2) λ d hd=>.bind (byte_ok hd.2.2) λ x hx => ?_
  rw[wI64 (x:=a.1*16777216) (by omega) (by omega),wI64 (x:=b.1*65536) (by omega) (by omega),wI64 (x:=d.1*256) (by omega) (by omega),wI64 (x:=a.1*16777216+b.1*65536) (by omega) (by omega),
   wI64 (x:=a.1*16777216+b.1*65536+d.1*256) (by omega) (by omega),wI64 (x:=a.1*16777216+b.1*65536+d.1*256+x.1) (by omega) (by omega)]
  obtain ⟨e,g1,g2⟩:=remI_ex (k:=.i64) (a:=a.1*16777216+b.1*65536+d.1*256+x.1) (by omega) hn
  exact .bindE e (.some ⟨g1,g2,hx.2.2⟩)
theorem pick_ok {c:GL01Cur} (h:Cok c) {l:List Bs} (hl:0 < l.length):Tot (g_spec_l01Pick l c) λ r=>r.1 ∈ l/\Cok r.2 :=
 .bind (below_ok h (by omega)) λ a ha=>by
  obtain ⟨v,hv,hm,_⟩:=getI_ex (xs:=l) ha.1 ha.2.1
  exact .bindE hv (.some ⟨hm,ha.2.2⟩)
theorem new_ok {code:List Int} (h:code.length<=1048576):Tot (g_spec_l01New code) Cok:=by
 have key:∀ (k:Nat) (hh i:Int),0<=i->i<=4000->4000-i < k->Tot (g_spec_l01New_l0 code k hh i) λ _=>True:=by
  intro k
  induction k with
  | zero=>intro hh i h0 h1 h2;omega
  | succ k ih =>
   intro hh i h0 h1 h2
   unfold g_spec_l01New_l0
   refine .bind (Q:=λ b=>b=true->i < code.length/\i < 4000) (.condD (λ hi=>.some λ hb=>⟨hi,of_decide_eq_true hb⟩) λ _=>.some λ hb=>nomatch hb) λ b hb => ?_
   refine .cond (λ hc => ?_) λ _=>.some trivial
   obtain ⟨g1,g2⟩:=hb hc
   obtain ⟨v,hv,_⟩:=getI_ex h0 g1
   refine .bindE hv ?_
   rw[wI64 (x:=i+1) (by omega) (by omega)]
   exact ih _ _ (by omega) (by omega) (by omega)
 exact .bind (.bind (key bigK _ 0 (by decide) (by decide) (by decide)) λ a ha=>.some (Q:=λ _=>True) trivial) λ a ha=>.some ⟨Int.le_refl _,h⟩
end Go.Proofs.YtgfamepnkhpemaaDoor
namespace Go.Proofs.YtgfamepnkhpemaaDoor
open Go Go.Fm
set_option maxRecDepth 100000
theorem bent_ok {s:Bs} {c:GL01Cur} (h:Cok c) (hs:s.length<=100000):Tot (g_spec_l01Bent s c) λ r=>r.1.length<=s.length+10/\Cok r.2:=by
 unfold g_spec_l01Bent
 rw[wI64 (by omega) (by omega)]
 refine .bind (below_ok h (by omega)) λ i hi => ?_
 obtain ⟨i0,i1,hc⟩:=hi
 have hp:∀ {l:List Bs} {x:Bs},(∀ y ∈ l,y.length<=2)->x ∈ l->x.length<=2:=λ h m=>h _ m
 have htk:Tot (subL s 0 i.1) λ t=>t.length<=s.length:=⟨_,subL_take i0 (by omega),by show (List.take _ _).length<=_;rw[List.length_take];omega⟩
 have hdr:∀ j:Int,0<=j->j<=s.length->Tot (subL s j (s.length:Int)) λ t=>t.length<=s.length:=λ j h0 h1=>⟨_,subL_drop h0 h1,by show (List.drop _ _).length<=_;rw[List.length_drop];omega⟩
 refine .bind (Q:=λ o=>match o with | .inl c=>Cok c | .inr p=>p.1.length<=s.length+10/\Cok p.2) ?_ λ o ho => ?_
 ·refine .bind (below_ok hc (by decide)) λ m hm => ?_
  refine .cond (λ _=>.bind htk λ t ht=>.some ⟨by show t.length<=_;omega,hm.2.2⟩) λ _=>.cond (λ _ => ?_) λ _=>.cond (λ _=>.condD (λ hlt => ?_) λ _=>.some hm.2.2) λ _=>.some hm.2.2
  ·have htk2:Tot (subL s 0 i.1) λ t=>t.length=i.1.toNat:=⟨_,subL_take i0 (by omega),by show (List.take _ _).length=_;rw[List.length_take];omega⟩
   have hdr2:Tot (subL s i.1 (s.length:Int)) λ t=>t.length=s.length-i.1.toNat:=⟨_,subL_drop i0 (by omega),by show (List.drop _ _).length=_;rw[List.length_drop]⟩
   refine .bind htk2 λ t ht=>.bind (pick_ok hm.2.2 (by decide)) λ x hx => ?_
   have hx2:x.1.length<=2:=hp (l:=[[48],[32],[255],[35],[10],[97],[58],[126],[37],[63]]) (by decide) hx.1
   refine .bindE (catS_eq (by omega)) (.bind hdr2 λ d hd=>.bindE (catS_eq (by rw[List.length_append];omega)) (.some ⟨?_,hx.2⟩))
   show (t++x.1++d).length<=_
   rw[List.length_append,List.length_append];omega
  ·have htk2:Tot (subL s 0 i.1) λ t=>t.length=i.1.toNat:=⟨_,subL_take i0 (by omega),by show (List.take _ _).length=_;rw[List.length_take];omega⟩
   have hdr2:Tot (subL s (IntKind.wrap .i64 (i.1+1)) (s.length:Int)) λ t=>t.length<=s.length-i.1.toNat:=by
    rw[wI64 (by omega) (by omega)]
    exact ⟨_,subL_drop (by omega) (by omega),by show (List.drop _ _).length<=_;rw[List.length_drop];omega⟩
   refine .bind htk2 λ t ht=>.bind (pick_ok hm.2.2 (by decide)) λ x hx => ?_
   have hx2:x.1.length<=2:=hp (l:=[[48],[65],[0],[57],[36],[45]]) (by decide) hx.1
   refine .bindE (catS_eq (by omega)) (.bind hdr2 λ d hd=>.bindE (catS_eq (by rw[List.length_append];omega)) (.some ⟨?_,hx.2⟩))
   show (t++x.1++d).length<=_
   rw[List.length_append,List.length_append];omega
 ·match o,ho with
  | .inl c,ho=>exact .some ⟨Nat.le_add_right _ _,ho⟩
  | .inr p,ho=>exact .some ho
theorem drawTyped {code:List Int} (hc:code.length<=1048576):Tot (g_spec_DrawTyped code) λ s=>s.length<=1000:=by
 unfold g_spec_DrawTyped
 refine .bind (new_ok hc) λ c h=>.bind (below_ok h (by decide)) λ n hn => ?_
 obtain ⟨n0,n1,h2⟩:=hn
 have key:∀ (k:Nat) (s:Bs) (i:Int) (c:GL01Cur),Cok c->0<=i->i<=10->(s.length:Int)<=20*i->10-i < k->Tot (g_spec_DrawTyped_l0 n.1 k s i c) λ r=>r.1.length<=200/\Cok r.2:=by
  intro k
  induction k with
  | zero=>intro s i c _ h0 h1 h2 h3;omega
  | succ k ih =>
   intro s i c hc h0 h1 h2 h3
   rw[g_spec_DrawTyped_l0]
   refine .condD (λ hi => ?_) λ _=>.some ⟨by show s.length<=200;omega,hc⟩
   refine .bind (pick_ok hc (by decide)) λ x hx => ?_
   have x2:x.1.length<=2:=(by decide:∀ y ∈ ([[82],[71],[89],[87],[86],[],[],[82,71]]:List Bs),y.length<=2) _ hx.1
   refine .bindE (catS_eq (by omega)) (.bind (pick_ok hx.2 (by decide)) λ y hy => ?_)
   have y2:y.1.length<=10:=(by decide:∀ y ∈ ([[100,117,112],[49,50],[36,102,102],[45,55],[103,111],[120],[57,57,57,57,57,57,57,57,57,57],[36],[36,103],[50,42],[65],[]]:List Bs),y.length<=10) _ hy.1
   refine .bindE (catS_eq (by rw[List.length_append];omega)) (.bind (pick_ok hy.2 (by decide)) λ z hz => ?_)
   have z2:z.1.length<=1:=(by decide:∀ y ∈ ([[32],[32],[10]]:List Bs),y.length<=1) _ hz.1
   refine .bindE (catS_eq (by rw[List.length_append,List.length_append];omega)) ?_
   rw[wI64 (by omega) (by omega)]
   exact ih _ (i+1) _ hz.2 (by omega) (by omega) (by rw[List.length_append,List.length_append,List.length_append];omega) (by omega)
 refine .bind (Q:=λ r=>r.1.length<=200/\Cok r.2) (.bind (key bigK [] 0 n.2 h2 (by omega) (by omega) (by decide) (by decide)) λ r hr=>.some hr) λ r hr => ?_
 exact .bind (bent_ok hr.2 (by omega)) λ t ht=>.some (by have:=ht.1;have:=hr.1;omega)
theorem law_typing (code:List Int):g_laws_FnTyping code=some true:=by
 unfold g_laws_FnTyping g_laws_big
 rw[Option.bind_some]
 by_cases hc:code.length<=1048576
 ·rw[decide_eq_false (by omega),cond_false]
  obtain ⟨s,hs,hl⟩:=drawTyped hc
  obtain ⟨o1,o2,o3⟩:=typed_ok s
  have hn:=typed_len s
  have hcat:catS [71,32] s=some ([71,32]++s):=catS_eq (by simp;omega)
  rw[hs,Option.bind_some,impl_typed,spec_typed,Option.bind_some,Option.bind_some,bne_self',cond_false,decide_eq_false (by omega),cond_false,wI64 (by omega) (by omega),decide_eq_false (by omega),Option.bind_some,cond_false,
   items_loop (by omega) o1,Option.bind_some,Option.bind_some]
  show Option.bind (catS [71,32] s) _=_
  rw[hcat,Option.bind_some,impl_typed,Option.bind_some,wI64 (x:=(s.length:Int)+2) (by omega) (by omega),decide_eq_false (by omega),cond_false,typed_two (by omega),sameItems_self (by omega),Option.bind_some,cond_true]
  by_cases hz:(typedR s).2=0
  ·rw[hz,if_pos rfl];rfl
  ·rw[if_neg hz,beq_eq_false_iff_ne.mpr hz,cond_false,decide_eq_true (by omega),cond_true,wI64 (by omega) (by omega),beq_self_eq_true]
 ·rw[decide_eq_true (by omega),cond_true]
end Go.Proofs.YtgfamepnkhpemaaDoor

namespace Go.Proofs.YtgfamepnkhpemaaDoor
open Go Go.Fm
set_option maxRecDepth 100000
theorem ans_FnTyping (x0:List Int) (g0:(λ xs:List Int=>xs.length<=maxLen/\∀ x ∈ xs,(λ n:Int=>(Lit.int .u8 n).wf=true) x) x0) :
  Ans Tryd.prog 3 [.one (.imm 1 x0.length (x0.flatMap (eI .u8)))] [] λ v _=>v=Go.Fm.one (.bool true):=λ hm=>by
 obtain ⟨r,h1,a,b,c,_⟩:=ce_laws_FnTyping (x0) true (good_pure rfl rfl) (law_typing x0) hm
 exact ⟨r,h1,a,b⟩
end Go.Proofs.YtgfamepnkhpemaaDoor
