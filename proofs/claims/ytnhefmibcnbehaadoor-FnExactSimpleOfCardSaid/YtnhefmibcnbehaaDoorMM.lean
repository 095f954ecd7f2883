import Derived.Test.YtnhefmibcnbehaaDoorML
set_option linter.all false
namespace Go.Proofs.YtnhefmibcnbehaaDoor
open Go Go.Fm
set_option maxRecDepth 100000
def pn (o:GOp):Bs:=(g_spec_PrimName (IntKind.wrap .i64 o.N)).getD []
theorem pn_eq (o:GOp):g_spec_PrimName (IntKind.wrap .i64 o.N)=some (pn o):=by
 obtain ⟨s,h⟩:=name_tot (IntKind.wrap .i64 o.N)
 unfold pn
 rw[h]
 rfl
def isB (o:GOp) (s:Bs):Bool:=o.Kind==1&&pn o==s
theorem specIs (o:GOp) (s:Bs):g_spec_l15Is o s=some (isB o s):=by
 unfold g_spec_l15Is isB
 rw[pn_eq]
 cases o.Kind==1<;>rfl
theorem findL {s:List Bs} {v:Bs} (hs:s.length<=1000):∀ (k n:Nat),n<=s.length->s.length-n < k->∃ o,g_slices_Index_string_l0 s v (s.length:Int) k n=some o/\(match o with | .inl _=>(s.drop n).any (v==·)=false | .inr i=>0<=i/\(s.drop n).any (v==·)=true):=by
 intro k
 induction k with
 | zero=>intro n h0 h1;omega
 | succ k ih =>
  intro n h0 h1
  rw[g_slices_Index_string_l0]
  by_cases hn:n < s.length
  ·rw[decide_eq_true (by omega),cond_true,getI_nat,List.getElem?_eq_getElem hn,List.drop_eq_getElem_cons hn,List.any_cons,Option.bind_some]
   cases hv:v==s[n] with
   | true=>exact ⟨_,rfl,by show 0<=(n:Int)/\_;exact ⟨by omega,rfl⟩⟩
   | false =>
    rw[cond_false,Bool.false_or,wI64 (by omega) (by omega),show ((n:Int)+1)=((n+1:Nat):Int) by omega]
    exact ih (n+1) (by omega) (by omega)
  ·rw[decide_eq_false (by omega),cond_false,List.drop_eq_nil_of_le (by omega)]
   exact ⟨_,rfl,rfl⟩
theorem contains_any {s:List Bs} {v:Bs} (hs:s.length<=1000):g_slices_Contains_string s v=some (s.any (v==·)):=by
 unfold g_slices_Contains_string g_slices_Index_string
 obtain ⟨o,h1,h2⟩:=findL (v:=v) hs bigK 0 (Nat.zero_le _) (by unfold bigK;omega)
 rw[List.drop_zero]at h2
 rw[show ((0:Nat):Int)=0 from rfl]at h1
 rw[h1]
 cases o with
 | inl u=>simp only[Option.bind_some];rw[h2];rfl
 | inr v=>simp only[Option.bind_some];rw[h2.2,decide_eq_true h2.1]
theorem implIs (o:GOp) {l:List Bs} (hl:l.length<=1000):g_impl_isPrim o l=some (l.any (isB o)):=by
 unfold g_impl_isPrim
 rw[name_eq,pn_eq,Option.bind_some,contains_any hl]
 unfold isB
 cases o.Kind==1
 ·simp
 ·simp
def twoB (o:GOp):Bool:=isB o [43] || isB o [42] || isB o [97,110,100] || isB o [111,114]
def oneB (o:GOp):Bool:=isB o [45] || isB o [50,42] || isB o [50,47]
def val2 (o:GOp) (x y:Int):Int:=cond (isB o [43]) (IntKind.wrap .i32 (x+y)) (cond (isB o [42]) (IntKind.wrap .i32 (x*y)) (cond (isB o [97,110,100]) (andI .i32 x y) (xorI .i32 x y)))
def val1 (o:GOp) (y:Int):Int:=cond (isB o [45]) (IntKind.wrap .i32 ((-1)-y)) (cond (isB o [50,42]) (IntKind.wrap .i32 (y+y)) (y / 2))
theorem isB_name {o:GOp} {s:Bs} (h:isB o s=true):pn o=s:=by
 unfold isB at h
 rw[Bool.and_eq_true]at h
 exact eq_of_beq h.2
theorem isB_ne {o:GOp} {s t:Bs} (h:isB o s=true) (hst:(s==t)=false):isB o t=false:=by
 have h1:=isB_name h
 unfold isB
 rw[h1,hst,Bool.and_false]
theorem two_or {o:GOp} (h:twoB o=true):isB o [43]=true\/isB o [42]=true\/isB o [97,110,100]=true\/isB o [111,114]=true:=by
 unfold twoB at h
 simp only[Bool.or_eq_true]at h
 rcases h with ((h|h)|h)|h
 ·exact .inl h
 ·exact .inr (.inl h)
 ·exact .inr (.inr (.inl h))
 ·exact .inr (.inr (.inr h))
theorem one_or {o:GOp} (h:oneB o=true):isB o [45]=true\/isB o [50,42]=true\/isB o [50,47]=true:=by
 unfold oneB at h
 simp only[Bool.or_eq_true]at h
 rcases h with (h|h)|h
 ·exact .inl h
 ·exact .inr (.inl h)
 ·exact .inr (.inr h)
theorem spec_two (o:GOp) (x y:Int):g_spec_l15Two o x y=some (if twoB o then (val2 o x y,true) else (0,false)):=by
 have e:∀ x':Bool->Option (Int×Bool),(((g_spec_l15Is o [43]).bind λ y_7=>cond (!y_7) ((g_spec_l15Is o [42]).bind λ y_8=>cond (!y_8) ((g_spec_l15Is o [97,110,100]).bind λ y_9=>cond (!y_9) ((g_spec_l15Is o [111,114]).bind λ y_10=>some (!y_10)) (some false)) (some false)) (some false):Option (Bool)).bind x')=x' (!twoB o):=λ x'=>by
  simp only[specIs,Option.bind_some]
  unfold twoB
  cases isB o [43]<;>cases isB o [42]<;>cases isB o [97,110,100]<;>cases isB o [111,114]<;>rfl
 unfold g_spec_l15Two
 rw[e]
 cases h:twoB o with
 | false=>rfl
 | true =>
  rw[Bool.not_true,cond_false,pn_eq,Option.bind_some,if_pos rfl]
  unfold val2
  rcases two_or h with h|h|h|h
  ·rw[isB_name h,h];rfl
  ·rw[isB_name h,h,isB_ne h (t:=[43]) rfl];rfl
  ·rw[isB_name h,h,isB_ne h (t:=[43]) rfl,isB_ne h (t:=[42]) rfl];rfl
  ·rw[isB_name h,isB_ne h (t:=[43]) rfl,isB_ne h (t:=[42]) rfl,isB_ne h (t:=[97,110,100]) rfl];rfl
theorem spec_one (o:GOp) (y:Int):g_spec_l15One o y=some (if oneB o then (val1 o y,true) else (0,false)):=by
 have e:∀ x':Bool->Option (Int×Bool),(((g_spec_l15Is o [45]).bind λ y_6=>cond (!y_6) ((g_spec_l15Is o [50,42]).bind λ y_7=>cond (!y_7) ((g_spec_l15Is o [50,47]).bind λ y_8=>some (!y_8)) (some false)) (some false):Option (Bool)).bind x')=x' (!oneB o):=λ x'=>by
  simp only[specIs,Option.bind_some]
  unfold oneB
  cases isB o [45]<;>cases isB o [50,42]<;>cases isB o [50,47]<;>rfl
 unfold g_spec_l15One
 rw[e]
 cases h:oneB o with
 | false=>rfl
 | true =>
  rw[Bool.not_true,cond_false,pn_eq,Option.bind_some,if_pos rfl]
  unfold val1
  rcases one_or h with h|h|h
  ·rw[isB_name h,h];rfl
  ·rw[isB_name h,h,isB_ne h (t:=[45]) rfl];rfl
  ·rw[isB_name h,isB_ne h (t:=[45]) rfl,isB_ne h (t:=[50,42]) rfl];rfl
theorem impl_two {o:GOp} (h:twoB o=true) (x y:Int):g_impl_foldedc2 (pn o) x y=some [⟨0,val2 o x y⟩]:=by
 unfold val2 g_impl_foldedc2
 rcases two_or h with h|h|h|h
 ·rw[isB_name h,h];rfl
 ·rw[isB_name h,h,isB_ne h (t:=[43]) rfl];rfl
 ·rw[isB_name h,h,isB_ne h (t:=[43]) rfl,isB_ne h (t:=[42]) rfl];rfl
 ·rw[isB_name h,isB_ne h (t:=[43]) rfl,isB_ne h (t:=[42]) rfl,isB_ne h (t:=[97,110,100]) rfl];rfl
theorem impl_one {o:GOp} (h:oneB o=true) {y:Int} (hy:i32B y):g_impl_foldedc2 (pn o) 0 y=some [⟨0,val1 o y⟩]:=by
 unfold val1
 rcases one_or h with h|h|h
 ·rw[isB_name h,h,cond_true,<-not32 hy];rfl
 ·rw[isB_name h,h,isB_ne h (t:=[45]) rfl,cond_false,cond_true,show y+y=2*y by omega];rfl
 ·rw[isB_name h,isB_ne h (t:=[45]) rfl,isB_ne h (t:=[50,42]) rfl];rfl
def pairB (a b:GOp):Bool:=(a.Kind==0&&isB b [100,114,111,112]) || (isB a [100,117,112]&&isB b [100,114,111,112]) || (isB a [115,119,97,112]&&isB b [115,119,97,112]) || (isB a [45]&&isB b [45])
def at1 (a:GOp):List GOp×Int:=if isB a [110,111,112] then ([],1) else ([],0)
def at2 (a b:GOp):List GOp×Int:=if a.Kind==0&&oneB b then ([⟨0,val1 b a.N⟩],2) else if pairB a b then ([],2) else at1 a
def at3 (a b c:GOp):List GOp×Int:=if a.Kind==0&&b.Kind==0&&twoB c then ([⟨0,val2 c a.N b.N⟩],3) else at2 a b
def foldAt:List GOp->List GOp×Int
 | []=>([],0)
 | [a]=>at1 a
 | [a,b]=>at2 a b
 | a::b::c::_=>at3 a b c
theorem spec_pair (a b:GOp):((cond (a.Kind==0) ((g_spec_l15Is b [100,114,111,112]).bind λ y_20=>cond y_20 (some true) ((g_spec_l15Is a [100,117,112]).bind λ y_21=>cond y_21 ((g_spec_l15Is b [100,114,111,112]).bind λ y_22=>cond y_22 (some true) ((g_spec_l15Is a [115,119,97,112]).bind λ y_23=>cond y_23 ((g_spec_l15Is b [115,119,97,112]).bind λ y_24=>cond y_24 (some true) ((g_spec_l15Is a [45]).bind λ y_25=>cond y_25 ((g_spec_l15Is b [45]).bind λ y_26=>some y_26) (some false))) ((g_spec_l15Is a [45]).bind λ y_27=>cond y_27 ((g_spec_l15Is b [45]).bind λ y_28=>some y_28) (some false)))) ((g_spec_l15Is a [115,119,97,112]).bind λ y_29=>cond y_29 ((g_spec_l15Is b [115,119,97,112]).bind λ y_30=>cond y_30 (some true) ((g_spec_l15Is a [45]).bind λ y_31=>cond y_31 ((g_spec_l15Is b [45]).bind λ y_32=>some y_32) (some false))) ((g_spec_l15Is a [45]).bind λ y_33=>cond y_33 ((g_spec_l15Is b [45]).bind λ y_34=>some y_34) (some false))))) ((g_spec_l15Is a [100,117,112]).bind λ y_35=>cond y_35 ((g_spec_l15Is b [100,114,111,112]).bind λ y_36=>cond y_36 (some true) ((g_spec_l15Is a [115,119,97,112]).bind λ y_37=>cond y_37 ((g_spec_l15Is b [115,119,97,112]).bind λ y_38=>cond y_38 (some true) ((g_spec_l15Is a [45]).bind λ y_39=>cond y_39 ((g_spec_l15Is b [45]).bind λ y_40=>some y_40) (some false))) ((g_spec_l15Is a [45]).bind λ y_41=>cond y_41 ((g_spec_l15Is b [45]).bind λ y_42=>some y_42) (some false)))) ((g_spec_l15Is a [115,119,97,112]).bind λ y_43=>cond y_43 ((g_spec_l15Is b [115,119,97,112]).bind λ y_44=>cond y_44 (some true) ((g_spec_l15Is a [45]).bind λ y_45=>cond y_45 ((g_spec_l15Is b [45]).bind λ y_46=>some y_46) (some false))) ((g_spec_l15Is a [45]).bind λ y_47=>cond y_47 ((g_spec_l15Is b [45]).bind λ y_48=>some y_48) (some false)))):Option Bool))=some (pairB a b):=by
 simp only[specIs,Option.bind_some]
 unfold pairB
 cases a.Kind==0<;>cases isB b [100,114,111,112]<;>cases isB a [100,117,112]<;>cases isB a [115,119,97,112]<;>cases isB b [115,119,97,112]<;>cases isB a [45]<;>cases isB b [45]<;>rfl
theorem spec_tail (a b:GOp):((g_spec_l15One b a.N).bind λ y_17=>(cond y_17.2 (some (a.Kind==0)) (some false):Option (Bool)).bind λ v_18=>cond v_18 (some (.inr ([(⟨0,y_17.1⟩:GOp)],2))) (cond (pairB a b) (some (.inr ([],2))) (some (.inl ()))):Option (Unit ⊕ ((List GOp)×Int)))=some (if a.Kind==0&&oneB b then .inr ([⟨0,val1 b a.N⟩],2) else if pairB a b then .inr ([],2) else .inl ()):=by
 rw[spec_one]
 simp only[Option.bind_some]
 cases h:oneB b<;>cases a.Kind==0<;>cases pairB a b<;>rfl
theorem spec_at1 (a:GOp):((g_spec_l15Is a [110,111,112]).bind λ y_50=>cond y_50 (some (([]:List GOp),(1:Int))) (some ([],0)))=some (at1 a):=by
 rw[specIs]
 unfold at1
 cases isB a [110,111,112]<;>rfl
theorem spec_at {l:List GOp} (h0:0 < l.length):g_spec_l15At l=some (foldAt l):=by
 unfold g_spec_l15At
 match l,h0 with
 | [a],_ =>
  have e0:getI [a] 0=some a:=rfl
  simp only[List.length_cons,List.length_nil,e0,Option.bind_some]
  rw[decide_eq_false (by omega),decide_eq_false (by omega),cond_false,cond_false]
  simp only[Option.bind_some,cond_false]
  exact spec_at1 a
 | [a,b],_ =>
  have e0:getI [a,b] 0=some a:=rfl
  have e1:getI [a,b] 1=some b:=rfl
  simp only[List.length_cons,List.length_nil,e0,e1,Option.bind_some]
  rw[decide_eq_false (by omega),decide_eq_true (by omega),cond_false,cond_true]
  simp only[Option.bind_some,cond_false,spec_pair]
  rw[spec_tail]
  show _=some (at2 a b)
  unfold at2
  cases a.Kind==0&&oneB b<;>cases pairB a b<;>first|rfl|exact spec_at1 a
 | a::b::c::r,_ =>
  have e0:getI (a::b::c::r) 0=some a:=rfl
  have e1:getI (a::b::c::r) 1=some b:=rfl
  have e2:getI (a::b::c::r) 2=some c:=rfl
  simp only[List.length_cons,e0,e1,e2,Option.bind_some]
  rw[decide_eq_true (by omega),decide_eq_true (by omega),cond_true,cond_true,spec_two]
  simp only[Option.bind_some,spec_pair]
  rw[spec_tail]
  show _=some (at3 a b c)
  unfold at3 at2
  cases a.Kind==0
  ·simp only[cond_false,Option.bind_some,Bool.false_and]
   cases pairB a b<;>first|rfl|exact spec_at1 a
  ·cases b.Kind==0
   ·simp only[cond_false,cond_true,Option.bind_some,Bool.false_and,Bool.true_and]
    cases oneB b<;>cases pairB a b<;>first|rfl|exact spec_at1 a
   ·cases twoB c
    ·simp only[cond_false,cond_true,Option.bind_some,Bool.false_and,Bool.true_and]
     cases oneB b<;>cases pairB a b<;>first|rfl|exact spec_at1 a
    ·rfl
end Go.Proofs.YtnhefmibcnbehaaDoor
namespace Go.Proofs.YtnhefmibcnbehaaDoor
open Go Go.Fm
set_option maxRecDepth 100000
theorem is4 (o:GOp):g_impl_isPrim o [[43],[42],[97,110,100],[111,114]]=some (twoB o):=by
 rw[implIs o (by decide)]
 unfold twoB
 simp only[List.any_cons,List.any_nil,Bool.or_false,Bool.or_assoc]
theorem is3 (o:GOp):g_impl_isPrim o [[45],[50,42],[50,47]]=some (oneB o):=by
 rw[implIs o (by decide)]
 unfold oneB
 simp only[List.any_cons,List.any_nil,Bool.or_false,Bool.or_assoc]
theorem is1 (o:GOp) (s:Bs):g_impl_isPrim o [s]=some (isB o s):=by
 rw[implIs o (by simp)]
 simp only[List.any_cons,List.any_nil,Bool.or_false]
theorem isB8 (s:Bs):isB ⟨8,0⟩ s=false:=rfl
theorem two8:twoB ⟨8,0⟩=false:=rfl
theorem one8:oneB ⟨8,0⟩=false:=rfl
theorem pair8 (a:GOp):pairB a ⟨8,0⟩=false:=by
 unfold pairB
 simp only[isB8,Bool.and_false,Bool.or_false]
theorem at28 (a:GOp):at2 a ⟨8,0⟩=at1 a:=by
 unfold at2
 simp[one8,pair8]
theorem at38 (a b:GOp):at3 a b ⟨8,0⟩=at2 a b:=by
 unfold at3
 simp[two8]
theorem impl_at {l:List GOp} (h0:0 < l.length) (hi:∀ o ∈ l,i32B o.N):g_impl_folded l=some (foldAt l):=by
 obtain ⟨a,b,c,e0,e1,e2,hf,ha⟩:∃ a b c,g_impl_foldedc1 0 l=some a/\g_impl_foldedc1 1 l=some b/\g_impl_foldedc1 2 l=some c/\foldAt l=at3 a b c/\i32B a.N:=by
  unfold g_impl_foldedc1
  match l,h0,hi with
  | [a],_,hi =>
   refine ⟨a,⟨8,0⟩,⟨8,0⟩,rfl,rfl,rfl,?_,hi a (by simp)⟩
   rw[at38,at28];rfl
  | [a,b],_,hi =>
   refine ⟨a,b,⟨8,0⟩,rfl,rfl,rfl,?_,hi a (by simp)⟩
   rw[at38];rfl
  | a::b::c::r,_,hi =>
   refine ⟨a,b,c,?_,?_,?_,rfl,hi a (by simp)⟩
   ·rw[decide_eq_true (by simp only[List.length_cons];omega)];rfl
   ·rw[decide_eq_true (by simp only[List.length_cons];omega)];rfl
   ·rw[decide_eq_true (by simp only[List.length_cons];omega)];rfl
 unfold g_impl_folded
 rw[e0,e1,e2,hf]
 simp only[Option.bind_some,name_eq,pn_eq,is4,is3,is1]
 unfold at3 at2 at1 pairB
 have hone:oneB b=true->g_impl_foldedc2 (pn b) 0 a.N=some [⟨0,val1 b a.N⟩]:=λ h=>impl_one h ha
 have htwo:twoB c=true->g_impl_foldedc2 (pn c) a.N b.N=some [⟨0,val2 c a.N b.N⟩]:=λ h=>impl_two h _ _
 cases a.Kind==0
 ·simp only[cond_false,Option.bind_some,Bool.false_and,Bool.false_or]
  cases isB a [100,117,112]<;>cases isB b [100,114,111,112]<;>cases isB a [115,119,97,112]<;>cases isB b [115,119,97,112]<;>cases isB a [45]<;>cases isB b [45]<;>cases isB a [110,111,112]<;>rfl
 ·have rest:((cond (oneB b) ((g_impl_foldedc2 (pn b) 0 a.N).bind λ y_16=>some (.inr (y_16,2))) ((cond (isB b [100,114,111,112]) (some (isB b [100,114,111,112])) (((cond (isB a [100,117,112]) (some (isB b [100,114,111,112])) (some false):Option Bool)).bind λ v_20=>cond v_20 (some v_20) ((cond (isB a [115,119,97,112]) (some (isB b [115,119,97,112])) (some false):Option Bool).bind λ v_23=>cond v_23 (some v_23) (cond (isB a [45]) (some (isB b [45])) (some false)))):Option Bool).bind λ v_17=>cond v_17 (some (.inr ([],2))) (cond (isB a [110,111,112]) (some (.inr ([],1))) (some (.inl ())))):Option (Unit ⊕ ((List GOp)×Int))).bind λ o=>match o with | .inl ()=>some ([],0) | .inr (v_7,v_8)=>some (v_7,v_8))=some (if oneB b then ([⟨0,val1 b a.N⟩],2) else if (isB b [100,114,111,112] || (isB a [100,117,112]&&isB b [100,114,111,112]) || (isB a [115,119,97,112]&&isB b [115,119,97,112]) || (isB a [45]&&isB b [45])) then ([],2) else if isB a [110,111,112] then ([],1) else ([],0)):=by
   cases ho:oneB b with
   | true=>rw[cond_true,hone ho];rfl
   | false =>
    cases isB a [100,117,112]<;>cases isB b [100,114,111,112]<;>cases isB a [115,119,97,112]<;>cases isB b [115,119,97,112]<;>cases isB a [45]<;>cases isB b [45]<;>cases isB a [110,111,112]<;>rfl
  cases b.Kind==0
  ·simp only[cond_false,cond_true,Option.bind_some,Bool.false_and,Bool.true_and,Bool.and_false]
   exact rest
  ·cases ht:twoB c with
   | true =>
    simp only[cond_true,Option.bind_some,Bool.true_and,htwo ht]
    rfl
   | false =>
    simp only[cond_false,cond_true,Option.bind_some,Bool.false_and,Bool.true_and,Bool.and_false]
    exact rest
theorem at1_ok (a:GOp):(at1 a).1=[]/\((at1 a).2=0\/(at1 a).2=1):=by
 unfold at1
 split
 ·exact ⟨rfl, .inr rfl⟩
 ·exact ⟨rfl, .inl rfl⟩
theorem at2_ok {a b:GOp} (ha:i32B a.N):((at2 a b).2=0\/((at2 a b).1.length:Int) < (at2 a b).2)/\0<=(at2 a b).2/\(at2 a b).2<=2/\∀ o ∈ (at2 a b).1,i32B o.N:=by
 unfold at2
 split
 ·refine ⟨.inr (by show (1:Int) < 2;decide),(by show (0:Int)<=2;decide),(by show (2:Int)<=2;decide),λ o ho => ?_⟩
  rw[List.mem_singleton]at ho
  subst ho
  unfold val1
  show i32B (cond _ _ _)
  cases isB b [45]
  ·cases isB b [50,42]
   ·show i32B (a.N / 2)
    unfold i32B at ha ⊢;omega
   ·exact i32w _
  ·exact i32w _
 ·split
  ·exact ⟨.inr (by decide),by decide,by decide,(λ o ho=>nomatch ho)⟩
  ·obtain ⟨h1,h2⟩:=at1_ok a
   rw[h1]
   exact ⟨by simp;omega,by omega,by omega,(λ o ho=>nomatch ho)⟩
theorem foldAt_ok {l:List GOp} (h0:0 < l.length) (hi:∀ o ∈ l,i32B o.N):((foldAt l).2=0\/((foldAt l).1.length:Int) < (foldAt l).2)/\0<=(foldAt l).2/\(foldAt l).2<=l.length/\∀ o ∈ (foldAt l).1,i32B o.N:=by
 match l,h0,hi with
 | [a],_,hi =>
  show ((at1 a).2=0\/((at1 a).1.length:Int) < (at1 a).2)/\0<=(at1 a).2/\(at1 a).2<=1/\_
  obtain ⟨h1,h2⟩:=at1_ok a
  refine ⟨?_,by omega,by omega,λ o ho => ?_⟩
  ·rw[h1];simp;omega
  ·change o ∈ (at1 a).1 at ho
   rw[h1]at ho;cases ho
 | [a,b],_,hi=>exact at2_ok (hi a (by simp))
 | a::b::c::r,_,hi =>
  obtain ⟨h1,h2,h3,h4⟩:=at2_ok (b:=b) (hi a (by simp))
  show ((at3 a b c).2=0\/((at3 a b c).1.length:Int) < (at3 a b c).2)/\0<=(at3 a b c).2/\(at3 a b c).2<=((a::b::c::r).length:Int)/\∀ o ∈ (at3 a b c).1,i32B o.N
  simp only[List.length_cons]
  unfold at3
  split
  ·refine ⟨.inr (by show (1:Int) < 3;decide),by show (0:Int)<=3;decide,by show (3:Int)<=_;omega,λ o ho => ?_⟩
   rw[List.mem_singleton]at ho
   subst ho
   show i32B (val2 c a.N b.N)
   unfold val2
   cases isB c [43]
   ·cases isB c [42]
    ·cases isB c [97,110,100]
     ·exact i32w _
     ·exact i32w _
    ·exact i32w _
   ·exact i32w _
  ·exact ⟨h1,h2,by omega,h4⟩
inductive FoldTo:List GOp->List GOp->Prop
 | refl (l:List GOp):FoldTo l l
 | step {p q w:List GOp} (h0:0 < q.length) (hn:(foldAt q).2≠0) (h:FoldTo (p++(foldAt q).1++q.drop (foldAt q).2.toNat) w):FoldTo (p++q) w
def Folded (w:List GOp):Prop:=∀ j,j < w.length->(foldAt (w.drop j)).2=0
theorem fold_loop:∀ (k:Nat) (out:List GOp) (i:Nat),i<=out.length->out.length<=60->(∀ o ∈ out,i32B o.N)->(∀ j,j < i->(foldAt (out.drop j)).2=0)->61*out.length+(out.length-i) < k →
  ∃ w,w.length<=out.length/\(∀ o ∈ w,i32B o.N)/\FoldTo out w/\Folded w/\g_impl_Fold_l0 k out (i:Int)=some w/\g_spec_Fold_l0 k out (i:Int)=some w:=by
 intro k
 induction k with
 | zero=>intro out i h0 h1 h2 h3 h4;omega
 | succ k ih =>
  intro out i h0 h1 h2 h3 h4
  rw[g_impl_Fold_l0,g_spec_Fold_l0]
  by_cases hn:i < out.length
  case neg =>
   rw[decide_eq_false (by omega),cond_false,cond_false]
   exact ⟨out,Nat.le_refl _,h2, .refl _,λ j hj=>h3 j (by omega),rfl,rfl⟩
  have hd:(out.drop i).length=out.length-i:=List.length_drop
  have h32:∀ o ∈ out.drop i,i32B o.N:=λ o ho=>h2 o (List.mem_of_mem_drop ho)
  obtain ⟨f1,f2,f3,f4⟩:=foldAt_ok (l:=out.drop i) (by omega) h32
  have es:subL out (i:Int) ((out.length:Nat):Int)=some (out.drop i):=by rw[subL_drop (by omega) (by omega)];rfl
  rw[decide_eq_true (by omega),cond_true,cond_true,es]
  simp only[Option.bind_some]
  rw[impl_at (by omega) h32,spec_at (by omega)]
  simp only[Option.bind_some]
  by_cases hz:(foldAt (out.drop i)).2=0
  ·have hb:((foldAt (out.drop i)).2==0)=true:=by rw[hz];rfl
   rw[hb,cond_true,decide_eq_false (by omega),cond_false]
   simp only[Option.bind_some]
   rw[wI64 (by omega) (by omega),show ((i:Int)+1)=((i+1:Nat):Int) by omega]
   refine ih out (i+1) (by omega) h1 h2 (λ j hj => ?_) (by omega)
   by_cases hji:j=i
   ·rw[hji];exact hz
   ·exact h3 j (by omega)
  ·have hb:((foldAt (out.drop i)).2==0)=false:=beq_eq_false_iff_ne.2 hz
   have f5:=f1.resolve_left hz
   have hc:((foldAt (out.drop i)).2.toNat:Int)=(foldAt (out.drop i)).2:=by omega
   have e1:subL out 0 (i:Int)=some (out.take i):=by rw[subL_take (by omega) (by omega)];rfl
   have e2:subL out ((i:Int)+(foldAt (out.drop i)).2) ((out.length:Nat):Int)=some (out.drop (i+(foldAt (out.drop i)).2.toNat)):=by
    rw[subL_drop (by omega) (by omega)];congr 2;omega
   have hl1:(out.take i).length=i:=by rw[List.length_take];omega
   have hl2:(out.drop (i+(foldAt (out.drop i)).2.toNat)).length=out.length-(i+(foldAt (out.drop i)).2.toNat):=List.length_drop
   have hout:(out.take i++(foldAt (out.drop i)).1++out.drop (i+(foldAt (out.drop i)).2.toNat)).length < out.length:=by
    rw[List.length_append,List.length_append,hl1,hl2];omega
   obtain ⟨w,w1,w2,w3,w4,w5,w6⟩:=ih (out.take i++(foldAt (out.drop i)).1++out.drop (i+(foldAt (out.drop i)).2.toNat)) 0 (Nat.zero_le _) (by omega) (λ o ho=>by
    rcases List.mem_append.1 ho with ho|ho
    ·rcases List.mem_append.1 ho with ho|ho
     ·exact h2 o (List.mem_of_mem_take ho)
     ·exact f4 o ho
    ·exact h2 o (List.mem_of_mem_drop ho)) (λ j hj=>by omega) (by omega)
   refine ⟨w,by omega,w2,?_,w4,?_,?_⟩
   ·have:=FoldTo.step (p:=out.take i) (q:=out.drop i) (w:=w) (by omega) hz (by rw[List.drop_drop];exact w3)
    rwa [List.take_append_drop]at this
   ·rw[hb,cond_false,wI64 (by omega) (by omega)]
    have:g_slices_Replace_Op out (i:Int) ((i:Int)+(foldAt (out.drop i)).2) (foldAt (out.drop i)).1=some (out.take i++(foldAt (out.drop i)).1++out.drop (i+(foldAt (out.drop i)).2.toNat)):=by
     unfold g_slices_Replace_Op gRep
     rw[decide_eq_true (by omega),decide_eq_true (by omega),decide_eq_true (by omega),decide_eq_true (by omega),show ((i:Int)+(foldAt (out.drop i)).2).toNat=i+(foldAt (out.drop i)).2.toNat by omega]
     rfl
    rw[this]
    exact w5
   ·rw[decide_eq_true (by omega),cond_true,e1]
    simp only[Option.bind_some]
    rw[app_eq (by simp;omega)]
    simp only[Option.bind_some,List.nil_append]
    rw[app_eq (by rw[hl1];omega)]
    simp only[Option.bind_some]
    rw[wI64 (x:=(i:Int)+(foldAt (out.drop i)).2) (by omega) (by omega),e2]
    simp only[Option.bind_some]
    rw[app_eq (by rw[List.length_append,hl1,hl2];omega)]
    simp only[Option.bind_some]
    exact w6
theorem folds {body:List GOp} (hb:body.length<=1048576) (h32:∀ o ∈ body,i32B o.N):∃ w,w.length<=60/\(∀ o ∈ w,i32B o.N)/\(shapeB body=true->FoldTo body w/\Folded w/\w.length<=body.length)/\(shapeB body=false->w=[])/\g_impl_Fold body=some w/\g_spec_Fold body=some w:=by
 unfold g_impl_Fold g_spec_Fold
 rw[implShape hb,specShape hb]
 simp only[Option.bind_some]
 cases hs:shapeB body with
 | false=>exact ⟨[],by simp,(λ o ho=>nomatch ho),(λ h=>nomatch h),(λ _=>rfl),rfl,rfl⟩
 | true =>
  have h60:body.length<=60:=by unfold shapeB at hs;simp only[Bool.and_eq_true,decide_eq_true_eq]at hs;exact hs.1.1
  obtain ⟨w,w1,w2,w3,w4,w5,w6⟩:=fold_loop bigK body 0 (Nat.zero_le _) h60 h32 (λ j hj=>by omega) (by unfold bigK;omega)
  rw[show ((0:Nat):Int)=0 from rfl]at w5 w6
  refine ⟨w,by omega,w2,(λ _=>⟨w3,w4,w1⟩),(λ h=>nomatch h),?_,?_⟩
  ·rw[Bool.not_true,cond_false]
   unfold g_slices_Clone_Op
   rw[app_eq (by simp;omega),Option.bind_some,List.nil_append,w5];rfl
  ·rw[Bool.not_true,cond_false,app_eq (by simp;omega),Option.bind_some,List.nil_append,w6];rfl
end Go.Proofs.YtnhefmibcnbehaaDoor
namespace Go.Proofs.YtnhefmibcnbehaaDoor
open Go Go.Fm
set_option maxRecDepth 100000
theorem sfold_l0:∀ (k:Nat) (o:List GOp) (i:Int),g_spec_Fold_imm_l0 k o i=g_spec_Fold_l0 k o i:=by
 intro k
 induction k with
 | zero=>intro o i;rfl
 | succ k ih=>intro o i;rw[g_spec_Fold_imm_l0,g_spec_Fold_l0];simp only[ih]
theorem sfold_imm (b:List GOp):g_spec_Fold_imm b=g_spec_Fold b:=by
 unfold g_spec_Fold_imm g_spec_Fold
 simp only[sfold_l0]
def smB (b:List GOp):List GOp:=((g_impl_prune b).bind g_impl_Fold).getD []
theorem smB_ok {b:List GOp} (hs:shapeB b=true) (hi:∀ o ∈ b,i32B o.N):∃ p,g_spec_Prune b=some p/\g_impl_prune b=some p/\g_impl_Fold p=some (smB b)/\g_spec_Fold p=some (smB b)/\(smB b).length<=60:=by
 obtain ⟨w,h1,h2,h3⟩:=prune_shape hs
 obtain ⟨p1,p2,p3,p4⟩:=prB_ok hs
 obtain rfl:prB b=w:=Option.some.inj (p3.symm.trans h3)
 obtain ⟨w,f1,f2,_,_,f5,f6⟩:=folds (body:=prB b) (by omega) λ o ho=>hi o (p4 o ho)
 have e:smB b=w:=by unfold smB;rw[h3,Option.bind_some,f5];rfl
 rw[e]
 exact ⟨prB b,h2,h3,f5,f6,f1⟩
def smD (d:GDef):GDef:=⟨d.Name,smB d.Body⟩
theorem simpI_l0 {defs:List GDef} (hn:defs.length<=24) (hs:∀ d ∈ defs,shapeB d.Body=true/\∀ o ∈ d.Body,i32B o.N):∀ (k i:Nat) (out:List GDef),i<=defs.length->defs.length-i < k->out.length<=i →
  g_impl_SimpleOf_deep_l0 defs (defs.length:Int) k out (i:Int)=some (out++(defs.drop i).map smD)/\g_spec_SimpleOf_l0 defs k out (i:Int)=some (out++(defs.drop i).map smD):=by
 intro k
 induction k with
 | zero=>intro i out h0 h1;omega
 | succ k ih =>
  intro i out h0 h1 h2
  rw[g_impl_SimpleOf_deep_l0,g_spec_SimpleOf_l0]
  by_cases hi:i < defs.length
  ·have hb:=hs _ (List.getElem_mem hi)
   obtain ⟨p,e1,e2,e3,e4,e5⟩:=smB_ok hb.1 hb.2
   obtain ⟨i1,i2⟩:=ih (i+1) (out++[smD defs[i]]) (by omega) (by omega) (by simp;omega)
   rw[decide_eq_true (by omega),cond_true,cond_true,getI_nat,List.getElem?_eq_getElem hi]
   simp only[Option.bind_some]
   rw[e1,e2]
   simp only[Option.bind_some]
   rw[sfold_imm,e3,e4]
   simp only[Option.bind_some]
   rw[app_eq (by simp;omega)]
   simp only[Option.bind_some]
   rw[nxt (by omega),show (⟨defs[i].Name,smB defs[i].Body⟩:GDef)=smD defs[i] from rfl,i1,i2,List.drop_eq_getElem_cons hi,List.map_cons,List.append_assoc]
   exact ⟨rfl,rfl⟩
  ·rw[decide_eq_false (by omega),cond_false,cond_false,List.drop_eq_nil_of_le (by omega),List.map_nil,List.append_nil]
   exact ⟨rfl,rfl⟩
theorem simple_both {defs:List GDef} (h:DW defs) (hi:∀ d ∈ defs,∀ o ∈ d.Body,i32B o.N):∃ o:List GDef,g_impl_SimpleOf_deep defs=some o/\g_spec_SimpleOf defs=some o/\o.length<=1048576/\∀ d ∈ o,DefSz d:=by
 cases hb:defsB defs with
 | false =>
  refine ⟨[],?_,?_,by simp,λ d hd=>by cases hd⟩
  ·unfold g_impl_SimpleOf_deep;rw[defsOk_impl h,hb];rfl
  ·unfold g_spec_SimpleOf;rw[defsOk_spec h,hb];rfl
 | true =>
  have hd:=DG.of hb
  obtain ⟨l1,l2⟩:=simpI_l0 hd.n (λ d h=>⟨hd.s d h,hi d h⟩) bigK 0 [] (Nat.zero_le _) (by have:=hd.n;unfold bigK;omega) (Nat.le_refl _)
  have hnd:=hd.n
  rw[show ((0:Nat):Int)=0 from rfl,List.drop_zero,List.nil_append]at l1 l2
  refine ⟨defs.map smD,?_,?_,by rw[List.length_map];exact h.n,λ d hd' => ?_⟩
  ·unfold g_impl_SimpleOf_deep;rw[defsOk_impl h,hb,Option.bind_some,Bool.not_true,cond_false,l1];rfl
  ·unfold g_spec_SimpleOf;rw[defsOk_spec h,hb,Option.bind_some,Bool.not_true,cond_false,l2];rfl
  ·obtain ⟨e,he,rfl⟩:=List.mem_map.1 hd'
   obtain ⟨p,_,_,_,_,e5⟩:=smB_ok (hd.s e he) (hi e he)
   exact ⟨(h.d e he).n,by show (smB e.Body).length<=_;omega⟩
theorem law_FnExactSimpleOf {defs:List GDef} (hl:defs.length<=LN) (hd:∀ d ∈ defs,DefW d) (hi:∀ d ∈ defs,∀ o ∈ d.Body,i32B o.N):g_laws_FnExactSimpleOf defs=some true:=by
 obtain ⟨y,e,h⟩:=fitsDefs hl hd 1048576 (by omega) (by omega)
 unfold g_laws_FnExactSimpleOf
 rw[e]
 by_cases hy:y < 0
 ·simp only[Option.bind_some,decide_eq_true hy,cond_true]
 have hq:=(h.resolve_left hy).2.2
 obtain ⟨o,e1,e2,h3,h4⟩:=simple_both ⟨hq.1,hq.2⟩ hi
 simp only[Option.bind_some,decide_eq_false hy,cond_false,toDefS hq.1 hq.2,e1,e2,eqDefS h3 h4,eqDefS hq.1 hq.2,markDefS hq.1 hq.2,markDefS h3 h4,heldDefS h3 h4,Bool.not_true,nnN,bne_self']
end Go.Proofs.YtnhefmibcnbehaaDoor

namespace Go.Proofs.YtnhefmibcnbehaaDoor
open Go Go.Fm
set_option maxRecDepth 100000
theorem typed_GOp:Typed [.int .i64, .int .i32] GOp.cs (λ x:GOp=>(λ n:Int=>(Lit.int .i64 n).wf=true) x.Kind/\(λ n:Int=>(Lit.int .i32 n).wf=true) x.N):=λ row hl h=>by
 match row,hl with
 | [c0,c1],_ =>
  obtain ⟨x0,e0,g0⟩:=(typed_int .i64) [c0] rfl (Go.Fm.one_cell (h 0 _ c0 rfl rfl))
  obtain ⟨x1,e1,g1⟩:=(typed_int .i32) [c1] rfl (Go.Fm.one_cell (h 1 _ c1 rfl rfl))
  obtain rfl:=(List.cons.inj e0).1
  obtain rfl:=(List.cons.inj e1).1
  exact ⟨(⟨x0,x1⟩:GOp),rfl,⟨g0,g1⟩⟩
theorem typed_GDef:Typed [.str, .sl [.int .i64, .int .i32]] GDef.cs (λ x:GDef=>(λ l:Bs=>l.length<=maxLen) x.Name/\(λ xs:List GOp=>xs.length<=maxLen/\∀ x ∈ xs,(λ x:GOp=>(λ n:Int=>(Lit.int .i64 n).wf=true) x.Kind/\(λ n:Int=>(Lit.int .i32 n).wf=true) x.N) x) x.Body):=λ row hl h=>by
 match row,hl with
 | [c0,c1],_ =>
  obtain ⟨x0,e0,g0⟩:=(typed_str) [c0] rfl (Go.Fm.one_cell (h 0 _ c0 rfl rfl))
  obtain ⟨x1,e1,g1⟩:=(typed_sl (typed_GOp) rfl (by decide)) [c1] rfl (Go.Fm.one_cell (h 1 _ c1 rfl rfl))
  obtain rfl:=(List.cons.inj e0).1
  obtain rfl:=(List.cons.inj e1).1
  exact ⟨(⟨x0,x1⟩:GDef),rfl,⟨g0,g1⟩⟩
theorem ans_FnExactSimpleOf (x0:List GDef) (g0:(λ xs:List GDef=>xs.length<=maxLen/\∀ x ∈ xs,(λ x:GDef=>(λ l:Bs=>l.length<=maxLen) x.Name/\(λ xs:List GOp=>xs.length<=maxLen/\∀ x ∈ xs,(λ x:GOp=>(λ n:Int=>(Lit.int .i64 n).wf=true) x.Kind/\(λ n:Int=>(Lit.int .i32 n).wf=true) x.N) x) x.Body) x) x0) :
  Ans Tryd.prog 5 [.one (.imm 2 x0.length (x0.flatMap GDef.cs))] [] λ v _=>v=Go.Fm.one (.bool true):=λ hm=>by
 obtain ⟨r,h1,a,b,c,_⟩:=ce_laws_FnExactSimpleOf (x0) true (good_pure rfl rfl) (law_FnExactSimpleOf g0.1 (λ d hd=>⟨(g0.2 d hd).1,(g0.2 d hd).2.1⟩) (λ d hd o ho=>wfI32 ((g0.2 d hd).2.2 o ho).2)) hm
 exact ⟨r,h1,a,b⟩
end Go.Proofs.YtnhefmibcnbehaaDoor
