import Derived.Test.YtmedombacbpofaaGreatDoorML
set_option linter.all false
namespace Go.Proofs.YtmedombacbpofaaGreatDoor
open Go Go.Fm
set_option maxRecDepth 100000
theorem is4 (o:GOp):g_impl_isPrim o [[43],[42],[97,110,100],[111,114]]=some (twoB o):=by
 rw[implIs o (by decide)]
 unfold twoB
 simp only[List.any_cons,List.any_nil,Bool.or_false,Bool.or_assoc]
theorem is3 (o:GOp):g_impl_isPrim o [[45],[50,42],[50,47]]=some (oneB o):=by
 rw[implIs o (by decide)]
 unfold oneB
 simp only[List.any_cons,List.any_nil,Bool.or_false,Bool.or_assoc]
theorem is1 (o:GOp) (s:Bs):g_impl_isPrim o [s]=some (isB o s):=by
 rw[implIs o (by simp)]
 simp only[List.any_cons,List.any_nil,Bool.or_false]
theorem isB8 (s:Bs):isB ⟨8,0⟩ s=false:=rfl
theorem two8:twoB ⟨8,0⟩=false:=rfl
theorem one8:oneB ⟨8,0⟩=false:=rfl
theorem pair8 (a:GOp):pairB a ⟨8,0⟩=false:=by
 unfold pairB
 simp only[isB8,Bool.and_false,Bool.or_false]
theorem at28 (a:GOp):at2 a ⟨8,0⟩=at1 a:=by
 unfold at2
 simp[one8,pair8]
theorem at38 (a b:GOp):at3 a b ⟨8,0⟩=at2 a b:=by
 unfold at3
 simp[two8]
theorem impl_at {l:List GOp} (h0:0 < l.length) (hi:∀ o ∈ l,i32B o.N):g_impl_folded l=some (foldAt l):=by
 obtain ⟨a,b,c,e0,e1,e2,hf,ha⟩:∃ a b c,g_impl_foldedc1 0 l=some a/\g_impl_foldedc1 1 l=some b/\g_impl_foldedc1 2 l=some c/\foldAt l=at3 a b c/\i32B a.N:=by
  unfold g_impl_foldedc1
  match l,h0,hi with
  | [a],_,hi =>
   refine ⟨a,⟨8,0⟩,⟨8,0⟩,rfl,rfl,rfl,?_,hi a (by simp)⟩
   rw[at38,at28];rfl
  | [a,b],_,hi =>
   refine ⟨a,b,⟨8,0⟩,rfl,rfl,rfl,?_,hi a (by simp)⟩
   rw[at38];rfl
  | a::b::c::r,_,hi =>
   refine ⟨a,b,c,?_,?_,?_,rfl,hi a (by simp)⟩
   ·rw[decide_eq_true (by simp only[List.length_cons];omega)];rfl
   ·rw[decide_eq_true (by simp only[List.length_cons];omega)];rfl
   ·rw[decide_eq_true (by simp only[List.length_cons];omega)];rfl
 unfold g_impl_folded
 rw[e0,e1,e2,hf]
 simp only[Option.bind_some,name_eq,pn_eq,is4,is3,is1]
 unfold at3 at2 at1 pairB
 have hone:oneB b=true->g_impl_foldedc2 (pn b) 0 a.N=some [⟨0,val1 b a.N⟩]:=λ h=>impl_one h ha
 have htwo:twoB c=true->g_impl_foldedc2 (pn c) a.N b.N=some [⟨0,val2 c a.N b.N⟩]:=λ h=>impl_two h _ _
 cases a.Kind==0
 ·simp only[cond_false,Option.bind_some,Bool.false_and,Bool.false_or]
  cases isB a [100,117,112]<;>cases isB b [100,114,111,112]<;>cases isB a [115,119,97,112]<;>cases isB b [115,119,97,112]<;>cases isB a [45]<;>cases isB b [45]<;>cases isB a [110,111,112]<;>rfl
 ·have rest:((cond (oneB b) ((g_impl_foldedc2 (pn b) 0 a.N).bind λ y_16=>some (.inr (y_16,2))) ((cond (isB b [100,114,111,112]) (some (isB b [100,114,111,112])) (((cond (isB a [100,117,112]) (some (isB b [100,114,111,112])) (some false):Option Bool)).bind λ v_20=>cond v_20 (some v_20) ((cond (isB a [115,119,97,112]) (some (isB b [115,119,97,112])) (some false):Option Bool).bind λ v_23=>cond v_23 (some v_23) (cond (isB a [45]) (some (isB b [45])) (some false)))):Option Bool).bind λ v_17=>cond v_17 (some (.inr ([],2))) (cond (isB a [110,111,112]) (some (.inr ([],1))) (some (.inl ())))):Option (Unit ⊕ ((List GOp)×Int))).bind λ o=>match o with | .inl ()=>some ([],0) | .inr (v_7,v_8)=>some (v_7,v_8))=some (if oneB b then ([⟨0,val1 b a.N⟩],2) else if (isB b [100,114,111,112] || (isB a [100,117,112]&&isB b [100,114,111,112]) || (isB a [115,119,97,112]&&isB b [115,119,97,112]) || (isB a [45]&&isB b [45])) then ([],2) else if isB a [110,111,112] then ([],1) else ([],0)):=by
   cases ho:oneB b with
   | true=>rw[cond_true,hone ho];rfl
   | false =>
    cases isB a [100,117,112]<;>cases isB b [100,114,111,112]<;>cases isB a [115,119,97,112]<;>cases isB b [115,119,97,112]<;>cases isB a [45]<;>cases isB b [45]<;>cases isB a [110,111,112]<;>rfl
  cases b.Kind==0
  ·simp only[cond_false,cond_true,Option.bind_some,Bool.false_and,Bool.true_and,Bool.and_false]
   exact rest
  ·cases ht:twoB c with
   | true =>
    simp only[cond_true,Option.bind_some,Bool.true_and,htwo ht]
    rfl
   | false =>
    simp only[cond_false,cond_true,Option.bind_some,Bool.false_and,Bool.true_and,Bool.and_false]
    exact rest
theorem at1_ok (a:GOp):(at1 a).1=[]/\((at1 a).2=0\/(at1 a).2=1):=by
 unfold at1
 split
 ·exact ⟨rfl, .inr rfl⟩
 ·exact ⟨rfl, .inl rfl⟩
theorem at2_ok {a b:GOp} (ha:i32B a.N):((at2 a b).2=0\/((at2 a b).1.length:Int) < (at2 a b).2)/\0<=(at2 a b).2/\(at2 a b).2<=2/\∀ o ∈ (at2 a b).1,i32B o.N:=by
 unfold at2
 split
 ·refine ⟨.inr (by show (1:Int) < 2;decide),(by show (0:Int)<=2;decide),(by show (2:Int)<=2;decide),λ o ho => ?_⟩
  rw[List.mem_singleton]at ho
  subst ho
  unfold val1
  show i32B (cond _ _ _)
  cases isB b [45]
  ·cases isB b [50,42]
   ·show i32B (a.N / 2)
    unfold i32B at ha ⊢;omega
   ·exact i32w _
  ·exact i32w _
 ·split
  ·exact ⟨.inr (by decide),by decide,by decide,(λ o ho=>nomatch ho)⟩
  ·obtain ⟨h1,h2⟩:=at1_ok a
   rw[h1]
   exact ⟨by simp;omega,by omega,by omega,(λ o ho=>nomatch ho)⟩
theorem foldAt_ok {l:List GOp} (h0:0 < l.length) (hi:∀ o ∈ l,i32B o.N):((foldAt l).2=0\/((foldAt l).1.length:Int) < (foldAt l).2)/\0<=(foldAt l).2/\(foldAt l).2<=l.length/\∀ o ∈ (foldAt l).1,i32B o.N:=by
 match l,h0,hi with
 | [a],_,hi =>
  show ((at1 a).2=0\/((at1 a).1.length:Int) < (at1 a).2)/\0<=(at1 a).2/\(at1 a).2<=1/\_
  obtain ⟨h1,h2⟩:=at1_ok a
  refine ⟨?_,by omega,by omega,λ o ho => ?_⟩
  ·rw[h1];simp;omega
  ·change o ∈ (at1 a).1 at ho
   rw[h1]at ho;cases ho
 | [a,b],_,hi=>exact at2_ok (hi a (by simp))
 | a::b::c::r,_,hi =>
  obtain ⟨h1,h2,h3,h4⟩:=at2_ok (b:=b) (hi a (by simp))
  show ((at3 a b c).2=0\/((at3 a b c).1.length:Int) < (at3 a b c).2)/\0<=(at3 a b c).2/\(at3 a b c).2<=((a::b::c::r).length:Int)/\∀ o ∈ (at3 a b c).1,i32B o.N
  simp only[List.length_cons]
  unfold at3
  split
  ·refine ⟨.inr (by show (1:Int) < 3;decide),by show (0:Int)<=3;decide,by show (3:Int)<=_;omega,λ o ho => ?_⟩
   rw[List.mem_singleton]at ho
   subst ho
   show i32B (val2 c a.N b.N)
   unfold val2
   cases isB c [43]
   ·cases isB c [42]
    ·cases isB c [97,110,100]
     ·exact i32w _
     ·exact i32w _
    ·exact i32w _
   ·exact i32w _
  ·exact ⟨h1,h2,by omega,h4⟩
inductive FoldTo:List GOp->List GOp->Prop
 | refl (l:List GOp):FoldTo l l
 | step {p q w:List GOp} (h0:0 < q.length) (hn:(foldAt q).2≠0) (h:FoldTo (p++(foldAt q).1++q.drop (foldAt q).2.toNat) w):FoldTo (p++q) w
def Folded (w:List GOp):Prop:=∀ j,j < w.length->(foldAt (w.drop j)).2=0
theorem fold_loop:∀ (k:Nat) (out:List GOp) (i:Nat),i<=out.length->out.length<=60->(∀ o ∈ out,i32B o.N)->(∀ j,j < i->(foldAt (out.drop j)).2=0)->61*out.length+(out.length-i) < k →
  ∃ w,w.length<=out.length/\(∀ o ∈ w,i32B o.N)/\FoldTo out w/\Folded w/\g_impl_Fold_l0 k out (i:Int)=some w/\g_spec_Fold_l0 k out (i:Int)=some w:=by
 intro k
 induction k with
 | zero=>intro out i h0 h1 h2 h3 h4;omega
 | succ k ih =>
  intro out i h0 h1 h2 h3 h4
  rw[g_impl_Fold_l0,g_spec_Fold_l0]
  by_cases hn:i < out.length
  case neg =>
   rw[decide_eq_false (by omega),cond_false,cond_false]
   exact ⟨out,Nat.le_refl _,h2, .refl _,λ j hj=>h3 j (by omega),rfl,rfl⟩
  have hd:(out.drop i).length=out.length-i:=List.length_drop
  have h32:∀ o ∈ out.drop i,i32B o.N:=λ o ho=>h2 o (List.mem_of_mem_drop ho)
  obtain ⟨f1,f2,f3,f4⟩:=foldAt_ok (l:=out.drop i) (by omega) h32
  have es:subL out (i:Int) ((out.length:Nat):Int)=some (out.drop i):=by rw[subL_drop (by omega) (by omega)];rfl
  rw[decide_eq_true (by omega),cond_true,cond_true,es]
  simp only[Option.bind_some]
  rw[impl_at (by omega) h32,spec_at (by omega)]
  simp only[Option.bind_some]
  by_cases hz:(foldAt (out.drop i)).2=0
  ·have hb:((foldAt (out.drop i)).2==0)=true:=by rw[hz];rfl
   rw[hb,cond_true,decide_eq_false (by omega),cond_false]
   simp only[Option.bind_some]
   rw[wI64 (by omega) (by omega),show ((i:Int)+1)=((i+1:Nat):Int) by omega]
   refine ih out (i+1) (by omega) h1 h2 (λ j hj => ?_) (by omega)
   by_cases hji:j=i
   ·rw[hji];exact hz
   ·exact h3 j (by omega)
  ·have hb:((foldAt (out.drop i)).2==0)=false:=beq_eq_false_iff_ne.2 hz
   have f5:=f1.resolve_left hz
   have hc:((foldAt (out.drop i)).2.toNat:Int)=(foldAt (out.drop i)).2:=by omega
   have e1:subL out 0 (i:Int)=some (out.take i):=by rw[subL_take (by omega) (by omega)];rfl
   have e2:subL out ((i:Int)+(foldAt (out.drop i)).2) ((out.length:Nat):Int)=some (out.drop (i+(foldAt (out.drop i)).2.toNat)):=by
    rw[subL_drop (by omega) (by omega)];congr 2;omega
   have hl1:(out.take i).length=i:=by rw[List.length_take];omega
   have hl2:(out.drop (i+(foldAt (out.drop i)).2.toNat)).length=out.length-(i+(foldAt (out.drop i)).2.toNat):=List.length_drop
   have hout:(out.take i++(foldAt (out.drop i)).1++out.drop (i+(foldAt (out.drop i)).2.toNat)).length < out.length:=by
    rw[List.length_append,List.length_append,hl1,hl2];omega
   obtain ⟨w,w1,w2,w3,w4,w5,w6⟩:=ih (out.take i++(foldAt (out.drop i)).1++out.drop (i+(foldAt (out.drop i)).2.toNat)) 0 (Nat.zero_le _) (by omega) (λ o ho=>by
    rcases List.mem_append.1 ho with ho|ho
    ·rcases List.mem_append.1 ho with ho|ho
     ·exact h2 o (List.mem_of_mem_take ho)
     ·exact f4 o ho
    ·exact h2 o (List.mem_of_mem_drop ho)) (λ j hj=>by omega) (by omega)
   refine ⟨w,by omega,w2,?_,w4,?_,?_⟩
   ·have:=FoldTo.step (p:=out.take i) (q:=out.drop i) (w:=w) (by omega) hz (by rw[List.drop_drop];exact w3)
    rwa [List.take_append_drop]at this
   ·rw[hb,cond_false,wI64 (by omega) (by omega)]
    have:g_slices_Replace_Op out (i:Int) ((i:Int)+(foldAt (out.drop i)).2) (foldAt (out.drop i)).1=some (out.take i++(foldAt (out.drop i)).1++out.drop (i+(foldAt (out.drop i)).2.toNat)):=by
     unfold g_slices_Replace_Op gRep
     rw[decide_eq_true (by omega),decide_eq_true (by omega),decide_eq_true (by omega),decide_eq_true (by omega),show ((i:Int)+(foldAt (out.drop i)).2).toNat=i+(foldAt (out.drop i)).2.toNat by omega]
     rfl
    rw[this]
    exact w5
   ·rw[decide_eq_true (by omega),cond_true,e1]
    simp only[Option.bind_some]
    rw[app_eq (by simp;omega)]
    simp only[Option.bind_some,List.nil_append]
    rw[app_eq (by rw[hl1];omega)]
    simp only[Option.bind_some]
    rw[wI64 (x:=(i:Int)+(foldAt (out.drop i)).2) (by omega) (by omega),e2]
    simp only[Option.bind_some]
    rw[app_eq (by rw[List.length_append,hl1,hl2];omega)]
    simp only[Option.bind_some]
    exact w6
theorem folds {body:List GOp} (hb:body.length<=1048576) (h32:∀ o ∈ body,i32B o.N):∃ w,w.length<=60/\(∀ o ∈ w,i32B o.N)/\(shapeB body=true->FoldTo body w/\Folded w/\w.length<=body.length)/\(shapeB body=false->w=[])/\g_impl_Fold body=some w/\g_spec_Fold body=some w:=by
 unfold g_impl_Fold g_spec_Fold
 rw[implShape hb,specShape hb]
 simp only[Option.bind_some]
 cases hs:shapeB body with
 | false=>exact ⟨[],by simp,(λ o ho=>nomatch ho),(λ h=>nomatch h),(λ _=>rfl),rfl,rfl⟩
 | true =>
  have h60:body.length<=60:=by unfold shapeB at hs;simp only[Bool.and_eq_true,decide_eq_true_eq]at hs;exact hs.1.1
  obtain ⟨w,w1,w2,w3,w4,w5,w6⟩:=fold_loop bigK body 0 (Nat.zero_le _) h60 h32 (λ j hj=>by omega) (by unfold bigK;omega)
  rw[show ((0:Nat):Int)=0 from rfl]at w5 w6
  refine ⟨w,by omega,w2,(λ _=>⟨w3,w4,w1⟩),(λ h=>nomatch h),?_,?_⟩
  ·rw[Bool.not_true,cond_false]
   unfold g_slices_Clone_Op
   rw[app_eq (by simp;omega),Option.bind_some,List.nil_append,w5];rfl
  ·rw[Bool.not_true,cond_false,app_eq (by simp;omega),Option.bind_some,List.nil_append,w6];rfl
end Go.Proofs.YtmedombacbpofaaGreatDoor
namespace Go.Proofs.YtmedombacbpofaaGreatDoor
open Go Go.Fm
set_option maxRecDepth 100000
inductive Ex:List GOp->List GOp->Prop
 | two {a b c:GOp} (ha:a.Kind=0) (hb:b.Kind=0) (hc:twoB c=true):Ex [a,b,c] [⟨0,val2 c a.N b.N⟩]
 | one {a b:GOp} (ha:a.Kind=0) (hb:oneB b=true):Ex [a,b] [⟨0,val1 b a.N⟩]
 | pair {a b:GOp} (h:pairB a b=true):Ex [a,b] []
 | nop {a:GOp} (h:isB a [110,111,112]=true):Ex [a] []
theorem at1_case {a:GOp} (h:(at1 a).2≠0):at1 a=([],1)/\Ex [a] []:=by
 unfold at1 at *
 cases hn:isB a [110,111,112] with
 | true=>rw[if_pos rfl];exact ⟨rfl, .nop hn⟩
 | false=>rw[hn]at h;exact absurd rfl h
theorem at2_case {a b:GOp} (h:(at2 a b).2≠0):(∃ y,at2 a b=(y,2)/\Ex [a,b] y)\/at2 a b=([],1)/\Ex [a] []:=by
 unfold at2 at *
 cases h1:a.Kind==0&&oneB b with
 | true =>
  rw[if_pos rfl]
  rw[Bool.and_eq_true]at h1
  exact .inl ⟨_,rfl, .one (eq_of_beq h1.1) h1.2⟩
 | false =>
  rw[h1,if_neg (by simp)]at h
  rw[if_neg (by simp)]
  cases h2:pairB a b with
  | true=>rw[if_pos rfl];exact .inl ⟨_,rfl, .pair h2⟩
  | false =>
   rw[h2,if_neg (by simp)]at h
   rw[if_neg (by simp)]
   exact .inr (at1_case h)
theorem foldAt_case {q:List GOp} (h0:0 < q.length) (h:(foldAt q).2≠0):∃ x z,q=x++z/\Ex x (foldAt q).1/\q.drop (foldAt q).2.toNat=z:=by
 match q,h0,h with
 | [a],_,h =>
  obtain ⟨e,x⟩:=at1_case (a:=a) h
  have e':foldAt [a]=([],1):=e
  rw[e']
  exact ⟨[a],[],rfl,x,rfl⟩
 | [a,b],_,h =>
  rcases at2_case (a:=a) (b:=b) h with ⟨y,e,x⟩|⟨e,x⟩
  ·have e':foldAt [a,b]=(y,2):=e
   rw[e']
   exact ⟨[a,b],[],rfl,x,rfl⟩
  ·have e':foldAt [a,b]=([],1):=e
   rw[e']
   exact ⟨[a],[b],rfl,x,rfl⟩
 | a::b::c::r,_,h =>
  have e:foldAt (a::b::c::r)=at3 a b c:=rfl
  rw[e]at h ⊢
  unfold at3 at *
  cases h1:a.Kind==0&&b.Kind==0&&twoB c with
  | true =>
   rw[if_pos rfl]
   rw[Bool.and_eq_true,Bool.and_eq_true]at h1
   exact ⟨[a,b,c],r,rfl, .two (eq_of_beq h1.1.1) (eq_of_beq h1.1.2) h1.2,rfl⟩
  | false =>
   rw[h1,if_neg (by simp)]at h
   rw[if_neg (by simp)]
   rcases at2_case (a:=a) (b:=b) h with ⟨y,e,x⟩|⟨e,x⟩
   ·rw[e];exact ⟨[a,b],c::r,rfl,x,rfl⟩
   ·rw[e];exact ⟨[a],b::c::r,rfl,x,rfl⟩
theorem Ex.plain {x y:List GOp} (h:Ex x y):(∀ o ∈ x,o.Kind=0\/o.Kind=1)/\(∀ o ∈ y,o.Kind=0)/\0 < x.length/\y.length < x.length:=by
 have one_of {b:GOp} (hb:oneB b=true):b.Kind=1:=by
  rcases one_or hb with h|h|h<;>exact isB_kind h
 have two_of {b:GOp} (hb:twoB b=true):b.Kind=1:=by
  rcases two_or hb with h|h|h|h<;>exact isB_kind h
 cases h with
 | two ha hb hc =>
  refine ⟨λ o ho => ?_,λ o ho => ?_,by simp,by simp⟩
  ·simp only[List.mem_cons,List.not_mem_nil,or_false]at ho
   rcases ho with rfl|rfl|rfl
   ·exact .inl ha
   ·exact .inl hb
   ·exact .inr (two_of hc)
  ·rw[List.mem_singleton]at ho;subst ho;rfl
 | one ha hb =>
  refine ⟨λ o ho => ?_,λ o ho => ?_,by simp,by simp⟩
  ·simp only[List.mem_cons,List.not_mem_nil,or_false]at ho
   rcases ho with rfl|rfl
   ·exact .inl ha
   ·exact .inr (one_of hb)
  ·rw[List.mem_singleton]at ho;subst ho;rfl
 | @pair a b h =>
  refine ⟨λ o ho => ?_,(λ o ho=>nomatch ho),by simp,by simp⟩
  unfold pairB at h
  simp only[Bool.or_eq_true,Bool.and_eq_true]at h
  have hab:(a.Kind=0\/a.Kind=1)/\b.Kind=1:=by
   rcases h with ((h|h)|h)|h
   ·exact ⟨.inl (eq_of_beq h.1),isB_kind h.2⟩
   ·exact ⟨.inr (isB_kind h.1),isB_kind h.2⟩
   ·exact ⟨.inr (isB_kind h.1),isB_kind h.2⟩
   ·exact ⟨.inr (isB_kind h.1),isB_kind h.2⟩
  simp only[List.mem_cons,List.not_mem_nil,or_false]at ho
  rcases ho with rfl|rfl
  ·exact hab.1
  ·exact .inr hab.2
 | @nop a h =>
  refine ⟨λ o ho => ?_,(λ o ho=>nomatch ho),by simp,by simp⟩
  rw[List.mem_singleton]at ho;subst ho
  exact .inr (isB_kind h)
theorem open_plain {x:List GOp} (h:∀ o ∈ x,o.Kind=0\/o.Kind=1) (z:List GOp) (v:List Int):openF (x++z) v=openF z v:=by
 induction x with
 | nil=>rfl
 | cons o r ih =>
  have h0:=h o (List.mem_cons.2 (.inl rfl))
  rw[List.cons_append,openF]
  unfold stepF
  rw[if_neg (by omega),if_neg (by omega),Option.bind_some,ih λ p hp=>h p (List.mem_cons.2 (.inr hp))]
theorem open_mid {x y z:List GOp} (h:Ex x y):∀ (p:List GOp) (v:List Int),openF (p++(x++z)) v=openF (p++(y++z)) v
 | [],v=>by rw[List.nil_append,List.nil_append,open_plain h.plain.1,open_plain λ o ho=>.inl (h.plain.2.1 o ho)]
 | o::r,v=>by
  rw[List.cons_append,List.cons_append,openF,openF]
  congr 1
  funext w
  exact open_mid h r w
theorem okB_lit {o:GOp} (h:o.Kind=0):okB o=true:=by
 have:g_spec_l09Op o=some true:=by unfold g_spec_l09Op;rw[h];rfl
 unfold okB
 rw[this];rfl
inductive ExTo:List GOp->List GOp->Prop
 | refl (l:List GOp):ExTo l l
 | step {p x y z w:List GOp} (h:Ex x y) (hr:ExTo (p++(y++z)) w):ExTo (p++(x++z)) w
theorem FoldTo.ex {a b:List GOp} (h:FoldTo a b):ExTo a b:=by
 induction h with
 | refl l=>exact .refl l
 | @step p q w h0 hn h ih =>
  obtain ⟨x,z,e1,e2,e3⟩:=foldAt_case h0 hn
  rw[e3,List.append_assoc]at ih
  rw[e1]
  exact .step e2 ih
theorem ExTo.shape {a b:List GOp} (h:ExTo a b) (hs:shapeB a=true):shapeB b=true:=by
 induction h with
 | refl l=>exact hs
 | @step p x y z w h hr ih =>
  refine ih ?_
  unfold shapeB at hs ⊢
  obtain ⟨h1,h2,h3,h4⟩:=h.plain
  simp only[Bool.and_eq_true,decide_eq_true_eq,List.all_eq_true,List.length_append,List.mem_append]at hs ⊢
  refine ⟨⟨by omega,λ o ho => ?_⟩,by rw[<-open_mid h];exact hs.2⟩
  rcases ho with ho|ho|ho
  ·exact hs.1.2 o (.inl ho)
  ·exact okB_lit (h2 o ho)
  ·exact hs.1.2 o (.inr (.inr ho))
theorem folded_fix {a b:List GOp} (h:FoldTo a b) (hf:Folded a):b=a:=by
 cases h with
 | refl l=>rfl
 | @step p q w h0 hn h =>
  have:=hf p.length (by rw[List.length_append];omega)
  rw[List.drop_left]at this
  exact absurd this hn
theorem fold_twice {b:List GOp} (hb:b.length<=1048576) (h32:∀ o ∈ b,i32B o.N):∃ w,w.length<=60/\g_impl_Fold b=some w/\g_spec_Fold b=some w/\g_impl_Fold w=some w:=by
 obtain ⟨w,h1,h2,h3,h4,h5,h6⟩:=folds hb h32
 refine ⟨w,h1,h5,h6,?_⟩
 obtain ⟨w2,_,_,g3,g4,g5,_⟩:=folds (body:=w) (by omega) h2
 rw[g5]
 congr 1
 cases hs:shapeB b with
 | true =>
  obtain ⟨f1,f2,f3⟩:=h3 hs
  exact folded_fix (g3 (f1.ex.shape hs)).1 f2
 | false =>
  have:=h4 hs
  subst this
  have:shapeB []=true:=rfl
  have:=(g3 this).2.2
  exact List.length_eq_zero_iff.1 (by simpa using this)
end Go.Proofs.YtmedombacbpofaaGreatDoor
namespace Go.Proofs.YtmedombacbpofaaGreatDoor
open Go Go.Fm
set_option maxRecDepth 100000
theorem int4_ok {c:GL01Cur} (h:Cok c):Tot (g_spec_l04Int c) λ r=>i32B r.1/\Cok r.2:=by
 unfold g_spec_l04Int
 refine .bind (once_ok h (by decide)) λ a ha=>.cond (λ _ => ?_) λ _ => ?_
 ·exact .bind (below_ok ha (by decide)) λ b hb=>.some ⟨i32w _,hb.2.2⟩
 ·exact .bind (pickInt_ok ha (by decide)) λ b hb=>.some ⟨i32w _,hb.2⟩
theorem body15_ok {c:GL01Cur} (h:Cok c):Tot (g_spec_l15Body c) λ r=>B9 r.1/\Cok r.2:=by
 unfold g_spec_l15Body
 refine .bind (below_ok h (by decide)) λ n hn => ?_
 have loop:∀ (k:Nat) (out:List GOp) (i:Int) (x:GL01Cur),Cok x->0<=i->i<=n.1->out.length<=40*i->(∀ o ∈ out,i32B o.N)->n.1-i < k->Tot (g_spec_l15Body_l0 n.1 k out i x) λ r=>(r.1.length<=400/\∀ o ∈ r.1,i32B o.N)/\Cok r.2:=by
  intro k
  induction k with
  | zero=>intro out i x hx h0 h1 h2 h3 h4;omega
  | succ k ih =>
   intro out i x hx h0 h1 h2 h3 h4
   unfold g_spec_l15Body_l0
   refine .condD (λ hi => ?_) λ _=>.some ⟨⟨by show out.length<=400;omega,h3⟩,hx⟩
   refine .bind (Q:=λ r=>(r.1.length<=40*(i+1)/\∀ o ∈ r.1,i32B o.N)/\Cok r.2) ?_ λ r hr => ?_
   ·refine .bind (below_ok hx (by decide)) λ a ha=>.bind (Q:=λ _=>True) ?_ λ b _=>.cond (λ _ => ?_) λ _=>.cond (λ _ => ?_) λ _ => ?_
    ·exact .cond (λ _=>.some trivial) λ _=>.some trivial
    ·refine .bind (int4_ok ha.2.2) λ d hd=>.bindE (app_eq (by simp;omega)) (.some ⟨⟨?_,λ o ho => ?_⟩,hd.2⟩)
     ·show ((out++[_]).length:Int)<=_
      rw[List.length_append,List.length_singleton];omega
     ·rcases List.mem_append.1 ho with ho|ho
      ·exact h3 o ho
      ·rw[List.mem_singleton.1 ho];exact hd.1
    ·refine .bind (pickInt_ok ha.2.2 (by decide)) λ d hd=>.bindE (app_eq (by simp;omega)) (.some ⟨⟨?_,λ o ho => ?_⟩,hd.2⟩)
     ·show ((out++[_]).length:Int)<=_
      rw[List.length_append,List.length_singleton];omega
     ·rcases List.mem_append.1 ho with ho|ho
      ·exact h3 o ho
      ·rw[List.mem_singleton.1 ho];exact i32w _
    ·refine .bind (body_ok 1 bigK (by unfold bigK;omega) (by omega) ha.2.2 (by omega)) λ d hd => ?_
     have hdl:d.1.length<=37:=hd.1.2
     refine .bindE (app_eq (by omega)) (.some ⟨⟨?_,λ o ho => ?_⟩,hd.2⟩)
     ·show ((out++d.1).length:Int)<=_
      rw[List.length_append];omega
     ·rcases List.mem_append.1 ho with ho|ho
      ·exact h3 o ho
      ·exact (hd.1.1.ok o ho).1.2
   ·obtain ⟨r1,r2⟩:=r
    show Tot (g_spec_l15Body_l0 n.1 k r1 (IntKind.wrap .i64 (i+1)) r2) _
    rw[wI64 (by omega) (by omega)]
    exact ih r1 (i+1) r2 hr.2 (by omega) (by omega) hr.1.1 hr.1.2 (by omega)
 refine .bind (Q:=λ r=>(r.1.length<=400/\∀ o ∈ r.1,i32B o.N)/\Cok r.2) (.bind (loop bigK [] 0 n.2 hn.2.2 (by omega) (by omega) (by simp) (λ o ho=>nomatch ho) (by unfold bigK;omega)) λ r hr=>.some hr) λ r hr => ?_
 obtain ⟨r1,r2⟩:=r
 refine .bind (Q:=λ q=>Cok q.2) ?_ λ q hq => ?_
 ·exact .condD (λ _=>.some hr.2) λ _=>.bind (once_ok hr.2 (by decide)) λ o ho=>.some ho
 ·obtain ⟨q1,q2⟩:=q
  refine .cond (λ _=>.bind (any9 hq) λ a ha=>.some ha) λ _=>.some ⟨⟨?_,hr.1.2⟩,hq⟩
  have:=hr.1.1
  show r1.length<=1000
  simp only at this
  omega
theorem fold_draw {code:List Int} (hc:code.length<=1048576):Tot (g_spec_DrawFold code) B9 :=
 .bind (new_ok hc) λ c h=>.bind (body15_ok h) λ a ha=>.some ha.1
theorem sameOps {a:List GOp} (h:a.length<=1048576):g_laws_sameOps a a=some true :=
 eqRefl (g_laws_sameOps_l0 a a) _ rfl (λ k n x hx hn=>by
  rw[g_laws_sameOps_l0,decide_eq_true (by omega),cond_true,getI_nat,hx]
  simp only[Option.bind_some,beq_self_eq_true,Bool.and_true,Bool.not_true,cond_false]
  rw[nxt (by omega)]) (λ k n hn=>by rw[g_laws_sameOps_l0,decide_eq_false (by omega),cond_false]) (by omega)
theorem law_once (code:List Int):g_laws_FnOnce code=some true:=by
 unfold g_laws_FnOnce g_laws_big
 rw[Option.bind_some]
 by_cases hc:code.length<=1048576
 case neg=>rw[decide_eq_true (by omega),cond_true]
 rw[decide_eq_false (by omega),cond_false]
 obtain ⟨b,e1,hb⟩:=fold_draw hc
 obtain ⟨q,e2,hq⟩:=means_draw hc
 have hbl:=hb.1
 obtain ⟨w,w1,w2,w3,w4⟩:=fold_twice (b:=b) (by omega) hb.2
 have hp:=impl_prune (b:=b) (by omega)
 have hpl:(if shapeB b then prB b else []).length<=b.length/\g_impl_Prune (if shapeB b then prB b else [])=some (if shapeB b then prB b else []):=by
  cases hs:shapeB b with
  | false=>exact ⟨Nat.zero_le _,rfl⟩
  | true =>
   obtain ⟨p1,p2,p3,p4⟩:=prB_ok hs
   refine ⟨p2,?_⟩
   show g_impl_Prune (prB b)=some (prB b)
   rw[impl_prune (by omega),p1,if_pos rfl,prB_idem hs]
 rw[e1,Option.bind_some,w2,Option.bind_some,hp,Option.bind_some,w3,Option.bind_some,sameOps (a:=w) (by omega)]
 simp only[Option.bind_some,Bool.not_true,cond_false]
 rw[w4,Option.bind_some,sameOps (a:=w) (by omega)]
 simp only[Option.bind_some,Bool.not_true,cond_false]
 rw[hpl.2,Option.bind_some,sameOps (by omega)]
 simp only[Option.bind_some,Bool.not_true,cond_false]
 rw[decide_eq_false (by omega),cond_false,e2,Option.bind_some]
 have hsz:StSz q.2.2:=⟨by have:=hq.r;omega,by have:=hq.v;omega⟩
 rw[specShape (by omega),Option.bind_some]
 cases hs:shapeB b with
 | false=>rfl
 | true =>
  rw[Bool.not_true,cond_false,spec_st hsz,Option.bind_some]
  cases hst:StB q.2.2 with
  | false=>rfl
  | true =>
   rw[Bool.not_true,cond_false,Option.bind_some]
   by_cases hf:q.2.2.Fault=0
   case neg=>rw[show (q.2.2.Fault != 0)=true by simp[hf],cond_true]
   rw[show (q.2.2.Fault != 0)=false by simp[hf],cond_false,app0 hbl,Option.bind_some]
   show ((g_spec_DefsOk [defA b]).bind λ y_19=>cond (!y_19) (some true) ((g_impl_Means [defA b] 0 q.2.2).bind λ y_20=>(g_impl_Means [defA (prB b)] 0 q.2.2).bind λ y_21=>(g_laws_sameSt y_20 y_21).bind λ y_22=>some y_22))=_
   rw[defsOk_spec (dw1 hbl),Option.bind_some]
   cases hd:defsB [defA b] with
   | false=>rfl
   | true =>
    rw[Bool.not_true,cond_false]
    obtain ⟨p1,p2,p3,p4⟩:=prB_ok hs
    have d1:=dfOk hd
    have h32:∀ d ∈ [defA b],∀ o ∈ d.Body,i32B o.N:=λ d hd=>by rw[List.mem_singleton.1 hd];exact hb.2
    have h32p:∀ d ∈ [defA (prB b)],∀ o ∈ d.Body,i32B o.N:=λ d hd=>by rw[List.mem_singleton.1 hd];exact λ o ho=>hb.2 o (p4 o ho)
    have d2:DfOk [defA (prB b)]:=⟨by simp,λ d hd=>by rw[List.mem_singleton.1 hd];exact p1,λ d hd=>by
     rw[List.mem_singleton.1 hd,List.any_eq_false]
     intro o ho
     have:=d1.c (defA b) (List.mem_singleton.2 rfl)
     rw[List.any_eq_false]at this
     exact this o (p4 o ho)⟩
    have hg:SG q.2.2:=.of hq.g (stB_iff.1 hst)
    obtain ⟨m1,g1⟩:=means_ok (dw1 hbl) d1 h32 hg hf (k:=0) (Int.le_refl _) (by simp)
    obtain ⟨m2,g2⟩:=means_ok (dw1 (b:=prB b) (by omega)) d2 h32p hg hf (k:=0) (Int.le_refl _) (by simp)
    have hT:[defA (prB b)].map trD=([defA b].map trD).map prS:=by
     show [tr (prB b)]=[prS (tr b)]
     rw[tr_prB hs]
    rw[m1,Option.bind_some,m2,Option.bind_some,hT,enterE_pr,sameG g1];rfl
end Go.Proofs.YtmedombacbpofaaGreatDoor

namespace Go.Proofs.YtmedombacbpofaaGreatDoor
open Go Go.Fm
set_option maxRecDepth 100000
theorem ans_FnOnce (x0:List Int) (g0:(λ xs:List Int=>xs.length<=maxLen/\∀ x ∈ xs,(λ n:Int=>(Lit.int .u8 n).wf=true) x) x0) :
  Ans Tryz.prog 4 [.one (.imm 1 x0.length (x0.flatMap (eI .u8)))] [] λ v _=>v=Go.Fm.one (.bool true):=λ hm=>by
 obtain ⟨r,h1,a,b,c,_⟩:=ce_laws_FnOnce (x0) true (good_pure rfl rfl) (law_once x0) hm
 exact ⟨r,h1,a,b⟩
end Go.Proofs.YtmedombacbpofaaGreatDoor
