import Derived.Test.YtmedombacbpofaaGreatDoorML
set_option linter.all false
namespace Go.Proofs.YtmedombacbpofaaGreatDoor
open Go Go.Fm
theorem nest3 (k:Int) {α:Type} (x:Bool->Option α):((cond (k != 3) (cond (k != 4) (some (k != 6)) (some false)) (some false):Option Bool).bind x)=x (!nestB k):=by
 unfold nestB
 by_cases h3:k=3
 ·subst h3;rfl
 ·by_cases h4:k=4
  ·subst h4;rfl
  ·by_cases h6:k=6
   ·subst h6;rfl
   ·have e3:(k != 3)=true:=by simp[h3]
    have e4:(k != 4)=true:=by simp[h4]
    have e6:(k != 6)=true:=by simp[h6]
    rw[e3,e4,e6,cond_true,cond_true,decide_eq_false (by omega)];rfl
theorem iflat_loop {rk:Nat} (hr:∀ ts body,gdS ts->(flS ts).length < rk->body.length+(flS ts).length<=60->g_impl_flat_r rk ts body=some (body++flS ts,true)) {ts:List GTree} (hl:ts.length<=60) :
  ∀ (k i:Nat) (b:List GOp),i<=ts.length->ts.length-i < k->gdS (ts.drop i)->b.length+(flS (ts.drop i)).length<=60->(flS (ts.drop i)).length<=rk →
  g_impl_flat_l0 (g_impl_flat_r rk) ts (ts.length:Int) k b (i:Int)=some (.inl (b++flS (ts.drop i))):=by
 intro k
 induction k with
 | zero=>intro i b h0 h1;omega
 | succ k ih =>
  intro i b h0 h1 hg hb hk
  rw[g_impl_flat_l0]
  by_cases hn:i < ts.length
  case neg =>
   rw[decide_eq_false (by omega),cond_false,List.drop_eq_nil_of_le (by omega),flS,List.append_nil]
  have hd:ts.drop i=ts[i]::ts.drop (i+1):=List.drop_eq_getElem_cons hn
  have hgi:getI ts (i:Int)=some ts[i]:=by rw[getI_nat,List.getElem?_eq_getElem hn]
  rw[hd]at hg hb hk ⊢
  rw[decide_eq_true (by omega),cond_true,hgi]
  generalize ts[i]=t at hg hb hk ⊢
  obtain ⟨kd,n,ks⟩:=t
  rw[gdS,gdT]at hg
  obtain ⟨⟨g5,g7,gk,gs⟩,gr⟩:=hg
  rw[flS,flT]at hb hk ⊢
  simp only[List.length_append,List.length_cons]at hb hk
  simp only[Option.bind_some]
  rw[decide_eq_false (by omega),cond_false,show (kd==5)=false by simp[g5],show (kd==7)=false by simp[g7]]
  simp only[cond_false,Option.bind_some]
  have hw:IntKind.wrap .i64 ((i:Int)+1)=((i+1:Nat):Int):=by rw[wI64 (by omega) (by omega)];omega
  rw[app_eq (by simp;omega),hw]
  cases hne:nestB kd with
  | false =>
   rw[hne,if_neg (by simp)]at hb hk
   have hks:=gk hne
   subst hks
   rw[if_neg (by simp)]
   have e:∀ x:Int,((cond (kd==6) (some (Sum.inl 7)) (some (Sum.inl 5)):Option (Int ⊕ Bool)))=some (.inl (endsK kd)):=λ x=>by
    unfold endsK
    by_cases h6:kd=6
    ·subst h6;rfl
    ·rw[if_neg h6,show (kd==6)=false by simp[h6]];rfl
   rw[e 0]
   simp only[Option.bind_some]
   rw[nest3,hne]
   simp only[Bool.not_false,cond_true,List.length_nil,List.append_nil,List.cons_append,List.nil_append]at hb hk ⊢
   rw[decide_eq_false (by omega),cond_false]
   simp only[Option.bind_some]
   rw[ih (i+1) (b++[(⟨kd,n⟩:GOp)]) (by omega) (by omega) gr (by simp;omega) (by omega)]
   simp
  | true =>
   rw[hne,if_pos rfl]at hb hk
   rw[if_pos rfl]
   simp only[List.length_append,List.length_cons,List.length_nil]at hb hk
   have e:((cond (kd==6) (some (Sum.inl 7)) (some (Sum.inl 5)):Option (Int ⊕ Bool)))=some (.inl (endsK kd)):=by
    unfold endsK
    by_cases h6:kd=6
    ·subst h6;rfl
    ·rw[if_neg h6,show (kd==6)=false by simp[h6]];rfl
   rw[e]
   simp only[Option.bind_some]
   rw[nest3,hne]
   simp only[Bool.not_true,cond_false]
   rw[hr ks (b++[(⟨kd,n⟩:GOp)]) gs (by omega) (by simp;omega)]
   simp only[Option.bind_some,Bool.not_true,cond_false]
   rw[app_eq (by simp;omega)]
   simp only[Option.bind_some]
   rw[ih (i+1) _ (by omega) (by omega) gr (by simp;omega) (by omega)]
   simp
theorem iflat:∀ rk ts body,gdS ts->(flS ts).length < rk->body.length+(flS ts).length<=60->g_impl_flat_r rk ts body=some (body++flS ts,true):=by
 intro rk
 induction rk with
 | zero=>intro ts body h1 h2;omega
 | succ rk ih =>
  intro ts body h1 h2 h3
  have:=flS_len ts
  have h:=iflat_loop ih (ts:=ts) (by omega) bigK 0 body (by omega) (by unfold bigK;omega) (by simpa using h1) (by simpa using h3) (by simp;omega)
  rw[List.drop_zero,show ((0:Nat):Int)=0 from rfl]at h
  rw[g_impl_flat_r,g_impl_flat_b,h];rfl
theorem emp_l0 (v:List GTree) (n:Int):∀ (k:Nat) (b:List GOp) (i:Int),g_impl_flat_emp_l0 v n k b i=g_impl_flat_l0 (g_impl_flat_r bigK) v n k b i:=by
 intro k
 induction k with
 | zero=>intro b i;rfl
 | succ k ih =>
  intro b i
  rw[g_impl_flat_emp_l0,g_impl_flat_l0]
  simp only[ih]
  rfl
theorem iflat_emp {ts:List GTree} (h1:gdS ts) (h3:(flS ts).length<=60):g_impl_flat_emp ts=some (flS ts,true):=by
 have:=flS_len ts
 have h:=iflat_loop (iflat bigK) (ts:=ts) (by omega) bigK 0 [] (by omega) (by unfold bigK;omega) (by simpa using h1) (by simpa using h3) (by unfold bigK;simp;omega)
 rw[List.drop_zero,show ((0:Nat):Int)=0 from rfl]at h
 rw[g_impl_flat_emp,emp_l0,h];rfl
mutual
def prT:GTree->GTree
 | ⟨k,n,ks⟩=>⟨k,n,prS ks⟩
def prS:List GTree->List GTree
 | []=>[]
 | t::r=>prT t::(if t.Kind=8 then [] else prS r)
end
mutual
theorem prT_ok:∀ t:GTree,gdT t->gdT (prT t)/\(flT (prT t)).length<=(flT t).length
 | ⟨k,n,ks⟩,h=>by
  rw[gdT]at h
  obtain ⟨h1,h2,h3,h4⟩:=h
  obtain ⟨g1,g2⟩:=prS_ok ks h4
  rw[prT,gdT,flT,flT]
  refine ⟨⟨h1,h2,λ e=>by rw[h3 e];rfl,g1⟩,?_⟩
  cases nestB k with
  | false=>simp
  | true=>simp;exact g2
theorem prS_ok:∀ ts:List GTree,gdS ts->gdS (prS ts)/\(flS (prS ts)).length<=(flS ts).length
 | [],h=>⟨trivial,Nat.le_refl _⟩
 | t::r,h=>by
  rw[gdS]at h
  obtain ⟨g1,g2⟩:=prT_ok t h.1
  obtain ⟨f1,f2⟩:=prS_ok r h.2
  rw[prS,gdS,flS,flS]
  by_cases h8:t.Kind=8
  ·rw[if_pos h8]
   refine ⟨⟨g1,trivial⟩,?_⟩
   rw[flS];simp;omega
  ·rw[if_neg h8]
   refine ⟨⟨g1,f1⟩,?_⟩
   simp;omega
end
theorem kids_lt {t:GTree} (h:gdT t):(flS t.Kids).length < (flT t).length:=by
 obtain ⟨k,n,ks⟩:=t
 rw[gdT]at h
 obtain ⟨h1,h2,h3,h4⟩:=h
 rw[flT]
 cases hn:nestB k with
 | false=>rw[h3 hn];simp[flS]
 | true=>simp;omega
theorem ipr_loop {rec:List GTree->Option (List GTree)} {F:Nat->List GTree->Int->Option (List GTree)} {ts:List GTree} {B:Nat} (hB:B<=1000)
  (hF:∀ (k:Nat) (out:List GTree) (i:Int),F (k+1) out i=cond (decide (i < (ts.length:Int))) ((getI ts i).bind λ v_9=>(rec v_9.Kids).bind λ y_10=>(app out [(⟨v_9.Kind,v_9.N,y_10⟩:GTree)]).bind λ v_11=>cond (v_9.Kind==8) (some v_11) (F k v_11 (IntKind.wrap .i64 (i+1)))) (some out))
  (hr:∀ ks,gdS ks->(flS ks).length < B->rec ks=some (prS ks)) (hl:ts.length<=1000) :
  ∀ (k i:Nat) (out:List GTree),i<=ts.length->ts.length-i < k->gdS (ts.drop i)->(flS (ts.drop i)).length<=B->out.length<=i->F k out (i:Int)=some (out++prS (ts.drop i)):=by
 intro k
 induction k with
 | zero=>intro i out h0 h1;omega
 | succ k ih =>
  intro i out h0 h1 hg hb ho
  rw[hF]
  by_cases hn:i < ts.length
  case neg=>rw[decide_eq_false (by omega),cond_false,List.drop_eq_nil_of_le (by omega),prS,List.append_nil]
  rw[decide_eq_true (by omega),cond_true,getI_nat,List.getElem?_eq_getElem hn]
  have hd:ts.drop i=ts[i]::ts.drop (i+1):=List.drop_eq_getElem_cons hn
  rw[hd]at hg hb ⊢
  generalize ts[i]=t at hg hb ⊢
  rw[gdS]at hg
  have:=kids_lt hg.1
  have hp:=flT_pos t
  rw[flS,List.length_append]at hb
  simp only[Option.bind_some]
  obtain ⟨kd,n,ks⟩:=t
  have hks:=hg.1
  rw[gdT]at hks
  rw[hr ks hks.2.2.2 (by simp only at this;omega),prS,prT]
  simp only[Option.bind_some]
  rw[app_eq (by simp;omega)]
  simp only[Option.bind_some]
  rw[wI64 (by omega) (by omega),show ((i:Int)+1)=((i+1:Nat):Int) by omega]
  by_cases h8:kd=8
  ·rw[if_pos h8,show (kd==8)=true by simp[h8],cond_true]
  ·rw[if_neg h8,show (kd==8)=false by simp[h8],cond_false,ih (i+1) _ (by omega) (by omega) hg.2 (by omega) (by simp;omega)]
   simp
theorem ipruned_imm:∀ (rk:Nat) (ts:List GTree),gdS ts->(flS ts).length < rk->(flS ts).length<=1000->g_impl_pruned_imm_r rk ts=some (prS ts):=by
 intro rk
 induction rk with
 | zero=>intro ts h1 h2;omega
 | succ rk ih =>
  intro ts h1 h2 h3
  have:=flS_len ts
  have h:=ipr_loop (B:=(flS ts).length) h3 (rec:=g_impl_pruned_imm_r rk) (F:=g_impl_pruned_imm_l0 (g_impl_pruned_imm_r rk) ts (ts.length:Int)) (λ k out i=>by rw[g_impl_pruned_imm_l0]) (λ ks hk hk2=>ih ks hk (by omega) (by omega)) (by omega) bigK 0 [] (by omega) (by unfold bigK;omega) (by simpa using h1) (by simp) (by simp)
  rw[List.drop_zero,show ((0:Nat):Int)=0 from rfl]at h
  rw[g_impl_pruned_imm_r,g_impl_pruned_imm_b,h];rfl
theorem ipruned {ts:List GTree} (h1:gdS ts) (h3:(flS ts).length<=1000):g_impl_pruned ts=some (prS ts):=by
 have:=flS_len ts
 have h:=ipr_loop (B:=(flS ts).length) h3 (rec:=g_impl_pruned_imm) (F:=g_impl_pruned_l0 ts (ts.length:Int)) (λ k out i=>by rw[g_impl_pruned_l0]) (λ ks hk hk2=>ipruned_imm bigK ks hk (by unfold bigK;omega) (by omega)) (by omega) bigK 0 [] (by omega) (by unfold bigK;omega) (by simpa using h1) (by simp) (by simp)
 rw[List.drop_zero,show ((0:Nat):Int)=0 from rfl]at h
 rw[g_impl_pruned,h];rfl
end Go.Proofs.YtmedombacbpofaaGreatDoor
namespace Go.Proofs.YtmedombacbpofaaGreatDoor
open Go Go.Fm
theorem step_nest {v:List Int} {k n:Int} (h:nestB k=true):stepF v ⟨k,n⟩=some (v++[k]):=by
 unfold stepF nestB at *
 rw[if_pos (of_decide_eq_true h)]
theorem step_end {v:List Int} {k n:Int} (h:nestB k=true):stepF (v++[k]) ⟨endsK k,n⟩=some v:=by
 unfold nestB at h
 have h:=of_decide_eq_true h
 have e:(v++[k]).getLast? = some k:=List.getLast?_concat
 have e2:(v++[k]).dropLast=v:=List.dropLast_concat
 unfold stepF endsK
 by_cases h6:k=6
 ·subst h6
  rw[if_pos rfl,if_neg (by show ¬((7:Int)=3\/(7:Int)=4\/(7:Int)=6);omega),if_pos (.inr rfl),e,e2];rfl
 ·rw[if_neg h6,if_neg (by show ¬((5:Int)=3\/(5:Int)=4\/(5:Int)=6);omega),if_pos (.inl rfl),e,e2]
  show (if decide (k=6)=decide ((5:Int)=7) then _ else _)=_
  rw[decide_eq_false h6];rfl
theorem step_plain {v:List Int} {k n:Int} (h:nestB k=false) (h5:k≠5) (h7:k≠7):stepF v ⟨k,n⟩=some v:=by
 unfold nestB at h
 have h:=of_decide_eq_false h
 unfold stepF
 rw[if_neg h,if_neg (by show ¬(k=5\/k=7);omega)]
mutual
theorem openT:∀ (t:GTree) (rest:List GOp) (v:List Int),gdT t->openF (flT t++rest) v=openF rest v
 | ⟨k,n,ks⟩,rest,v,h=>by
  rw[gdT]at h
  rw[flT,List.cons_append,openF]
  cases hn:nestB k with
  | true =>
   rw[step_nest hn,Option.bind_some,if_pos rfl,List.append_assoc,openS ks _ _ h.2.2.2,List.singleton_append,openF,step_end hn];rfl
  | false=>rw[step_plain hn h.1 h.2.1,Option.bind_some,if_neg (by simp),List.nil_append]
theorem openS:∀ (ts:List GTree) (rest:List GOp) (v:List Int),gdS ts->openF (flS ts++rest) v=openF rest v
 | [],rest,v,h=>rfl
 | t::r,rest,v,h=>by
  rw[gdS]at h
  rw[flS,List.append_assoc,openT t _ _ h.1,openS r _ _ h.2]
end
theorem openS0 {ts:List GTree} (h:gdS ts):openF (flS ts) []=some []:=by
 have:=openS ts [] [] h
 rwa [List.append_nil]at this
mutual
theorem prT_sub:∀ (t:GTree) (o:GOp),o ∈ flT (prT t)->o ∈ flT t
 | ⟨k,n,ks⟩,o,h=>by
  rw[prT,flT]at h
  rw[flT]
  cases hn:nestB k with
  | true =>
   rw[hn,if_pos rfl]at h
   rw[if_pos rfl]
   rcases List.mem_cons.1 h with h|h
   ·exact List.mem_cons.2 (.inl h)
   ·rcases List.mem_append.1 h with h|h
    ·exact List.mem_cons.2 (.inr (List.mem_append_left _ (prS_sub ks o h)))
    ·exact List.mem_cons.2 (.inr (List.mem_append_right _ h))
  | false =>
   rw[hn,if_neg (by simp)]at h
   rw[if_neg (by simp)]
   exact h
theorem prS_sub:∀ (ts:List GTree) (o:GOp),o ∈ flS (prS ts)->o ∈ flS ts
 | [],o,h=>by rw[prS]at h;exact h
 | t::r,o,h=>by
  rw[prS,flS]at h
  rw[flS]
  rcases List.mem_append.1 h with h|h
  ·exact List.mem_append_left _ (prT_sub t o h)
  ·refine List.mem_append_right _ (prS_sub r o ?_)
   by_cases h8:t.Kind=8
   ·rw[if_pos h8]at h;cases h
   ·rw[if_neg h8]at h;exact h
end
theorem shape_of {ts:List GTree} (h:gdS ts) (hl:(flS ts).length<=60) (ho:∀ o ∈ flS ts,okB o=true):shapeB (flS ts)=true:=by
 unfold shapeB
 rw[openS0 h]
 simp only[Bool.and_eq_true,decide_eq_true_eq,List.all_eq_true]
 exact ⟨⟨hl,ho⟩,trivial⟩
theorem shape_ok {b:List GOp} (h:shapeB b=true):b.length<=60/\(∀ o ∈ b,okB o=true):=by
 unfold shapeB at h
 simp only[Bool.and_eq_true,decide_eq_true_eq,List.all_eq_true]at h
 exact h.1
theorem flS_uniq:∀ (n:Nat) (a b:List GTree) (e e':GOp) (x y:List GOp),(flS a).length<=n->gdS a->gdS b->(e.Kind=5\/e.Kind=7)->(e'.Kind=5\/e'.Kind=7)->flS a++e::x=flS b++e'::y->a=b/\e=e'/\x=y:=by
 intro n
 induction n with
 | zero =>
  intro a b e e' x y hn ha hb he he' h
  cases a with
  | cons t r=>have:=flT_pos t;rw[flS,List.length_append]at hn;omega
  | nil =>
   cases b with
   | nil=>rw[flS,List.nil_append,List.nil_append,List.cons.injEq]at h;exact ⟨rfl,h⟩
   | cons t r =>
    obtain ⟨k,m,ks⟩:=t
    rw[gdS,gdT]at hb
    rw[flS,flS,flT,List.nil_append,List.cons_append,List.cons_append,List.cons.injEq]at h
    have:=h.1
    subst this
    exact absurd he (by show ¬(k=5\/k=7);omega)
 | succ n ih =>
  intro a b e e' x y hn ha hb he he' h
  cases a with
  | nil =>
   cases b with
   | nil=>rw[flS,List.nil_append,List.nil_append,List.cons.injEq]at h;exact ⟨rfl,h⟩
   | cons t r =>
    obtain ⟨k,m,ks⟩:=t
    rw[gdS,gdT]at hb
    rw[flS,flS,flT,List.nil_append,List.cons_append,List.cons_append,List.cons.injEq]at h
    have:=h.1
    subst this
    exact absurd he (by show ¬(k=5\/k=7);omega)
  | cons t r =>
   obtain ⟨k,m,ks⟩:=t
   rw[gdS,gdT]at ha
   rw[flS,flT]at h hn
   cases b with
   | nil =>
    rw[flS,List.nil_append,List.cons_append,List.cons_append,List.cons.injEq]at h
    have:=h.1
    subst this
    exact absurd he' (by show ¬(k=5\/k=7);omega)
   | cons t' r' =>
    obtain ⟨k',m',ks'⟩:=t'
    rw[gdS,gdT]at hb
    rw[flS,flT]at h
    simp only[List.cons_append,List.cons.injEq]at h
    obtain ⟨h1,h2⟩:=h
    injection h1 with h3 h4
    subst h3
    subst h4
    cases hk:nestB k with
    | false =>
     rw[hk]at h2 hn
     simp only[Bool.false_eq_true,if_false,List.nil_append,List.length_append,List.length_cons,List.length_nil]at h2 hn
     obtain ⟨p1,p2,p3⟩:=ih r r' e e' x y (by omega) ha.2 hb.2 he he' h2
     rw[p1,ha.1.2.2.1 hk,hb.1.2.2.1 hk]
     exact ⟨rfl,p2,p3⟩
    | true =>
     rw[hk]at h2 hn
     simp only[if_true,List.length_append,List.length_cons,List.length_nil,List.append_assoc,List.singleton_append]at h2 hn
     have hE:endsK k=5\/endsK k=7:=by unfold endsK;split<;>simp
     obtain ⟨q1,q2,q3⟩:=ih ks ks' ⟨endsK k,0⟩ ⟨endsK k,0⟩ _ _ (by omega) ha.1.2.2.2 hb.1.2.2.2 hE hE h2
     obtain ⟨p1,p2,p3⟩:=ih r r' e e' x y (by omega) ha.2 hb.2 he he' q3
     rw[p1,q1]
     exact ⟨rfl,p2,p3⟩
theorem flS_inj {a b:List GTree} (ha:gdS a) (hb:gdS b) (h:flS a=flS b):a=b :=
 (flS_uniq _ a b ⟨5,0⟩ ⟨5,0⟩ [] [] (Nat.le_refl _) ha hb (.inl rfl) (.inl rfl) (by rw[h])).1
def tr (b:List GOp):List GTree:=(g_impl_TreeOf_imm b).getD []
structure TrOk (b:List GOp):Prop where
 gd:gdS (tr b)
 fl:flS (tr b)=b
 l:(tr b).length<=60
 e:g_impl_TreeOf_imm b=some (tr b)
theorem tr_ok {b:List GOp} (h:shapeB b=true):TrOk b:=by
 obtain ⟨ts,h1,h2,h3,h4⟩:=treesC h
 have:tr b=ts:=by unfold tr;rw[h4];rfl
 exact ⟨by rw[this];exact h1,by rw[this];exact h2,by rw[this];exact h3,by rw[this];exact h4⟩
theorem tr_e {b:List GOp} (h:shapeB b=true):g_impl_TreeOf b=some (tr b):=by
 rw[<-(tr_ok h).e]
 rfl
def prB (b:List GOp):List GOp:=flS (prS (tr b))
theorem prB_ok {b:List GOp} (h:shapeB b=true):shapeB (prB b)=true/\(prB b).length<=b.length/\g_impl_prune b=some (prB b)/\(∀ o ∈ prB b,o ∈ b):=by
 have t:=tr_ok h
 obtain ⟨h60,hok⟩:=shape_ok h
 obtain ⟨p1,p2⟩:=prS_ok (tr b) t.gd
 rw[t.fl]at p2
 have hs:∀ o ∈ prB b,o ∈ b:=λ o ho=>by have:=prS_sub _ o ho;rw[t.fl]at this;exact this
 have hsh:shapeB (prB b)=true:=shape_of p1 (by omega) λ o ho=>hok o (hs o ho)
 refine ⟨hsh,p2,?_,hs⟩
 rw[g_impl_prune,tr_e h,Option.bind_some,ipruned t.gd (by rw[t.fl];omega),Option.bind_some,g_impl_FlatOf,iflat_emp p1 (by omega),Option.bind_some]
 simp only[Bool.not_true,cond_false]
 rw[implShape (by omega)]
 show ((some (shapeB (prB b))).bind λ y=>cond (!y) (some []) (some (prB b))).bind _=_
 rw[hsh];rfl
theorem tr_prB {b:List GOp} (h:shapeB b=true):tr (prB b)=prS (tr b):=by
 have t:=tr_ok h
 have t2:=tr_ok (prB_ok h).1
 exact flS_inj t2.gd (prS_ok (tr b) t.gd).1 t2.fl
end Go.Proofs.YtmedombacbpofaaGreatDoor
namespace Go.Proofs.YtmedombacbpofaaGreatDoor
open Go Go.Fm
set_option maxRecDepth 100000
def trD (d:GDef):List GTree:=tr d.Body
structure DfOk (defs:List GDef):Prop where
 n:defs.length<=24
 s:∀ d ∈ defs,shapeB d.Body=true
 c:∀ d ∈ defs,d.Body.any (tooFar defs.length)=false
theorem dfOk {defs:List GDef} (h:defsB defs=true):DfOk defs:=by
 unfold defsB at h
 rw[Bool.and_eq_true,decide_eq_true_eq,List.all_eq_true]at h
 refine ⟨h.1,λ d hd => ?_,λ d hd => ?_⟩
 ·have:=h.2 d hd
  unfold defB at this
  rw[Bool.and_eq_true]at this
  exact this.1
 ·have:=h.2 d hd
  unfold defB at this
  rw[Bool.and_eq_true,Bool.not_eq_true']at this
  exact this.2
theorem dfOk_iff {defs:List GDef} (h:DfOk defs):defsB defs=true:=by
 unfold defsB defB
 rw[Bool.and_eq_true,decide_eq_true_eq,List.all_eq_true]
 refine ⟨h.n,λ d hd => ?_⟩
 rw[h.s d hd,h.c d hd];rfl
theorem pt_of {m:Nat} {o:GOp} (h1:okB o=true) (h2:i32B o.N) (h3:tooFar m o=false):PT m o.Kind o.N:=by
 refine ⟨λ _=>h2,λ hk=>okB_word h1 hk,λ hk=>⟨okB_call h1 hk,?_⟩⟩
 unfold tooFar at h3
 rw[hk]at h3
 simp only[beq_self_eq_true,Bool.true_and,decide_eq_false_iff_not]at h3
 omega
theorem treesOk {defs:List GDef} (hd:DfOk defs) (h32:∀ d ∈ defs,∀ o ∈ d.Body,i32B o.N):TreesOk (defs.map trD):=by
 refine ⟨by rw[List.length_map];exact hd.n,λ T hT => ?_,λ T hT => ?_⟩
 ·obtain ⟨d,hm,rfl⟩:=List.mem_map.1 hT
  have t:=tr_ok (hd.s d hm)
  obtain ⟨h60,hok⟩:=shape_ok (hd.s d hm)
  rw[List.length_map]
  have hfl:flS (trD d)=d.Body:=t.fl
  refine okS_of _ t.gd (by rw[hfl];exact h60) λ o ho => ?_
  rw[hfl]at ho
  have:=List.any_eq_false.1 (hd.c d hm) o ho
  exact pt_of (hok o ho) (h32 d hm o ho) (by simpa using this)
 ·obtain ⟨d,hm,rfl⟩:=List.mem_map.1 hT
  exact (tr_ok (hd.s d hm)).l
theorem means_l0 {defs:List GDef} (hd:DfOk defs) (st:GSt):∀ (f i:Nat) (acc:List (List GTree)),i<=defs.length->defs.length-i < f->acc.length+(defs.length-i)<=100->g_impl_Means_l0 defs (defs.length:Int) f (i:Int) ⟨acc,st⟩=some ⟨acc++(defs.drop i).map trD,st⟩:=by
 intro f
 induction f with
 | zero=>intro i acc h0 h1;omega
 | succ f ih =>
  intro i acc h0 h1 h2
  have hn:=hd.n
  rw[g_impl_Means_l0]
  by_cases hi:i < defs.length
  ·rw[decide_eq_true (by omega),cond_true,getI_nat,List.getElem?_eq_getElem hi,Option.bind_some,(tr_ok (hd.s _ (List.getElem_mem hi))).e,Option.bind_some]
   show ((app acc [tr defs[i].Body]).bind λ v_18=>g_impl_Means_l0 defs (defs.length:Int) f (IntKind.wrap .i64 ((i:Int)+1)) (⟨v_18,st⟩:GMeaning))=_
   rw[app_eq (by simp;omega),Option.bind_some,nxt (by omega),ih (i+1) _ (by omega) (by omega) (by simp;omega),List.drop_eq_getElem_cons hi,List.map_cons,List.append_assoc];rfl
  ·rw[decide_eq_false (by omega),cond_false,List.drop_eq_nil_of_le (by omega),List.map_nil,List.append_nil]
theorem means_ok {defs:List GDef} (hw:DW defs) (hd:DfOk defs) (h32:∀ d ∈ defs,∀ o ∈ d.Body,i32B o.N) {st:GSt} (h:SG st) (hf:st.Fault=0) {k:Int} (hk0:0<=k) (hk1:k < defs.length) :
  g_impl_Means defs k st=some (enterE (defs.map trD) (evE (defs.map trD) bigK) k st)/\SG (enterE (defs.map trD) (evE (defs.map trD) bigK) k st):=by
 have hn:=hd.n
 obtain ⟨e,g,_⟩:=enter_ok (treesOk hd h32) hk0 (by rw[List.length_map];exact hk1) h hf
 refine ⟨?_,g⟩
 unfold g_impl_Means
 rw[defsOk_impl hw,dfOk_iff hd,Option.bind_some,Bool.not_true,cond_false,within_eq,wI64 (by omega) (by omega),decide_eq_true (by omega),goes_of h.b hf,ownS h.b]
 simp only[Option.bind_some,Bool.not_true,cond_false]
 have l:=means_l0 hd st bigK 0 [] (Nat.zero_le _) (by unfold bigK;omega) (by simp;omega)
 rw[List.nil_append,List.drop_zero,show ((0:Nat):Int)=0 from rfl]at l
 rw[l]
 simp only[Option.bind_some]
 rw[e,Option.bind_some,ownS g.b];rfl
end Go.Proofs.YtmedombacbpofaaGreatDoor
namespace Go.Proofs.YtmedombacbpofaaGreatDoor
open Go Go.Fm
set_option maxRecDepth 100000
def lf (o:GOp):GTree:=⟨o.Kind,o.N,[]⟩
def plainS (o:GOp) (s:GSt):GSt:=if o.Kind=0 then putS s s 0 [o.N] else wordS s (IntKind.wrap .i64 o.N)
section
variable {trs:List (List GTree)} {ev:EV}
theorem one_plain {o:GOp} (h:o.Kind=0\/o.Kind=1) {s:GSt} (h0:s.Fuel≠0):oneE trs ev (lf o) s=(false,plainS o (fuelS s)):=by
 unfold oneE
 rw[if_neg h0]
 show restE trs ev o.Kind o.N [] (fuelS s)=_
 unfold restE plainS
 rcases h with h|h
 ·rw[h,if_pos rfl,if_pos rfl]
 ·rw[h,if_neg (by omega),if_pos rfl,if_neg (by omega)]
theorem plain_run {o:GOp} (h:o.Kind=0\/o.Kind=1) {l:List GTree} {s:GSt} (hf:(allE trs ev (lf o::l) s).2.Fault=0):s.Fuel≠0/\(plainS o (fuelS s)).Fault=0/\allE trs ev (lf o::l) s=allE trs ev l (plainS o (fuelS s)):=by
 rw[allE]at hf ⊢
 by_cases h0:s.Fuel=0
 ·have e:oneE trs ev (lf o) s=(false,flt s 6):=by unfold oneE;rw[if_pos h0]
  rw[e,if_neg (by simp),if_pos (by show (6:Int)≠0;omega)]at hf
  exact absurd hf (by show (6:Int)≠0;omega)
 ·rw[one_plain h h0,if_neg (by simp)]at hf ⊢
  by_cases hq:(plainS o (fuelS s)).Fault=0
  ·rw[if_neg (by simp[hq])]
   exact ⟨h0,hq,rfl⟩
  ·rw[if_pos hq]at hf
   exact absurd hf hq
theorem plain_go {o:GOp} (h:o.Kind=0\/o.Kind=1) {l:List GTree} {s:GSt} (h0:s.Fuel≠0) (hq:(plainS o (fuelS s)).Fault=0):allE trs ev (lf o::l) s=allE trs ev l (plainS o (fuelS s)):=by
 rw[allE,one_plain h h0,if_neg (by simp),if_neg (by simp[hq])]
end
theorem plain_g {o:GOp} (hP:PT 0 o.Kind o.N\/(o.Kind=0->i32B o.N)/\(o.Kind=1->0<=IntKind.wrap .i64 o.N/\IntKind.wrap .i64 o.N<=23)) (h:o.Kind=0\/o.Kind=1) {s:GSt} (hs:SG s) (hf:s.Fault=0):SG (plainS o s)/\(plainS o s).Fuel=s.Fuel:=by
 have hP:(o.Kind=0->i32B o.N)/\(o.Kind=1->0<=IntKind.wrap .i64 o.N/\IntKind.wrap .i64 o.N<=23):=hP.elim (λ h=>⟨h.1,h.2.1⟩) id
 unfold plainS
 rcases h with h|h
 ·rw[if_pos h];exact putS_g hs (hP.1 h)
 ·rw[if_neg (by omega)]
  have:=wordS_ok hs hf (hP.2 h).1 (hP.2 h).2
  exact this.2
theorem word_pure {st:GSt} (h:SG st) {k:Int} {name:Bs} {w:Nat} {L:List Int} (hk:g_spec_PrimName k=some name) (hne:(name==[])=false) (hw:g_impl_wants k=some (w:Int)) (hl:L.length<=16) (he:g_impl_St_effect name (xOf st) (yOf st) st=some (L,0,st)) :
  wordS st k=if st.Data.length < w then flt st 2 else putS st st w L:=by
 have:=impl_does h hk hne hw hl (λ _=>he) rfl
 rw[if_neg (show ¬((0:Int)≠0) by simp)]at this
 unfold wordS
 rw[this];rfl
theorem is_name {o:GOp} {s:Bs} (h:isB o s=true):g_spec_PrimName (IntKind.wrap .i64 o.N)=some s:=by rw[pn_eq,isB_name h]
theorem is_plain {o:GOp} {s:Bs} (h:isB o s=true) (st:GSt):plainS o st=wordS st (IntKind.wrap .i64 o.N):=by
 unfold plainS
 rw[isB_kind h,if_neg (by omega)]
theorem top2 (st:GSt) (d:List Int) (a b:Int) (h:st.Data=d++[a,b]):xOf st=a/\yOf st=b/\st.Data.length=d.length+2/\st.Data.take (st.Data.length-2)=d:=by
 have hl:st.Data.length=d.length+2:=by rw[h];simp
 refine ⟨?_,?_,hl,?_⟩
 ·unfold xOf
  rw[dif_pos (by omega)]
  have:st.Data[st.Data.length-2]? = some a:=by
   rw[hl,h,List.getElem?_append_right (by omega),show d.length+2-2-d.length=0 by omega];rfl
  rw[List.getElem?_eq_getElem (by omega)]at this
  exact Option.some.inj this
 ·unfold yOf
  rw[dif_pos (by omega)]
  have:st.Data[st.Data.length-1]? = some b:=by
   rw[hl,h,List.getElem?_append_right (by omega),show d.length+2-1-d.length=1 by omega];rfl
  rw[List.getElem?_eq_getElem (by omega)]at this
  exact Option.some.inj this
 ·rw[hl,h,Nat.add_sub_cancel,List.take_left' rfl]
theorem top1 (st:GSt) (d:List Int) (a:Int) (h:st.Data=d++[a]):yOf st=a/\st.Data.length=d.length+1/\st.Data.take (st.Data.length-1)=d:=by
 have hl:st.Data.length=d.length+1:=by rw[h];simp
 refine ⟨?_,hl,?_⟩
 ·unfold yOf
  rw[dif_pos (by omega)]
  have:st.Data[st.Data.length-1]? = some a:=by
   rw[hl,h,List.getElem?_append_right (by omega),show d.length+1-1-d.length=0 by omega];rfl
  rw[List.getElem?_eq_getElem (by omega)]at this
  exact Option.some.inj this
 ·rw[hl,h,Nat.add_sub_cancel,List.take_left' rfl]
theorem put_lit {s:GSt} {n:Int} (h:(putS s s 0 [n]).Fault=0) (hf:s.Fault=0):s.Data.length+1<=16/\putS s s 0 [n]=dat s (s.Data++[n]):=by
 unfold putS at h ⊢
 by_cases hx:s.Data.length-0+[n].length > 16
 ·rw[if_pos hx]at h
  exact absurd h (by show (2:Int)≠0;omega)
 ·rw[if_neg hx]
  simp only[List.length_singleton]at hx
  refine ⟨by omega,?_⟩
  rw[Nat.sub_zero,List.take_length]
theorem put_lit' {s:GSt} {n:Int} (h:s.Data.length+1<=16):putS s s 0 [n]=dat s (s.Data++[n]):=by
 unfold putS
 rw[if_neg (by simp;omega),Nat.sub_zero,List.take_length]
theorem lit_plain {o:GOp} (h:o.Kind=0) (s:GSt):plainS o s=putS s s 0 [o.N]:=by unfold plainS;rw[if_pos h]
theorem word_put {s:GSt} {w:Nat} {L:List Int} (hw:w<=s.Data.length) (hL:s.Data.length-w+L.length<=16):(if s.Data.length < w then flt s 2 else putS s s w L)=dat s (s.Data.take (s.Data.length-w)++L):=by
 rw[if_neg (by omega)]
 unfold putS
 rw[if_neg (by omega)]
theorem do2 {s:GSt} (h:SG s) {o:GOp} (ho:twoB o=true) {d:List Int} {a b:Int} (hd:s.Data=d++[a,b]):plainS o s=dat s (d++[val2 o a b]):=by
 obtain ⟨t1,t2,t3,t4⟩:=top2 s d a b hd
 have hb:=h.b.d
 unfold val2
 rcases two_or ho with e|e|e|e
 ·have hk:=is_name e
  rw[is_plain e,word_pure (w:=2) (L:=[IntKind.wrap .i32 (xOf s+yOf s)]) h hk rfl (by unfold g_impl_wants g_impl_PrimEffect;rw[name_eq,hk];rfl) (by simp) rfl,word_put (by omega) (by simp;omega),t4,t1,t2,e];rfl
 ·have hk:=is_name e
  rw[is_plain e,word_pure (w:=2) (L:=[IntKind.wrap .i32 (xOf s*yOf s)]) h hk rfl (by unfold g_impl_wants g_impl_PrimEffect;rw[name_eq,hk];rfl) (by simp) rfl,word_put (by omega) (by simp;omega),t4,t1,t2,e,isB_ne e (t:=[43]) rfl];rfl
 ·have hk:=is_name e
  rw[is_plain e,word_pure (w:=2) (L:=[andI .i32 (xOf s) (yOf s)]) h hk rfl (by unfold g_impl_wants g_impl_PrimEffect;rw[name_eq,hk];rfl) (by simp) rfl,word_put (by omega) (by simp;omega),t4,t1,t2,e,isB_ne e (t:=[43]) rfl,isB_ne e (t:=[42]) rfl];rfl
 ·have hk:=is_name e
  rw[is_plain e,word_pure (w:=2) (L:=[xorI .i32 (xOf s) (yOf s)]) h hk rfl (by unfold g_impl_wants g_impl_PrimEffect;rw[name_eq,hk];rfl) (by simp) rfl,word_put (by omega) (by simp;omega),t4,t1,t2,isB_ne e (t:=[43]) rfl,isB_ne e (t:=[42]) rfl,isB_ne e (t:=[97,110,100]) rfl];rfl
theorem do1 {s:GSt} (h:SG s) {o:GOp} (ho:oneB o=true) {d:List Int} {a:Int} (hd:s.Data=d++[a]):plainS o s=dat s (d++[val1 o a]):=by
 obtain ⟨t2,t3,t4⟩:=top1 s d a hd
 have hb:=h.b.d
 have hy:=h.y
 unfold val1
 rcases one_or ho with e|e|e
 ·have hk:=is_name e
  rw[is_plain e,word_pure (w:=1) (L:=[notI .i32 (yOf s)]) h hk rfl (by unfold g_impl_wants g_impl_PrimEffect;rw[name_eq,hk];rfl) (by simp) rfl,word_put (by omega) (by simp;omega),t4,not32 hy,t2,e];rfl
 ·have hk:=is_name e
  rw[is_plain e,word_pure (w:=1) (L:=[IntKind.wrap .i32 (2*yOf s)]) h hk rfl (by unfold g_impl_wants g_impl_PrimEffect;rw[name_eq,hk];rfl) (by simp) rfl,word_put (by omega) (by simp;omega),t4,t2,e,isB_ne e (t:=[45]) rfl,show 2*a=a+a by omega];rfl
 ·have hk:=is_name e
  rw[is_plain e,word_pure (w:=1) (L:=[yOf s / 2]) h hk rfl (by unfold g_impl_wants g_impl_PrimEffect;rw[name_eq,hk];rfl) (by simp) rfl,word_put (by omega) (by simp;omega),t4,t2,isB_ne e (t:=[45]) rfl,isB_ne e (t:=[50,42]) rfl];rfl
theorem do_drop {s:GSt} (h:SG s) {o:GOp} (ho:isB o [100,114,111,112]=true) {d:List Int} {a:Int} (hd:s.Data=d++[a]):plainS o s=dat s d:=by
 obtain ⟨t2,t3,t4⟩:=top1 s d a hd
 have hb:=h.b.d
 have hk:=is_name ho
 rw[is_plain ho,word_pure (w:=1) (L:=[]) h hk rfl (by unfold g_impl_wants g_impl_PrimEffect;rw[name_eq,hk];rfl) (by simp) rfl,word_put (by omega) (by simp;omega),t4,List.append_nil]
theorem do_dup {s:GSt} (h:SG s) (hf:s.Fault=0) {o:GOp} (ho:isB o [100,117,112]=true) (hq:(plainS o s).Fault=0):plainS o s=dat s (s.Data++[yOf s])/\s.Data.length+1<=16/\0 < s.Data.length:=by
 have hb:=h.b.d
 have hk:=is_name ho
 rw[is_plain ho,word_pure (w:=1) (L:=[yOf s,yOf s]) h hk rfl (by unfold g_impl_wants g_impl_PrimEffect;rw[name_eq,hk];rfl) (by simp) rfl]at hq ⊢
 by_cases h1:s.Data.length < 1
 ·rw[if_pos h1]at hq;exact absurd hq (by show (2:Int)≠0;omega)
 rw[if_neg h1]at hq ⊢
 unfold putS at hq ⊢
 by_cases h2:s.Data.length-1+[yOf s,yOf s].length > 16
 ·rw[if_pos h2]at hq;exact absurd hq (by show (2:Int)≠0;omega)
 rw[if_neg h2]
 simp only[List.length_cons,List.length_nil]at h2
 refine ⟨?_,by omega,by omega⟩
 have e:s.Data.take (s.Data.length-1)++[yOf s]=s.Data:=by
  unfold yOf
  rw[dif_pos (by omega),<-List.take_succ_eq_append_getElem (by omega),show s.Data.length-1+1=s.Data.length by omega,List.take_length]
 congr 1
 show s.Data.take (s.Data.length-1)++([yOf s]++[yOf s])=_
 rw[<-List.append_assoc,e]
theorem do_swap {s:GSt} (h:SG s) {o:GOp} (ho:isB o [115,119,97,112]=true) (hq:(plainS o s).Fault=0):∃ d a b,s.Data=d++[a,b]/\plainS o s=dat s (d++[b,a]):=by
 have hb:=h.b.d
 have hk:=is_name ho
 rw[is_plain ho,word_pure (w:=2) (L:=[yOf s,xOf s]) h hk rfl (by unfold g_impl_wants g_impl_PrimEffect;rw[name_eq,hk];rfl) (by simp) rfl]at hq ⊢
 by_cases h1:s.Data.length < 2
 ·rw[if_pos h1]at hq;exact absurd hq (by show (2:Int)≠0;omega)
 rw[word_put (by omega) (by simp;omega)]
 refine ⟨s.Data.take (s.Data.length-2),xOf s,yOf s,?_,rfl⟩
 unfold xOf yOf
 rw[dif_pos (by omega),dif_pos (by omega)]
 have e1:=List.take_succ_eq_append_getElem (l:=s.Data) (i:=s.Data.length-2) (by omega)
 have e2:=List.take_succ_eq_append_getElem (l:=s.Data) (i:=s.Data.length-1) (by omega)
 rw[show s.Data.length-2+1=s.Data.length-1 by omega]at e1
 rw[show s.Data.length-1+1=s.Data.length by omega,List.take_length]at e2
 rw[show ([s.Data[s.Data.length-2],s.Data[s.Data.length-1]]:List Int)=[s.Data[s.Data.length-2]]++[s.Data[s.Data.length-1]] from rfl,<-List.append_assoc,<-e1,<-e2]
theorem do_neg {s:GSt} (h:SG s) {o:GOp} (ho:isB o [45]=true) (hq:(plainS o s).Fault=0):∃ d a,s.Data=d++[a]/\i32B a/\plainS o s=dat s (d++[IntKind.wrap .i32 ((-1)-a)]):=by
 have hb:=h.b.d
 have hk:=is_name ho
 have hy:=h.y
 rw[is_plain ho,word_pure (w:=1) (L:=[notI .i32 (yOf s)]) h hk rfl (by unfold g_impl_wants g_impl_PrimEffect;rw[name_eq,hk];rfl) (by simp) rfl]at hq ⊢
 by_cases h1:s.Data.length < 1
 ·rw[if_pos h1]at hq;exact absurd hq (by show (2:Int)≠0;omega)
 rw[word_put (by omega) (by simp;omega),not32 hy]
 refine ⟨s.Data.take (s.Data.length-1),yOf s,?_,hy,rfl⟩
 unfold yOf
 rw[dif_pos (by omega)]
 have e2:=List.take_succ_eq_append_getElem (l:=s.Data) (i:=s.Data.length-1) (by omega)
 rw[show s.Data.length-1+1=s.Data.length by omega,List.take_length]at e2
 exact e2
theorem do_nop {s:GSt} (h:SG s) {o:GOp} (ho:isB o [110,111,112]=true):plainS o s=dat s s.Data:=by
 have hb:=h.b.d
 have hk:=is_name ho
 rw[is_plain ho,word_pure (w:=0) (L:=[]) h hk rfl (by unfold g_impl_wants g_impl_PrimEffect;rw[name_eq,hk];rfl) (by simp) rfl,word_put (by omega) (by simp;omega),Nat.sub_zero,List.take_length,List.append_nil]
theorem neg_neg32 {a:Int} (h:i32B a):IntKind.wrap .i32 ((-1)-IntKind.wrap .i32 ((-1)-a))=a:=by
 unfold i32B at h
 rw[wI32 (x:=(-1)-a) (by omega) (by omega),wI32 (by omega) (by omega)];omega
end Go.Proofs.YtmedombacbpofaaGreatDoor
namespace Go.Proofs.YtmedombacbpofaaGreatDoor
open Go Go.Fm
set_option maxRecDepth 100000
inductive Fp (m:Nat):List GTree->List GTree->Prop
 | refl (l:List GTree):Fp m l l
 | here {x y:List GOp} {r:List GTree} (h:Ex x y):Fp m (x.map lf++r) (y.map lf++r)
 | tail {t:GTree} {r r':List GTree} (h:Fp m r r'):Fp m (t::r) (t::r')
 | kids {k n:Int} {ks ks' r:List GTree} (h:Fp m ks ks'):Fp m (⟨k,n,ks⟩::r) (⟨k,n,ks'⟩::r)
 | trans {a b c:List GTree} (h1:Fp m a b) (hb:OkS (PT m) b) (hl:b.length<=60) (h2:Fp m b c):Fp m a c
inductive All2 (m:Nat):List (List GTree)->List (List GTree)->Prop
 | nil:All2 m [] []
 | cons {a b:List GTree} {r r':List (List GTree)} (h:Fp m a b) (hr:All2 m r r'):All2 m (a::r) (b::r')
theorem All2.len {m:Nat} {D D':List (List GTree)} (h:All2 m D D'):D.length=D'.length:=by
 induction h with
 | nil=>rfl
 | cons _ _ ih=>rw[List.length_cons,List.length_cons,ih]
theorem All2.refl {m:Nat}:∀ D:List (List GTree),All2 m D D
 | []=>.nil
 | _::r=>.cons (.refl _) (All2.refl r)
theorem All2.drop {m:Nat} {D D':List (List GTree)} (h:All2 m D D'):∀ k,All2 m (D.drop k) (D'.drop k):=by
 induction h with
 | nil=>intro k;rw[List.drop_nil];exact .nil
 | cons h hr ih =>
  intro k
  cases k with
  | zero=>exact .cons h hr
  | succ k=>exact ih k
def Sim (D D':List (List GTree)) (n:Nat):Prop:=∀ (a b:List GTree) (st st':GSt),Fp D.length a b->OkS (PT D.length) a->a.length<=60->Le st st'->SG st->st.Fault=0->st.Fuel.toNat < n->(evE D n a st).2.Fault=0->(evE D' n b st').1=(evE D n a st).1/\Le (evE D n a st).2 (evE D' n b st').2
section
variable {D D':List (List GTree)} {n:Nat}
theorem enterL_sim (S:Sim D D' n) (hT:TreesOk D):∀ (L L':List (List GTree)),All2 D.length L L'->(∀ T ∈ L,OkS (PT D.length) T/\T.length<=60)->∀ st st':GSt,Le st st'->SG st->st.Fault=0->st.Fuel.toNat < n->(enterL (evE D n) L st).Fault=0->Le (enterL (evE D n) L st) (enterL (evE D' n) L' st'):=by
 intro L L' h
 induction h with
 | nil=>intro _ st st' _ _ _ _ hq;exact absurd hq (by show (10:Int)≠0;omega)
 | @cons a b r r' h hr ih =>
  intro hL st st' hle hs hf hu hq
  obtain ⟨o1,o2⟩:=hL a (List.mem_cons.2 (.inl rfl))
  rw[enterL]at hq ⊢
  rw[enterL]
  have hqa:(evE D n a st).2.Fault=0:=by
   by_cases hc:(evE D n a st).1=true\/(evE D n a st).2.Fault≠0
   ·rw[if_pos hc]at hq;exact hq
   ·exact Decidable.byContradiction λ hx=>hc (.inr hx)
  obtain ⟨s1,s2⟩:=S a b st st' h o1 o2 hle hs hf hu hqa
  obtain ⟨g1,g2⟩:=(evE_ok hT n).g a st o1 o2 hs hf hu
  have hub:=hs.b.u
  have hub1:=g1.b.u
  rw[s1,s2.fault]
  by_cases hc:(evE D n a st).1=true\/(evE D n a st).2.Fault≠0
  ·rw[if_pos hc,if_pos hc];exact s2
  ·rw[if_neg hc]at hq
   rw[if_neg hc,if_neg hc]
   exact ih (λ T hT=>hL T (List.mem_cons.2 (.inr hT))) _ _ s2 g1 hqa (by omega) hq
theorem enterE_sim (S:Sim D D' n) (hT:TreesOk D) (hA:All2 D.length D D') {k:Int} {st st':GSt} (hle:Le st st') (hs:SG st) (hf:st.Fault=0) (hu:st.Fuel.toNat < n) (hq:(enterE D (evE D n) k st).Fault=0):Le (enterE D (evE D n) k st) (enterE D' (evE D' n) k st'):=by
 have hr:st'.Ret=st.Ret:=by obtain ⟨f,rfl,_⟩:=hle;rfl
 unfold enterE at hq ⊢
 rw[hr]
 by_cases h24:st.Ret.length=24
 ·rw[if_pos h24]at hq
  exact absurd hq (by show (3:Int)≠0;omega)
 ·rw[if_neg h24]at hq
  rw[if_neg h24,if_neg h24]
  exact enterL_sim S hT _ _ (hA.drop k.toNat) (λ T hm=>⟨hT.ok T (List.mem_of_mem_drop hm),hT.l T (List.mem_of_mem_drop hm)⟩) _ _ hle.push (pushRet_g hs h24) hf hu hq
theorem loopE_sim (S:Sim D D' n) (hT:TreesOk D) {ks ks':List GTree} (h:Fp D.length ks ks') (hk:OkS (PT D.length) ks) (hl:ks.length<=60):∀ (f:Nat) (st st':GSt),Le st st'->SG st->st.Fuel.toNat < n->st.Fuel.toNat < f->(loopE (evE D n) ks f st).2.Fault=0->(loopE (evE D' n) ks' f st').1=(loopE (evE D n) ks f st).1/\Le (loopE (evE D n) ks f st).2 (loopE (evE D' n) ks' f st').2
 | 0,st,st',_,_,_,hff,_=>absurd hff (by omega)
 | f+1,st,st',hle,hs,hu,hff,hq=>by
  rw[loopE]at hq ⊢
  rw[loopE,hle.fault]
  by_cases hf:st.Fault=0
  case neg =>
   rw[if_pos hf]at hq
   exact absurd hq hf
  have hf0:¬ (st.Fault≠0):=λ h=>h hf
  simp only[if_neg hf0]at hq ⊢
  have hqa:(evE D n ks st).2.Fault=0:=by
   by_cases h1:(evE D n ks st).1=true
   ·rw[if_pos h1]at hq;exact hq
   ·rw[if_neg h1]at hq
    by_cases h2:(evE D n ks st).2.Fault≠0
    ·rw[if_pos h2]at hq;exact hq
    ·exact Decidable.byContradiction h2
  obtain ⟨s1,s2⟩:=S ks ks' st st' h hk hl hle hs hf hu hqa
  obtain ⟨g1,g2⟩:=(evE_ok hT n).g ks st hk hl hs hf hu
  have hub:=hs.b.u
  have hub1:=g1.b.u
  rw[s1,s2.fault]
  have hqa':¬ ((evE D n ks st).2.Fault≠0):=λ h=>h hqa
  by_cases h1:(evE D n ks st).1=true
  ·simp only[if_pos h1];exact ⟨trivial,s2⟩
  simp only[if_neg h1]at hq ⊢
  simp only[if_neg hqa']at hq ⊢
  by_cases h0:(evE D n ks st).2.Fuel=0
  ·rw[if_pos h0]at hq
   exact absurd hq (by show (6:Int)≠0;omega)
  have h0':=s2.fuel0 g1 h0
  simp only[if_neg h0]at hq ⊢
  simp only[if_neg h0']
  have hs3:=g1.fuel h0
  obtain ⟨n1,n2⟩:=nextS_g hs3
  obtain ⟨x1,x2⟩:=s2.fuel.next
  have hfu:(fuelS (evE D n ks st).2).Fuel=(evE D n ks st).2.Fuel-1:=rfl
  rw[x1]
  by_cases hb:(nextS (fuelS (evE D n ks st).2)).1=true
  ·simp only[if_pos hb]at hq ⊢
   exact loopE_sim S hT h hk hl f _ _ x2 n1 (by rw[n2,hfu];omega) (by rw[n2,hfu];omega) hq
  ·simp only[if_neg hb]
   exact ⟨trivial,x2⟩
theorem oneE_sim (S:Sim D D' n) (hT:TreesOk D) (hA:All2 D.length D D') {k m:Int} {ks ks':List GTree} (h:Fp D.length ks ks') (hP:PT D.length k m) (hk:OkS (PT D.length) ks) (hl:ks.length<=60) {st st':GSt} (hle:Le st st') (hs:SG st) (hf:st.Fault=0) (hu:st.Fuel.toNat<=n) (hq:(oneE D (evE D n) ⟨k,m,ks⟩ st).2.Fault=0) :
  (oneE D' (evE D' n) ⟨k,m,ks'⟩ st').1=(oneE D (evE D n) ⟨k,m,ks⟩ st).1/\Le (oneE D (evE D n) ⟨k,m,ks⟩ st).2 (oneE D' (evE D' n) ⟨k,m,ks'⟩ st').2:=by
 unfold oneE at hq ⊢
 by_cases h0:st.Fuel=0
 ·rw[if_pos h0]at hq
  exact absurd hq (by show (6:Int)≠0;omega)
 have h0':=hle.fuel0 hs h0
 rw[if_neg h0]at hq ⊢
 rw[if_neg h0']
 change (restE D (evE D n) k m ks (fuelS st)).2.Fault=0 at hq
 show (restE D' (evE D' n) k m ks' (fuelS st')).1=(restE D (evE D n) k m ks (fuelS st)).1/\Le (restE D (evE D n) k m ks (fuelS st)).2 (restE D' (evE D' n) k m ks' (fuelS st')).2
 have hub:=hs.b.u
 have g:=hs.fuel h0
 have gle:=hle.fuel
 have hfu:(fuelS st).Fuel=st.Fuel-1:=rfl
 have hf':(fuelS st).Fault=0:=hf
 have hu':(fuelS st).Fuel.toNat < n:=by omega
 generalize fuelS st=s at *
 generalize fuelS st'=s' at *
 have hr:s'.Ret=s.Ret/\s'.Data=s.Data/\lastR s'=lastR s/\yOf s'=yOf s:=by obtain ⟨f,rfl,_⟩:=gle;exact ⟨rfl,rfl,rfl,rfl⟩
 obtain ⟨r1,r2,r3,r4⟩:=hr
 unfold restE at hq ⊢
 by_cases k0:k=0
 ·simp only[if_pos k0]
  exact ⟨trivial,gle.put 0 _⟩
 simp only[if_neg k0]at hq ⊢
 by_cases k1:k=1
 ·simp only[if_pos k1]
  exact ⟨trivial,gle.word g hf' (hP.2.1 k1).1 (hP.2.1 k1).2⟩
 simp only[if_neg k1]at hq ⊢
 by_cases k2:k=2
 ·simp only[if_pos k2]at hq ⊢
  exact ⟨trivial,enterE_sim S hT hA gle g hf' hu' hq⟩
 simp only[if_neg k2]at hq ⊢
 by_cases k8:k=8
 ·simp only[if_pos k8]at hq ⊢
  rw[r1,r3]
  by_cases hc:s.Ret.length=0\/(lastR s).Kind≠2
  ·rw[if_pos hc]at hq
   exact absurd hq (by show (11:Int)≠0;omega)
  ·rw[if_neg hc,if_neg hc]
   refine ⟨rfl,?_⟩
   have:=gle.ret (λ r=>r.dropLast)
   rw[r1]at this
   exact this
 simp only[if_neg k8]at hq ⊢
 by_cases k34:k=3\/k=4
 ·simp only[if_pos k34]at hq ⊢
  rw[r2,r4]
  by_cases hd:s.Data.length=0
  ·rw[if_pos hd]at hq
   exact absurd hq (by show (2:Int)≠0;omega)
  ·rw[if_neg hd]at hq ⊢
   rw[if_neg hd]
   by_cases hb:takeB k (yOf s)=true
   ·rw[if_pos hb]at hq ⊢
    rw[if_pos hb]
    exact S ks ks' s s' h hk hl gle g hf' hu' hq
   ·rw[if_neg hb,if_neg hb]
    exact ⟨rfl,gle⟩
 simp only[if_neg k34]at hq ⊢
 by_cases k6:k=6
 ·simp only[if_pos k6]at hq ⊢
  obtain ⟨f1,f2⟩:=forS_g g
  have:=g.b.u
  exact loopE_sim S hT h hk hl bigK _ _ gle.for f1 (by rw[f2];exact hu') (by rw[f2];unfold bigK;omega) hq
 ·simp only[if_neg k6]
  exact ⟨trivial,gle⟩
theorem cons_sim (S:Sim D D' n) (hT:TreesOk D) (hA:All2 D.length D D') {k m:Int} {ks ks' r r':List GTree} (h:Fp D.length ks ks') (hok:OkS (PT D.length) (⟨k,m,ks⟩::r)) {st st':GSt} (hle:Le st st') (hs:SG st) (hf:st.Fault=0) (hu:st.Fuel.toNat<=n)
  (R:∀ s s':GSt,Le s s'->SG s->s.Fault=0->s.Fuel.toNat<=n->(allE D (evE D n) r s).2.Fault=0->(allE D' (evE D' n) r' s').1=(allE D (evE D n) r s).1/\Le (allE D (evE D n) r s).2 (allE D' (evE D' n) r' s').2)
  (hq:(allE D (evE D n) (⟨k,m,ks⟩::r) st).2.Fault=0) :
  (allE D' (evE D' n) (⟨k,m,ks'⟩::r') st').1=(allE D (evE D n) (⟨k,m,ks⟩::r) st).1/\Le (allE D (evE D n) (⟨k,m,ks⟩::r) st).2 (allE D' (evE D' n) (⟨k,m,ks'⟩::r') st').2:=by
 obtain ⟨a1,a2,a3⟩:=okS_get hok ⟨k,m,ks⟩ (List.mem_cons.2 (.inl rfl))
 rw[allE]at hq ⊢
 rw[allE]
 have hqa:(oneE D (evE D n) ⟨k,m,ks⟩ st).2.Fault=0:=by
  by_cases h1:(oneE D (evE D n) ⟨k,m,ks⟩ st).1=true
  ·rw[if_pos h1]at hq;exact hq
  ·rw[if_neg h1]at hq
   by_cases h2:(oneE D (evE D n) ⟨k,m,ks⟩ st).2.Fault≠0
   ·rw[if_pos h2]at hq;exact hq
   ·exact Decidable.byContradiction h2
 obtain ⟨s1,s2⟩:=oneE_sim S hT hA h a1 a3 a2 hle hs hf hu hqa
 obtain ⟨_,g1,g2⟩:=oneE_ok (k:=k) (m:=m) (ks:=ks) hT (evE_ok hT n) a1 a2 a3 hs hf hu
 have hub:=hs.b.u
 have hub1:=g1.b.u
 rw[s1,s2.fault]
 by_cases h1:(oneE D (evE D n) ⟨k,m,ks⟩ st).1=true
 ·simp only[if_pos h1];exact ⟨trivial,s2⟩
 ·have hqa':¬ ((oneE D (evE D n) ⟨k,m,ks⟩ st).2.Fault≠0):=λ h=>h hqa
  simp only[if_neg h1]at hq ⊢
  simp only[if_neg hqa']at hq ⊢
  exact R _ _ s2 g1 hqa (by omega) hq
theorem okS_tail {P:Int->Int->Prop} {t:GTree} {r:List GTree} (h:OkS P (t::r)):OkS P r:=by
 cases h with
 | cons _ _ _ hr=>exact hr
theorem refl_sim (S:Sim D D' n) (hT:TreesOk D) (hA:All2 D.length D D'):∀ (l:List GTree),OkS (PT D.length) l->∀ st st':GSt,Le st st'->SG st->st.Fault=0->st.Fuel.toNat<=n->(allE D (evE D n) l st).2.Fault=0->(allE D' (evE D' n) l st').1=(allE D (evE D n) l st).1/\Le (allE D (evE D n) l st).2 (allE D' (evE D' n) l st').2
 | [],_,st,st',hle,_,_,_,_=>⟨rfl,hle⟩
 | ⟨k,m,ks⟩::r,hok,st,st',hle,hs,hf,hu,hq=>cons_sim S hT hA (.refl ks) hok hle hs hf hu (λ s s'=>refl_sim S hT hA r (okS_tail hok) s s') hq
end
theorem okS_head {m:Nat} {o:GOp} {r:List GTree} (h:OkS (PT m) (lf o::r)):(o.Kind=0->i32B o.N)/\(o.Kind=1->0<=IntKind.wrap .i64 o.N/\IntKind.wrap .i64 o.N<=23):=by
 obtain ⟨a,_,_⟩:=okS_get h (lf o) (List.mem_cons.2 (.inl rfl))
 exact ⟨a.1,a.2.1⟩
end Go.Proofs.YtmedombacbpofaaGreatDoor
namespace Go.Proofs.YtmedombacbpofaaGreatDoor
open Go Go.Fm
set_option maxRecDepth 100000
theorem le_back {st:GSt} {f:Int} {s:GSt} (hs:s=⟨st.Data,st.Ret,st.A,st.Mem,st.Cells,st.Vars,st.Out,st.In,st.Fault,s.Fuel⟩) (hf:s.Fuel<=f):Le s (setF st f):=by
 refine ⟨f,?_,hf⟩
 rw[hs];rfl
section
variable {D D':List (List GTree)} {ev ev':EV}
def Behind (D D':List (List GTree)) (ev ev':EV) (a b r:List GTree) (st st':GSt):Prop:=∃ s1 s1',allE D ev a st=allE D ev r s1/\allE D' ev' b st'=allE D' ev' r s1'/\Le s1 s1'/\SG s1/\s1.Fault=0/\s1.Fuel<=st.Fuel
theorem lit_go {n:Int} {r:List GTree} {st:GSt} (h0:st.Fuel≠0) (hf:st.Fault=0) (hd:st.Data.length+1<=16):allE D' ev' (lf ⟨0,n⟩::r) st=allE D' ev' r (dat (fuelS st) (st.Data++[n])):=by
 have e:plainS ⟨0,n⟩ (fuelS st)=dat (fuelS st) (st.Data++[n]):=put_lit' (s:=fuelS st) hd
 rw[plain_go (.inl rfl) h0 (by rw[e];exact hf),e]
theorem here_sim {m:Nat} {x y:List GOp} {r:List GTree} (h:Ex x y) (hok:OkS (PT m) (x.map lf++r)) {st st':GSt} (hle:Le st st') (hs:SG st) (hf:st.Fault=0) (hq:(allE D ev (x.map lf++r) st).2.Fault=0):Behind D D' ev ev' (x.map lf++r) (y.map lf++r) r st st':=by
 obtain ⟨f,rfl,hfu⟩:=hle
 cases h with
 | @two a b c ha hb hc =>
  change (allE D ev (lf a::lf b::lf c::r) st).2.Fault=0 at hq
  change OkS (PT m) (lf a::lf b::lf c::r) at hok
  show Behind D D' ev ev' (lf a::lf b::lf c::r) (lf ⟨0,val2 c a.N b.N⟩::r) r st (setF st f)
  have hcp:c.Kind=0\/c.Kind=1:=(Ex.two ha hb hc).plain.1 c (by simp)
  have Pa:=okS_head hok
  have Pb:=okS_head (okS_tail hok)
  have Pc:=okS_head (okS_tail (okS_tail hok))
  obtain ⟨a0,a1,a2⟩:=plain_run (.inl ha) hq
  obtain ⟨ga,gu⟩:=plain_g (.inr Pa) (.inl ha) (hs.fuel a0) hf
  rw[a2]at hq
  obtain ⟨b0,b1,b2⟩:=plain_run (.inl hb) hq
  obtain ⟨gb,gv⟩:=plain_g (.inr Pb) (.inl hb) (ga.fuel b0) a1
  rw[b2]at hq
  obtain ⟨c0,c1,c2⟩:=plain_run hcp hq
  obtain ⟨gc,gw⟩:=plain_g (.inr Pc) hcp (gb.fuel c0) b1
  have ea:=put_lit (s:=fuelS st) (n:=a.N) (by rw[<-lit_plain ha];exact a1) hf
  have sa:plainS a (fuelS st)=dat (fuelS st) (st.Data++[a.N]):=(lit_plain ha _).trans ea.2
  rw[sa]at b0 b1 b2 gb gv c0 c1 c2 gc gw a2
  have eb:=put_lit (s:=fuelS (dat (fuelS st) (st.Data++[a.N]))) (n:=b.N) (by rw[<-lit_plain hb];exact b1) hf
  have sb:plainS b (fuelS (dat (fuelS st) (st.Data++[a.N])))=dat (fuelS (dat (fuelS st) (st.Data++[a.N]))) (st.Data++[a.N]++[b.N]):=(lit_plain hb _).trans eb.2
  rw[sb]at c0 c1 c2 gc gw b2 gb
  have sc:=do2 (gb.fuel c0) hc (d:=st.Data) (a:=a.N) (b:=b.N) (show st.Data++[a.N]++[b.N]=_ by rw[List.append_assoc];rfl)
  rw[sc]at c1 c2 gc
  have hub:=hs.b.u
  have hfe:(fuelS (dat (fuelS (dat (fuelS st) (st.Data++[a.N]))) (st.Data++[a.N]++[b.N]))).Fuel=st.Fuel-1-1-1:=rfl
  refine ⟨_,_,a2.trans (b2.trans c2),lit_go (st:=setF st f) (by show f≠0;omega) hf ea.1,?_,gc,c1,?_⟩
  ·exact ⟨f-1,rfl,by show st.Fuel-1-1-1<=f-1;omega⟩
  ·show st.Fuel-1-1-1<=st.Fuel;omega
 | @one a b ha hb =>
  change (allE D ev (lf a::lf b::r) st).2.Fault=0 at hq
  change OkS (PT m) (lf a::lf b::r) at hok
  show Behind D D' ev ev' (lf a::lf b::r) (lf ⟨0,val1 b a.N⟩::r) r st (setF st f)
  have hbp:b.Kind=0\/b.Kind=1:=(Ex.one ha hb).plain.1 b (by simp)
  have Pa:=okS_head hok
  have Pb:=okS_head (okS_tail hok)
  obtain ⟨a0,a1,a2⟩:=plain_run (.inl ha) hq
  obtain ⟨ga,gu⟩:=plain_g (.inr Pa) (.inl ha) (hs.fuel a0) hf
  rw[a2]at hq
  obtain ⟨b0,b1,b2⟩:=plain_run hbp hq
  obtain ⟨gb,gv⟩:=plain_g (.inr Pb) hbp (ga.fuel b0) a1
  have ea:=put_lit (s:=fuelS st) (n:=a.N) (by rw[<-lit_plain ha];exact a1) hf
  have sa:plainS a (fuelS st)=dat (fuelS st) (st.Data++[a.N]):=(lit_plain ha _).trans ea.2
  rw[sa]at b0 b1 b2 gb gv a2 ga
  have sb:=do1 (ga.fuel b0) hb (d:=st.Data) (a:=a.N) rfl
  rw[sb]at b1 b2 gb
  have hub:=hs.b.u
  refine ⟨_,_,a2.trans b2,lit_go (st:=setF st f) (by show f≠0;omega) hf ea.1,?_,gb,b1,?_⟩
  ·exact ⟨f-1,rfl,by show st.Fuel-1-1<=f-1;omega⟩
  ·show st.Fuel-1-1<=st.Fuel;omega
 | @pair a b h =>
  change (allE D ev (lf a::lf b::r) st).2.Fault=0 at hq
  change OkS (PT m) (lf a::lf b::r) at hok
  show Behind D D' ev ev' (lf a::lf b::r) r r st (setF st f)
  have hp:=(Ex.pair h).plain.1
  have hap:=hp a (by simp)
  have hbp:=hp b (by simp)
  have Pa:=okS_head hok
  have Pb:=okS_head (okS_tail hok)
  obtain ⟨a0,a1,a2⟩:=plain_run hap hq
  obtain ⟨ga,gu⟩:=plain_g (.inr Pa) hap (hs.fuel a0) hf
  rw[a2]at hq
  obtain ⟨b0,b1,b2⟩:=plain_run hbp hq
  obtain ⟨gb,gv⟩:=plain_g (.inr Pb) hbp (ga.fuel b0) a1
  have hub:=hs.b.u
  have hub2:=ga.b.u
  have key:plainS b (fuelS (plainS a (fuelS st)))=dat (fuelS (plainS a (fuelS st))) st.Data/\plainS a (fuelS st)=dat (fuelS st) (plainS a (fuelS st)).Data:=by
   unfold pairB at h
   simp only[Bool.or_eq_true,Bool.and_eq_true]at h
   rcases h with ((h|h)|h)|h
   ·have hk:=eq_of_beq h.1
    have ea:=put_lit (s:=fuelS st) (n:=a.N) (by rw[<-lit_plain hk];exact a1) hf
    have sa:plainS a (fuelS st)=dat (fuelS st) (st.Data++[a.N]):=(lit_plain hk _).trans ea.2
    rw[sa]at b0 ga ⊢
    exact ⟨do_drop (ga.fuel b0) h.2 (d:=st.Data) (a:=a.N) rfl,rfl⟩
   ·have sa:=do_dup (hs.fuel a0) hf h.1 a1
    have sa':plainS a (fuelS st)=dat (fuelS st) (st.Data++[yOf (fuelS st)]):=sa.1
    rw[sa']at b0 ga ⊢
    exact ⟨do_drop (ga.fuel b0) h.2 (d:=st.Data) (a:=yOf (fuelS st)) rfl,rfl⟩
   ·obtain ⟨d,u,v,e1,e2⟩:=do_swap (hs.fuel a0) h.1 a1
    rw[e2]at b0 b1 ga ⊢
    obtain ⟨d',u',v',e3,e4⟩:=do_swap (ga.fuel b0) h.2 b1
    refine ⟨?_,rfl⟩
    rw[e4]
    have e1':st.Data=d++[u,v]:=e1
    have e3':d++[v,u]=d'++[u',v']:=e3
    obtain ⟨q1,q2⟩:=List.append_inj' e3' rfl
    cases q2
    rw[e1',q1]
   ·obtain ⟨d,u,e1,iu,e2⟩:=do_neg (hs.fuel a0) h.1 a1
    rw[e2]at b0 b1 ga ⊢
    obtain ⟨d',u',e3,iu',e4⟩:=do_neg (ga.fuel b0) h.2 b1
    refine ⟨?_,rfl⟩
    rw[e4]
    have e1':st.Data=d++[u]:=e1
    have e3':d++[IntKind.wrap .i32 (-1-u)]=d'++[u']:=e3
    obtain ⟨q1,q2⟩:=List.append_inj' e3' rfl
    cases q2
    rw[e1',q1,neg_neg32 iu]
  have hfe:(fuelS (plainS a (fuelS st))).Fuel=st.Fuel-1-1:=by show (plainS a (fuelS st)).Fuel-1=_;rw[gu];rfl
  refine ⟨_,setF st f,a2.trans b2,rfl,?_,gb,b1,?_⟩
  ·refine le_back ?_ ?_
   ·rw[key.1,key.2];rfl
   ·rw[gv,hfe];omega
  ·rw[gv,hfe];omega
 | @nop a h =>
  change (allE D ev (lf a::r) st).2.Fault=0 at hq
  change OkS (PT m) (lf a::r) at hok
  show Behind D D' ev ev' (lf a::r) r r st (setF st f)
  have hap:=(Ex.nop h).plain.1 a (by simp)
  have Pa:=okS_head hok
  obtain ⟨a0,a1,a2⟩:=plain_run hap hq
  obtain ⟨ga,gu⟩:=plain_g (.inr Pa) hap (hs.fuel a0) hf
  have hub:=hs.b.u
  have e:=do_nop (hs.fuel a0) h
  refine ⟨_,setF st f,a2,rfl,?_,ga,a1,?_⟩
  ·refine le_back ?_ ?_
   ·rw[e];rfl
   ·rw[gu];show st.Fuel-1<=f;omega
  ·rw[gu];show st.Fuel-1<=st.Fuel;omega
end
theorem map_tail {P:Int->Int->Prop}:∀ (x:List GOp) {r:List GTree},OkS P (x.map lf++r)->OkS P r
 | [],_,h=>h
 | _::x,_,h=>map_tail x (okS_tail h)
theorem sim_step {m n:Nat} (IH:∀ D D':List (List GTree),D.length=m->All2 m D D'->TreesOk D->TreesOk D'->Sim D D' n) {a b:List GTree} (h:Fp m a b):∀ (D D':List (List GTree)),D.length=m->All2 m D D'->TreesOk D->TreesOk D'->∀ st st':GSt,OkS (PT m) a->a.length<=60->Le st st'->SG st->st.Fault=0->st.Fuel.toNat<=n->(allE D (evE D n) a st).2.Fault=0->(allE D' (evE D' n) b st').1=(allE D (evE D n) a st).1/\Le (allE D (evE D n) a st).2 (allE D' (evE D' n) b st').2:=by
 induction h with
 | refl l =>
  intro D D' hm hA hT hT' st st' hok hl hle hs hf hu hq
  subst hm
  exact refl_sim (IH D D' rfl hA hT hT') hT hA l hok st st' hle hs hf hu hq
 | @here x y r h =>
  intro D D' hm hA hT hT' st st' hok hl hle hs hf hu hq
  subst hm
  obtain ⟨s1,s1',e1,e2,g1,g2,g3,g4⟩:=here_sim (D:=D) (D':=D') (ev:=evE D n) (ev':=evE D' n) h hok hle hs hf hq
  have hub:=hs.b.u
  have hub1:=g2.b.u
  rw[e1]at hq
  rw[e1,e2]
  exact refl_sim (IH D D' rfl hA hT hT') hT hA r (map_tail x hok) s1 s1' g1 g2 g3 (by omega) hq
 | @tail t r r' h ih =>
  intro D D' hm hA hT hT' st st' hok hl hle hs hf hu hq
  subst hm
  obtain ⟨k,n',ks⟩:=t
  exact cons_sim (IH D D' rfl hA hT hT') hT hA (.refl ks) hok hle hs hf hu (λ s s' hl' hs' hf' hu' hq'=>ih D D' rfl hA hT hT' s s' (okS_tail hok) (by simp at hl;omega) hl' hs' hf' hu' hq') hq
 | @kids k n' ks ks' r h ih =>
  intro D D' hm hA hT hT' st st' hok hl hle hs hf hu hq
  subst hm
  exact cons_sim (IH D D' rfl hA hT hT') hT hA h hok hle hs hf hu (λ s s'=>refl_sim (IH D D' rfl hA hT hT') hT hA r (okS_tail hok) s s') hq
 | @trans a b c h1 hb hl h2 ih1 ih2 =>
  intro D D' hm hA hT hT' st st' hok hla hle hs hf hu hq
  obtain ⟨p1,p2⟩:=ih1 D D' hm hA hT hT' st st hok hla (.refl _) hs hf hu hq
  obtain ⟨q1,q2⟩:=ih2 D' D' (by rw[<-hA.len];exact hm) (.refl _) hT' hT' st st' hb hl hle hs hf hu (by rw[p2.fault];exact hq)
  exact ⟨q1.trans p1,p2.trans q2⟩
theorem sim_all {m:Nat}:∀ (n:Nat) (D D':List (List GTree)),D.length=m->All2 m D D'->TreesOk D->TreesOk D'->Sim D D' n
 | 0,D,D',hm,hA,hT,hT'=>λ a b st st' _ _ _ _ _ _ hu _=>absurd hu (by omega)
 | n+1,D,D',hm,hA,hT,hT'=>λ a b st st' h hok hl hle hs hf hu hq=>by
  subst hm
  exact sim_step (λ D D'=>sim_all n D D') h D D' rfl hA hT hT' st st' hok hl hle hs hf (by omega) hq
theorem plain_pre:∀ (x:List GOp) {z:List GOp} {ts:List GTree},(∀ o ∈ x,o.Kind=0\/o.Kind=1)->gdS ts->flS ts=x++z->∃ r,ts=x.map lf++r/\gdS r/\flS r=z
 | [],z,ts,_,hg,h=>⟨ts,rfl,hg,h⟩
 | o::x,z,ts,hp,hg,h=>by
  cases ts with
  | nil=>cases h
  | cons t r =>
   obtain ⟨k,n,ks⟩:=t
   rw[gdS,gdT]at hg
   rw[flS,flT,List.cons_append,List.cons_append,List.cons.injEq]at h
   obtain ⟨h1,h2⟩:=h
   have hk:=hp o (List.mem_cons.2 (.inl rfl))
   subst h1
   have hn:nestB k=false:=by
    unfold nestB
    exact decide_eq_false (by simp only at hk;omega)
   rw[hn,if_neg (by simp),List.nil_append]at h2
   obtain ⟨r',e1,e2,e3⟩:=plain_pre x (λ p hq=>hp p (List.mem_cons.2 (.inr hq))) hg.2 h2
   refine ⟨r',?_,e2,e3⟩
   rw[e1,hg.1.2.2.1 hn];rfl
theorem flS_lf:∀ (y:List GOp) (r:List GTree),(∀ o ∈ y,o.Kind=0)->flS (y.map lf++r)=y++flS r
 | [],r,_=>rfl
 | o::y,r,h=>by
  have hk:=h o (List.mem_cons.2 (.inl rfl))
  have hn:nestB o.Kind=false:=by unfold nestB;exact decide_eq_false (by omega)
  rw[List.map_cons,List.cons_append,flS,flS_lf y r λ p hp=>h p (List.mem_cons.2 (.inr hp)),lf,flT,hn,if_neg (by simp)];rfl
theorem gdS_lf:∀ (y:List GOp) (r:List GTree),(∀ o ∈ y,o.Kind=0)->gdS r->gdS (y.map lf++r)
 | [],r,_,hr=>hr
 | o::y,r,h,hr=>by
  have hk:=h o (List.mem_cons.2 (.inl rfl))
  rw[List.map_cons,List.cons_append,gdS,lf,gdT]
  exact ⟨⟨by omega,by omega,λ _=>rfl,trivial⟩,gdS_lf y r (λ p hp=>h p (List.mem_cons.2 (.inr hp))) hr⟩
theorem ex_lift {m:Nat}:∀ (n:Nat) (ts:List GTree) (p x z y:List GOp),(flS ts).length<=n->gdS ts->Ex x y->flS ts=p++(x++z)->∃ ts',Fp m ts ts'/\gdS ts'/\flS ts'=p++(y++z):=by
 intro n
 induction n with
 | zero =>
  intro ts p x z y hn hg h e
  have:=h.plain.2.2.1
  rw[e]at hn
  simp only[List.length_append]at hn
  omega
 | succ n ih =>
  intro ts p x z y hn hg h e
  obtain ⟨p1,p2,p3,p4⟩:=h.plain
  cases p with
  | nil =>
   rw[List.nil_append]at e
   obtain ⟨r,e1,e2,e3⟩:=plain_pre x p1 hg e
   subst e1
   exact ⟨y.map lf++r, .here h,gdS_lf y r p2 e2,by rw[flS_lf y r p2,e3];rfl⟩
  | cons o p =>
   cases ts with
   | nil=>cases e
   | cons t r =>
    obtain ⟨k,m',ks⟩:=t
    have hg0:=hg
    rw[gdS,gdT]at hg
    rw[flS,flT]at e hn
    simp only[List.cons_append,List.cons.injEq]at e
    obtain ⟨h1,h2⟩:=e
    subst h1
    cases hk:nestB k with
    | false =>
     rw[hk]at h2 hn
     simp only[Bool.false_eq_true,if_false,List.nil_append,List.length_append,List.length_cons,List.length_nil]at h2 hn
     obtain ⟨r',q1,q2,q3⟩:=ih r p x z y (by omega) hg.2 h h2
     refine ⟨⟨k,m',ks⟩::r', .tail q1,?_,?_⟩
     ·rw[gdS,gdT];exact ⟨hg.1,q2⟩
     ·rw[flS,flT,hk,if_neg (by simp),q3];rfl
    | true =>
     rw[hk]at h2 hn
     simp only[if_true,List.length_append,List.length_cons,List.length_nil,List.append_assoc,List.singleton_append]at h2 hn
     have hE:endsK k=5\/endsK k=7:=by unfold endsK;split<;>simp
     have hne:∀ q ∈ x,q≠(⟨endsK k,0⟩:GOp):=by
      intro q hq e
      have:=p1 q hq
      rw[e]at this
      simp only at this
      omega
     have inside:∀ c,flS ks=p++(x++c)->z=c++⟨endsK k,0⟩::flS r->∃ ts',Fp m (⟨k,m',ks⟩::r) ts'/\gdS ts'/\flS ts'=(⟨k,m'⟩::p)++(y++z):=by
      intro c hc hz
      obtain ⟨ks',q1,q2,q3⟩:=ih ks p x c y (by omega) hg.1.2.2.2 h hc
      refine ⟨⟨k,m',ks'⟩::r, .kids q1,?_,?_⟩
      ·rw[gdS,gdT];exact ⟨⟨hg.1.1,hg.1.2.1,λ e=>absurd (hk.symm.trans e) (by simp),q2⟩,hg.2⟩
      ·rw[flS,flT,hk,if_pos rfl,q3,hz]
       simp only[List.cons_append,List.append_assoc,List.nil_append]
     rcases List.append_eq_append_iff.1 h2 with ⟨c,hc1,hc2⟩|⟨c,hc1,hc2⟩
     ·-- p=flS ks++c
      cases c with
      | nil =>
       rw[List.nil_append]at hc2
       cases x with
       | nil=>exact absurd p3 (by simp)
       | cons q x =>
        rw[List.cons_append,List.cons.injEq]at hc2
        exact absurd hc2.1.symm (hne q (List.mem_cons.2 (.inl rfl)))
      | cons q c =>
       rw[List.cons_append,List.cons.injEq]at hc2
       obtain ⟨r',q1,q2,q3⟩:=ih r c x z y (by omega) hg.2 h hc2.2
       refine ⟨⟨k,m',ks⟩::r', .tail q1,?_,?_⟩
       ·rw[gdS,gdT];exact ⟨hg.1,q2⟩
       ·rw[flS,flT,hk,if_pos rfl,q3,hc1,<-hc2.1]
        simp only[List.cons_append,List.append_assoc,List.nil_append]
     ·-- flS ks=p++c
      rcases List.append_eq_append_iff.1 hc2 with ⟨d,hd1,hd2⟩|⟨d,hd1,hd2⟩
      ·exact inside d (by rw[hc1,hd1]) hd2
      ·cases d with
       | nil =>
        rw[List.append_nil]at hd1
        rw[List.nil_append]at hd2
        exact inside [] (by rw[hc1,hd1,List.append_nil]) (by rw[List.nil_append];exact hd2.symm)
       | cons q d =>
        rw[List.cons_append,List.cons.injEq]at hd2
        exact absurd hd2.1.symm (hne q (by rw[hd1];exact List.mem_append_right _ (List.mem_cons.2 (.inl rfl))))
end Go.Proofs.YtmedombacbpofaaGreatDoor
namespace Go.Proofs.YtmedombacbpofaaGreatDoor
open Go Go.Fm
theorem prT_eq (t:GTree):(prT t).Kind=t.Kind/\(prT t).N=t.N/\(prT t).Kids=prS t.Kids:=by obtain ⟨k,n,ks⟩:=t;rw[prT];exact ⟨rfl,rfl,rfl⟩
section
variable {trs:List (List GTree)} {ev ev':EV}
theorem enterL_pr (h:∀ l st,ev' (prS l) st=ev l st):∀ (T:List (List GTree)) (st:GSt),enterL ev' (T.map prS) st=enterL ev T st
 | [],st=>rfl
 | x::r,st=>by
  rw[List.map_cons,enterL,enterL,h,enterL_pr h r]
theorem loopE_pr (h:∀ l st,ev' (prS l) st=ev l st) (ks:List GTree):∀ (f:Nat) (st:GSt),loopE ev' (prS ks) f st=loopE ev ks f st
 | 0,st=>rfl
 | f+1,st=>by
  rw[loopE,loopE,h]
  simp only[loopE_pr h ks f]
theorem restE_pr (h:∀ l st,ev' (prS l) st=ev l st) (k n:Int) (ks:List GTree) (s:GSt):restE (trs.map prS) ev' k n (prS ks) s=restE trs ev k n ks s:=by
 unfold restE enterE
 rw[<-List.map_drop,enterL_pr h,loopE_pr h,h]
theorem oneE_pr (h:∀ l st,ev' (prS l) st=ev l st) (t:GTree) (s:GSt):oneE (trs.map prS) ev' (prT t) s=oneE trs ev t s:=by
 obtain ⟨h1,h2,h3⟩:=prT_eq t
 unfold oneE
 rw[h1,h2,h3,restE_pr h]
theorem oneE_exit {t:GTree} (h8:t.Kind=8) (s:GSt):(oneE trs ev t s).1=true\/(oneE trs ev t s).2.Fault≠0:=by
 unfold oneE restE
 rw[h8]
 by_cases h0:s.Fuel=0
 ·rw[if_pos h0];exact .inr (by show (6:Int)≠0;omega)
 ·rw[if_neg h0,if_neg (by omega),if_neg (by omega),if_neg (by omega),if_pos rfl]
  split
  ·exact .inr (by show (11:Int)≠0;omega)
  ·exact .inl rfl
theorem allE_pr (h:∀ l st,ev' (prS l) st=ev l st):∀ (l:List GTree) (st:GSt),allE (trs.map prS) ev' (prS l) st=allE trs ev l st
 | [],st=>rfl
 | t::r,st=>by
  rw[prS,allE,allE,oneE_pr h]
  by_cases h8:t.Kind=8
  ·rcases oneE_exit (trs:=trs) (ev:=ev) h8 st with e|e
   ·rw[if_pos e,if_pos e]
   ·by_cases e1:(oneE trs ev t st).1=true
    ·rw[if_pos e1,if_pos e1]
    ·rw[if_neg e1,if_neg e1,if_pos e,if_pos e]
  ·rw[if_neg h8,allE_pr h r]
end
theorem evE_pr (trs:List (List GTree)):∀ (n:Nat) (l:List GTree) (st:GSt),evE (trs.map prS) n (prS l) st=evE trs n l st
 | 0,l,st=>rfl
 | n+1,l,st=>allE_pr (evE_pr trs n) l st
theorem enterE_pr (trs:List (List GTree)) (k:Int) (st:GSt):enterE (trs.map prS) (evE (trs.map prS) bigK) k st=enterE trs (evE trs bigK) k st:=by
 unfold enterE
 rw[<-List.map_drop,enterL_pr (evE_pr trs bigK)]
end Go.Proofs.YtmedombacbpofaaGreatDoor
namespace Go.Proofs.YtmedombacbpofaaGreatDoor
open Go Go.Fm
set_option maxRecDepth 100000
theorem int4_ok {c:GL01Cur} (h:Cok c):Tot (g_spec_l04Int c) λ r=>i32B r.1/\Cok r.2:=by
 unfold g_spec_l04Int
 refine .bind (once_ok h (by decide)) λ a ha=>.cond (λ _ => ?_) λ _ => ?_
 ·exact .bind (below_ok ha (by decide)) λ b hb=>.some ⟨i32w _,hb.2.2⟩
 ·exact .bind (pickInt_ok ha (by decide)) λ b hb=>.some ⟨i32w _,hb.2⟩
theorem body15_ok {c:GL01Cur} (h:Cok c):Tot (g_spec_l15Body c) λ r=>B9 r.1/\Cok r.2:=by
 unfold g_spec_l15Body
 refine .bind (below_ok h (by decide)) λ n hn => ?_
 have loop:∀ (k:Nat) (out:List GOp) (i:Int) (x:GL01Cur),Cok x->0<=i->i<=n.1->out.length<=40*i->(∀ o ∈ out,i32B o.N)->n.1-i < k->Tot (g_spec_l15Body_l0 n.1 k out i x) λ r=>(r.1.length<=400/\∀ o ∈ r.1,i32B o.N)/\Cok r.2:=by
  intro k
  induction k with
  | zero=>intro out i x hx h0 h1 h2 h3 h4;omega
  | succ k ih =>
   intro out i x hx h0 h1 h2 h3 h4
   unfold g_spec_l15Body_l0
   refine .condD (λ hi => ?_) λ _=>.some ⟨⟨by show out.length<=400;omega,h3⟩,hx⟩
   refine .bind (Q:=λ r=>(r.1.length<=40*(i+1)/\∀ o ∈ r.1,i32B o.N)/\Cok r.2) ?_ λ r hr => ?_
   ·refine .bind (below_ok hx (by decide)) λ a ha=>.bind (Q:=λ _=>True) ?_ λ b _=>.cond (λ _ => ?_) λ _=>.cond (λ _ => ?_) λ _ => ?_
    ·exact .cond (λ _=>.some trivial) λ _=>.some trivial
    ·refine .bind (int4_ok ha.2.2) λ d hd=>.bindE (app_eq (by simp;omega)) (.some ⟨⟨?_,λ o ho => ?_⟩,hd.2⟩)
     ·show ((out++[_]).length:Int)<=_
      rw[List.length_append,List.length_singleton];omega
     ·rcases List.mem_append.1 ho with ho|ho
      ·exact h3 o ho
      ·rw[List.mem_singleton.1 ho];exact hd.1
    ·refine .bind (pickInt_ok ha.2.2 (by decide)) λ d hd=>.bindE (app_eq (by simp;omega)) (.some ⟨⟨?_,λ o ho => ?_⟩,hd.2⟩)
     ·show ((out++[_]).length:Int)<=_
      rw[List.length_append,List.length_singleton];omega
     ·rcases List.mem_append.1 ho with ho|ho
      ·exact h3 o ho
      ·rw[List.mem_singleton.1 ho];exact i32w _
    ·refine .bind (body_ok 1 bigK (by unfold bigK;omega) (by omega) ha.2.2 (by omega)) λ d hd => ?_
     have hdl:d.1.length<=37:=hd.1.2
     refine .bindE (app_eq (by omega)) (.some ⟨⟨?_,λ o ho => ?_⟩,hd.2⟩)
     ·show ((out++d.1).length:Int)<=_
      rw[List.length_append];omega
     ·rcases List.mem_append.1 ho with ho|ho
      ·exact h3 o ho
      ·exact (hd.1.1.ok o ho).1.2
   ·obtain ⟨r1,r2⟩:=r
    show Tot (g_spec_l15Body_l0 n.1 k r1 (IntKind.wrap .i64 (i+1)) r2) _
    rw[wI64 (by omega) (by omega)]
    exact ih r1 (i+1) r2 hr.2 (by omega) (by omega) hr.1.1 hr.1.2 (by omega)
 refine .bind (Q:=λ r=>(r.1.length<=400/\∀ o ∈ r.1,i32B o.N)/\Cok r.2) (.bind (loop bigK [] 0 n.2 hn.2.2 (by omega) (by omega) (by simp) (λ o ho=>nomatch ho) (by unfold bigK;omega)) λ r hr=>.some hr) λ r hr => ?_
 obtain ⟨r1,r2⟩:=r
 refine .bind (Q:=λ q=>Cok q.2) ?_ λ q hq => ?_
 ·exact .condD (λ _=>.some hr.2) λ _=>.bind (once_ok hr.2 (by decide)) λ o ho=>.some ho
 ·obtain ⟨q1,q2⟩:=q
  refine .cond (λ _=>.bind (any9 hq) λ a ha=>.some ha) λ _=>.some ⟨⟨?_,hr.1.2⟩,hq⟩
  have:=hr.1.1
  show r1.length<=1000
  simp only at this
  omega
end Go.Proofs.YtmedombacbpofaaGreatDoor
namespace Go.Proofs.YtmedombacbpofaaGreatDoor
open Go Go.Fm
set_option maxRecDepth 100000
theorem val2_i32 (c:GOp) (x y:Int):i32B (val2 c x y):=by
 unfold val2
 cases isB c [43]
 ·cases isB c [42]
  ·cases isB c [97,110,100]
   ·exact i32w _
   ·exact i32w _
  ·exact i32w _
 ·exact i32w _
theorem val1_i32 (b:GOp) {y:Int} (h:i32B y):i32B (val1 b y):=by
 unfold val1
 cases isB b [45]
 ·cases isB b [50,42]
  ·show i32B (y / 2)
   unfold i32B at h ⊢;omega
  ·exact i32w _
 ·exact i32w _
theorem Ex.i32 {x y:List GOp} (h:Ex x y) (hx:∀ o ∈ x,i32B o.N):∀ o ∈ y,i32B o.N:=by
 cases h with
 | two ha hb hc=>intro o ho;rw[List.mem_singleton]at ho;subst ho;exact val2_i32 _ _ _
 | one ha hb=>intro o ho;rw[List.mem_singleton]at ho;subst ho;exact val1_i32 _ (hx _ (by simp))
 | pair h=>intro o ho;cases ho
 | nop h=>intro o ho;cases ho
structure BOk (m:Nat) (b:List GOp):Prop where
 s:shapeB b=true
 i:∀ o ∈ b,i32B o.N
 c:b.any (tooFar m)=false
theorem BOk.trees {m:Nat} {b:List GOp} (h:BOk m b):OkS (PT m) (tr b)/\(tr b).length<=60:=by
 have t:=tr_ok h.s
 obtain ⟨h60,hok⟩:=shape_ok h.s
 refine ⟨okS_of _ t.gd (by rw[t.fl];exact h60) λ o ho => ?_,t.l⟩
 rw[t.fl]at ho
 have:=List.any_eq_false.1 h.c o ho
 exact pt_of (hok o ho) (h.i o ho) (by simpa using this)
theorem tooFar_lit {m:Nat} {o:GOp} (h:o.Kind=0):tooFar m o=false:=by unfold tooFar;rw[h];rfl
theorem ex_fp {m:Nat} {a b:List GOp} (h:ExTo a b) (ha:BOk m a):BOk m b/\Fp m (tr a) (tr b)/\b.length<=a.length:=by
 induction h with
 | refl l=>exact ⟨ha, .refl _,Nat.le_refl _⟩
 | @step p x y z w h hr ih =>
  obtain ⟨p1,p2,p3,p4⟩:=h.plain
  have hi:∀ o ∈ p++(y++z),i32B o.N:=by
   have hx:=h.i32 λ o ho=>ha.i o (by simp[ho])
   intro o ho
   simp only[List.mem_append]at ho
   rcases ho with ho|ho|ho
   ·exact ha.i o (by simp[ho])
   ·exact hx o ho
   ·exact ha.i o (by simp[ho])
  have h1:BOk m (p++(y++z)):=⟨(ExTo.step h (.refl _)).shape ha.s,hi,by
   have hc:=ha.c
   rw[List.any_eq_false]at hc ⊢
   intro o ho
   simp only[List.mem_append]at ho
   rcases ho with ho|ho|ho
   ·exact hc o (by simp[ho])
   ·rw[tooFar_lit (p2 o ho)];simp
   ·exact hc o (by simp[ho])⟩
  obtain ⟨q1,q2,q3⟩:=ih h1
  have t:=tr_ok ha.s
  obtain ⟨ts',f1,f2,f3⟩:=ex_lift (m:=m) _ (tr (p++(x++z))) p x z y (Nat.le_refl _) t.gd h t.fl
  have t1:=tr_ok h1.s
  have e:tr (p++(y++z))=ts':=flS_inj t1.gd f2 (by rw[t1.fl,f3])
  obtain ⟨o1,o2⟩:=h1.trees
  refine ⟨q1, .trans (b:=tr (p++(y++z))) (by rw[e];exact f1) o1 o2 q2,?_⟩
  simp only[List.length_append]at q3 ⊢
  omega
def fdB (b:List GOp):List GOp:=(g_impl_Fold b).getD []
theorem fdB_ok {m:Nat} {b:List GOp} (h:BOk m b):g_impl_Fold b=some (fdB b)/\BOk m (fdB b)/\Fp m (tr b) (tr (fdB b))/\(fdB b).length<=b.length:=by
 obtain ⟨h60,_⟩:=shape_ok h.s
 obtain ⟨w,h1,h2,h3,h4,h5,h6⟩:=folds (body:=b) (by omega) h.i
 have e:fdB b=w:=by unfold fdB;rw[h5];rfl
 rw[e]
 obtain ⟨f1,f2,f3⟩:=h3 h.s
 exact ⟨h5,ex_fp f1.ex h⟩
theorem fold_imm_l0:∀ (k:Nat) (o:List GOp) (i:Int),g_impl_Fold_imm_l0 k o i=g_impl_Fold_l0 k o i:=by
 intro k
 induction k with
 | zero=>intro o i;rfl
 | succ k ih=>intro o i;rw[g_impl_Fold_imm_l0,g_impl_Fold_l0];simp only[ih]
theorem fold_imm (b:List GOp):g_impl_Fold_imm b=g_impl_Fold b:=by
 unfold g_impl_Fold_imm g_impl_Fold
 simp only[fold_imm_l0]
def prD (d:GDef):GDef:=⟨d.Name,prB d.Body⟩
def sD (d:GDef):GDef:=⟨d.Name,fdB (prB d.Body)⟩
theorem prB_bok {m:Nat} {b:List GOp} (h:BOk m b):BOk m (prB b):=by
 obtain ⟨p1,p2,p3,p4⟩:=prB_ok h.s
 refine ⟨p1,λ o ho=>h.i o (p4 o ho),?_⟩
 have hc:=h.c
 rw[List.any_eq_false]at hc ⊢
 exact λ o ho=>hc o (p4 o ho)
structure DOk (defs:List GDef):Prop where
 n:defs.length<=24
 b:∀ d ∈ defs,BOk defs.length d.Body
theorem DOk.df {defs:List GDef} (h:DOk defs):DfOk defs:=⟨h.n,λ d hd=>(h.b d hd).s,λ d hd=>(h.b d hd).c⟩
theorem DOk.i {defs:List GDef} (h:DOk defs):∀ d ∈ defs,∀ o ∈ d.Body,i32B o.N:=λ d hd=>(h.b d hd).i
theorem DOk.of {defs:List GDef} (h:DfOk defs) (hi:∀ d ∈ defs,∀ o ∈ d.Body,i32B o.N):DOk defs:=⟨h.n,λ d hd=>⟨h.s d hd,hi d hd,h.c d hd⟩⟩
theorem DOk.map {defs:List GDef} (h:DOk defs) {f:GDef->GDef} (hf:∀ d ∈ defs,BOk defs.length (f d).Body):DOk (defs.map f) :=
 ⟨by rw[List.length_map];exact h.n,λ d hd=>by
  obtain ⟨e,he,rfl⟩:=List.mem_map.1 hd
  rw[List.length_map];exact hf e he⟩
theorem simple_l0 {defs:List GDef} (h:DOk defs):∀ (k i:Nat) (out:List GDef),i<=defs.length->defs.length-i < k->out.length<=i->g_impl_SimpleOf_hand_l0 defs (defs.length:Int) k out (i:Int)=some (out++(defs.drop i).map sD):=by
 intro k
 induction k with
 | zero=>intro i out h0 h1;omega
 | succ k ih =>
  intro i out h0 h1 h2
  have hn:=h.n
  rw[g_impl_SimpleOf_hand_l0]
  by_cases hi:i < defs.length
  ·have hb:=h.b _ (List.getElem_mem hi)
   obtain ⟨_,_,p3,_⟩:=prB_ok hb.s
   obtain ⟨f1,_,_,_⟩:=fdB_ok (prB_bok hb)
   rw[decide_eq_true (by omega),cond_true,getI_nat,List.getElem?_eq_getElem hi,Option.bind_some,p3,Option.bind_some,fold_imm,f1,Option.bind_some,app_eq (by simp;omega),Option.bind_some,nxt (by omega),ih (i+1) _ (by omega) (by omega) (by simp;omega),List.drop_eq_getElem_cons hi,List.map_cons,List.append_assoc]
   rfl
  ·rw[decide_eq_false (by omega),cond_false,List.drop_eq_nil_of_le (by omega),List.map_nil,List.append_nil]
theorem simple_eq {defs:List GDef} (hw:DW defs) (hi:∀ d ∈ defs,∀ o ∈ d.Body,i32B o.N):g_impl_SimpleOf_hand defs=some (if defsB defs then defs.map sD else []):=by
 unfold g_impl_SimpleOf_hand
 rw[defsOk_impl hw,Option.bind_some]
 cases hd:defsB defs with
 | false=>rfl
 | true =>
  have h:=DOk.of (dfOk hd) hi
  have hn:=h.n
  have l:=simple_l0 h bigK 0 [] (Nat.zero_le _) (by unfold bigK;omega) (Nat.le_refl _)
  rw[show ((0:Nat):Int)=0 from rfl,List.drop_zero,List.nil_append]at l
  rw[Bool.not_true,cond_false,l];rfl
theorem all2_map {m:Nat} {f g:GDef->List GTree}:∀ (l:List GDef),(∀ d ∈ l,Fp m (f d) (g d))->All2 m (l.map f) (l.map g)
 | [],_=>.nil
 | d::r,h=>.cons (h d (List.mem_cons.2 (.inl rfl))) (all2_map r λ e he=>h e (List.mem_cons.2 (.inr he)))
theorem simple_means {defs:List GDef} (hw:DW defs) (h:DOk defs) {st:GSt} (hs:SG st) (hf:st.Fault=0) {k:Int} (hk0:0<=k) (hk1:k < defs.length) :
  ∃ a b,g_impl_Means defs k st=some a/\g_impl_Means (defs.map sD) k st=some b/\SG a/\SG b/\(a.Fault=0->Le a b):=by
 have hsd:DOk (defs.map sD):=h.map λ d hd=>(fdB_ok (prB_bok (h.b d hd))).2.1
 have hpd:DOk (defs.map prD):=h.map λ d hd=>prB_bok (h.b d hd)
 have hwl:=hw.n
 have hw2:DW (defs.map sD):=⟨by rw[List.length_map];exact hw.n,λ d hd=>by
  obtain ⟨e,he,rfl⟩:=List.mem_map.1 hd
  exact hw.nm e he,λ d hd=>by
  obtain ⟨e,he,rfl⟩:=List.mem_map.1 hd
  have:=(shape_ok (fdB_ok (prB_bok (h.b e he))).2.1.s).1
  show (fdB (prB e.Body)).length<=1000
  omega⟩
 obtain ⟨m1,g1⟩:=means_ok hw h.df h.i hs hf hk0 hk1
 obtain ⟨m2,g2⟩:=means_ok hw2 hsd.df hsd.i hs hf hk0 (by rw[List.length_map];exact hk1)
 refine ⟨_,_,m1,m2,g1,g2,λ hq => ?_⟩
 have hTp:=treesOk hpd.df hpd.i
 have hTs:=treesOk hsd.df hsd.i
 have e:(defs.map prD).map trD=(defs.map trD).map prS:=by
  rw[List.map_map,List.map_map]
  refine List.map_congr_left λ d hd => ?_
  show tr (prB d.Body)=prS (tr d.Body)
  exact tr_prB (h.b d hd).s
 have hA:All2 ((defs.map prD).map trD).length ((defs.map prD).map trD) ((defs.map sD).map trD):=by
  rw[List.length_map,List.length_map,List.map_map,List.map_map]
  exact all2_map defs λ d hd=>(fdB_ok (prB_bok (h.b d hd))).2.2.1
 have hub:=hs.b.u
 have S:=sim_all bigK _ _ rfl hA hTp hTs
 have e2:=enterE_pr (defs.map trD) k st
 rw[<-e]at e2
 rw[<-e2]at hq ⊢
 exact enterE_sim S hTp hA (.refl st) hs hf (by unfold bigK;omega) hq
theorem law_l0 {defs:List GDef} (hw:DW defs) (h:DOk defs) {st:GSt} (hs:SG st) (hf:st.Fault=0):∀ (f i:Nat),i<=defs.length->defs.length-i < f->g_laws_FnSimple_l0 defs (defs.map sD) st f (i:Int)=some (.inl ()):=by
 intro f
 induction f with
 | zero=>intro i h0 h1;omega
 | succ f ih =>
  intro i h0 h1
  have hn:=h.n
  rw[g_laws_FnSimple_l0]
  by_cases hi:i < defs.length
  case neg=>rw[decide_eq_false (by omega),cond_false]
  have hb:=h.b _ (List.getElem_mem hi)
  obtain ⟨_,p2,_,_⟩:=prB_ok hb.s
  obtain ⟨_,_,_,f4⟩:=fdB_ok (prB_bok hb)
  have e1:getI (defs.map sD) (i:Int)=some (sD defs[i]):=by rw[getI_nat,List.getElem?_map,List.getElem?_eq_getElem hi];rfl
  have e2:getI defs (i:Int)=some defs[i]:=by rw[getI_nat,List.getElem?_eq_getElem hi]
  rw[decide_eq_true (by omega),cond_true,e1,e2]
  simp only[Option.bind_some]
  have e3:decide (((sD defs[i]).Body.length:Int) > (defs[i].Body.length:Int))=false:=decide_eq_false (by show ¬ (((fdB (prB defs[i].Body)).length:Int) > _);omega)
  have e4:((sD defs[i]).Name != defs[i].Name)=false:=bne_self' _
  rw[e3,cond_false,Option.bind_some,e4,cond_false]
  obtain ⟨a,b,m1,m2,g1,g2,g3⟩:=simple_means hw h hs hf (k:=(i:Int)) (by omega) (by omega)
  rw[m1,Option.bind_some]
  by_cases hq:a.Fault=0
  ·obtain ⟨u,rfl,hu⟩:=g3 hq
   have hx:=g1.b
   have:=hx.d;have:=hx.r;have:=hx.m;have:=hx.v;have:=hx.o;have:=hx.i;have:=hx.cl
   rw[show (a.Fault != 0)=false by simp[hq],cond_false,m2,Option.bind_some,show ((setF a u).Fault != 0)=false from by show (a.Fault != 0)=false;simp[hq],cond_false]
   have sb:g_laws_sameBut a (setF a u)=some true:=by
    unfold g_laws_sameBut setF
    simp only[sameNums (a:=a.Data) (by omega),sameNums (a:=a.Mem) (by omega),sameCells (a:=a.Cells) (by omega),sameInts (a:=a.Vars) (by omega),sameBytes (a:=a.Out) (by omega),sameBytes (a:=a.In) (by omega),Option.bind_some,cond_true,beq_self_eq_true]
   have sr:g_laws_sameRet a.Ret (setF a u).Ret=some true:=sameRet (a:=a.Ret) (by omega)
   rw[sb,Option.bind_some,Bool.not_true,cond_false,sr,Option.bind_some,Bool.not_true,cond_false,decide_eq_false (by show ¬ (u < a.Fuel);omega)]
   simp only[Option.bind_some,cond_false]
   rw[nxt (by omega)]
   exact ih (i+1) (by omega) (by omega)
  ·rw[show (a.Fault != 0)=true by simp[hq],cond_true]
   simp only[Option.bind_some]
   rw[nxt (by omega)]
   exact ih (i+1) (by omega) (by omega)
theorem names5_impl':∀ s ∈ names5,g_impl_NameOk s=some true:=by
 intro s hs
 unfold names5 at hs
 simp only[List.mem_cons,List.not_mem_nil,or_false]at hs
 rcases hs with rfl|rfl|rfl|rfl|rfl<;>decide +kernel
structure DrS (defs:List GDef):Prop where
 l:defs.length<=4
 w:DW defs
 i:∀ d ∈ defs,∀ o ∈ d.Body,i32B o.N
theorem DrS.set {defs:List GDef} (h:DrS defs) {i:Int} {d:GDef} (hd:getI defs i=some d) {b:List GOp} (hb:b.length<=60) (hi:∀ o ∈ b,i32B o.N) (n:Nat):DrS (defs.set n ⟨d.Name,b⟩):=by
 have hm:d ∈ defs:=by
  unfold getI at hd
  split at hd
  ·exact List.mem_of_getElem? hd
  ·cases hd
 refine ⟨by rw[List.length_set];exact h.l,⟨by rw[List.length_set];exact h.w.n,λ x hx => ?_,λ x hx => ?_⟩,λ x hx => ?_⟩
 ·rcases List.mem_or_eq_of_mem_set hx with hx|rfl
  ·exact h.w.nm x hx
  ·exact h.w.nm d hm
 ·rcases List.mem_or_eq_of_mem_set hx with hx|rfl
  ·exact h.w.l x hx
  ·show b.length<=1000;omega
 ·rcases List.mem_or_eq_of_mem_set hx with hx|rfl
  ·exact h.i x hx
  ·exact hi
theorem simple_draw {code:List Int} (hc:code.length<=1048576):Tot (g_spec_DrawSimpleOf code) DrS:=by
 unfold g_spec_DrawSimpleOf
 refine .bind (new_ok hc) λ c h=>.bind (make9_ok h) λ m hm => ?_
 have hl:=hm.1.1
 have h0:DrS m.1:=⟨by omega,⟨by omega,λ d hd=>⟨names5_impl' _ (hm.1.2 d hd).nm,names5_ok _ (hm.1.2 d hd).nm⟩,λ d hd=>by have:=(hm.1.2 d hd).l;omega⟩,λ d hd o ho=>((hm.1.2 d hd).b.ok o ho).1.2⟩
 have loop:∀ (k:Nat) (defs:List GDef) (i:Nat) (x:GL01Cur),DrS defs->Cok x->i<=defs.length->defs.length-i < k->Tot (g_spec_DrawSimpleOf_l0 k defs (i:Int) x) λ r=>DrS r.1:=by
  intro k
  induction k with
  | zero=>intro defs i x hd hx h0 h1;omega
  | succ k ih =>
   intro defs i x hd hx h0 h1
   have hdl:=hd.l
   unfold g_spec_DrawSimpleOf_l0
   refine .condD (λ hi => ?_) λ _=>.some hd
   refine .bind (Q:=λ r=>(DrS r.1/\r.1.length=defs.length)/\Cok r.2) ?_ λ r hr => ?_
   ·refine .bind (body15_ok hx) λ a ha => ?_
    have hal:=ha.1.1
    refine .bindE (app_eq (by simp;omega)) ?_
    have h32:∀ o ∈ a.1++[(⟨8,0⟩:GOp)],i32B o.N:=λ o ho=>by
     rcases List.mem_append.1 ho with ho|ho
     ·exact ha.1.2 o ho
     ·rw[List.mem_singleton.1 ho];unfold i32B;show -2147483648<=(0:Int)/\(0:Int)<=2147483647;omega
    refine .bind (Q:=λ q=>q.1=a.1++[(⟨8,0⟩:GOp)]/\(q.2.1=true->q.1.length<=60)/\Cok q.2.2) ?_ λ q hq => ?_
    ·refine .bind (once_ok ha.2 (by decide)) λ o ho=>.cond (λ _ => ?_) λ _=>.some ⟨rfl,(λ e=>nomatch e),ho⟩
     refine .bindE (specShape (by simp;omega)) (.some ⟨rfl,λ e => ?_,ho⟩)
     exact (shape_ok e).1
    ·obtain ⟨q1,q2,q3⟩:=q
     obtain ⟨rfl,hq2,hq3⟩:=hq
     refine .cond (λ e => ?_) λ _=>.some ⟨⟨hd,rfl⟩,hq3⟩
     obtain ⟨d,g1,g2,g3⟩:=getI_ex (xs:=defs) (i:=(i:Int)) (by omega) hi
     refine .bindE g1 (.some ⟨⟨hd.set g1 (hq2 e) h32 _,?_⟩,hq3⟩)
     show (defs.set _ _).length=_
     rw[List.length_set]
   ·obtain ⟨r1,r2⟩:=r
    obtain ⟨⟨hr1,hr2⟩,hr3⟩:=hr
    simp only at hr2
    show Tot (g_spec_DrawSimpleOf_l0 k r1 (IntKind.wrap .i64 ((i:Int)+1)) r2) _
    rw[nxt (by omega)]
    exact ih r1 (i+1) r2 hr1 hr3 (by omega) (by omega)
 obtain ⟨r,e,hr⟩:=loop bigK m.1 0 m.2 h0 hm.2 (Nat.zero_le _) (by unfold bigK;omega)
 rw[show ((0:Nat):Int)=0 from rfl]at e
 rw[e]
 exact .some hr
theorem law_simple (code:List Int):g_laws_FnSimple code=some true:=by
 unfold g_laws_FnSimple g_laws_big
 rw[Option.bind_some]
 by_cases hc:code.length<=1048576
 case neg=>rw[decide_eq_true (by omega),cond_true]
 rw[decide_eq_false (by omega),cond_false]
 obtain ⟨b,e1,hb⟩:=simple_draw hc
 obtain ⟨q,e2,hq⟩:=means_draw hc
 rw[e1,Option.bind_some,simple_eq hb.w hb.i,Option.bind_some,defsOk_spec hb.w,Option.bind_some]
 cases hd:defsB b with
 | false=>rfl
 | true =>
  rw[Bool.not_true,cond_false,if_pos rfl]
  have h:=DOk.of (dfOk hd) hb.i
  have hn:=h.n
  have hsd:DOk (b.map sD):=h.map λ d hd=>(fdB_ok (prB_bok (h.b d hd))).2.1
  have hw2:DW (b.map sD):=⟨by rw[List.length_map];exact hb.w.n,λ d hd=>by
   obtain ⟨e,he,rfl⟩:=List.mem_map.1 hd
   exact hb.w.nm e he,λ d hd=>by
   obtain ⟨e,he,rfl⟩:=List.mem_map.1 hd
   have:=(shape_ok (fdB_ok (prB_bok (h.b e he))).2.1.s).1
   show (fdB (prB e.Body)).length<=1000
   omega⟩
  rw[List.length_map,bne_self',cond_false,defsOk_impl hw2,dfOk_iff hsd.df,Option.bind_some,Option.bind_some,Bool.not_true,cond_false,e2,Option.bind_some]
  have hsz:StSz q.2.2:=⟨by have:=hq.r;omega,by have:=hq.v;omega⟩
  rw[spec_st hsz,Option.bind_some]
  cases hst:StB q.2.2 with
  | false=>rfl
  | true =>
   rw[Bool.not_true,cond_false,Option.bind_some]
   by_cases hf:q.2.2.Fault=0
   case neg=>rw[show (q.2.2.Fault != 0)=true by simp[hf],cond_true]
   rw[show (q.2.2.Fault != 0)=false by simp[hf],cond_false]
   have hg:SG q.2.2:=.of hq.g (stB_iff.1 hst)
   have l:=law_l0 hb.w h hg hf bigK 0 (Nat.zero_le _) (by unfold bigK;omega)
   rw[show ((0:Nat):Int)=0 from rfl]at l
   rw[l];rfl
end Go.Proofs.YtmedombacbpofaaGreatDoor

namespace Go.Proofs.YtmedombacbpofaaGreatDoor
open Go Go.Fm
set_option maxRecDepth 100000
theorem ans_FnSimple (x0:List Int) (g0:(λ xs:List Int=>xs.length<=maxLen/\∀ x ∈ xs,(λ n:Int=>(Lit.int .u8 n).wf=true) x) x0) :
  Ans Tryz.prog 3 [.one (.imm 1 x0.length (x0.flatMap (eI .u8)))] [] λ v _=>v=Go.Fm.one (.bool true):=λ hm=>by
 obtain ⟨r,h1,a,b,c,_⟩:=ce_laws_FnSimple (x0) true (good_pure rfl rfl) (law_simple x0) hm
 exact ⟨r,h1,a,b⟩
end Go.Proofs.YtmedombacbpofaaGreatDoor
