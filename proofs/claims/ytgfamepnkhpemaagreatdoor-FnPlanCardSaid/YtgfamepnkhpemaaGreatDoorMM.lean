import Derived.Test.YtgfamepnkhpemaaGreatDoorML
set_option linter.all false
namespace Go.Proofs.YtgfamepnkhpemaaGreatDoor
open Go Go.Fm
set_option maxRecDepth 100000
theorem prim_ok {k:Int}:Tot (g_spec_PrimName k) λ nm=>nm.length<=1048576:=by
 unfold g_spec_PrimName g_spec_l08Names
 refine .bindE rfl (.bindE specIn_eq (.cond (λ _=>.some (by simp)) λ hc => ?_))
 have hk:0<=k/\k<=23:=by
  rw[show IntKind.wrap .i64 ((([[100,117,112],[100,114,111,112],[111,118,101,114],[110,105,112],[115,119,97,112],[43],[45],[42],[97,110,100],[111,114],[50,42],[50,47],[47,109,111,100],[64],[33],[97],[97,33],[101,109,105,116],[107,101,121],[112,117,115,104],[112,111,112],[105],[46],[110,111,112]]:List Bs).length:Int)-1)=23 from by decide]at hc
  simpa using hc
 obtain ⟨v,hv,hm,_⟩:=getI_ex (xs:=([[100,117,112],[100,114,111,112],[111,118,101,114],[110,105,112],[115,119,97,112],[43],[45],[42],[97,110,100],[111,114],[50,42],[50,47],[47,109,111,100],[64],[33],[97],[97,33],[101,109,105,116],[107,101,121],[112,117,115,104],[112,111,112],[105],[46],[110,111,112]]:List Bs)) (i:=k) hk.1 (by simp;omega)
 refine .bindE hv (.some ?_)
 have:∀ y ∈ ([[100,117,112],[100,114,111,112],[111,118,101,114],[110,105,112],[115,119,97,112],[43],[45],[42],[97,110,100],[111,114],[50,42],[50,47],[47,109,111,100],[64],[33],[97],[97,33],[101,109,105,116],[107,101,121],[112,117,115,104],[112,111,112],[105],[46],[110,111,112]]:List Bs),y.length<=1048576:=by decide
 exact this v hm
theorem l13Word_ok {c:GL01Cur} (h:Cok c):Tot (g_spec_l13Word c) λ r=>(IL r.1/\r.1.length<=6)/\Cok r.2:=by
 unfold g_spec_l13Word
 simp only[g_spec_l13G,g_spec_l13N,g_spec_l13Y,Option.bind_some]
 refine .bind (below_ok h (by decide)) λ a ha=>.cond (λ _=>.some ⟨⟨?_,by simp⟩,ha.2.2⟩) λ _=>.cond (λ _=>.some ⟨⟨?_,by simp⟩,ha.2.2⟩) λ _=>.cond (λ _=>.some ⟨⟨?_,by simp⟩,ha.2.2⟩) λ _ =>
  .cond (λ _=>.bind (below_ok ha.2.2 (by decide)) λ b hb=>.some ⟨⟨?_,by simp⟩,hb.2.2⟩) λ _=>.cond (λ _=>.bind (pick_ok ha.2.2 (by decide)) λ b hb=>.some ⟨⟨?_,by simp⟩,hb.2⟩) λ _=>.cond (λ _=>.some ⟨⟨?_,by simp⟩,ha.2.2⟩) λ _ =>
  .bind (below_ok ha.2.2 (by decide)) λ b hb=>.bind prim_ok λ nm hn=>.some ⟨⟨iok1 hn,by simp⟩,hb.2.2⟩
 ·exact .cons (iok (by decide)) (iok1 (by decide))
 ·exact .cons (iok (by decide)) (.cons (iok (by decide)) (.cons (iok (by decide)) (iok1 (by decide))))
 ·exact .cons (iok (by decide)) (.cons (iok (by decide)) (.cons (iok (by decide)) (.cons (iok (by decide)) (iok1 (by decide)))))
 ·exact .cons (iok (by decide)) (.cons (iok (by decide)) (.cons (iok (by decide)) (iok1 (by decide))))
 ·have:∀ y ∈ ([[103,111],[120],[97,116],[116,101,110],[110,105,120]]:List Bs),y.length<=1048576:=by decide
  exact iok1 (this _ hb.1)
 ·exact .cons (iok (by decide)) (.cons (iok (by decide)) (.cons (iok (by decide)) (.cons (iok (by decide)) (.cons (iok (by decide)) (iok1 (by decide))))))
theorem l13List_ok {c:GL01Cur} (h:Cok c):Tot (g_spec_l13List 3 c) λ r=>(IL r.1/\r.1.length<=1000)/\Cok r.2:=by
 have key1:∀ (y:Int),y<=4->∀ (k:Nat) (out:List GItem) (j:Int) (c:GL01Cur),Cok c->IL out->0<=j->j<=4->(out.length:Int)<=200+6*j->4-j < k->Tot (g_spec_l13List_l1 y k out j c) λ r=>(IL r.1/\r.1.length<=out.length+6*(4-j).toNat)/\Cok r.2:=by
  intro y hy k
  induction k with
  | zero=>intro out j c h0 h1 h2 h3 h4 h5;omega
  | succ k ih =>
   intro out j c h0 h1 h2 h3 h4 h5
   rw[g_spec_l13List_l1]
   refine .condD (λ hj => ?_) λ _=>.some ⟨⟨h1,by show out.length<=_;omega⟩,h0⟩
   refine .bind (l13Word_ok h0) λ w hw=>.bindE (app_eq (by have:=hw.1.2;omega)) ?_
   rw[wI64 (x:=j+1) (by omega) (by omega)]
   have hwl:=hw.1.2
   refine (ih _ _ _ hw.2 (h1.app hw.1.1) (by omega) (by omega) (by rw[List.length_append];omega) (by omega)).mono λ r hr=>⟨⟨hr.1.1,?_⟩,hr.2⟩
   have:=hr.1.2
   rw[List.length_append]at this
   omega
 have key0:∀ (y:Int),y<=3->∀ (k:Nat) (out:List GItem) (i:Int) (c:GL01Cur),Cok c->IL out->0<=i->i<=3->(out.length:Int)<=40*i->3-i < k->Tot (g_spec_l13List_l0 y k out i c) λ r=>(IL r.1/\r.1.length<=120)/\Cok r.2:=by
  intro y hy k
  induction k with
  | zero=>intro out i c h0 h1 h2 h3 h4 h5;omega
  | succ k ih =>
   intro out i c h0 h1 h2 h3 h4 h5
   rw[g_spec_l13List_l0]
   refine .condD (λ hi => ?_) λ _=>.some ⟨⟨h1,by show out.length<=120;omega⟩,h0⟩
   refine .bind (Q:=λ r=>(IL r.1/\r.1.length<=out.length+40)/\Cok r.2) ?_ λ r hr => ?_
   ·refine .bind (Q:=λ r=>(IL r.1/\r.1.length<=out.length+1)/\Cok r.2) (.bind (once_ok h0 (by decide)) λ a ha=>.cond (λ _=>.bind (pick_ok ha (by decide)) λ b hb=>.bind (below_ok hb.2 (by decide)) λ d hd=>.bindE (app_eq (by simp;omega)) (.some ⟨⟨h1.app (iok1 ?_),by simp⟩,hd.2.2⟩)) λ _=>.some ⟨⟨h1,by show out.length<=_;omega⟩,ha⟩) λ e he => ?_
    ·have:∀ y ∈ ([[120],[97,116]]:List Bs),y.length<=1048576:=by decide
     exact this _ hb.1
    ·have hel:=he.1.2
     refine .bind (pick_ok he.2 (by decide)) λ b hb=>.bindE (app_eq (by simp;omega)) (.bind (below_ok hb.2 (by decide)) λ d hd => ?_)
     have hbn:b.1.length<=1048576:=by
      have:∀ y ∈ ([[103,111],[116,101,110],[120],[114,117,110]]:List Bs),y.length<=1048576:=by decide
      exact this _ hb.1
     have hl1:(e.1++[(⟨2,b.1,0,false,0⟩:GItem)]).length<=out.length+2:=by simp;omega
     refine .bind (Q:=λ r=>(IL r.1/\r.1.length<=out.length+30)/\Cok r.2) (.bind (key1 d.1 (by omega) bigK _ 0 d.2 hd.2.2 (he.1.1.app (iok1 hbn)) (by decide) (by decide) (by omega) (by decide)) λ r hr=>.some ⟨⟨hr.1.1,?_⟩,hr.2⟩) λ r hr=>.bind (once_ok hr.2 (by decide)) λ g hg=>.cond (λ _ => ?_) λ _=>.some ⟨⟨hr.1.1,by have:=hr.1.2;show r.1.length<=_;omega⟩,hg⟩
     ·have:=hr.1.2
      have e4:(4-(0:Int)).toNat=4:=rfl
      rw[e4]at this
      show r.1.length<=_
      omega
     ·have:=hr.1.2
      refine .bindE (a:=(⟨3,[59],0,false,0⟩:GItem)) rfl (.bindE (app_eq (by simp;omega)) (.some ⟨⟨hr.1.1.app (iok1 (by decide)),by simp;omega⟩,hg⟩))
   ·rw[wI64 (x:=i+1) (by omega) (by omega)]
    exact ih _ _ _ hr.2 hr.1.1 (by omega) (by omega) (by have:=hr.1.2;omega) (by omega)
 unfold g_spec_l13List
 refine .bind (below_ok h (by decide)) λ y hy => ?_
 rw[wI64 (x:=1+y.1) (by omega) (by omega)]
 refine .bind (Q:=λ r=>(IL r.1/\r.1.length<=120)/\Cok r.2) (.bind (key0 (1+y.1) (by omega) bigK [] 0 y.2 hy.2.2 .nil (by decide) (by decide) (by decide) (by decide)) λ r hr=>.some hr) λ r hr => ?_
 have hrl:=hr.1.2
 simp only[g_spec_l13G,g_spec_l13N,g_spec_l13Y,Option.bind_some]
 refine .bind (Q:=λ q=>(IL q.1/\q.1.length<=125)/\Cok q.2) (.bind (below_ok hr.2 (by decide)) λ a ha => ?_) λ q hq => ?_
 ·refine .cond (λ _ => ?_) λ _=>.cond (λ _=>.bindE (app_eq (by simp;omega)) (.some ⟨⟨hr.1.1.app (iok1 (by decide)),by simp;omega⟩,ha.2.2⟩)) λ _=>.cond (λ _=>.bind (any4_ok ha.2.2) λ b hb=>.bindE (app_eq (by simp;omega)) (.some ⟨⟨hr.1.1.app (.cons hb.1 .nil),by simp;omega⟩,hb.2⟩)) λ _ =>
   .cond (λ _=>.bind (below_ok ha.2.2 (by decide)) λ b hb=>.bind prim_ok λ nm hnm=>.bindE (app_eq (by simp;omega)) (.some ⟨⟨hr.1.1.app (iok1 hnm),by simp;omega⟩,hb.2.2⟩)) λ _=>.some ⟨⟨hr.1.1,by show r.1.length<=_;omega⟩,ha.2.2⟩
  exact .bind (below_ok ha.2.2 (by decide)) λ b hb=>.bindE (app_eq (by simp;omega)) (.some ⟨⟨hr.1.1.app (.cons (iok (by decide)) (iok1 (by decide))),by simp;omega⟩,hb.2.2⟩)
 ·have hql:=hq.1.2
  refine .bind (below_ok hq.2 (by decide)) λ a ha=>.bind (pick_ok ha.2.2 (by decide)) λ b hb=>.bindE (app_eq (by simp;omega)) (.bindE (app_eq (by simp;omega)) (.some ⟨⟨(hq.1.1.app (.cons (iok (by decide)) (iok1 ?_))).app (iok1 (by decide)),by simp;omega⟩,hb.2⟩))
  have:∀ y ∈ ([[103,111],[116,101,110],[120],[114,117,110],[110,105,120],[100,117,112]]:List Bs),y.length<=1048576:=by decide
  exact this _ hb.1
theorem some_iok {c:GL01Cur} (h:Cok c):Tot (g_spec_l04Some c) λ r=>Iok r.1/\Cok r.2 :=
 (some_ok h).mono λ r hr=>⟨⟨by have:=hr.1.1;omega,by rw[hr.1.2];decide,by rw[hr.1.2];decide⟩,hr.2⟩
theorem list20_ok {c:GL01Cur} (h:Cok c):Tot (g_spec_l04List 20 c) λ r=>(IL r.1/\r.1.length<=20)/\Cok r.2:=by
 unfold g_spec_l04List
 refine .bind (below_ok h (by decide)) λ y hy => ?_
 obtain ⟨y0,y1,yc⟩:=hy
 have key:∀ (k:Nat) (out:List GItem) (i:Int) (c:GL01Cur),Cok c->0<=i->i<=20->(out.length:Int)<=i->IL out->20-i < k->Tot (g_spec_l04List_l0 y.1 k out i c) λ r=>(IL r.1/\r.1.length<=20)/\Cok r.2:=by
  intro k
  induction k with
  | zero=>intro out i c h0 h1 h2 h3 h4 h5;omega
  | succ k ih =>
   intro out i c h0 h1 h2 h3 h4 h5
   rw[g_spec_l04List_l0]
   refine .condD (λ hi => ?_) λ _=>.some ⟨⟨h4,by show out.length<=20;omega⟩,h0⟩
   refine .bind (Q:=λ r=>(IL r.1/\(r.1.length:Int)<=i+1)/\Cok r.2) ?_ λ r hr => ?_
   ·refine .bind (some_iok h0) λ a ha=>.bind (Q:=λ r=>Iok r.2/\Cok r.1) (.bind (once_ok ha.2 (by decide)) λ b hb=>.cond (λ _=>.bind (any4_ok hb) λ d hd=>.some hd) λ _=>.some ⟨ha.1,hb⟩) λ b hb => ?_
    exact .bindE (app_eq (by rw[List.length_singleton];omega)) (.some ⟨⟨h4.app (.cons hb.1 .nil),by show ((out++[b.2]).length:Int)<=_;rw[List.length_append,List.length_singleton];omega⟩,hb.2⟩)
   ·rw[wI64 (x:=i+1) (by omega) (by omega)]
    exact ih _ _ _ hr.2 (by omega) (by omega) hr.1.2 hr.1.1 (by omega)
 refine .bind (Q:=λ r=>(IL r.1/\r.1.length<=20)/\Cok r.2) (.bind (key bigK _ _ _ yc (by decide) (by decide) (by decide) .nil (by decide)) λ d hd=>.some hd) λ d hd=>.some hd
theorem twin_ok {l:List GItem} {c:GL01Cur} (h:Cok c) (hl:l.length<=1000) (hi:IL l):Tot (g_spec_l22Twin l c) λ r=>(IL r.1/\r.1.length<=2001)/\Cok r.2:=by
 unfold g_spec_l22Twin
 have key:∀ (k n:Nat) (out:List GItem) (c:GL01Cur),Cok c->n<=l.length->out.length<=2*n->IL out->l.length-n < k->Tot (g_spec_l22Twin_l0 l k out (n:Int) c) λ r=>(IL r.1/\r.1.length<=2000)/\Cok r.2:=by
  intro k
  induction k with
  | zero=>intro n out c h0 h1 h2 h3 h4;omega
  | succ k ih =>
   intro n out c h0 h1 h2 h3 h4
   rw[g_spec_l22Twin_l0]
   refine .condD (λ hn => ?_) λ _=>.some ⟨⟨h3,by show out.length<=2000;omega⟩,h0⟩
   have hn':n < l.length:=by omega
   have hx:getI l (n:Int)=some l[n]:=by rw[getI_nat,List.getElem?_eq_getElem hn']
   have hxi:Iok l[n]:=hi _ (List.getElem_mem hn')
   refine .bind (Q:=λ r=>(IL r.1/\r.1.length<=2*(n+1))/\Cok r.2) ?_ λ r hr => ?_
   ·refine .bind (below_ok h0 (by decide)) λ a ha=>.cond (λ _=>.some ⟨⟨h3,by show out.length<=_;omega⟩,ha.2.2⟩) λ _=>.cond (λ _=>.bind (some_iok ha.2.2) λ b hb=>.bindE hx (.bindE (app_eq (by simp;omega)) (.some ⟨⟨h3.app (.cons hb.1 (.cons hxi .nil)),by simp;omega⟩,hb.2⟩))) λ _=>.bindE hx (.bindE (app_eq (by simp;omega)) (.some ⟨⟨h3.app (.cons hxi .nil),by simp;omega⟩,ha.2.2⟩))
   ·rw[nxt (by omega)]
    exact ih _ _ _ hr.2 hn' hr.1.2 hr.1.1 (by omega)
 refine .bind (Q:=λ r=>(IL r.1/\r.1.length<=2000)/\Cok r.2) (.bind (key bigK 0 [] c h (Nat.zero_le _) (Nat.zero_le _) .nil (by unfold bigK;omega)) λ r hr=>.some hr) λ r hr => ?_
 have hrl:=hr.1.2
 exact .bind (some_iok hr.2) λ b hb=>.bindE (app_eq (by simp;omega)) (.some ⟨⟨hr.1.1.app (.cons hb.1 .nil),by simp;omega⟩,hb.2⟩)
theorem draw_plan {code:List Int} (hc:code.length<=1048576):Tot (g_spec_DrawPlan code) λ r=>U32 r.1/\U32 r.2:=by
 unfold g_spec_DrawPlan
 refine .bind (new_ok hc) λ c h=>.bind (Q:=λ r=>U32 r.1/\U32 r.2.1) ?_ λ r hr=>.some hr
 unfold g_spec_l22Pair
 refine .bind (l13List_ok h) λ l hl=>.bind (Q:=λ r=>(IL r.1/\r.1.length<=1000)/\Cok r.2) (.bind (once_ok hl.2 (by decide)) λ o ho=>.cond (λ _=>.bind (list20_ok ho) λ m hm=>.some ⟨⟨hm.1.1,by have:=hm.1.2;show m.1.length<=1000;omega⟩,hm.2⟩) λ _=>.some ⟨hl.1,ho⟩) λ m hm => ?_
 refine .bind (specUnparse_ok hm.1.1 (by have:=hm.1.2;omega)) λ ua hua=>.bind (twin_ok hm.2 hm.1.2 hm.1.1) λ t ht=>.bind (specUnparse_ok ht.1.1 (by have:=ht.1.2;omega)) λ ub hub => ?_
 refine .bind (Q:=λ r=>U32 r.1/\Cok r.2) ?_ λ r hr=>.some ⟨hua.1,hr.1⟩
 refine .bind (Q:=λ r=>Cok r.2) (.cond (λ _=>.some ht.2) λ _=>.bind (once_ok ht.2 (by decide)) λ o ho=>.some ho) λ v hv=>.cond (λ _=>.bind (cells_ok hv) λ cs hcs=>.some ⟨hcs.1.1,hcs.2⟩) λ _=>.some ⟨hub.1,hv⟩
theorem law_fnPlan (code:List Int):g_laws_FnPlan code=some true:=by
 unfold g_laws_FnPlan g_laws_big
 rw[Option.bind_some]
 by_cases hc:code.length<=1048576
 ·rw[decide_eq_false (by omega),cond_false]
  obtain ⟨r,hr,hu⟩:=draw_plan hc
  rw[hr,Option.bind_some]
  exact law_core hu.1 hu.2
 ·rw[decide_eq_true (by omega),cond_true]
end Go.Proofs.YtgfamepnkhpemaaGreatDoor

namespace Go.Proofs.YtgfamepnkhpemaaGreatDoor
open Go Go.Fm
set_option maxRecDepth 100000
theorem ans_FnPlan (x0:List Int) (g0:(λ xs:List Int=>xs.length<=maxLen/\∀ x ∈ xs,(λ n:Int=>(Lit.int .u8 n).wf=true) x) x0) :
  Ans Tryz.prog 5 [.one (.imm 1 x0.length (x0.flatMap (eI .u8)))] [] λ v _=>v=Go.Fm.one (.bool true):=λ hm=>by
 obtain ⟨r,h1,a,b,c,_⟩:=ce_laws_FnPlan (x0) true (good_pure rfl rfl) (law_fnPlan x0) hm
 exact ⟨r,h1,a,b⟩
end Go.Proofs.YtgfamepnkhpemaaGreatDoor
