import Derived.Test.YtnhefmibcnbehaaDoorMH
set_option linter.all false
namespace Go.Fm
variable [Globs] [Structs] [Tabs]
omit [Structs] [Tabs] in
theorem ext_cloneW {P:Unit->Program} {T:TypeId->TyI} (hT:T=tiOf (P ())) {f:FuncId} {fn:Func} {k n:Nat} {cs:List CV} {q:PV} {H1:List HS} {t t0 t1 t2 t3 yt e:TypeId} {i0 i1 i2:Nat} {p0 p1 p2 p3:String} {e0 e1 e2 e3:Array Edge} {R3:Code}
  (hf:(P ()).funcs[f]? = some fn)
  (hb:fn.body=some (.seq (.region i0 #[⟨some 2, .assign (.const (.slice none 0 0)),t0,p0,e0,none⟩] false) (.seq (.seq (.region i1 #[⟨some 3, .move (.tmp 0),t1,p1,e1,none⟩,⟨some 4, .binOp .eql t (.tmp 3) (.const (.slice none 0 0)) yt,t2,p2,e2,none⟩] false)
   (.cond (.tmp 4) (.seq (.region i2 #[⟨some 2, .assign (.const (.slice none 0 0)),t3,p3,e3,none⟩] false) .ret) .skip)) R3)))
  (hr:fn.results.toList=[.tmp 2]) (hc:(fn.name == "runtime.NumGoroutine")=false/\Nat.blt 4 fn.ntmps=true/\okC fn.ntmps R3=true) (ht:(T t).kind=.slice e)
  (hn:n=0->Weak 0 ⟨[(2,one .emp)],[]⟩ ⟨[(2, .pv q)],H1⟩)
  (h3:W (P ()) fn.ntmps 0 R3 ⟨[(0,one (.imm k n cs))],[]⟩ λ e s'=>e=.ret/\Weak 0 s' ⟨[(2, .pv q)],H1⟩) :
  Ans (P ()) f [.one (.imm k n cs)] [] λ v h1=>v=.pv q/\h1=H1:=by
 have hnt:4 < fn.ntmps:=by simpa [Nat.blt_eq] using hc.2.1
 refine ans_ofW hT hf hb hc.1 (by simp;omega) (by omega) (λ s hs=>by cases hs) (Weak.refl _ _) ?_
 intro hm
 refine ⟨.ret,⟨[(2, .pv q)],H1⟩,?_,trivial,?_⟩
 rotate_left
 ·rw[hr]
  exact endT_of (Weak.refl _ _) ⟨rfl,rfl⟩
 -- the ways
 have w0:=W.runs (s0:=⟨[(2,one .emp),(0,one (.imm k n cs))],[]⟩) hm (W.regionN hT (nt:=fn.ntmps) (k0:=0) (s:=⟨[(0,one (.imm k n cs))],[]⟩) (id:=i0) (ops := #[⟨some 2, .assign (.const (.slice none 0 0)),t0,p0,e0,none⟩])
  (Q:=λ e s'=>e=.normal/\Weak 0 s' ⟨[(2,one .emp),(0,one (.imm k n cs))],[]⟩) (by simp[okOps,Nat.blt_eq];omega) ⟨rfl,Weak.refl _ _⟩)
 have w1:Runs (P ()) fn.ntmps 0 (.region i1 #[⟨some 3, .move (.tmp 0),t1,p1,e1,none⟩,⟨some 4, .binOp .eql t (.tmp 3) (.const (.slice none 0 0)) yt,t2,p2,e2,none⟩] false) ⟨[(2,one .emp),(0,one (.imm k n cs))],[]⟩ .normal
   ⟨[(4,one (.anyb n)),(3,one (.imm k n cs)),(2,one .emp),(0,one (.imm k n cs))],[]⟩:=λ C hP hnn hk a w R=>by
  refine wp_region ?_
  have hu:(P ()).underlying t=some (.slice e):=kindF_slice (by rw[hT]at ht;exact ht)
  have hs:Seq (P ()) fn.ntmps [⟨some 3, .move (.tmp 0),t1,p1,e1,none⟩,⟨some 4, .binOp .eql t (.tmp 3) (.const (.slice none 0 0)) yt,t2,p2,e2,none⟩] [⟨some 3, .move (.tmp 0),t1,p1,e1,none⟩,⟨some 4, .binOp .eql t (.tmp 3) (.const (.slice none 0 0)) yt,t2,p2,e2,none⟩]
    ⟨[(2,one .emp),(0,one (.imm k n cs))],[]⟩ _ ⟨[(4,one (.anyb n)),(3,one (.imm k n cs)),(2,one .emp),(0,one (.imm k n cs))],[]⟩ :=
   .cons _ _ _ _ ⟨[],one (.imm k n cs),[]⟩ true _ (show (3:Nat) < fn.ntmps by omega) rfl (.inl ⟨rfl,(ok_move (x:=.tmp 0) (.inl rfl)).x⟩)
    (.cons _ _ _ _ ⟨[],one (.anyb n),[]⟩ true _ (show (4:Nat) < fn.ntmps by omega) rfl (.inl ⟨rfl,(ok_nil rfl rfl hu).x⟩) (.nil _))
  have:=Seq.text (ops := #[⟨some 3, .move (.tmp 0),t1,p1,e1,none⟩,⟨some 4, .binOp .eql t (.tmp 3) (.const (.slice none 0 0)) yt,t2,p2,e2,none⟩]) hs 0 rfl C hP hnn a w R (λ e' a' w'=>e'=.normal/\RelX C (S.st ⟨[(4,one (.anyb n)),(3,one (.imm k n cs)),(2,one .emp),(0,one (.imm k n cs))],[]⟩) a' w') (λ a' w' R'=>⟨rfl,R'⟩)
  rw[List.range_eq_range']
  simpa [Ex.of] using this
 have w2:n=0->Runs (P ()) fn.ntmps 0 (.seq (.region i2 #[⟨some 2, .assign (.const (.slice none 0 0)),t3,p3,e3,none⟩] false) .ret) ⟨[(4,one (.anyb n)),(3,one (.imm k n cs)),(2,one .emp),(0,one (.imm k n cs))],[]⟩ .ret ⟨[(2, .pv q)],H1⟩:=λ h0=>by
  refine W.runs hm (W.seq (W.regionN hT (nt:=fn.ntmps) (k0:=0) (s:=⟨[(4,one (.anyb n)),(3,one (.imm k n cs)),(2,one .emp),(0,one (.imm k n cs))],[]⟩) (id:=i2) (ops := #[⟨some 2, .assign (.const (.slice none 0 0)),t3,p3,e3,none⟩]) (by simp[okOps,Nat.blt_eq];omega) ?_))
  show W (P ()) fn.ntmps 0 .ret ⟨[(2,one .emp),(4,one (.anyb n)),(3,one (.imm k n cs)),(2,one .emp),(0,one (.imm k n cs))],[]⟩ _
  refine W.ret ⟨rfl,?_⟩
  refine (weak_norm (ks:=[2]) (π:=[]) (fuel:=9) (s':=⟨[(2,one .emp)],[]⟩) rfl).trans (hn h0)
 have w3:=W.runs (s0:=⟨[(2, .pv q)],H1⟩) hm (W.weak (k0:=0) (s:=⟨[(4,one (.anyb n)),(3,one (.imm k n cs)),(2,one .emp),(0,one (.imm k n cs))],[]⟩) (weak_norm (ks:=[0]) (π:=[]) (fuel:=9) (s':=⟨[(0,one (.imm k n cs))],[]⟩) rfl) (h3))
 intro C hP hnn hk a w R
 refine wp_seq (wp_mono (w0 C hP hnn hk a w R) λ e1 a1 r1 ⟨he,R1⟩ => ?_)
 subst he
 show (Code.seq (.seq _ _) R3).wp _ _ a1 r1
 refine wp_seq (wp_seq (wp_mono (w1 C hP hnn hk a1 r1 R1) λ e2 a2 r2 ⟨he,R2⟩ => ?_))
 subst he
 show (Code.cond (.tmp 4) _ .skip).wp _ _ a2 r2
 obtain ⟨b,hb,hv⟩:=relX_any (d:=4) (n:=n) rfl R2
 refine wp_cond (t:=b) hv ?_
 cases b with
 | true =>
  rw[if_pos rfl]
  refine wp_mono (w2 (hb rfl) C hP hnn hk a2 r2 R2) λ e3 a3 r3 ⟨he,R3⟩ => ?_
  subst he
  exact ⟨rfl,R3⟩
 | false =>
  rw[if_neg (by decide)]
  refine wp_skip ?_
  show R3.wp _ _ a2 r2
  exact w3 C hP hnn hk a2 r2 R2
theorem con_nil {P:Program}:∀ c ∈ ([]:List Con),ConOk P c:=λ c h=>by simp at h
theorem con_cons {P:Program} {c:Con} {l:List Con} (h:ConOk P c) (hl:∀ c ∈ l,ConOk P c):∀ d ∈ c::l,ConOk P d:=λ d hd=>by
 rcases List.mem_cons.1 hd with rfl|hd
 ·exact h
 ·exact hl d hd
def cloneK (τ:Ty) (own:List (Nat×Nat)) (H:List BSh) (e:Ex) (s:TS):Option (List Dat) :=
 match e with
 | .ret=>(Shp.mk [(2, .s (.list τ) own)] H).see ⟨[],[],0,[]⟩ s
 | _=>none
theorem slot_good {v:TV} {h:List TB} (hG:Good ⟨[],[],0,[]⟩ ⟨[(2,v)],h⟩):Good ⟨[],[],0,[]⟩ ⟨[(0,v)],h⟩ :=
 ⟨hG.k0,hG.fb,λ t=>by
  show goodV _ (match Nat.beq 0 t with|true=>v|false=>tone .dead)
  cases Nat.beq 0 t with
  | true=>exact hG.env 2
  | false=>trivial,hG.heap,hG.n0,hG.n1⟩
theorem app_nil {α:Type} {a r:List α} (h:app [] a=some r):r=a:=by
 unfold app at h
 split at h
 ·cases h;rfl
 ·cases h
section
variable {P:Unit->Program} {T:TypeId->TyI} {f:FuncId} {fn:Func} {τ:Ty} {t t0 t1 t2 t3 yt e:TypeId} {i0 i1 i2:Nat} {p0 p1 p2 p3:String} {e0 e1 e2 e3:Array Edge} {R3:Code} {frz:Bool}
theorem clone_own (hT:T=tiOf (P ()))
  (hf:(P ()).funcs[f]? = some fn)
  (hb:fn.body=some (.seq (.region i0 #[⟨some 2, .assign (.const (.slice none 0 0)),t0,p0,e0,none⟩] false) (.seq (.seq (.region i1 #[⟨some 3, .move (.tmp 0),t1,p1,e1,none⟩,⟨some 4, .binOp .eql t (.tmp 3) (.const (.slice none 0 0)) yt,t2,p2,e2,none⟩] false)
   (.cond (.tmp 4) (.seq (.region i2 #[⟨some 2, .assign (.const (.slice none 0 0)),t3,p3,e3,none⟩] false) .ret) .skip)) R3)))
  (hr:fn.results.toList=[.tmp 2]) (hc:(fn.name == "runtime.NumGoroutine")=false/\Nat.blt 4 fn.ntmps=true/\okC fn.ntmps R3=true) (ht:(T t).kind=.slice e)
  (hrun:∀ a:List τ.den,run T [] ⟨[],[],0,[]⟩ .z R3 ⟨[(0,tone (.imm τ a))],[]⟩ (cloneK τ [(0,0)] [.o])=(app ([]:List τ.den) a).bind λ r=>some [⟨.list τ,r⟩]) :
  ConOk (P ()) ⟨f,⟨[(0, .s (.list τ) [])],[]⟩,⟨[(0, .s (.list τ) [(0,0)])],[.o]⟩,frz,[],λ s=>app ([]:List τ.den) s⟩:=by
 intro a r hG hg hm
 have hr2:run T [] ⟨[],[],0,[]⟩ .z R3 ⟨[(0,tone (.imm τ a))],[]⟩ (cloneK τ [(0,0)] [.o])=some [⟨.list τ,r⟩]:=(hrun a).trans (by rw[show app ([]:List τ.den) a=some r from hg];rfl)
 obtain rfl:=app_nil (show app ([]:List τ.den) a=some r from hg)
 have hW:=run_ok (sound_of (P:=P) (Γ:=[]) hT hm con_nil) (nt:=fn.ntmps) R3 hc.2.2 (F:=⟨[],[],0,[]⟩) ⟨λ _=>.inr rfl,λ _=>rfl,λ _ h=>by cases h⟩ (s:=⟨[(0,tone (.imm τ r))],[]⟩) hG (anOk_z _) hr2
 have key:∀ e s',Good ⟨[],[],0,[]⟩ s'->cloneK τ [(0,0)] [.o] e s'=some [⟨.list τ,r⟩]->e=.ret/\Good ⟨[],[],0,[]⟩ ⟨[(2,tone (.arr 0 r.length))],[.rows τ r.length r]⟩/\Weak 0 (s'.conc ⟨[],[],0,[]⟩) ⟨[(2, .pv (.one (.arr 0 0 r.length)))],[.live ⟨τ.size,r.length,r.flatMap τ.enc⟩]⟩:=λ e s' hg' hK=>by
  cases e with
  | normal=>cases hK
  | exit i=>cases hK
  | ret =>
   obtain ⟨w1,w2⟩:=see_ok (F:=⟨[],[],0,[]⟩) ⟨λ _=>.inr rfl,λ _=>rfl,λ _ h=>by cases h⟩ hg' hK
   exact ⟨rfl,w1,w2⟩
 have hgood:Good ⟨[],[],0,[]⟩ ⟨[(2,tone (.arr 0 r.length))],[.rows τ r.length r]⟩:=by
  obtain ⟨e,σ,_,s',_,hg',hK⟩:=hW hm
  exact (key e s' hg' hK).2.1
 refine (ext_cloneW hT hf hb hr hc ht (q:=.one (.arr 0 0 r.length)) (H1:=[.live ⟨τ.size,r.length,r.flatMap τ.enc⟩]) ?_ (hW.mono ?_)).mono (λ v h ⟨e1,e2⟩=>⟨e1,e2,slot_good hgood⟩) hm
 ·intro h0
  have:r=[]:=List.eq_nil_of_length_eq_zero h0
  subst this
  refine weak_le ?_ ?_
  ·simp only[LEb]
  ·simp only[LEb]
 ·rintro e σ ⟨s',rfl,hg',hK⟩
  obtain ⟨g1,_,g2⟩:=key e s' hg' hK
  exact ⟨g1,g2⟩
end
theorem index_ok {P:Program} {f:FuncId} {fn:Func} (hf:P.funcs[f]? = some fn) (hname:(fn.name == "runtime.NumGoroutine")=false)
  (hb:fn.body.isNone=true) (hn:Extern.findNext fn=none) (he:Extern.find fn=some Extern.BytealgIndexByte.indexByte) :
  ConOk P ⟨f,⟨[(0, .s .str []),(1, .s (.int .u8) [])],[]⟩,⟨[(0, .s (.int .i64) [])],[]⟩,false,[],λ a=>gIdxB a.1 a.2⟩:=by
 rintro ⟨l,c⟩ r hG hg
 refine (ext_indexByte hf hname hb hn he (show gIdxB l c=some r from hg)).mono λ v h ⟨e1,e2⟩=>⟨e1,e2,⟨Nat.le_refl _,λ i hi=>(by cases hi),λ t => ?_,λ j => ?_,λ j t n xs hj=>absurd hj (Nat.not_lt_zero _),λ j t n xs o hj=>absurd hj (Nat.not_lt_zero _)⟩⟩
 ·show goodV _ (match Nat.beq 0 t with|true=>tone (.int .i64 r)|false=>tone .dead)
  cases Nat.beq 0 t<;>trivial
 ·have:blkL [] 0 [] j=.no:=blkL_nil
  show goodB _ (blkL [] 0 [] j)
  rw[this];trivial
def pureE:TE->Bool
 | []=>true
 | p::r=>(match p.2 with | .pv (.one c)=>c.pure | .pv (.agg cs)=>cs.all TC.pure | .tup _=>false)&&pureE r
theorem goodC_pur {h:Nat->TB} {c:TC} (hc:c.pure=true):goodC h c:=by
 cases c<;>first|trivial|exact absurd hc Bool.false_ne_true
theorem good_pure {s:TS} (h:pureE s.env=true) (hh:s.heap=[]):Good ⟨[],[],0,[]⟩ s:=by
 refine ⟨Nat.zero_le _,λ i hi=>(by cases hi),λ t => ?_,λ j => ?_,λ j t n xs hj=>absurd hj (Nat.not_lt_zero _),λ j t n xs o hj=>absurd hj (Nat.not_lt_zero _)⟩
 ·show goodV _ (lkE (s.env++[]) t)
  rw[List.append_nil]
  generalize s.env=e at h
  generalize s.blk ⟨[],[],0,[]⟩=b
  induction e with
  | nil=>trivial
  | cons p r ih =>
   simp only[pureE,Bool.and_eq_true]at h
   show goodV _ (match Nat.beq p.1 t with|true=>p.2|false=>lkE r t)
   cases Nat.beq p.1 t with
   | false=>exact ih h.2
   | true =>
    have h1:=h.1
    show goodV _ p.2
    cases hp:p.2 with
    | tup l=>rw[hp]at h1;exact absurd h1 Bool.false_ne_true
    | pv q =>
     rw[hp]at h1
     cases q with
     | one c=>exact goodC_pur h1
     | agg cs=>exact λ c hc=>goodC_pur (List.all_eq_true.1 h1 c hc)
 ·show goodB _ (blkL [] 0 s.heap j)
  rw[hh,blkL_nil];trivial
end Go.Fm
