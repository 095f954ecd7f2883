import Derived.Test.YtnhefmibcnbehaaDoorMG
set_option linter.all false
namespace Go.Fm
variable [Globs] [Structs] [Tabs]
theorem weak0 {k0:Nat} {s s':S} (he:∀ t,leS0 (Fm.lk s.env t) (Fm.lk s'.env t)\/Fm.lk s'.env t=one .dead) (hh:∀ id,leB0 (hOf s.heap id) (hOf s'.heap id)):Weak k0 s s' :=
 λ C a w hk hr=>relX_le (φ:=s.st) (φ':=s'.st) he hh hr
theorem weak_st {k0:Nat} {s s':S} (he:∀ t,Fm.lk s'.env t=Fm.lk s.env t) (hh:∀ id,hOf s'.heap id=hOf s.heap id):Weak k0 s s' :=
 weak0 (λ t=>.inl (by rw[he];exact leS0_refl _)) (λ id=>.inl (.inl (hh id)))
def CellOk (h:Nat->TB) (π:List Nat):TC->Prop
 | .arr j n=>∃ (id:Nat) (t:Ty) (n':Nat) (xs:List t.den),π[j]? = some id/\ListB (h id) t n' xs/\n=xs.length
 | .ptr j _=>∃ id,π[j]? = some id/\h id≠.no
 | .fn _ l=>∀ p ∈ l,∃ id,π[p.1]? = some id/\h id≠.no
 | .win .. | .winx .. | .row .. | .rowx .. | .ip .. | .tab ..=>False
 | _=>True
section
variable {h:Nat->TB} {π:List Nat} {f:Nat}
theorem capsEq_ok (hn:nodB π=true):∀ {l l':List (Nat×Nat)},(∀ p ∈ l,h p.1≠.no)->capsEq π l l'=true->capsIx π (l.map λ p=>CV.ptr p.1 p.2)=some (l'.map λ p=>CV.ptr p.1 p.2)/\∀ p ∈ l',∃ id,π[p.1]? = some id/\h id≠.no
 | [],[],_,_=>⟨rfl,λ p hp=>by simp at hp⟩
 | p::r,q::s,hg,he=>by
  simp only[capsEq,Bool.and_eq_true]at he
  obtain ⟨⟨h1,h2⟩,h3⟩:=he
  split at h1
  ·rename_i id hid
   obtain rfl:=Nat.eq_of_beq_eq_true h1
   obtain ⟨f1,f2⟩:=capsEq_ok hn (λ x hx=>hg x (List.mem_cons_of_mem _ hx)) h3
   refine ⟨?_,λ x hx => ?_⟩
   ·show (match ixOf π p.1 with|some j=>(capsIx π (r.map λ (p:Nat×Nat)=>CV.ptr p.1 p.2)).map (CV.ptr j p.2::·)|none=>none)=_
    rw[ix_some hn hid,f1,Nat.eq_of_beq_eq_true h2]
    rfl
   ·rcases List.mem_cons.1 hx with rfl|hx
    ·exact ⟨p.1,hid,hg p (by simp)⟩
    ·exact f2 x hx
  ·cases h1
 | [],_::_,_,he=>by cases he
 | _::_,[],_,he=>by cases he
theorem lendC_fn' {H:Nat->HS} {q:FuncId} {caps:List CV}:lendC H π f (.fn q caps)=(capsIx π caps).map λ cs=>([], .fn q cs):=by cases f<;>rfl
theorem sameC_ok (hn:nodB π=true) {c d:TC} (hc:goodC h c) (he:sameC π c d=true):lendC (hC h) π (f+1) c.conc=some ([],d.conc)/\CellOk h π d:=by
 unfold sameC at he
 split at he<;>try exact ⟨lendC_flat rfl,trivial⟩
 ·rename_i id o j o'
  simp only[Bool.and_eq_true]at he
  obtain ⟨h1,h2⟩:=he
  split at h1
  ·rename_i id' hid
   obtain rfl:=Nat.eq_of_beq_eq_true h1
   obtain rfl:=Nat.eq_of_beq_eq_true h2
   refine ⟨?_,id,hid,hc⟩
   show lendC (hC h) π (f+1) (.ptr id o)=_
   rw[lendC_ptr,ix_some hn hid]
   rfl
  ·cases h1
 ·rename_i q l q' l'
  simp only[Bool.and_eq_true]at he
  obtain rfl:=Nat.eq_of_beq_eq_true he.1
  obtain ⟨f1,f2⟩:=capsEq_ok (h:=h) hn hc he.2
  refine ⟨?_,f2⟩
  show lendC (hC h) π (f+1) (.fn q _)=_
  rw[lendC_fn',f1]
  rfl
 ·rename_i n m
  obtain rfl:=Nat.eq_of_beq_eq_true he
  exact ⟨lendC_flat (errC_flat _),trivial⟩
 ·rename_i k n k' m
  simp only[Bool.and_eq_true]at he
  obtain ⟨h1,h2⟩:=he
  split at h1
  ·rename_i e
   obtain rfl:=e
   obtain rfl:=Nat.eq_of_beq_eq_true h2
   exact ⟨lendC_flat rfl,trivial⟩
  ·cases h1
 ·cases he
theorem sameCs_ok (hn:nodB π=true):∀ {cs ds:List TC},(∀ c ∈ cs,goodC h c)->sameCs π cs ds=true->lendAll (lendC (hC h) π (f+1)) (cs.map TC.conc)=some ([],ds.map TC.conc)/\∀ d ∈ ds,CellOk h π d
 | [],[],_,_=>⟨rfl,λ d hd=>by simp at hd⟩
 | c::r,d::s,hc,he=>by
  simp only[sameCs,Bool.and_eq_true]at he
  obtain ⟨a1,a2⟩:=sameC_ok (f:=f) hn (hc c (by simp)) he.1
  obtain ⟨b1,b2⟩:=sameCs_ok hn (λ x hx=>hc x (List.mem_cons_of_mem _ hx)) he.2
  refine ⟨by simp only[List.map_cons,lendAll,a1,b1,List.append_nil],λ x hx => ?_⟩
  rcases List.mem_cons.1 hx with rfl|hx
  ·exact a2
  ·exact b2 x hx
 | [],_::_,_,he=>by cases he
 | _::_,[],_,he=>by cases he
theorem cellOk_of {c:TC} (hc:c.pure=true\/c=.emp\/∃ (j id:Nat) (t:Ty) (n:Nat) (xs:List t.den),c=.arr j xs.length/\π[j]? = some id/\ListB (h id) t n xs):CellOk h π c:=by
 rcases hc with hc|rfl|⟨j,id,t,n,xs,rfl,h1,h2⟩
 ·cases c<;>first|exact (Bool.false_ne_true hc).elim|trivial
 ·trivial
 ·exact ⟨id,t,n,xs,h1,h2,rfl⟩
def bldP:VSh->List Dat->TP
 | .s _ own,d::_=>(match isSt d.t with|true=>.agg (ownSet own 0 (leaves d.t d.v))|false=>.one ((ownSet own 0 (leaves d.t d.v)).headD .dead))
 | .s _ _,[]=>.one .dead
 | .c p,_=>p
def bldPO:VSh->List Dat->List (Nat×TB)
 | .s _ own,d::_=>ownBlk own 0 (leaves d.t d.v)
 | _,_=>[]
def cellsP:TP->List TC
 | .one c=>[c]
 | .agg cs=>cs
theorem decP_ok (hH:GoodH h) (hn:nodB π=true) {sh:VSh} {p:TP} {ds:List Dat} (hc:goodP h p) (he:decP h π sh p=some ds) :
  ∃ rd q,lendP (hC h) π (f+2) p.conc=some (rd,q)/\leP0 q (bldP sh ds).conc/\(∀ x ∈ rd,x ∈ lentP h π p)/\(∀ c ∈ cellsP (bldP sh ds),CellOk h π c)/\OwnsP h π (bldPO sh ds)/\ds.map (·.t)=sh.tys:=by
 have one:∀ {t:Ty} {own:List (Nat×Nat)} {cs:List TC} {d:Dat},(∀ c ∈ cs,goodC h c)->decCs h π t own cs=some d->d.t=t ∧
   ∃ rd e,lendAll (lendC (hC h) π (f+2)) (cs.map TC.conc)=some (rd,e)/\leL0 e ((ownSet own 0 (leaves d.t d.v)).map TC.conc)/\(∀ x ∈ rd,∃ c ∈ cs,x ∈ lentC h π c) ∧
   (∀ c ∈ ownSet own 0 (leaves d.t d.v),CellOk h π c)/\OwnsP h π (ownBlk own 0 (leaves d.t d.v)):=λ {t own cs d} hg hd=>by
  unfold decCs at hd
  split at hd
  ·rename_i l hl
   split at hd
   ·rename_i v hv
    cases hd
    obtain ⟨rd,e,a1,a2,a3,a4,a5⟩:=leafs_ok (f:=f) hH hn hg hl (mkT_made hv)
    exact ⟨rfl,rd,e,a1,a2,a3,λ c hc=>cellOk_of (a4 c hc),a5⟩
   ·cases hd
  ·cases hd
 unfold decP at he
 split at he
 ·rename_i t own c
  split at he
  ·rename_i d h1 h2
   cases he
   obtain ⟨e0,rd,e,a1,a2,a3,a4,a5⟩:=one (cs:=[c]) (λ x hx=>by rw[List.mem_singleton.1 hx];exact hc) h2
   have hs:isSt d.t=false:=by rw[e0];exact h1
   have hl:lendC (hC h) π (f+2) c.conc=some (rd,e.headD .dead)/\e.length=1:=by
    simp only[List.map_cons,List.map_nil,lendAll]at a1
    split at a1
    ·cases a1
    ·rename_i x y hxy
     cases a1
     rw[hxy,List.append_nil]
     exact ⟨rfl,rfl⟩
   have hlen:=leL0_len a2
   rw[hl.2]at hlen
   refine ⟨rd, .one (e.headD .dead),?_,?_,λ x hx => ?_,?_,a5,by simp[e0,VSh.tys]⟩
   ·show (lendC (hC h) π (f+2) c.conc).map _=_
    rw[hl.1];rfl
   ·show leP0 _ (bldP (.s t own) [d]).conc
    simp only[bldP,hs]
    match e,hl.2,ownSet own 0 (leaves d.t d.v),hlen,a2 with
    | [x],_,[y],_,a2=>exact a2.1
   ·obtain ⟨y,hy,hxy⟩:=a3 x hx
    rw[List.mem_singleton.1 hy]at hxy
    exact hxy
   ·simp only[bldP,hs,cellsP]
    intro y hy
    match hq:ownSet own 0 (leaves d.t d.v),hlen,a4 with
    | [z],_,a4 =>
     rw[hq]at hy
     rw[List.mem_singleton.1 hy]
     exact a4 z (by simp)
  ·cases he
 ·rename_i t own cs
  split at he
  ·rename_i d h1 h2
   cases he
   obtain ⟨e0,rd,e,a1,a2,a3,a4,a5⟩:=one (cs:=cs) hc h2
   have hs:isSt d.t=true:=by rw[e0];exact h1
   refine ⟨rd, .agg e,?_,?_,λ x hx => ?_,?_,a5,by simp[e0,VSh.tys]⟩
   ·show (lendAll (lendC (hC h) π (f+2)) (cs.map TC.conc)).map _=_
    rw[a1];rfl
   ·show leP0 _ (bldP (.s t own) [d]).conc
    simp only[bldP,hs]
    exact a2
   ·obtain ⟨y,hy,hxy⟩:=a3 x hx
    exact List.mem_flatMap.2 ⟨y,hy,hxy⟩
   ·simp only[bldP,hs,cellsP]
    exact a4
  ·cases he
 ·rename_i d c
  split at he
  ·rename_i hs
   cases he
   obtain ⟨a1,a2⟩:=sameC_ok (f:=f+1) hn hc hs
   refine ⟨[], .one d.conc,?_, .inl rfl,λ x hx=>by simp at hx,λ x hx => ?_,λ x hx=>by simp[bldPO]at hx,rfl⟩
   ·show (lendC (hC h) π (f+2) c.conc).map _=_
    rw[a1];rfl
   ·rw[List.mem_singleton.1 hx];exact a2
  ·cases he
 ·rename_i ds' cs
  split at he
  ·rename_i hs
   cases he
   obtain ⟨a1,a2⟩:=sameCs_ok (f:=f+1) hn hc hs
   refine ⟨[], .agg (ds'.map TC.conc),?_,leL0_refl _,λ x hx=>by simp at hx,a2,λ x hx=>by simp[bldPO]at hx,rfl⟩
   show (lendAll (lendC (hC h) π (f+2)) (cs.map TC.conc)).map _=_
   rw[a1];rfl
  ·cases he
 ·cases he
theorem bldE_cons {p:Nat×VSh} {r:List (Nat×VSh)} {a rest:List Dat} (ha:a.map (·.t)=p.2.tys):bldE (p::r) (a++rest)=(p.1, .pv (bldP p.2 a))::bldE r rest/\bldO (p::r) (a++rest)=bldPO p.2 a++bldO r rest:=by
 obtain ⟨t,sh⟩:=p
 cases sh with
 | s ty own =>
  match a,ha with
  | [d],_ =>
   refine ⟨?_,rfl⟩
   show (t,pvT (isSt d.t) (ownSet own 0 (leaves d.t d.v)))::bldE r rest=_
   congr 2
   show pvT _ _=TV.pv (match isSt d.t with|true=>_|false=>_)
   cases isSt d.t<;>rfl
 | c q =>
  match a,ha with
  | [],_=>exact ⟨rfl,rfl⟩
theorem decE_ok (hH:GoodH h) (hn:nodB π=true) {lk:Nat->TV} (hlk:∀ t,goodV h (lk t)) {E:List (Nat×SV)} (hE:∀ t,Fm.lk E t=(lk t).conc):∀ {env:List (Nat×VSh)} {ds rest:List Dat},decE lk h π env=some ds →
  ∃ e,lendE (hC h) π (f+2) E (env.map (·.1))=some e/\e.map (·.1)=env.map (·.1)/\(∀ t,leS0 (Fm.lk e t) (Fm.lk (envC (bldE env (ds++rest))) t)) ∧
   (∀ p ∈ bldE env (ds++rest),∃ q,p.2=.pv q/\∀ c ∈ cellsP q,CellOk h π c)/\(bldO env (ds++rest)=bldO env ds/\OwnsP h π (bldO env ds))/\ds.map (·.t)=envTys env
 | [],ds,rest,he=>by
  cases he
  exact ⟨[],rfl,rfl,λ t=>leS0_refl _,λ p hp=>by simp[bldE]at hp,⟨rfl,λ p hp=>by simp[bldO]at hp⟩,rfl⟩
 | p::r,ds,rest,he=>by
  unfold decE at he
  split at he
  ·rename_i a b h1 h2
   cases he
   unfold decV at h1
   split at h1
   ·rename_i q hq
    have hg:=hlk p.1
    rw[hq]at hg
    obtain ⟨rd,q',a1,a2,a3,a4,a5,a6⟩:=decP_ok (f:=f) hH hn hg h1
    obtain ⟨e,b1,b2,b3,b4,⟨b5,b6⟩,b7⟩:=decE_ok hH hn hlk hE (rest:=rest) h2
    obtain ⟨c1,c2⟩:=bldE_cons (p:=p) (r:=r) (a:=a) (rest:=b++rest) a6
    rw[<-List.append_assoc]at c1 c2
    have c3:=(bldE_cons (p:=p) (r:=r) (a:=a) (rest:=b) a6).2
    refine ⟨(p.1, .pv q')::e,?_,?_,λ t => ?_,λ x hx => ?_,⟨by rw[c2,c3,b5],λ x hx => ?_⟩,?_⟩
    ·show (match lendS (hC h) π (f+2) (Fm.lk E p.1) with|none=>none|some v=>match lendE (hC h) π (f+2) E (r.map λ (x:Nat×VSh)=>x.1) with|none=>none|some e=>some ((p.1,v)::e))=_
     rw[hE,hq,b1]
     show (match (lendP (hC h) π (f+2) q.conc).map (λ q=>SV.pv q.2) with|none=>none|some v=>_)=_
     rw[a1];rfl
    ·simp only[List.map_cons,b2]
    ·rw[c1]
     show leS0 (if p.1=t then SV.pv q' else Fm.lk e t) (if p.1=t then SV.pv (bldP p.2 a).conc else Fm.lk (envC (bldE r (b++rest))) t)
     split
     ·exact a2
     ·exact b3 t
    ·rw[c1]at hx
     rcases List.mem_cons.1 hx with rfl|hx
     ·exact ⟨_,rfl,a4⟩
     ·exact b4 x hx
    ·rw[c3]at hx
     rcases List.mem_append.1 hx with hx|hx
     ·exact a5 x hx
     ·exact b6 x hx
    ·rw[List.map_append,a6,b7];rfl
   ·cases h1
  ·cases he
end
end Go.Fm
namespace Go.Fm
variable [Globs] [Structs] [Tabs]
def BR (b b':TB):Prop:=b'=.dead\/(∃ (t:Ty) (n:Nat) (xs:List t.den),b=.rows t n xs/\b'=.rows t xs.length xs)\/(∃ cs cs',b=.var cs/\b'=.var cs')\/∃ (t:Ty) (n:Nat) (xs:List t.den),b=.deep t n xs none/\b'=.deep t xs.length xs none
theorem BR.no {b b':TB} (h:BR b b'):b'≠.no:=by
 rcases h with rfl|⟨t,n,xs,_,rfl⟩|⟨cs,cs',_,rfl⟩|⟨t,n,xs,_,rfl⟩<;>nofun
theorem BR.raw {b b':TB} (h:BR b b') {t:Ty} {css:List (List TC)}:b'≠.raw t css:=by
 rcases h with rfl|⟨t,n,xs,_,rfl⟩|⟨cs,cs',_,rfl⟩|⟨t,n,xs,_,rfl⟩<;>nofun
theorem BR.rows {b b':TB} (h:BR b b') {t:Ty} {n:Nat} {xs:List t.den} (e:b'=.rows t n xs):n=xs.length/\∃ n',b=.rows t n' xs:=by
 rcases h with rfl|⟨t,n,xs,h1,rfl⟩|⟨cs,cs',_,rfl⟩|⟨t,n,xs,_,rfl⟩
 ·cases e
 ·cases e;exact ⟨rfl,_,h1⟩
 ·cases e
 ·cases e
theorem BR.deep {b b':TB} (h:BR b b') {t:Ty} {n:Nat} {xs:List t.den} {o:Option (Hol t.den)} (e:b'=.deep t n xs o):n=xs.length/\∃ n',b=.deep t n' xs none:=by
 rcases h with rfl|⟨t,n,xs,h1,rfl⟩|⟨cs,cs',_,rfl⟩|⟨t,n,xs,h1,rfl⟩
 ·cases e
 ·cases e
 ·cases e
 ·cases e;exact ⟨rfl,_,h1⟩
section
variable {h h':Nat->TB} {π:List Nat} {f:Nat}
theorem cellOk_good (hB:∀ j id,π[j]? = some id->BR (h id) (h' j)) {c:TC} (hc:CellOk h π c):goodC h' c:=by
 cases c with
 | arr j n =>
  obtain ⟨id,t,n',xs,e1,e2,e3⟩:=hc
  have hb:=hB j id e1
  refine ⟨hb.no,λ t' n2 ys e => ?_,λ t' css e=>absurd e hb.raw,λ t' n2 ys o e => ?_⟩
  ·obtain ⟨g1,n3,g2⟩:=hb.rows e
   rcases e2 with e2|e2<;>rw[e2]at g2<;>cases g2
   rw[g1,e3]
  ·obtain ⟨g1,n3,g2⟩:=hb.deep e
   rcases e2 with e2|e2<;>rw[e2]at g2<;>cases g2
   rw[g1,e3]
 | ptr j o=>obtain ⟨id,e1,e2⟩:=hc;exact (hB j id e1).no
 | fn q l=>exact λ p hp=>by obtain ⟨id,e1,e2⟩:=hc p hp;exact (hB _ id e1).no
 | win=>exact hc.elim
 | winx=>exact hc.elim
 | row=>exact hc.elim
 | rowx=>exact hc.elim
 | _=>trivial
theorem fixC_good (hH:GoodH h) (hB:∀ j id,π[j]? = some id->BR (h id) (h' j)) {c:TC} (hf:fixC π c=true) (hc:goodC h c):goodC h' c:=by
 have ix:∀ {id:Nat},(match ixOf π id with|some j=>Nat.beq j id|none=>false)=true->π[id]? = some id:=λ {id} e=>by
  split at e
  ·rename_i j hj
   obtain rfl:=Nat.eq_of_beq_eq_true e
   exact ixOf_some hj
  ·cases e
 have rl:∀ {i:Nat} {t:Ty} {n:Nat} {xs:List t.den},h i=.rows t n xs->xs.length=n:=λ {i t n xs} e=>by have:=hH i;rw[e]at this;exact this
 have rd:∀ {i:Nat} {t:Ty} {n:Nat} {xs:List t.den},h i=.deep t n xs none->xs.length=n:=λ {i t n xs} e=>by have:=hH i;rw[e]at this;exact this.1
 cases c with
 | arr id n =>
  have hb:=hB id id (ix hf)
  refine ⟨hb.no,λ t' n2 ys e => ?_,λ t' css e=>absurd e hb.raw,λ t' n2 ys o e => ?_⟩
  ·obtain ⟨g1,n3,g2⟩:=hb.rows e
   rw[g1,rl g2];exact hc.2.1 _ _ _ g2
  ·obtain ⟨g1,n3,g2⟩:=hb.deep e
   rw[g1,rd g2];exact hc.2.2.2 _ _ _ _ g2
 | win id t a b ys =>
  have hb:=hB id id (ix hf)
  refine ⟨hb.no,λ n2 xs e => ?_,λ t' n2 xs e => ?_,λ t' css e=>absurd e hb.raw⟩
  ·obtain ⟨g1,n3,g2⟩:=hb.rows e;exact hc.2.1 _ _ g2
  ·obtain ⟨g1,n3,g2⟩:=hb.rows e;exact hc.2.2.1 _ _ _ g2
 | winx id lo n =>
  have hb:=hB id id (ix hf)
  refine ⟨hb.no,λ t' n2 ys e => ?_,λ t' css e=>absurd e hb.raw⟩
  obtain ⟨g1,n3,g2⟩:=hb.rows e
  rw[g1,rl g2];exact hc.2.1 _ _ _ g2
 | ptr id o=>exact (hB id id (ix hf)).no
 | row=>cases hf
 | rowx=>cases hf
 | fn q l=>exact λ p hp=>(hB p.1 p.1 (ix (List.all_eq_true.1 hf p hp))).no
 | _=>trivial
theorem fixC_lend (hn:nodB π=true) {c:TC} (hf:fixC π c=true):lendC (hC h) π (f+1) c.conc=some ([],c.conc):=by
 cases c<;>try first|exact lendC_flat rfl|exact lendC_flat (errC_flat _)
 case arr id n =>
  have hf:(match ixOf π id with|some j=>Nat.beq j id|none=>false)=true:=hf
  show lendC (hC h) π (f+1) (.arr id 0 n)=_
  rw[lendC_arr]
  cases e:ixOf π id with
  | none=>rw[e]at hf;cases hf
  | some j=>rw[e]at hf;rw[Nat.eq_of_beq_eq_true hf];rfl
 case win id t a b ys =>
  have hf:(match ixOf π id with|some j=>Nat.beq j id|none=>false)=true:=hf
  show lendC (hC h) π (f+1) (.arr id a.toNat ys.length)=_
  rw[lendC_arr]
  cases e:ixOf π id with
  | none=>rw[e]at hf;cases hf
  | some j=>rw[e]at hf;rw[Nat.eq_of_beq_eq_true hf];rfl
 case winx id lo n =>
  have hf:(match ixOf π id with|some j=>Nat.beq j id|none=>false)=true:=hf
  show lendC (hC h) π (f+1) (.arr id lo n)=_
  rw[lendC_arr]
  cases e:ixOf π id with
  | none=>rw[e]at hf;cases hf
  | some j=>rw[e]at hf;rw[Nat.eq_of_beq_eq_true hf];rfl
 case ptr id off =>
  have hf:(match ixOf π id with|some j=>Nat.beq j id|none=>false)=true:=hf
  show lendC (hC h) π (f+1) (.ptr id off)=_
  rw[lendC_ptr]
  cases e:ixOf π id with
  | none=>rw[e]at hf;cases hf
  | some j=>rw[e]at hf;rw[Nat.eq_of_beq_eq_true hf];rfl
 case row=>cases hf
 case rowx=>cases hf
 case fn q l =>
  show lendC (hC h) π (f+1) (.fn q _)=_
  rw[lendC_fn']
  have:∀ l:List (Nat×Nat),(l.all λ p=>match ixOf π p.1 with|some j=>Nat.beq j p.1|none=>false)=true->capsIx π (l.map λ (p:Nat×Nat)=>CV.ptr p.1 p.2)=some (l.map λ (p:Nat×Nat)=>CV.ptr p.1 p.2):=by
   intro l
   induction l with
   | nil=>intro _;rfl
   | cons p r ih =>
    intro hp
    simp only[List.all_cons,Bool.and_eq_true]at hp
    show (match ixOf π p.1 with|some j=>(capsIx π (r.map λ (p:Nat×Nat)=>CV.ptr p.1 p.2)).map (CV.ptr j p.2::·)|none=>none)=_
    cases e:ixOf π p.1 with
    | none=>rw[e]at hp;exact (Bool.false_ne_true hp.1).elim
    | some j =>
     rw[e]at hp
     rw[ih hp.2]
     have:=Nat.eq_of_beq_eq_true hp.1
     rw[this]
     rfl
  rw[this l hf]
  rfl
theorem fixCs_lend (hn:nodB π=true):∀ {cs:List TC},cs.all (fixC π)=true->lendAll (lendC (hC h) π (f+1)) (cs.map TC.conc)=some ([],cs.map TC.conc)
 | [],_=>rfl
 | c::r,hf=>by
  simp only[List.all_cons,Bool.and_eq_true]at hf
  simp only[List.map_cons,lendAll,fixC_lend hn hf.1,fixCs_lend hn hf.2,List.append_nil]
def VarOk (h:Nat->TB) (π:List Nat) (j:Nat) (b:TB):Prop:=∀ cs,b=.var cs->(∀ c ∈ cs,CellOk h π c)\/(h j=.var cs/\cs.all (fixC π)=true)
def bldB (O:List (Nat×TB)) (j:Nat):BSh->List Dat->TB
 | .n,_=>.no
 | .d,_=>.dead
 | .f,_=>.fix
 | .o,_=>lkB O j
 | .od,_=>toDp (lkB O j)
 | .c cs,_=>.var cs
 | .r _,d::_=>rowsD d
 | .rd _,d::_=>toDp (rowsD d)
 | .v _ own,d::_=>.var (ownSet own 0 (leaves d.t d.v))
 | .r _,[]=>.no
 | .rd _,[]=>.no
 | .v _ _,[]=>.no
def bldBO:BSh->List Dat->List (Nat×TB)
 | .v _ own,d::_=>ownBlk own 0 (leaves d.t d.v)
 | _,_=>[]
theorem lkB_mem {j:Nat}:∀ {O:List (Nat×TB)},lkB O j≠.no->∃ p ∈ O,p.1=j/\p.2=lkB O j
 | [],h=>absurd rfl h
 | p::r,h=>by
  have hl:lkB (p::r) j=(match Nat.beq p.1 j with|true=>p.2|false=>lkB r j):=rfl
  rw[hl]at h ⊢
  cases e:Nat.beq p.1 j with
  | true=>exact ⟨p,by simp,Nat.eq_of_beq_eq_true e,rfl⟩
  | false =>
   rw[e]at h
   obtain ⟨q,h1,h2,h3⟩:=lkB_mem h
   exact ⟨q,List.mem_cons_of_mem _ h1,h2,h3⟩
theorem decB_ok (hH:GoodH h) (hn:nodB π=true) {fb O:List (Nat×TB)} (hO:OwnsP h π O) {j id:Nat} (hj:π[j]? = some id) {sh:BSh} {ds:List Dat} (hne:sh≠.n) (hfx:sh=.f->lkB fb j=h j)
  (hcov:sh=.o\/sh=.od->∃ (t:Ty) (n:Nat) (xs:List t.den),lkB O j=.rows t n xs) (he:decB h π j sh=some ds) :
  (∃ rd x,(∀ r rs,lendH (hC h) π (f+2) r=some rs->lendH (hC h) π (f+2) (id::r)=some (id::rd++rs.1,x::rs.2))/\leB0 x ((bldB O j sh ds).res fb j).conc ∧
   ∀ y ∈ rd,y ∈ (match h id with | .var cs=>cs.flatMap (lentC h π)|_=>[]))/\BR (h id) ((bldB O j sh ds).res fb j)/\VarOk h π j ((bldB O j sh ds).res fb j)/\OwnsP h π (bldBO sh ds)/\ds.map (·.t)=sh.tys:=by
 have live:∀ {b:Blk} {rd:List Nat} {cs:List CV},(h id).conc=.live b->lendAll (lendC (hC h) π (f+2)) b.cs=some (rd,cs)->∀ r rs,lendH (hC h) π (f+2) r=some rs->lendH (hC h) π (f+2) (id::r)=some (id::rd++rs.1, .live ⟨b.sz,b.n,cs⟩::rs.2):=λ {b rd cs} e1 e2 r rs hr=>by
  show (match (h id).conc with | .live b=>_ | .dead=>_ | .no=>none | .deep b=>_)=_
  rw[e1]
  show (match lendAll (lendC (hC h) π (f+2)) b.cs with|none=>none|some (a,cs)=>match lendH (hC h) π (f+2) r with|none=>none|some (b',r')=>some (id::a++b',HS.live ⟨b.sz,b.n,cs⟩::r'))=_
  rw[e2,hr]
 have dead:h id=.dead->∀ r rs,lendH (hC h) π (f+2) r=some rs->lendH (hC h) π (f+2) (id::r)=some (id::[]++rs.1, .dead::rs.2):=λ e1 r rs hr=>by
  show (match (h id).conc with | .live b=>_ | .dead=>_ | .no=>none | .deep b=>_)=_
  rw[e1]
  show (match lendH (hC h) π (f+2) r with|none=>none|some (b',r')=>some (id::b',HS.dead::r'))=_
  rw[hr];rfl
 have rl:∀ {i:Nat} {t:Ty} {n:Nat} {xs:List t.den},h i=.rows t n xs->xs.length=n:=λ {i t n xs} e=>by have:=hH i;rw[e]at this;exact this
 have rows:∀ {t:Ty} {n:Nat} {xs:List t.den},h id=.rows t n xs->∀ r rs,lendH (hC h) π (f+2) r=some rs->lendH (hC h) π (f+2) (id::r)=some (id::[]++rs.1,(TB.rows t n xs).conc::rs.2):=λ {t n xs} e =>
  live (b:=⟨t.size,n,xs.flatMap t.enc⟩) (by rw[e];rfl) (fLend (encOk t) xs)
 have rowsB:∀ {t:Ty} {n:Nat} {xs:List t.den} {b:TB},h id=.rows t n xs->b=.rows t xs.length xs->(∃ rd x,(∀ r rs,lendH (hC h) π (f+2) r=some rs->lendH (hC h) π (f+2) (id::r)=some (id::rd++rs.1,x::rs.2))/\leB0 x b.conc ∧
   ∀ y ∈ rd,y ∈ (match h id with | .var cs=>cs.flatMap (lentC h π)|_=>[]))/\BR (h id) b/\VarOk h π j b:=λ {t n xs b} e1 e2=>by
  refine ⟨⟨[],_,rows e1, .inl (.inl ?_),λ y hy=>by simp at hy⟩, .inr (.inl ⟨t,n,xs,e1,e2⟩),λ cs hcs=>by rw[e2]at hcs;cases hcs⟩
  rw[e2,rl e1]
 have rld:∀ {i:Nat} {t:Ty} {n:Nat} {xs:List t.den},h i=.deep t n xs none->xs.length=n/\t.dpB=true:=λ {i t n xs} e=>by have:=hH i;rw[e]at this;exact ⟨this.1,this.2.1⟩
 have deeps:∀ {t:Ty} {n:Nat} {xs:List t.den},h id=.deep t n xs none->∀ r rs,lendH (hC h) π (f+2) r=some rs->lendH (hC h) π (f+2) (id::r)=some (id::[]++rs.1,(TB.deep t n xs none).conc::rs.2):=λ {t n xs} e r rs hr=>by
  show (match (h id).conc with | .live b=>_ | .dead=>_ | .no=>none | .deep b=>_)=_
  rw[e]
  show (match lendAll (keepOwn (lendC (hC h) π (f+2))) ((xs.flatMap t.enc).map ownC) with|none=>none|some (a,cs)=>match lendH (hC h) π (f+2) r with|none=>none|some (b',r')=>some (id::a++b',HS.deep ⟨t.size,n,cs⟩::r'))=_
  rw[(lend_own (fRi (encOk t) xs) (enc_noown t xs)).2,hr]
  rfl
 have deepB:∀ {t:Ty} {n:Nat} {xs:List t.den} {b:TB},h id=.deep t n xs none->b=.deep t xs.length xs none->(∃ rd x,(∀ r rs,lendH (hC h) π (f+2) r=some rs->lendH (hC h) π (f+2) (id::r)=some (id::rd++rs.1,x::rs.2))/\leB0 x b.conc ∧
   ∀ y ∈ rd,y ∈ (match h id with | .var cs=>cs.flatMap (lentC h π)|_=>[]))/\BR (h id) b/\VarOk h π j b:=λ {t n xs b} e1 e2=>by
  refine ⟨⟨[],_,deeps e1, .inl (.inl ?_),λ y hy=>by simp at hy⟩, .inr (.inr (.inr ⟨t,n,xs,e1,e2⟩)),λ cs hcs=>by rw[e2]at hcs;cases hcs⟩
  rw[e2,(rld e1).1]
 cases sh with
 | n=>exact absurd rfl hne
 | d =>
  unfold decB at he
  simp only[hj]at he
  split at he
  ·rename_i hb
   cases he
   exact ⟨⟨[],_,dead hb, .inl (.inl rfl),λ y hy=>by simp at hy⟩, .inl rfl,λ cs hcs=>(nomatch hcs),λ p hp=>by simp[bldBO]at hp,rfl⟩
  ·rename_i t n xs hb
   cases he
   exact ⟨⟨[],_,rows hb, .inr ⟨nofun,rfl⟩,λ y hy=>by simp at hy⟩, .inl rfl,λ cs hcs=>(nomatch hcs),λ p hp=>by simp[bldBO]at hp,rfl⟩
  ·rename_i t n xs hb
   cases he
   exact ⟨⟨[],_,deeps hb, .inr ⟨nofun,rfl⟩,λ y hy=>by simp at hy⟩, .inl rfl,λ cs hcs=>(nomatch hcs),λ p hp=>by simp[bldBO]at hp,rfl⟩
  ·cases he
 | f =>
  unfold decB at he
  simp only[hj]at he
  split at he
  ·rename_i hok
   cases he
   simp only[Bool.and_eq_true]at hok
   obtain rfl:=Nat.eq_of_beq_eq_true hok.1
   have hres:(bldB O id .f []).res fb id=h id:=hfx rfl
   have hfix:=hok.2
   rw[hres]
   refine ⟨?_,?_,?_,λ p hp=>by simp[bldBO]at hp,rfl⟩
   ·cases hb:h id with
    | rows t n xs=>exact ⟨[],_,rows hb, .inl (.inl rfl),λ y hy=>by simp at hy⟩
    | dead=>exact ⟨[],_,dead hb, .inl (.inl rfl),λ y hy=>by simp at hy⟩
    | var cs =>
     rw[hb]at hfix
     exact ⟨[],_,live (b:=⟨1,cs.length,cs.map TC.conc⟩) (by rw[hb];rfl) (fixCs_lend (f:=f+1) hn hfix), .inl (.inl rfl),λ y hy=>by simp at hy⟩
    | no=>rw[hb]at hfix;cases hfix
    | fix=>rw[hb]at hfix;cases hfix
    | raw=>rw[hb]at hfix;cases hfix
    | deep t n xs o =>
     cases o with
     | none=>exact ⟨[],_,deeps hb, .inl (.inl rfl),λ y hy=>by simp at hy⟩
     | some H=>rw[hb]at hfix;cases hfix
   ·cases hb:h id with
    | rows t n xs=>exact .inr (.inl ⟨t,n,xs,rfl,by rw[rl hb]⟩)
    | dead=>exact .inl rfl
    | var cs=>exact .inr (.inr (.inl ⟨cs,cs,rfl,rfl⟩))
    | deep t n xs o =>
     cases o with
     | none=>exact .inr (.inr (.inr ⟨t,n,xs,rfl,by rw[(rld hb).1]⟩))
     | some H=>rw[hb]at hfix;cases hfix
    | no=>rw[hb]at hfix;cases hfix
    | fix=>rw[hb]at hfix;cases hfix
    | raw=>rw[hb]at hfix;cases hfix
   ·intro cs hcs
    rw[hcs]at hfix
    exact .inr ⟨hcs,hfix⟩
  ·cases he
 | o =>
  unfold decB at he
  simp only[hj]at he
  split at he
  ·rename_i t n xs hb
   cases he
   obtain ⟨t',n',ys,hl⟩:=hcov (.inl rfl)
   obtain ⟨p,p1,p2,p3⟩:=lkB_mem (j:=j) (O:=O) (by rw[hl];nofun)
   obtain ⟨id',t2,n2,zs,q1,q2,q3⟩:=hO p p1
   rw[p2,hj]at q1
   cases q1
   have e2:(bldB O j .o []).res fb j=.rows t2 zs.length zs:=by
    show (lkB O j).res fb j=_
    rw[<-p3,q3];rfl
   have q2:h id=.rows t2 n2 zs:=by
    rcases q2 with q2|q2
    ·exact q2
    ·rw[q2]at hb;cases hb
   obtain ⟨a1,a2,a3⟩:=rowsB q2 e2
   exact ⟨a1,a2,a3,λ p hp=>by simp[bldBO]at hp,rfl⟩
  ·cases he
 | od =>
  unfold decB at he
  simp only[hj]at he
  split at he
  ·rename_i t n xs hb
   cases he
   obtain ⟨t',n',ys,hl⟩:=hcov (.inr rfl)
   obtain ⟨p,p1,p2,p3⟩:=lkB_mem (j:=j) (O:=O) (by rw[hl];nofun)
   obtain ⟨id',t2,n2,zs,q1,q2,q3⟩:=hO p p1
   rw[p2,hj]at q1
   cases q1
   have q2:h id=.deep t2 n2 zs none:=by
    rcases q2 with q2|q2
    ·rw[q2]at hb;cases hb
    ·exact q2
   have e2:(bldB O j .od []).res fb j=.deep t2 zs.length zs none:=by
    show (toDp (lkB O j)).res fb j=_
    rw[<-p3,q3]
    show (match t2.dpB with|true=>TB.deep t2 zs.length zs none|false=>.rows t2 zs.length zs).res fb j=_
    rw[(rld q2).2];rfl
   obtain ⟨a1,a2,a3⟩:=deepB q2 e2
   exact ⟨a1,a2,a3,λ p hp=>by simp[bldBO]at hp,rfl⟩
  ·cases he
 | r t =>
  unfold decB at he
  simp only[hj]at he
  split at he
  ·rename_i t' n xs hb
   split at he
   ·rename_i xs' hc
    obtain ⟨rfl,rfl⟩:=castL_eq hc
    cases he
    obtain ⟨a1,a2,a3⟩:=rowsB (b:=(bldB O j (.r t') [⟨.list t',xs'⟩]).res fb j) hb rfl
    exact ⟨a1,a2,a3,λ p hp=>by simp[bldBO]at hp,rfl⟩
   ·cases he
  ·cases he
 | rd t =>
  unfold decB at he
  simp only[hj]at he
  split at he
  ·rename_i t' n xs hb
   split at he
   ·rename_i xs' hc
    obtain ⟨rfl,rfl⟩:=castL_eq hc
    cases he
    have e2:(bldB O j (.rd t') [⟨.list t',xs'⟩]).res fb j=.deep t' xs'.length xs' none:=by
     show (match t'.dpB with|true=>TB.deep t' xs'.length xs' none|false=>.rows t' xs'.length xs').res fb j=_
     rw[(rld hb).2];rfl
    obtain ⟨a1,a2,a3⟩:=deepB hb e2
    exact ⟨a1,a2,a3,λ p hp=>by simp[bldBO]at hp,rfl⟩
   ·cases he
  ·cases he
 | v t own =>
  unfold decB at he
  simp only[hj]at he
  split at he
  ·rename_i cs hb
   split at he
   ·rename_i d hd
    cases he
    have hg:=hH id
    rw[hb]at hg
    unfold decCs at hd
    split at hd
    ·rename_i l hl
     split at hd
     ·rename_i v hv
      cases hd
      obtain ⟨rd,e,a1,a2,a3,a4,a5⟩:=leafs_ok (f:=f) hH hn hg hl (mkT_made hv)
      refine ⟨⟨rd,_,live (b:=⟨1,cs.length,cs.map TC.conc⟩) (by rw[hb];rfl) a1, .inl (.inr ⟨_,_,rfl,rfl,rfl,?_,a2⟩),λ y hy => ?_⟩, .inr (.inr (.inl ⟨_,_,hb,rfl⟩)),λ cs' hcs => ?_,a5,rfl⟩
      ·show (ownSet own 0 (leaves t v)).length=cs.length
       have h1:=leL0_len a2
       rw[List.length_map]at h1
       have:e.length=cs.length:=by have:=(lendAll_some a1).1;rw[List.length_map]at this;exact this
       rw[h1,this]
      ·rw[hb]
       obtain ⟨c,hc1,hc2⟩:=a3 y hy
       exact List.mem_flatMap.2 ⟨c,hc1,hc2⟩
      ·cases hcs
       exact .inl λ c hc=>cellOk_of (a4 c hc)
     ·cases hd
    ·cases hd
   ·cases he
  ·cases he
 | c ds' =>
  unfold decB at he
  simp only[hj]at he
  split at he
  ·rename_i cs hb
   split at he
   ·rename_i hs
    cases he
    have hg:=hH id
    rw[hb]at hg
    obtain ⟨a1,a2⟩:=sameCs_ok (f:=f+1) hn hg hs
    refine ⟨⟨[],_,live (b:=⟨1,cs.length,cs.map TC.conc⟩) (by rw[hb];rfl) a1, .inl (.inl ?_),λ y hy=>by simp at hy⟩, .inr (.inr (.inl ⟨_,_,hb,rfl⟩)),λ cs' hcs => ?_,λ p hp=>by simp[bldBO]at hp,rfl⟩
    ·have:ds'.length=cs.length:=by have:=(lendAll_some a1).1;rw[List.length_map,List.length_map]at this;exact this
     show (TB.var ds').conc=_
     simp only[TB.conc,this]
    ·cases hcs;exact .inl a2
   ·cases he
  ·cases he
theorem bldH_cons {O:List (Nat×TB)} {j:Nat} {b:BSh} {r:List BSh} {a rest:List Dat} (ha:a.map (·.t)=b.tys):bldH O j (b::r) (a++rest)=bldB O j b a::bldH O (j+1) r rest/\bldHO (b::r) (a++rest)=bldBO b a++bldHO r rest:=by
 cases b with
 | r t =>
  have ha:a.map (·.t)=[.list t]:=ha
  match a,ha with
  | [d],_=>exact ⟨rfl,rfl⟩
  | [],ha=>simp at ha
  | _::_::_,ha=>simp at ha
 | rd t =>
  have ha:a.map (·.t)=[.list t]:=ha
  match a,ha with
  | [d],_=>exact ⟨rfl,rfl⟩
  | [],ha=>simp at ha
  | _::_::_,ha=>simp at ha
 | v t own =>
  have ha:a.map (·.t)=[t]:=ha
  match a,ha with
  | [d],_=>exact ⟨rfl,rfl⟩
  | [],ha=>simp at ha
  | _::_::_,ha=>simp at ha
 | n =>
  have ha:a.map (·.t)=[]:=ha
  match a,ha with|[],_=>exact ⟨rfl,rfl⟩
 | d =>
  have ha:a.map (·.t)=[]:=ha
  match a,ha with|[],_=>exact ⟨rfl,rfl⟩
 | f =>
  have ha:a.map (·.t)=[]:=ha
  match a,ha with|[],_=>exact ⟨rfl,rfl⟩
 | o =>
  have ha:a.map (·.t)=[]:=ha
  match a,ha with|[],_=>exact ⟨rfl,rfl⟩
 | od =>
  have ha:a.map (·.t)=[]:=ha
  match a,ha with|[],_=>exact ⟨rfl,rfl⟩
 | c cs =>
  have ha:a.map (·.t)=[]:=ha
  match a,ha with|[],_=>exact ⟨rfl,rfl⟩
theorem decH_ok (hH:GoodH h) (hn:nodB π=true) {fb O:List (Nat×TB)} (hO:OwnsP h π O):∀ {bs:List BSh} {j:Nat} {ids:List Nat} {ds rest:List Dat},decH h π j bs=some ds->noN bs=true->coverO O j bs=true →
  (∀ i,bs[i]? = some .f->lkB fb (j+i)=h (j+i))->ids.length=bs.length->(∀ i id,ids[i]? = some id->π[j+i]? = some id) →
  ∃ rd hs,lendH (hC h) π (f+2) ids=some (rd,hs)/\hs.length=bs.length/\(∀ i,leB0 (hOf hs i) (hOf (heapC fb j (bldH O j bs (ds++rest))) i))/\(∀ x ∈ rd,x ∈ lentB h π ids) ∧
   (∀ i id,ids[i]? = some id->BR (h id) (blkL fb j (bldH O j bs (ds++rest)) i))/\(∀ i,VarOk h π (j+i) (blkL fb j (bldH O j bs (ds++rest)) i))/\(bldH O j bs (ds++rest)).length=bs.length/\ds.map (·.t)=heapTys bs
 | [],j,ids,ds,rest,he,_,_,_,hl,_=>by
  cases he
  obtain rfl:=List.eq_nil_of_length_eq_zero hl
  refine ⟨[],[],rfl,rfl,λ i=>.inl (.inl ?_),λ x hx=>by simp at hx,λ i id hi=>by simp at hi,λ i cs hcs => ?_,rfl,rfl⟩
  ·show hOf (heapC fb j []) i=hOf [] i;rfl
  ·have:blkL fb j (bldH O j [] ([]++rest)) i=.no:=blkL_nil
   rw[this]at hcs;cases hcs
 | b::r,j,[],ds,rest,_,_,_,_,hl,_=>by simp at hl
 | b::r,j,id::ids,ds,rest,he,hN,hcov,hfx,hl,hid=>by
  unfold decH at he
  split at he
  ·rename_i a l h1 h2
   cases he
   have hb:b≠.n:=by intro e;subst e;cases hN
   have hN':noN r=true:=by cases b<;>first|exact hN|exact absurd rfl hb
   have hj:π[j]? = some id:=hid 0 id rfl
   have hc':coverO O (j+1) r=true/\(b=.o\/b=.od->∃ (t:Ty) (n:Nat) (xs:List t.den),lkB O j=.rows t n xs):=by
    cases b<;>first|exact ⟨hcov,λ h=>by rcases h with h|h<;>cases h⟩|skip
    all_goals
     simp only[coverO,Bool.and_eq_true]at hcov
     refine ⟨hcov.2,λ _ => ?_⟩
     have:=hcov.1
     split at this
     ·rename_i t n xs hx;exact ⟨t,n,xs,hx⟩
     ·cases this
   obtain ⟨⟨rd1,x,a1,a2,a3⟩,a4,a5,a6,a7⟩:=decB_ok (f:=f) hH hn (fb:=fb) hO hj hb (λ e=>by subst e;exact hfx 0 rfl) hc'.2 h1
   obtain ⟨rd2,hs,b1,b2,b3,b4,b5,b6,b7,b8⟩:=decH_ok hH hn hO (rest:=rest) h2 hN' hc'.1 (λ i hi=>by
    have:=hfx (i+1) hi
    rw[show j+1+i=j+(i+1) by omega];exact this) (by simpa using hl) (λ i id' hi=>by
    have:=hid (i+1) id' hi
    rw[show j+1+i=j+(i+1) by omega];exact this)
   obtain ⟨c1,c2⟩:=bldH_cons (O:=O) (j:=j) (b:=b) (r:=r) (a:=a) (rest:=l++rest) a7
   rw[<-List.append_assoc]at c1 c2
   refine ⟨_,_,a1 _ _ b1,by simp[b2],λ i => ?_,λ y hy => ?_,λ i id' hi => ?_,λ i => ?_,?_,?_⟩
   ·rw[c1]
    cases i with
    | zero=>exact a2
    | succ i=>exact b3 i
   ·show y ∈ id::(match h id with | .var cs=>cs.flatMap (lentC h π)|_=>[])++lentB h π ids
    rcases List.mem_append.1 hy with hy|hy
    ·rcases List.mem_cons.1 hy with rfl|hy
     ·simp
     ·exact List.mem_append_left _ (List.mem_cons_of_mem _ (a3 y hy))
    ·exact List.mem_append_right _ (b4 y hy)
   ·rw[c1]
    cases i with
    | zero=>cases hi;exact a4
    | succ i=>exact b5 i id' hi
   ·rw[c1]
    cases i with
    | zero=>exact a5
    | succ i =>
     have:=b6 i
     rw[show j+1+i=j+(i+1) by omega]at this
     exact this
   ·rw[c1,List.length_cons,b7,List.length_cons]
   ·rw[List.map_append,a7,b8];rfl
  ·cases he
theorem decHO (hH:GoodH h) (hn:nodB π=true):∀ {bs:List BSh} {j:Nat} {ds rest:List Dat},decH h π j bs=some ds->OwnsP h π (bldHO bs ds)/\ds.map (·.t)=heapTys bs
 | [],j,ds,rest,he=>by cases he;exact ⟨λ p hp=>by simp[bldHO]at hp,rfl⟩
 | b::r,j,ds,rest,he=>by
  unfold decH at he
  split at he
  ·rename_i a l h1 h2
   cases he
   obtain ⟨e1,e2⟩:=decHO hH hn (rest:=rest) h2
   have key:OwnsP h π (bldBO b a)/\a.map (·.t)=b.tys:=by
    cases hj:π[j]? with
    | none =>
     cases b<;>simp only[decB,hj]at h1<;>cases h1
     exact ⟨λ p hp=>by simp[bldBO]at hp,rfl⟩
    | some id =>
     cases b with
     | v t own =>
      simp only[decB,hj]at h1
      split at h1
      ·rename_i cs hb
       split at h1
       ·rename_i d hd
        cases h1
        have hg:=hH id
        rw[hb]at hg
        unfold decCs at hd
        split at hd
        ·rename_i l' hl
         split at hd
         ·rename_i v hv
          cases hd
          obtain ⟨_,_,_,_,_,_,a5⟩:=leafs_ok (f:=0) hH hn hg hl (mkT_made hv)
          exact ⟨a5,rfl⟩
         ·cases hd
        ·cases hd
       ·cases h1
      ·cases h1
     | n =>
      simp only[decB]at h1
      cases h1;exact ⟨λ p hp=>by simp[bldBO]at hp,rfl⟩
     | d =>
      simp only[decB,hj]at h1
      split at h1<;>first|(cases h1;exact ⟨λ p hp=>by simp[bldBO]at hp,rfl⟩)|cases h1
     | f =>
      simp only[decB,hj]at h1
      split at h1<;>first|(cases h1;exact ⟨λ p hp=>by simp[bldBO]at hp,rfl⟩)|cases h1
     | o =>
      simp only[decB,hj]at h1
      split at h1<;>first|(cases h1;exact ⟨λ p hp=>by simp[bldBO]at hp,rfl⟩)|cases h1
     | od =>
      simp only[decB,hj]at h1
      split at h1<;>first|(cases h1;exact ⟨λ p hp=>by simp[bldBO]at hp,rfl⟩)|cases h1
     | c ds' =>
      simp only[decB,hj]at h1
      split at h1
      ·split at h1<;>first|(cases h1;exact ⟨λ p hp=>by simp[bldBO]at hp,rfl⟩)|cases h1
      ·cases h1
     | r t =>
      simp only[decB,hj]at h1
      split at h1
      ·split at h1<;>first|(cases h1;exact ⟨λ p hp=>by simp[bldBO]at hp,rfl⟩)|cases h1
      ·cases h1
     | rd t =>
      simp only[decB,hj]at h1
      split at h1
      ·split at h1<;>first|(cases h1;exact ⟨λ p hp=>by simp[bldBO]at hp,rfl⟩)|cases h1
      ·cases h1
   obtain ⟨c1,c2⟩:=bldH_cons (O:=[]) (j:=j) (b:=b) (r:=r) (a:=a) (rest:=l) key.2
   refine ⟨?_,by rw[List.map_append,key.2,e2];rfl⟩
   rw[c2]
   intro p hp
   rcases List.mem_append.1 hp with hp|hp
   ·exact key.1 p hp
   ·exact e1 p hp
  ·cases he
end
end Go.Fm
namespace Go.Fm
variable [Globs] [Structs] [Tabs]
variable {F:Lv} {s:TS}
theorem memE_iff {t:Nat}:∀ {e:TE},memE t e=true ↔ t ∈ e.map (·.1)
 | []=>by simp[memE]
 | p::r=>by
  simp only[memE,Bool.or_eq_true,List.map_cons,List.mem_cons,memE_iff (e:=r)]
  constructor
  ·rintro (h|h)
   ·exact .inl (Nat.eq_of_beq_eq_true h).symm
   ·exact .inr h
  ·rintro (h|h)
   ·exact .inl (by rw[h];exact beq_self _)
   ·exact .inr h
theorem lkS_append {t:Nat}:∀ (e x:List (Nat×SV)),(t ∈ e.map (·.1)/\Fm.lk (e++x) t=Fm.lk e t)\/(t ∉ e.map (·.1)/\Fm.lk (e++x) t=Fm.lk x t)
 | [],x=>.inr ⟨by simp,rfl⟩
 | p::r,x=>by
  show (_/\(if p.1=t then p.2 else Fm.lk (r++x) t)=if p.1=t then p.2 else Fm.lk r t)\/(_/\(if p.1=t then p.2 else Fm.lk (r++x) t)=Fm.lk x t)
  by_cases h:p.1=t
  ·simp only[if_pos h]
   exact .inl ⟨by simp[h],trivial⟩
  ·simp only[if_neg h]
   rcases lkS_append r x with ⟨h1,h2⟩|⟨h1,h2⟩
   ·exact .inl ⟨List.mem_cons_of_mem _ h1,h2⟩
   ·refine .inr ⟨?_,h2⟩
    simp only[List.map_cons,List.mem_cons,not_or]
    exact ⟨Ne.symm h,h1⟩
theorem lkS_not {t:Nat}:∀ {e:List (Nat×SV)},t ∉ e.map (·.1)->Fm.lk e t=one .dead
 | [],_=>rfl
 | p::r,h=>by
  simp only[List.map_cons,List.mem_cons,not_or]at h
  show (if p.1=t then p.2 else Fm.lk r t)=_
  rw[if_neg (Ne.symm h.1)]
  exact lkS_not h.2
theorem envC_slots (e:TE):(envC e).map (·.1)=e.map (·.1):=by
 unfold envC;rw[List.map_map];rfl
theorem envC_append (a b:TE):envC (a++b)=envC a++envC b:=List.map_append ..
theorem lendE_append {h:Nat->HS} {π:List Nat} {f:Nat} {E:List (Nat×SV)}:∀ {a b:List Nat} {x y:List (Nat×SV)},lendE h π f E a=some x->lendE h π f E b=some y->lendE h π f E (a++b)=some (x++y)
 | [],b,x,y,h1,h2=>by cases h1;exact h2
 | t::r,b,x,y,h1,h2=>by
  have h1:(match lendS h π f (Fm.lk E t) with|none=>none|some v=>match lendE h π f E r with|none=>none|some e=>some ((t,v)::e))=some x:=h1
  show (match lendS h π f (Fm.lk E t) with|none=>none|some v=>match lendE h π f E (r++b) with|none=>none|some e=>some ((t,v)::e))=_
  cases hv:lendS h π f (Fm.lk E t) with
  | none=>rw[hv]at h1;cases h1
  | some v =>
   rw[hv]at h1
   simp only at h1 ⊢
   cases hr:lendE h π f E r with
   | none=>rw[hr]at h1;cases h1
   | some e =>
    rw[hr]at h1
    cases h1
    rw[lendE_append hr h2]
    rfl
section
variable {h:Nat->TB} {π:List Nat} {f:Nat}
theorem fixP_lend (hn:nodB π=true) {p:TP} (hf:fixP π p=true):lendP (hC h) π (f+1) p.conc=some ([],p.conc):=by
 cases p with
 | one c =>
  show (lendC (hC h) π (f+1) c.conc).map _=_
  rw[fixC_lend hn hf];rfl
 | agg cs =>
  show (lendAll (lendC (hC h) π (f+1)) (cs.map TC.conc)).map _=_
  rw[fixCs_lend hn hf];rfl
theorem fixV_lend (hn:nodB π=true) {v:TV} (hf:fixV π v=true):lendS (hC h) π (f+1) v.conc=some v.conc:=by
 cases v with
 | pv p =>
  show (lendP (hC h) π (f+1) p.conc).map _=_
  rw[fixP_lend hn hf];rfl
 | tup ps =>
  have:∀ ps:List TP,ps.all (fixP π)=true->lendPs (lendP (hC h) π (f+1)) (ps.map TP.conc)=some ([],ps.map TP.conc):=by
   intro ps
   induction ps with
   | nil=>intro _;rfl
   | cons p r ih =>
    intro hp
    simp only[List.all_cons,Bool.and_eq_true]at hp
    simp only[List.map_cons,lendPs,fixP_lend hn hp.1,ih hp.2,List.append_nil]
  show (lendPs (lendP (hC h) π (f+1)) (ps.map TP.conc)).map _=_
  rw[this ps hf];rfl
theorem fixE_get:∀ {e:TE},fixE π e=true->∀ t,memE t e=true->fixV π (lkE e t)=true
 | [],_,t,h=>by cases h
 | p::r,hf,t,h=>by
  simp only[fixE,Bool.and_eq_true]at hf
  show fixV π (match Nat.beq p.1 t with|true=>p.2|false=>lkE r t)=true
  have hm:memE t (p::r)=(Nat.beq p.1 t || memE t r):=rfl
  rw[hm]at h
  cases e:Nat.beq p.1 t with
  | true=>exact hf.1
  | false=>rw[e]at h;exact fixE_get hf.2 t h
theorem lendE_fix (hn:nodB π=true) {E:List (Nat×SV)} {fx:TE}:∀ {l:List Nat},(∀ t ∈ l,Fm.lk E t=(lkE fx t).conc/\fixV π (lkE fx t)=true)->∃ e,lendE (hC h) π (f+1) E l=some e/\e.map (·.1)=l/\∀ t ∈ l,Fm.lk e t=(lkE fx t).conc
 | [],_=>⟨[],rfl,rfl,λ t ht=>by simp at ht⟩
 | t::r,hl=>by
  obtain ⟨e,h1,h2,h3⟩:=lendE_fix hn (λ u hu=>hl u (List.mem_cons_of_mem _ hu))
  obtain ⟨g1,g2⟩:=hl t (by simp)
  refine ⟨(t,(lkE fx t).conc)::e,?_,by simp[h2],λ u hu => ?_⟩
  ·show (match lendS (hC h) π (f+1) (Fm.lk E t) with|none=>none|some v=>match lendE (hC h) π (f+1) E r with|none=>none|some e=>some ((t,v)::e))=_
   rw[g1,fixV_lend hn g2,h1]
  ·show (if t=u then (lkE fx t).conc else Fm.lk e u)=_
   by_cases hu2:t=u
   ·rw[if_pos hu2,hu2]
   ·rw[if_neg hu2]
    rcases List.mem_cons.1 hu with hu|hu
    ·exact absurd hu.symm hu2
    ·exact h3 u hu
end
theorem apart_get {fx:TE}:∀ {e:TE},apart fx e=true->∀ t,memE t fx=true->memE t e=false
 | [],_,t,_=>rfl
 | p::r,h,t,ht=>by
  simp only[apart,Bool.and_eq_true,Bool.not_eq_true']at h
  show (Nat.beq p.1 t || memE t r)=false
  rw[apart_get h.2 t ht,Bool.or_false]
  cases e:Nat.beq p.1 t with
  | false=>rfl
  | true=>rw[Nat.eq_of_beq_eq_true e,ht]at h;cases h.1
theorem fixOnly_get {fb:List (Nat×TB)} {hp:List TB}:∀ {sh:List BSh} {j i:Nat},fixOnly fb hp j sh=true->sh[i]? = some .f->hp[j+i]? = some .fix/\j+i ∈ fb.map (·.1)
 | [],j,i,_,hi=>by simp at hi
 | b::r,j,i,h,hi=>by
  cases i with
  | zero =>
   have:b=.f:=by simpa using hi
   subst this
   simp only[fixOnly,Bool.and_eq_true]at h
   refine ⟨?_,elemN_iff.1 h.1.1⟩
   have h2:=h.1.2
   split at h2
   ·assumption
   ·cases h2
  | succ i =>
   have hr:fixOnly fb hp (j+1) r=true:=by
    cases b<;>first|exact h|skip
    simp only[fixOnly,Bool.and_eq_true]at h
    exact h.2
   have:=fixOnly_get hr (i:=i) (by simpa using hi)
   rwa [show j+1+i=j+(i+1) by omega]at this
theorem fixAt_get {sh:List BSh}:∀ {fb:List (Nat×TB)},fixAt sh fb=true->∀ i ∈ fb.map (·.1),sh[i]? = some .f
 | [],_,i,hi=>by simp at hi
 | p::r,h,i,hi=>by
  simp only[fixAt,Bool.and_eq_true]at h
  rcases List.mem_cons.1 hi with rfl|hi
  ·have h1:=h.1
   split at h1
   ·assumption
   ·cases h1
  ·exact fixAt_get h.2 i hi
theorem blkL_fix {fb:List (Nat×TB)}:∀ {l:List TB} {j i:Nat},l[i]? = some .fix->blkL fb j l i=lkB fb (j+i)
 | [],j,i,h=>by simp at h
 | b::r,j,0,h=>by
  have:b=.fix:=by simpa using h
  subst this;rfl
 | b::r,j,i+1,h=>by
  show blkL fb (j+1) r i=_
  rw[blkL_fix (l:=r) (j:=j+1) (i:=i) (by simpa using h)]
  congr 1;omega
theorem piOf_len (a:Asg):∀ (l:List BSh) (j:Nat),(piOf a j l).length=l.length
 | [],_=>rfl
 | _::r,j=>by simp only[piOf,List.length_cons,piOf_len a r (j+1)]
theorem blkL_ge {fb:List (Nat×TB)}:∀ {l:List TB} {j i:Nat},l.length<=i->blkL fb j l i=.no
 | [],_,_,_=>blkL_nil
 | b::r,j,0,h=>by simp at h
 | b::r,j,i+1,h=>blkL_ge (l:=r) (j:=j+1) (i:=i) (by simpa using h)
theorem goodP_cells {h:Nat->TB} {p:TP} (hc:∀ c ∈ cellsP p,goodC h c):goodP h p:=by
 cases p with
 | one c=>exact hc c (by simp[cellsP])
 | agg cs=>exact hc
theorem bldE_app:∀ {env:List (Nat×VSh)} {ds rest:List Dat},ds.map (·.t)=envTys env->bldE env (ds++rest)=bldE env ds
 | [],ds,rest,h=>rfl
 | (t, .s ty own)::r,[],rest,h=>by cases h
 | (t, .s ty own)::r,d::ds,rest,h=>by
  show _::bldE r (ds++rest)=_::bldE r ds
  rw[bldE_app (by simpa [envTys,VSh.tys] using (List.cons.inj h).2)]
 | (t, .c q)::r,ds,rest,h=>by
  show (t, .pv q)::bldE r (ds++rest)=(t, .pv q)::bldE r ds
  rw[bldE_app (env:=r) h]
theorem dec_gen (hG:Good F s) {Ft:Lv} (hk0:Ft.k0=F.k0) (hn0:Ft.n0=F.n0) {π:List Nat} {env:List (Nat×VSh)} {heap:List BSh} {a b:List Dat} {O:List (Nat×TB)} (hn:nodB π=true) (hk:preK F.k0 π 0=true)
  (hfa:fixAt heap Ft.fb=true) (hfe:fixE π Ft.fx=true) (hN:noN heap=true) (hfix:∀ i:Nat,heap[i]? = some BSh.f->s.blk F i=lkB Ft.fb i) (hfxm:∀ t,memE t Ft.fx=true->s.lk F t=lkE Ft.fx t)
  (hπ:π.length=heap.length) (hE:decE (s.lk F) (s.blk F) π env=some a) (hH:decH (s.blk F) π 0 heap=some b) (hO:OwnsP (s.blk F) π O) (hcov:coverO O 0 heap=true) :
  Good Ft ⟨bldE env a,bldH O 0 heap b⟩/\Weak F.k0 (s.conc F) ((⟨bldE env a,bldH O 0 heap b⟩:TS).conc Ft):=by
 have hGH:GoodH (s.blk F):=hG.heap
 have hlk:∀ t,goodV (s.blk F) (s.lk F t):=hG.env
 have hEC:∀ t,Fm.lk (s.conc F).env t=(s.lk F t).conc:=λ t=>s.lk_conc F t
 obtain ⟨e,a1,a2,a3,a4,⟨a5,a6⟩,a7⟩:=decE_ok (f:=7) hGH hn hlk hEC (rest:=[]) hE
 rw[List.append_nil]at a3 a4
 obtain ⟨rd,hs,b1,b2,b3,b4,b5,b6,b7,b8⟩:=decH_ok (f:=7) (fb:=Ft.fb) hGH hn hO (ids:=π) (rest:=[]) hH hN hcov (λ i hi=>by
  rw[Nat.zero_add]
  exact (hfix i hi).symm) hπ (λ i id hi=>by rw[Nat.zero_add];exact hi)
 rw[List.append_nil]at b3 b5 b6 b7
 have hslots:(bldE env a).map (·.1)=env.map (·.1):=by
  have:∀ (env:List (Nat×VSh)) (ds rest:List Dat),ds.map (·.t)=envTys env->(bldE env (ds++rest)).map (·.1)=env.map (·.1):=by
   intro env
   induction env with
   | nil=>intro ds rest _;rfl
   | cons p r ih =>
    intro ds rest hd
    obtain ⟨t,sv⟩:=p
    cases sv with
    | s ty own =>
     match ds,hd with
     | d::ds,hd =>
      show t::(bldE r (ds++rest)).map (·.1)=_
      rw[ih ds rest (by simpa [envTys,VSh.tys] using (List.cons.inj hd).2)]
      rfl
     | [],hd=>cases hd
    | c q =>
     show t::(bldE r (ds++rest)).map (·.1)=_
     rw[ih ds rest hd];rfl
  have:=this env a [] a7
  rwa [List.append_nil]at this
 -- what each block becomes
 let s':TS:=⟨bldE env a,bldH O 0 heap b⟩
 have hBR:∀ j id,π[j]? = some id->BR (s.blk F id) (s'.blk Ft j):=λ j id hj=>b5 j id hj
 refine ⟨⟨?_,λ i hi => ?_,λ t => ?_,λ j => ?_,λ j t n xs hj e => ?_,λ j t n xs o hj e => ?_⟩,?_⟩
 ·show Ft.k0<=(bldH _ 0 heap b).length
  rw[b7,<-hπ,hk0]
  cases hq:F.k0 with
  | zero=>exact Nat.zero_le _
  | succ k =>
   have:=preK_get hk k (by omega)
   have:=(List.getElem?_eq_some_iff.1 this).1
   omega
 ·show i < (bldH _ 0 heap b).length
  rw[b7]
  exact (List.getElem?_eq_some_iff.1 (fixAt_get hfa i hi)).1
 ·show goodV (s'.blk Ft) (lkE (bldE env a++Ft.fx) t)
  rcases lkE_append (t:=t) (bldE env a) Ft.fx with ⟨h1,h2⟩|⟨h1,h2⟩
  ·rw[h2]
   have:∀ l:TE,memE t l=true->∃ p ∈ l,p.2=lkE l t:=by
    intro l
    induction l with
    | nil=>intro h;cases h
    | cons p r ih =>
     intro h
     have hm:memE t (p::r)=(Nat.beq p.1 t || memE t r):=rfl
     rw[hm]at h
     show ∃ q ∈ p::r,q.2=(match Nat.beq p.1 t with|true=>p.2|false=>lkE r t)
     cases e:Nat.beq p.1 t with
     | true=>exact ⟨p,by simp,rfl⟩
     | false =>
      rw[e]at h
      obtain ⟨q,hq,hq2⟩:=ih h
      exact ⟨q,List.mem_cons_of_mem _ hq,hq2⟩
   obtain ⟨p,hp,hp2⟩:=this _ h1
   rw[<-hp2]
   obtain ⟨q,hq1,hq2⟩:=a4 p hp
   rw[hq1]
   exact goodP_cells λ c hc=>cellOk_good hBR (hq2 c hc)
  ·rw[h2]
   cases hm:memE t Ft.fx with
   | false=>rw[memE_not hm];trivial
   | true =>
    have hg:=hlk t
    rw[hfxm t hm]at hg
    have hf:=fixE_get hfe t hm
    cases hv:lkE Ft.fx t with
    | pv p =>
     rw[hv]at hg hf
     cases p with
     | one c=>exact fixC_good hGH hBR hf hg
     | agg cs=>exact λ c hc=>fixC_good hGH hBR (List.all_eq_true.1 hf c hc) (hg c hc)
    | tup ps =>
     rw[hv]at hg hf
     intro p hp
     have hfp:=List.all_eq_true.1 hf p hp
     have hgp:=hg p hp
     cases p with
     | one c=>exact fixC_good hGH hBR hfp hgp
     | agg cs=>exact λ c hc=>fixC_good hGH hBR (List.all_eq_true.1 hfp c hc) (hgp c hc)
 ·show goodB (s'.blk Ft) (s'.blk Ft j)
  rcases Nat.lt_or_ge j π.length with hj|hj
  ·have hj':=List.getElem?_eq_getElem hj
   have hbr:=hBR j _ hj'
   have hvo:=b6 j
   rw[Nat.zero_add]at hvo
   cases hq:s'.blk Ft j with
   | var cs =>
    have hv:=hvo cs hq
    rcases hv with hv|⟨hv1,hv2⟩
    ·exact λ c hc=>cellOk_good hBR (hv c hc)
    ·have hg:=hGH j
     rw[hv1]at hg
     exact λ c hc=>fixC_good hGH hBR (List.all_eq_true.1 hv2 c hc) (hg c hc)
   | rows t n xs=>rw[hq]at hbr;exact (hbr.rows rfl).1.symm
   | raw t css=>rw[hq]at hbr;exact absurd rfl hbr.raw
   | deep t n xs o =>
    rw[hq]at hbr
    rcases hbr with e|⟨_,_,_,_,e⟩|⟨_,_,_,e⟩|⟨t',n',xs',e',e⟩
    ·cases e
    ·cases e
    ·cases e
    ·cases e
     have hg:=hGH (π[j])
     rw[e']at hg
     exact ⟨rfl,hg.2.1,trivial⟩
   | _=>trivial
  ·have:s'.blk Ft j=.no:=blkL_ge (by show (bldH _ 0 heap b).length<=j;rw[b7,<-hπ];exact hj)
   rw[this];trivial
 ·rw[hk0]at hj
  have hj':=preK_get hk j hj
  rw[Nat.zero_add]at hj'
  have hbr:=hBR j j hj'
  have e:s'.blk Ft j=.rows t n xs:=e
  obtain ⟨g1,n',g2⟩:=hbr.rows e
  have:=hG.n0 j t n' xs hj g2
  rw[hn0,this,g1,hG.rlen g2]
 ·rw[hk0]at hj
  have hj':=preK_get hk j hj
  rw[Nat.zero_add]at hj'
  have hbr:=hBR j j hj'
  have e:s'.blk Ft j=.deep t n xs o:=e
  obtain ⟨g1,n',g2⟩:=hbr.deep e
  have:=hG.n1 j t n' xs none hj g2
  have hg:=hGH j
  rw[g2]at hg
  rw[hn0,this,g1,hg.1]
 ·-- the state seen in another way
  have hfl:∀ t ∈ Ft.fx.map (·.1),Fm.lk (s.conc F).env t=(lkE Ft.fx t).conc/\fixV π (lkE Ft.fx t)=true:=λ t ht=>by
   have hm:=memE_iff.2 ht
   exact ⟨by rw[hEC,hfxm t hm],fixE_get hfe t hm⟩
  obtain ⟨e2,c1,c2,c3⟩:=lendE_fix (h:=s.blk F) (f:=8) hn hfl
  have hnorm:normS F.k0 (env.map (·.1)++Ft.fx.map (·.1)) π 9 (s.conc F)=some ⟨e++e2,hs⟩:=by
   have hH':hOf (s.conc F).heap=hC (s.blk F):=by
    funext i;exact hOf_heapC _ _ _ _
   unfold normS
   rw[if_pos (by rw[hn,hk];rfl),hH',lendE_append a1 c1,b1]
  refine (weak_norm hnorm).trans (weak0 (λ t=>.inl ?_) (λ i => ?_))
  ·show leS0 (Fm.lk (e++e2) t) (Fm.lk (envC (bldE env a++Ft.fx)) t)
   rw[envC_append]
   rcases lkS_append (t:=t) e e2 with ⟨h1,h2⟩|⟨h1,h2⟩
   ·rcases lkS_append (t:=t) (envC (bldE env a)) (envC Ft.fx) with ⟨g1,g2⟩|⟨g1,g2⟩
    ·rw[h2,g2];exact a3 t
    ·rw[envC_slots,hslots]at g1
     rw[a2]at h1
     exact absurd h1 g1
   ·rcases lkS_append (t:=t) (envC (bldE env a)) (envC Ft.fx) with ⟨g1,g2⟩|⟨g1,g2⟩
    ·rw[envC_slots,hslots]at g1
     rw[a2]at h1
     exact absurd g1 h1
    ·rw[h2,g2,lk_envC]
     by_cases ht:t ∈ Ft.fx.map (·.1)
     ·rw[c3 t ht];exact leS0_refl _
     ·have hmf:memE t Ft.fx=false:=by
       cases hm:memE t Ft.fx with
       | false=>rfl
       | true=>exact absurd (memE_iff.1 hm) ht
      rw[lkS_not (e:=e2) (by rw[c2];exact ht),memE_not hmf]
      exact .inl rfl
  ·exact b3 i
theorem dec_ok (hG:Good F s) {π:List Nat} {sh:Shp} {ds:List Dat} (hn:nodB π=true) (hk:preK F.k0 π 0=true) (hfa:fixAt sh.heap F.fb=true) (hfe:fixE π F.fx=true) (hN:noN sh.heap=true)
  (hfo:fixOnly F.fb s.heap 0 sh.heap=true) (hap:apart F.fx s.env=true) (hπ:π.length=sh.heap.length) (h:sh.dec (s.lk F) (s.blk F) π=some ds) :
  Good F (sh.bld ds)/\Weak F.k0 (s.conc F) ((sh.bld ds).conc F):=by
 unfold Shp.dec at h
 split at h
 ·rename_i a b hE hH
  split at h
  ·rename_i hcov
   cases h
   have hGH:GoodH (s.blk F):=hG.heap
   obtain ⟨e,a1,a2,a3,a4,⟨a5,a6⟩,a7⟩:=decE_ok (f:=7) hGH hn hG.env (λ t=>s.lk_conc F t) (rest:=b) hE
   obtain ⟨o1,o2⟩:=decHO hGH hn (rest:=[]) hH
   have hO:OwnsP (s.blk F) π (bldO sh.env a++bldHO sh.heap b):=λ p hp=>(List.mem_append.1 hp).elim (a6 p) (o1 p)
   have hdrop:(a++b).drop (envTys sh.env).length=b:=by
    rw[<-a7,List.length_map]
    exact List.drop_left' rfl
   have hbld:sh.bld (a++b)=⟨bldE sh.env a,bldH (bldO sh.env a++bldHO sh.heap b) 0 sh.heap b⟩:=by
    show (⟨bldE sh.env (a++b),bldH (bldO sh.env (a++b)++bldHO sh.heap ((a++b).drop _)) 0 sh.heap ((a++b).drop _)⟩:TS)=_
    rw[hdrop,a5,bldE_app a7]
   rw[hbld]
   refine dec_gen hG rfl rfl hn hk hfa hfe hN (λ i hi => ?_) (λ t ht => ?_) hπ hE hH hO hcov
   ·have:=(fixOnly_get hfo hi).1
    rw[Nat.zero_add]at this
    have:=blkL_fix (fb:=F.fb) (j:=0) this
    rw[Nat.zero_add]at this
    exact this
   ·rcases lkE_append (t:=t) s.env F.fx with ⟨h1,_⟩|⟨_,h2⟩
    ·rw[apart_get hap t ht]at h1;cases h1
    ·exact h2
  ·cases h
 ·cases h
theorem see_ok (hL:LvOk F) (hG:Good F s) {sh:Shp} {ds:List Dat} (h:sh.see F s=some ds):Good F (sh.bld ds)/\Weak F.k0 (s.conc F) ((sh.bld ds).conc F):=by
 unfold Shp.see at h
 simp only at h
 split at h
 ·rename_i hok
  simp only[Bool.and_eq_true]at hok
  obtain ⟨⟨⟨⟨⟨⟨h1,h2⟩,h3⟩,h4⟩,h5⟩,h6⟩,h7⟩:=hok
  obtain ⟨g1,g2⟩:=prep_ok (k0:=F.k0) hL sh hG
  obtain ⟨q1,q2⟩:=dec_ok g1 h1 h2 h3 h4 h5 h6 h7 (piOf_len _ _ _) h
  exact ⟨q1,g2.trans q2⟩
 ·cases h
end Go.Fm
namespace Go.Fm
variable [Globs] [Structs] [Tabs]
variable {F:Lv} {s:TS} {R:Type}
theorem castD_some {d:Dat} {t:Ty} {v:t.den} (h:castD d t=some v):(⟨t,v⟩:Dat)=d:=by
 unfold castD at h
 split at h
 ·rename_i e
  cases Option.some.inj h
  cases d with|mk t' v'=>cases e;rfl
 ·cases h
theorem toD_ofD:∀ {l:List Ty} {ds:List Dat} {v:tup l},ofD l ds=some v->toD l v=ds
 | [],[],v,h=>rfl
 | [],_::_,v,h=>by cases h
 | [t],[],v,h=>by cases h
 | [t],[d],v,h=>by
  have h:castD d t=some v:=h
  show [(⟨t,v⟩:Dat)]=[d]
  rw[castD_some h]
 | [t],_::_::_,v,h=>by cases h
 | t::u::r,[],v,h=>by cases h
 | t::u::r,d::ds,v,h=>by
  have h:(match castD d t,ofD (u::r) ds with|some v,some w=>some (v,w)|_,_=>none)=some v:=h
  split at h
  ·rename_i v' w hv hw
   cases h
   show (⟨t,v'⟩:Dat)::toD (u::r) w=d::ds
   rw[castD_some hv,toD_ofD hw]
  ·cases h
theorem mkS_of {sh:Shp} {ds:List Dat} {a:tup sh.tys} (h:ofD sh.tys ds=some a):sh.mkS a=sh.bld ds:=by
 unfold Shp.mkS;rw[toD_ofD h]
section
variable {P:Program} {nt k0:Nat} {σ:S} {Q Q2:Ex->S->Prop}
theorem W.post {c:Code} (h:W P nt k0 c σ Q) (hq:∀ e s,Q e s->∃ s2,Weak k0 s s2/\Q2 e s2):W P nt k0 c σ Q2:=λ hm=>by
 obtain ⟨e,s',h1,h2⟩:=h hm
 obtain ⟨s2,hw,h3⟩:=hq e s' h2
 exact ⟨e,s2,λ C hP hn hk a w R=>wp_mono (h1 C hP hn hk a w R) λ e' a' w' ⟨he,R'⟩=>⟨he,hw C a' w' hk R'⟩,h3⟩
end
theorem see_mk (hL:LvOk F) (hG:Good F s) {sh:Shp} {ds:List Dat} {a:tup sh.tys} (h:sh.see F s=some ds) (ha:ofD sh.tys ds=some a):Good F (sh.mkS a)/\Weak F.k0 (s.conc F) ((sh.mkS a).conc F):=by
 rw[mkS_of ha];exact see_ok hL hG h
theorem exEq_iff {a b:Ex} (h:exEq a b=true):a=b:=by
 cases a<;>cases b<;>first|rfl|cases h|skip
 rw[Nat.eq_of_beq_eq_true h]
theorem encO_ok (hL:LvOk F) (hG:Good F s) {e:Ex} {Fo:Lv} {K:Ex->TS->Option R} {r:R}:∀ {outs:List (Ex×Shp)} {o:osum outs},encO F s e outs=some o->caseO Fo F K outs o=some r →
  ∃ s',Good F s'/\Weak F.k0 (s.conc F) (s'.conc F)/\K e (outS Fo F s')=some r
 | [],o,h,_=>by cases h
 | [x],o,h,hc=>by
  have h:(match exEq x.1 e with
   | true=>(match x.2.see F s with|some ds=>ofD x.2.tys ds|none=>none)
   | false=>none)=some o:=h
  have hc:K x.1 (outS Fo F (x.2.mkS o))=some r:=hc
  split at h
  ·rename_i he
   split at h
   ·rename_i ds hs
    obtain ⟨g1,g2⟩:=see_mk hL hG hs h
    exact ⟨_,g1,g2,exEq_iff he▸hc⟩
   ·cases h
  ·cases h
 | x::y::r',o,h,hc=>by
  have h:(match exEq x.1 e with
   | true=>(match x.2.see F s with
    | some ds=>(match ofD x.2.tys ds with|some d=>some (.inl d)|none=>none)
    | none=>none)
   | false=>(match encO F s e (y::r') with|some o=>some (.inr o)|none=>none))=some o:=h
  split at h
  ·rename_i he
   split at h
   ·rename_i ds hs
    split at h
    ·rename_i d hd
     cases h
     have hc:K x.1 (outS Fo F (x.2.mkS d))=some r:=hc
     obtain ⟨g1,g2⟩:=see_mk hL hG hs hd
     exact ⟨_,g1,g2,exEq_iff he▸hc⟩
    ·cases h
   ·cases h
  ·split at h
   ·rename_i o' ho
    cases h
    have hc:caseO Fo F K (y::r') o'=some r:=hc
    exact encO_ok hL hG ho hc
   ·cases h
theorem stayE_get {fb:List Nat}:∀ {e:TE},stayE fb e=true->∀ t,stayV fb (lkE e t)=true\/lkE e t=tone .dead
 | [],_,t=>.inr rfl
 | p::r,h,t=>by
  simp only[stayE,Bool.and_eq_true]at h
  show stayV fb (match Nat.beq p.1 t with|true=>p.2|false=>lkE r t)=true\/(match Nat.beq p.1 t with|true=>p.2|false=>lkE r t)=tone .dead
  cases Nat.beq p.1 t with
  | true=>exact .inl h.1
  | false=>exact stayE_get h.2 t
theorem stayBs_get {fb:List Nat}:∀ {l:List (Nat×TB)},stayBs fb l=true->∀ j,stayB fb (lkB l j)=true
 | [],_,j=>rfl
 | p::r,h,j=>by
  simp only[stayBs,Bool.and_eq_true]at h
  show stayB fb (match Nat.beq p.1 j with|true=>p.2|false=>lkB r j)=true
  cases Nat.beq p.1 j with
  | true =>
   have h1:=h.1
   show stayB fb p.2=true
   cases hp:p.2<;>rw[hp]at h1<;>first|exact h1|rfl
  | false=>exact stayBs_get h.2 j
theorem lvOk_of (h:lvOkB F=true) (hn:∀ j,lkB F.fb j≠.fix):LvOk F:=by
 simp only[lvOkB,Bool.and_eq_true]at h
 exact ⟨stayE_get h.1,stayBs_get h.2,hn⟩
theorem lkB_append {j:Nat}:∀ (a b:List (Nat×TB)),(j ∈ a.map (·.1)/\lkB (a++b) j=lkB a j)\/(j ∉ a.map (·.1)/\lkB (a++b) j=lkB b j)
 | [],b=>.inr ⟨by simp,rfl⟩
 | p::r,b=>by
  show (_/\(match Nat.beq p.1 j with|true=>p.2|false=>lkB (r++b) j)=(match Nat.beq p.1 j with|true=>p.2|false=>lkB r j))\/(_/\(match Nat.beq p.1 j with|true=>p.2|false=>lkB (r++b) j)=_)
  cases e:Nat.beq p.1 j with
  | true=>exact .inl ⟨by rw[<-Nat.eq_of_beq_eq_true e];simp,rfl⟩
  | false =>
   have hne:p.1≠j:=λ h=>by rw[h,beq_self]at e;cases e
   rcases lkB_append (j:=j) r b with ⟨h1,h2⟩|⟨h1,h2⟩
   ·exact .inl ⟨List.mem_cons_of_mem _ h1,h2⟩
   ·refine .inr ⟨?_,h2⟩
    simp only[List.map_cons,List.mem_cons,not_or]
    exact ⟨Ne.symm hne,h1⟩
theorem lkB_not {j:Nat}:∀ {l:List (Nat×TB)},j ∉ l.map (·.1)->lkB l j=.no
 | [],_=>rfl
 | p::r,h=>by
  simp only[List.map_cons,List.mem_cons,not_or]at h
  show (match Nat.beq p.1 j with|true=>p.2|false=>lkB r j)=.no
  rw[beq_ne (Ne.symm h.1)]
  exact lkB_not h.2
theorem blk_nf (hL:LvOk F):∀ j,s.blk F j≠.fix:=by
 have:∀ (l:List TB) (k j:Nat),blkL F.fb k l j≠.fix:=by
  intro l
  induction l with
  | nil=>intro k j;rw[blkL_nil];exact λ h=>by cases h
  | cons b r ih =>
   intro k j
   cases j with
   | zero =>
    show TB.res F.fb k b≠.fix
    cases b
    case fix=>exact hL.nf k
    all_goals exact λ h=>by cases h
   | succ j=>exact ih (k+1) j
 exact λ j=>this _ _ _
theorem blkL0_nf:∀ (l:List TB) (k j:Nat),blkL [] k l j≠.fix
 | [],k,j=>by rw[blkL_nil];exact λ h=>by cases h
 | b::r,k,0=>by
  show TB.res [] k b≠.fix
  cases b
  case fix=>show TB.no≠.fix;exact λ h=>by cases h
  all_goals exact λ h=>by cases h
 | b::r,k,j+1=>blkL0_nf r (k+1) j
theorem lkB_all {p:TB->Prop} (h0:p .no):∀ {l:List (Nat×TB)},(∀ q ∈ l,p q.2)->∀ j,p (lkB l j)
 | [],_,j=>h0
 | q::r,h,j=>by
  show p (match Nat.beq q.1 j with|true=>q.2|false=>lkB r j)
  cases Nat.beq q.1 j with
  | true=>exact h q (by simp)
  | false=>exact lkB_all h0 (λ x hx=>h x (List.mem_cons_of_mem _ hx)) j
theorem lessN_mem {p:Nat->Bool}:∀ {l:List Nat} {x:Nat},x ∈ lessN p l ↔ x ∈ l/\p x=false
 | [],x=>by simp[lessN]
 | y::r,x=>by
  show x ∈ (match p y with|true=>lessN p r|false=>y::lessN p r) ↔ _
  cases e:p y with
  | true =>
   show x ∈ lessN p r ↔ _
   rw[lessN_mem (l:=r)]
   constructor
   ·exact λ h=>⟨List.mem_cons_of_mem _ h.1,h.2⟩
   ·rintro ⟨h1,h2⟩
    rcases List.mem_cons.1 h1 with rfl|h1
    ·rw[e]at h2;cases h2
    ·exact ⟨h1,h2⟩
  | false =>
   show x ∈ y::lessN p r ↔ _
   rw[List.mem_cons,lessN_mem (l:=r),List.mem_cons]
   constructor
   ·rintro (rfl|h)
    ·exact ⟨.inl rfl,e⟩
    ·exact ⟨.inr h.1,h.2⟩
   ·rintro ⟨h1|h1,h2⟩
    ·exact .inl h1
    ·exact .inr ⟨h1,h2⟩
theorem keepE_slots (F:Lv) (s:TS):∀ l,(keepE F s l).map (·.1)=l
 | []=>rfl
 | t::r=>by simp only[keepE,List.map_cons,keepE_slots F s r]
theorem keepB_slots (F:Lv) (s:TS):∀ l,(keepB F s l).map (·.1)=l
 | []=>rfl
 | t::r=>by simp only[keepB,List.map_cons,keepB_slots F s r]
theorem keepE_get {t:Nat}:∀ {l:List Nat},t ∈ l->lkE (keepE F s l) t=s.lk F t
 | [],h=>by simp at h
 | u::r,h=>by
  show (match Nat.beq u t with|true=>s.lk F u|false=>lkE (keepE F s r) t)=_
  cases e:Nat.beq u t with
  | true=>rw[Nat.eq_of_beq_eq_true e]
  | false =>
   rcases List.mem_cons.1 h with rfl|h
   ·rw[beq_self]at e;cases e
   ·exact keepE_get h
theorem keepB_get {t:Nat}:∀ {l:List Nat},t ∈ l->lkB (keepB F s l) t=s.blk F t
 | [],h=>by simp at h
 | u::r,h=>by
  show (match Nat.beq u t with|true=>s.blk F u|false=>lkB (keepB F s r) t)=_
  cases e:Nat.beq u t with
  | true=>rw[Nat.eq_of_beq_eq_true e]
  | false =>
   rcases List.mem_cons.1 h with rfl|h
   ·rw[beq_self]at e;cases e
   ·exact keepB_get h
theorem dropE_get {t:Nat} {ks:List Nat}:∀ {e:TE},(t ∈ ks->memE t (dropE ks e)=false)/\(t ∉ ks->memE t (dropE ks e)=memE t e/\lkE (dropE ks e) t=lkE e t)
 | []=>⟨λ _=>rfl,λ _=>⟨rfl,rfl⟩⟩
 | p::r=>by
  obtain ⟨h1,h2⟩:=dropE_get (t:=t) (ks:=ks) (e:=r)
  show (t ∈ ks->memE t (match elemN p.1 ks with|true=>dropE ks r|false=>p::dropE ks r)=false)/\(t ∉ ks->memE t (match elemN p.1 ks with|true=>dropE ks r|false=>p::dropE ks r)=(Nat.beq p.1 t || memE t r) ∧
   lkE (match elemN p.1 ks with|true=>dropE ks r|false=>p::dropE ks r) t=(match Nat.beq p.1 t with|true=>p.2|false=>lkE r t))
  cases e:elemN p.1 ks with
  | true =>
   refine ⟨h1,λ ht => ?_⟩
   have:p.1≠t:=λ h=>ht (h▸elemN_iff.1 e)
   rw[beq_ne this]
   exact h2 ht
  | false =>
   refine ⟨λ ht => ?_,λ ht => ?_⟩
   ·show (Nat.beq p.1 t || memE t (dropE ks r))=false
    rw[h1 ht,beq_ne (λ h=>elemN_not.1 e (by rw[h];exact ht))];rfl
   ·show (Nat.beq p.1 t || memE t (dropE ks r))=_/\(match Nat.beq p.1 t with|true=>p.2|false=>lkE (dropE ks r) t)=_
    rw[(h2 ht).1,(h2 ht).2]
    exact ⟨rfl,rfl⟩
theorem blkL_fixH {fb:List Nat} {B B2:List (Nat×TB)} (hB:∀ j,j ∈ fb->True):∀ {l:List TB} {j i:Nat},(∀ i,l[i]? = some .fix->lkB B2 (j+i)=lkB B (j+i)) →
  (∀ i,i < l.length->elemN (j+i) fb=true->lkB B2 (j+i)=blkL B j l i)->i < l.length->blkL B2 j (fixH fb j l) i=blkL B j l i
 | [],j,i,_,_,hi=>by simp at hi
 | b::r,j,0,h1,h2,_=>by
  show TB.res B2 j (match elemN j fb with|true=>.fix|false=>b)=TB.res B j b
  cases e:elemN j fb with
  | true=>exact h2 0 (by simp) e
  | false =>
   show TB.res B2 j b=TB.res B j b
   cases b<;>try rfl
   exact h1 0 rfl
 | b::r,j,i+1,h1,h2,hi=>by
  show blkL B2 (j+1) (fixH fb (j+1) r) i=blkL B (j+1) r i
  refine blkL_fixH hB (λ k hk => ?_) (λ k hk he => ?_) (by simpa using hi)
  ·have:=h1 (k+1) (by simpa using hk)
   rwa [show j+(k+1)=j+1+k by omega]at this
  ·have:=h2 (k+1) (by simpa using hk) (by rw[show j+(k+1)=j+1+k by omega];exact he)
   rwa [show j+(k+1)=j+1+k by omega]at this
theorem fixH_len (fb:List Nat):∀ (l:List TB) (j:Nat),(fixH fb j l).length=l.length
 | [],_=>rfl
 | b::r,j=>by simp only[fixH,List.length_cons,fixH_len fb r (j+1)]
theorem allLt_get {n:Nat}:∀ {l:List (Nat×TB)},allLt n l=true->∀ i ∈ l.map (·.1),i < n
 | [],_,i,h=>by simp at h
 | p::r,h,i,hi=>by
  simp only[allLt,Bool.and_eq_true]at h
  rcases List.mem_cons.1 hi with rfl|hi
  ·exact Nat.blt_eq▸h.1
  ·exact allLt_get h.2 i hi
theorem good_eq {F1:Lv} {s1:TS} (hG:Good F s) (hk:F1.k0=F.k0) (hn:F1.n0=F.n0) (hl:s1.heap.length=s.heap.length) (hfb:∀ i ∈ F1.fb.map (·.1),i < s1.heap.length) (hlk:∀ t,s1.lk F1 t=s.lk F t) (hb:∀ j,s1.blk F1 j=s.blk F j):Good F1 s1 where
 k0:=by rw[hk,hl];exact hG.k0
 fb:=hfb
 env:=λ t=>by rw[hlk,funext hb];exact hG.env t
 heap:=λ j=>by rw[hb,funext hb];exact hG.heap j
 n0:=λ j t n xs hj e=>by rw[hn];rw[hk]at hj;rw[hb]at e;exact hG.n0 j t n xs hj e
 n1:=λ j t n xs o hj e=>by rw[hn];rw[hk]at hj;rw[hb]at e;exact hG.n1 j t n xs o hj e
theorem weak_eq {F1:Lv} {s1:TS} {k0:Nat} (hlk:∀ t,s1.lk F1 t=s.lk F t) (hb:∀ j,s1.blk F1 j=s.blk F j):Weak k0 (s.conc F) (s1.conc F1) :=
 weak_st (λ t=>by show (s1.conc F1).st.env t=(s.conc F).st.env t;rw[TS.lk_conc,TS.lk_conc,hlk]) (λ i=>by show (s1.conc F1).st.heap i=(s.conc F).st.heap i;rw[TS.blk_conc,TS.blk_conc,hb])
theorem fixS_ok (hL:LvOk F) (hG:Good F s) {ks fb:List Nat} {F1:Lv} {s1:TS} (h:fixS F s ks fb=(F1,s1)) (hok:lvOkB F1=true) (hlt:allLt s.heap.length F1.fb=true) :
  LvOk F1/\Good F1 s1/\(∀ t,s1.lk F1 t=s.lk F t)/\(∀ j,s1.blk F1 j=s.blk F j)/\F1.k0=F.k0/\F1.n0=F.n0/\(∀ t,memE t F.fx=true->lkE F1.fx t=lkE F.fx t) ∧
   (∀ t,memE t F.fx=true->memE t F1.fx=true)/\(∀ j ∈ F.fb.map (·.1),lkB F1.fb j=lkB F.fb j/\j ∈ F1.fb.map (·.1)):=by
 unfold fixS at h
 simp only[Prod.mk.injEq]at h
 obtain ⟨e1,e2⟩:=h
 generalize hks:lessN (λ t=>memE t F.fx) ks=K at e1 e2
 generalize hfs:lessN (λ j=>elemN j (F.fb.map (·.1))) fb=B at e1 e2
 have hK:∀ t ∈ K,memE t F.fx=false:=λ t ht=>by rw[<-hks]at ht;exact (lessN_mem.1 ht).2
 have hB:∀ t ∈ B,t ∉ F.fb.map (·.1):=λ t ht=>by rw[<-hfs]at ht;exact elemN_not.1 (lessN_mem.1 ht).2
 have hfx:F1.fx=keepE F s K++F.fx:=by rw[<-e1]
 have hfb:F1.fb=keepB F s B++F.fb:=by rw[<-e1]
 have hfx1:∀ t,t ∉ K->lkE F1.fx t=lkE F.fx t:=λ t ht=>by
  rw[hfx]
  rcases lkE_append (t:=t) (keepE F s K) F.fx with ⟨h1,_⟩|⟨_,h2⟩
  ·rw[memE_iff,keepE_slots]at h1;exact absurd h1 ht
  ·exact h2
 have hfb1:∀ j,j ∉ B->lkB F1.fb j=lkB F.fb j:=λ j hj=>by
  rw[hfb]
  rcases lkB_append (j:=j) (keepB F s B) F.fb with ⟨h1,_⟩|⟨_,h2⟩
  ·rw[keepB_slots]at h1;exact absurd h1 hj
  ·exact h2
 have hfb2:∀ j,j ∈ B->lkB F1.fb j=s.blk F j:=λ j hj=>by
  rw[hfb]
  rcases lkB_append (j:=j) (keepB F s B) F.fb with ⟨_,h2⟩|⟨h1,_⟩
  ·rw[h2,keepB_get hj]
  ·rw[keepB_slots]at h1;exact absurd hj h1
 have hlk:∀ t,s1.lk F1 t=s.lk F t:=λ t=>by
  show lkE (s1.env++F1.fx) t=_
  rw[<-e2]
  show lkE (dropE K s.env++F1.fx) t=_
  rcases lkE_append (t:=t) (dropE K s.env) F1.fx with ⟨h1,h2⟩|⟨h1,h2⟩
  ·by_cases ht:t ∈ K
   ·rw[dropE_get.1 ht]at h1;cases h1
   ·obtain ⟨g1,g2⟩:=(dropE_get (e:=s.env)).2 ht
    rw[h2,g2]
    rw[g1]at h1
    rcases lkE_append (t:=t) s.env F.fx with ⟨_,q⟩|⟨q,_⟩
    ·exact q.symm
    ·rw[h1]at q;cases q
  ·rw[h2]
   by_cases ht:t ∈ K
   ·rw[hfx]
    rcases lkE_append (t:=t) (keepE F s K) F.fx with ⟨_,q⟩|⟨q,_⟩
    ·rw[q,keepE_get ht]
    ·exfalso
     have:memE t (keepE F s K)=true:=by rw[memE_iff,keepE_slots];exact ht
     rw[this]at q;cases q
   ·rw[hfx1 t ht]
    rw[((dropE_get (e:=s.env)).2 ht).1]at h1
    rcases lkE_append (t:=t) s.env F.fx with ⟨q,_⟩|⟨_,q⟩
    ·rw[h1]at q;cases q
    ·exact q.symm
 have hblk:∀ j,s1.blk F1 j=s.blk F j:=λ j=>by
  show blkL F1.fb 0 s1.heap j=blkL F.fb 0 s.heap j
  rw[<-e2]
  show blkL F1.fb 0 (fixH B 0 s.heap) j=blkL F.fb 0 s.heap j
  rcases Nat.lt_or_ge j s.heap.length with hj|hj
  ·refine blkL_fixH (λ _ _=>trivial) (λ i hi => ?_) (λ i hi he => ?_) hj
   ·by_cases hm:0+i ∈ B
    ·have:=hfb2 _ hm
     rw[Nat.zero_add]at this ⊢
     rw[this]
     have:=blkL_fix (fb:=F.fb) (j:=0) hi
     rwa [Nat.zero_add]at this
    ·exact hfb1 _ hm
   ·have:=hfb2 _ (elemN_iff.1 he)
    rwa [Nat.zero_add]at this ⊢
  ·rw[blkL_ge hj,blkL_ge (by rw[fixH_len];exact hj)]
 have hlen:s1.heap.length=s.heap.length:=by rw[<-e2];exact fixH_len _ _ _
 have hlt':=allLt_get hlt
 refine ⟨lvOk_of hok λ j => ?_,good_eq hG (by rw[<-e1]) (by rw[<-e1]) hlen (λ i hi=>by rw[hlen];exact hlt' i hi) hlk hblk,hlk,hblk,by rw[<-e1],by rw[<-e1],λ t ht=>hfx1 t λ hm => ?_,λ t ht => ?_,λ j hj=>⟨hfb1 j λ hm=>hB j hm hj,?_⟩⟩
 ·by_cases hj:j ∈ B
  ·rw[hfb2 j hj];exact blk_nf hL j
  ·rw[hfb1 j hj];exact hL.nf j
 ·rw[hK t hm]at ht;cases ht
 ·rw[hfx,memE_iff,List.map_append]
  exact List.mem_append_right _ (memE_iff.1 ht)
 ·rw[hfb,List.map_append]
  exact List.mem_append_right _ hj
theorem lessE_get {fx:TE} {t:Nat}:∀ {l:TE},(memE t fx=true->memE t (lessE fx l)=false)/\(memE t fx=false->memE t (lessE fx l)=memE t l/\lkE (lessE fx l) t=lkE l t)
 | []=>⟨λ _=>rfl,λ _=>⟨rfl,rfl⟩⟩
 | p::r=>by
  obtain ⟨h1,h2⟩:=lessE_get (fx:=fx) (t:=t) (l:=r)
  show (memE t fx=true->memE t (match memE p.1 fx with|true=>lessE fx r|false=>p::lessE fx r)=false)/\(memE t fx=false->memE t (match memE p.1 fx with|true=>lessE fx r|false=>p::lessE fx r)=(Nat.beq p.1 t || memE t r) ∧
   lkE (match memE p.1 fx with|true=>lessE fx r|false=>p::lessE fx r) t=(match Nat.beq p.1 t with|true=>p.2|false=>lkE r t))
  cases e:memE p.1 fx with
  | true =>
   refine ⟨h1,λ ht => ?_⟩
   have:p.1≠t:=λ h=>by rw[<-h,e]at ht;cases ht
   rw[beq_ne this]
   exact h2 ht
  | false =>
   refine ⟨λ ht => ?_,λ ht => ?_⟩
   ·show (Nat.beq p.1 t || memE t (lessE fx r))=false
    rw[h1 ht,beq_ne (λ h=>by rw[h,ht]at e;cases e)];rfl
   ·show (Nat.beq p.1 t || memE t (lessE fx r))=_/\(match Nat.beq p.1 t with|true=>p.2|false=>lkE (lessE fx r) t)=_
    rw[(h2 ht).1,(h2 ht).2]
    exact ⟨rfl,rfl⟩
theorem unfix_len (fb fb1:List (Nat×TB)):∀ (l:List TB) (j:Nat),(unfix fb fb1 j l).length=l.length
 | [],_=>rfl
 | b::r,j=>by cases b<;>simp only[unfix,List.length_cons,unfix_len fb fb1 r (j+1)]
theorem blkL_unfix {fb fb1:List (Nat×TB)} (h1:∀ j ∈ fb.map (·.1),lkB fb1 j=lkB fb j) (h2:∀ j,lkB fb1 j≠.fix):∀ {l:List TB} {j i:Nat},blkL fb j (unfix fb fb1 j l) i=blkL fb1 j l i
 | [],j,i=>by show blkL fb j [] i=_;rw[blkL_nil,blkL_nil]
 | b::r,j,i+1=>by
  have:blkL fb j (unfix fb fb1 j (b::r)) (i+1)=blkL fb (j+1) (unfix fb fb1 (j+1) r) i:=by cases b<;>rfl
  rw[this]
  exact blkL_unfix h1 h2 (l:=r)
 | b::r,j,0=>by
  cases b<;>try rfl
  show TB.res fb j (match elemN j (fb.map (·.1)) with|true=>.fix|false=>lkB fb1 j)=lkB fb1 j
  cases e:elemN j (fb.map (·.1)) with
  | true=>exact (h1 j (elemN_iff.1 e)).symm
  | false =>
   show TB.res fb j (lkB fb1 j)=_
   have:=h2 j
   cases hb:lkB fb1 j<;>first|rfl|exact absurd hb this
theorem outS_ok {F1:Lv} (hL1:LvOk F1) (hG:Good F1 s) (hk:F1.k0=F.k0) (hn:F1.n0=F.n0) (hx:∀ t,memE t F.fx=true->lkE F1.fx t=lkE F.fx t) (hx2:∀ t,memE t F.fx=true->memE t F1.fx=true)
  (hb:∀ j ∈ F.fb.map (·.1),lkB F1.fb j=lkB F.fb j/\j ∈ F1.fb.map (·.1)):Good F (outS F F1 s)/\Weak F.k0 (s.conc F1) ((outS F F1 s).conc F):=by
 have hlen:(outS F F1 s).heap.length=s.heap.length:=unfix_len _ _ _ _
 have hlk:∀ t,(outS F F1 s).lk F t=s.lk F1 t:=λ t=>by
  show lkE ((s.env++lessE F.fx F1.fx)++F.fx) t=lkE (s.env++F1.fx) t
  rw[List.append_assoc]
  rcases lkE_append (t:=t) s.env (lessE F.fx F1.fx++F.fx) with ⟨h1,h2⟩|⟨h1,h2⟩
  ·rcases lkE_append (t:=t) s.env F1.fx with ⟨_,q⟩|⟨q,_⟩
   ·rw[h2,q]
   ·rw[h1]at q;cases q
  ·rcases lkE_append (t:=t) s.env F1.fx with ⟨q,_⟩|⟨_,q⟩
   ·rw[h1]at q;cases q
   ·rw[h2,q]
    cases hm:memE t F.fx with
    | true =>
     rcases lkE_append (t:=t) (lessE F.fx F1.fx) F.fx with ⟨g,_⟩|⟨_,g⟩
     ·rw[lessE_get.1 hm]at g;cases g
     ·rw[g,hx t hm]
    | false =>
     obtain ⟨g1,g2⟩:=(lessE_get (l:=F1.fx)).2 hm
     rcases lkE_append (t:=t) (lessE F.fx F1.fx) F.fx with ⟨_,g⟩|⟨g,g'⟩
     ·rw[g,g2]
     ·rw[g',memE_not hm]
      rw[g1]at g
      rw[memE_not g]
 have hblk:∀ j,(outS F F1 s).blk F j=s.blk F1 j:=λ j=>blkL_unfix (λ j hj=>(hb j hj).1) hL1.nf
 exact ⟨good_eq hG hk.symm hn.symm hlen (λ i hi=>by rw[hlen];exact hG.fb i (hb i hi).2) hlk hblk,weak_eq hlk hblk⟩
end Go.Fm
namespace Go.Fm
variable [Globs] [Structs] [Tabs]
variable {F:Lv} {s:TS} {R:Type}
section
variable {h:Nat->TB} {π:List Nat}
theorem fixC_ix {id:Nat} (e:(match ixOf π id with|some j=>Nat.beq j id|none=>false)=true):π[id]? = some id:=by
 split at e
 ·rename_i j hj
  obtain rfl:=Nat.eq_of_beq_eq_true e
  exact ixOf_some hj
 ·cases e
theorem fixC_mem {id:Nat} (e:(match ixOf π id with|some j=>Nat.beq j id|none=>false)=true):elemN id π=true :=
 elemN_iff.2 (List.mem_of_getElem? (fixC_ix e))
theorem GoodH.len (hH:GoodH h) {id n:Nat} {t:Ty} {xs:List t.den} (e:h id=.rows t n xs):xs.length=n:=by
 have:=hH id
 rw[e]at this
 exact this
theorem GoodH.lenD (hH:GoodH h) {id n:Nat} {t:Ty} {xs:List t.den} (e:h id=.deep t n xs none):xs.length=n/\t.dpB=true:=by
 have:=hH id
 rw[e]at this
 exact ⟨this.1,this.2.1⟩
theorem own1_strict (hH:GoodH h) (hn:nodB π=true) {own:List (Nat×Nat)} {i:Nat} {c l l':TC} (hc:goodC h c) (hs:strictC π c=true) (he:leafC h π own i c=some l) (hr:CR l l'):own1 own i l'=c:=by
 have hf:fixC π c=true:=by cases c<;>first|exact hs|cases hs
 have hne:c≠.emp:=by intro e;subst e;cases hs
 unfold leafC at he
 split at he
 ·rename_i j hj
  split at he
  ·rename_i id n
   split at he
   ·rename_i t n' xs id' hb hp
    split at he
    ·rename_i hid
     cases he
     have:=Nat.eq_of_beq_eq_true hid
     subst this
     rcases hr with rfl|⟨e,_⟩
     ·have hf:(match ixOf π id with|some j=>Nat.beq j id|none=>false)=true:=hf
      have h1:=nodB_spec hn j id id hp (fixC_ix hf)
      show (match ownJ own i,(TC.imm t xs) with|some j, .imm t xs=>TC.arr j xs.length|_,c=>c)=_
      rw[hj]
      show TC.arr j xs.length=TC.arr id n
      rw[h1,hH.len hb,hc.2.1 _ _ _ hb]
     ·cases e
    ·cases he
   ·rename_i t n' xs id' hb hp
    split at he
    ·rename_i hid
     cases he
     have:=Nat.eq_of_beq_eq_true hid
     subst this
     rcases hr with rfl|⟨e,_⟩
     ·have hf:(match ixOf π id with|some j=>Nat.beq j id|none=>false)=true:=hf
      have h1:=nodB_spec hn j id id hp (fixC_ix hf)
      show (match ownJ own i,(TC.imm t xs) with|some j, .imm t xs=>TC.arr j xs.length|_,c=>c)=_
      rw[hj]
      show TC.arr j xs.length=TC.arr id n
      rw[h1,(hH.lenD hb).1,hc.2.2.2 _ _ _ _ hb]
     ·cases e
    ·cases he
   ·cases he
  ·cases he
 ·rename_i hj
  have hown:own1 own i l'=l':=by unfold own1;rw[hj]
  rw[hown]
  suffices l=c by
   subst this
   rcases hr with e|⟨e,_⟩
   ·exact e.symm
   ·exact absurd e hne
  cases c with
  | arr id n =>
   have hm:=fixC_mem (show (match ixOf π id with|some j=>Nat.beq j id|none=>false)=true from hf)
   unfold pureR at he
   simp only[hm]at he
   unfold pureC at he
   simp only[hm]at he
   cases he
  | win id t a b ys =>
   have hm:=fixC_mem (show (match ixOf π id with|some j=>Nat.beq j id|none=>false)=true from hf)
   simp only[pureR,pureC,hm]at he
   cases he
  | emp=>exact absurd rfl hne
  | _=>first|(simp only[pureR,pureC,TC.pure]at he;cases he;rfl)|(simp only[pureR,pureC,TC.pure]at he;cases he)
theorem ownSet_strict (hH:GoodH h) (hn:nodB π=true) {own:List (Nat×Nat)}:∀ {cs l l':List TC} {i:Nat},(∀ c ∈ cs,goodC h c)->cs.all (strictC π)=true->leafCs h π own i cs=some l->CRs l l'->ownSet own i l'=cs
 | [],l,l',i,_,_,he,hr=>by
  cases he
  cases l' with
  | nil=>rfl
  | cons _ _=>exact hr.elim
 | c::r,l,l',i,hc,hs,he,hr=>by
  unfold leafCs at he
  split at he
  ·rename_i c1 l1 h1 h2
   cases he
   simp only[List.all_cons,Bool.and_eq_true]at hs
   cases l' with
   | nil=>exact hr.elim
   | cons d r' =>
    rw[ownSet_cons,own1_strict hH hn (hc c (by simp)) hs.1 h1 hr.1,ownSet_strict hH hn (λ x hx=>hc x (List.mem_cons_of_mem _ hx)) hs.2 h2 hr.2]
  ·cases he
theorem decCs_strict (hH:GoodH h) (hn:nodB π=true) {t:Ty} {own:List (Nat×Nat)} {cs:List TC} {d:Dat} (hc:∀ c ∈ cs,goodC h c) (hs:cs.all (strictC π)=true) (he:decCs h π t own cs=some d):d.t=t/\ownSet own 0 (leaves d.t d.v)=cs:=by
 unfold decCs at he
 split at he
 ·rename_i l hl
  split at he
  ·rename_i v hv
   cases he
   exact ⟨rfl,ownSet_strict hH hn hc hs hl (mkT_made hv)⟩
  ·cases he
 ·cases he
theorem capsEq_strict (hn:nodB π=true):∀ {l l':List (Nat×Nat)},capsEq π l l'=true->(l.all λ p=>match ixOf π p.1 with|some j=>Nat.beq j p.1|none=>false)=true->l'=l
 | [],[],_,_=>rfl
 | [],_::_,h,_=>by cases h
 | _::_,[],h,_=>by cases h
 | p::r,q::s,he,hf=>by
  simp only[capsEq,Bool.and_eq_true]at he
  simp only[List.all_cons,Bool.and_eq_true]at hf
  obtain ⟨⟨h1,h2⟩,h3⟩:=he
  split at h1
  ·rename_i id hid
   have e1:=Nat.eq_of_beq_eq_true h1
   subst e1
   have:=nodB_spec hn q.1 p.1 p.1 (by rw[hid]) (fixC_ix hf.1)
   rw[capsEq_strict hn h3 hf.2]
   have e2:=Nat.eq_of_beq_eq_true h2
   cases p;cases q
   simp only at this e2
   rw[this,e2]
  ·cases h1
theorem sameC_strict (hn:nodB π=true) {c d:TC} (he:sameC π c d=true) (hf:fixC π c=true):d=c:=by
 unfold sameC at he
 split at he<;>try rfl
 ·rename_i id o j o'
  simp only[Bool.and_eq_true]at he
  obtain ⟨h1,h2⟩:=he
  split at h1
  ·rename_i id' hid
   have e1:=Nat.eq_of_beq_eq_true h1
   subst e1
   have hf:(match ixOf π id with|some j=>Nat.beq j id|none=>false)=true:=hf
   rw[nodB_spec hn j id id (by rw[hid]) (fixC_ix hf),Nat.eq_of_beq_eq_true h2]
  ·cases h1
 ·rename_i f l f' l'
  simp only[Bool.and_eq_true]at he
  rw[Nat.eq_of_beq_eq_true he.1,capsEq_strict hn he.2 hf]
 ·rename_i n m
  obtain rfl:=Nat.eq_of_beq_eq_true he
  rfl
 ·rename_i k n k' m
  simp only[Bool.and_eq_true]at he
  obtain ⟨h1,h2⟩:=he
  split at h1
  ·rename_i e
   obtain rfl:=e
   obtain rfl:=Nat.eq_of_beq_eq_true h2
   rfl
  ·cases h1
 ·cases he
theorem sameCs_strict (hn:nodB π=true):∀ {cs ds:List TC},sameCs π cs ds=true->cs.all (fixC π)=true->ds=cs
 | [],[],_,_=>rfl
 | [],_::_,h,_=>by cases h
 | _::_,[],h,_=>by cases h
 | c::r,d::s,he,hf=>by
  simp only[sameCs,Bool.and_eq_true]at he
  simp only[List.all_cons,Bool.and_eq_true]at hf
  rw[sameC_strict hn he.1 hf.1,sameCs_strict hn he.2 hf.2]
theorem decP_strict (hH:GoodH h) (hn:nodB π=true) {sh:VSh} {p:TP} {ds:List Dat} (hg:goodP h p) (hs:strictP π sh p=true) (he:decP h π sh p=some ds):bldP sh ds=p:=by
 unfold decP at he
 split at he
 ·rename_i t own c
  split at he
  ·rename_i d ht hd
   cases he
   obtain ⟨e1,e2⟩:=decCs_strict hH hn (cs:=[c]) (λ x hx=>by rw[List.mem_singleton.1 hx];exact hg) (by show (strictC π c&&true)=true;rw[show strictC π c=true from hs];rfl) hd
   show (match isSt d.t with|true=>TP.agg _|false=>.one ((ownSet own 0 (leaves d.t d.v)).headD .dead))=_
   rw[e2,show isSt d.t=false by rw[e1];exact ht];rfl
  ·cases he
 ·rename_i t own cs
  split at he
  ·rename_i d ht hd
   cases he
   obtain ⟨e1,e2⟩:=decCs_strict hH hn (cs:=cs) hg hs hd
   show (match isSt d.t with|true=>TP.agg (ownSet own 0 (leaves d.t d.v))|false=>_)=_
   rw[e2,show isSt d.t=true by rw[e1];exact ht]
  ·cases he
 ·rename_i d c
  split at he
  ·rename_i hd
   cases he
   show TP.one d=_
   rw[sameC_strict hn hd hs]
  ·cases he
 ·rename_i d c
  split at he
  ·rename_i hd
   cases he
   show TP.agg d=_
   rw[sameCs_strict hn hd hs]
  ·cases he
 ·cases he
theorem decCs_ty {t:Ty} {own:List (Nat×Nat)} {cs:List TC} {d:Dat} (he:decCs h π t own cs=some d):d.t=t:=by
 unfold decCs at he
 split at he
 ·split at he
  ·cases he;rfl
  ·cases he
 ·cases he
theorem decP_tys {sh:VSh} {p:TP} {ds:List Dat} (he:decP h π sh p=some ds):ds.map (·.t)=sh.tys:=by
 unfold decP at he
 split at he
 ·split at he
  ·rename_i d _ hd;cases he;simp[VSh.tys,decCs_ty hd]
  ·cases he
 ·split at he
  ·rename_i d _ hd;cases he;simp[VSh.tys,decCs_ty hd]
  ·cases he
 ·split at he
  ·cases he;rfl
  ·cases he
 ·split at he
  ·cases he;rfl
  ·cases he
 ·cases he
theorem decB_tys {j:Nat} {b:BSh} {ds:List Dat} (he:decB h π j b=some ds):ds.map (·.t)=b.tys:=by
 unfold decB at he
 split at he
 ·cases he;rfl
 ·split at he
  ·split at he<;>cases he<;>rfl
  ·cases he
 ·split at he
  ·split at he<;>cases he;rfl
  ·cases he
 ·split at he
  ·split at he<;>cases he;rfl
  ·cases he
 ·split at he
  ·split at he<;>cases he;rfl
  ·cases he
 ·split at he
  ·split at he
   ·split at he
    ·cases he;rfl
    ·cases he
   ·cases he
  ·cases he
 ·split at he
  ·split at he
   ·split at he
    ·cases he;rfl
    ·cases he
   ·cases he
  ·cases he
 ·split at he
  ·split at he
   ·split at he
    ·rename_i d hd;cases he;simp[BSh.tys,decCs_ty hd]
    ·cases he
   ·cases he
  ·cases he
 ·split at he
  ·split at he
   ·split at he
    ·cases he;rfl
    ·cases he
   ·cases he
  ·cases he
theorem decE_tys {lk:Nat->TV}:∀ {env:List (Nat×VSh)} {ds:List Dat},decE lk h π env=some ds->ds.map (·.t)=envTys env
 | [],ds,he=>by cases he;rfl
 | p::r,ds,he=>by
  unfold decE at he
  split at he
  ·rename_i a b h1 h2
   cases he
   unfold decV at h1
   split at h1
   ·rw[List.map_append,decP_tys h1,decE_tys h2];rfl
   ·cases h1
  ·cases he
theorem decE_get {lk:Nat->TV} {t:Nat} {sh:VSh}:∀ {env:List (Nat×VSh)} {ds:List Dat},decE lk h π env=some ds->lkV env t=some sh →
  ∃ d,decV h π sh (lk t)=some d/\lkE (bldE env ds) t=.pv (bldP sh d)/\memE t (bldE env ds)=true
 | [],ds,_,hl=>by cases hl
 | p::r,ds,he,hl=>by
  unfold decE at he
  split at he
  ·rename_i a b h1 h2
   cases he
   have hl:(match Nat.beq p.1 t with|true=>some p.2|false=>lkV r t)=some sh:=hl
   have hty:a.map (·.t)=p.2.tys:=by
    unfold decV at h1
    split at h1
    ·exact decP_tys h1
    ·cases h1
   rw[(bldE_cons (r:=r) (rest:=b) hty).1]
   show ∃ d,_/\(match Nat.beq p.1 t with|true=>TV.pv (bldP p.2 a)|false=>lkE (bldE r b) t)=_/\(Nat.beq p.1 t || memE t (bldE r b))=true
   cases e:Nat.beq p.1 t with
   | true =>
    rw[e]at hl
    cases hl
    exact ⟨a,by rw[<-Nat.eq_of_beq_eq_true e];exact h1,rfl,rfl⟩
   | false =>
    rw[e]at hl
    obtain ⟨d,g1,g2,g3⟩:=decE_get h2 hl
    exact ⟨d,g1,g2,g3⟩
  ·cases he
theorem strictE_get {env:List (Nat×VSh)}:∀ {fx:TE},strictE π env fx=true->∀ t,memE t fx=true->∃ sh q,lkV env t=some sh/\lkE fx t=.pv q/\strictP π sh q=true
 | [],_,t,ht=>by cases ht
 | p::r,hs,t,ht=>by
  simp only[strictE,Bool.and_eq_true]at hs
  have ht:(Nat.beq p.1 t || memE t r)=true:=ht
  show ∃ sh q,_/\(match Nat.beq p.1 t with|true=>p.2|false=>lkE r t)=_/\_
  cases e:Nat.beq p.1 t with
  | true =>
   obtain ⟨h1,_⟩:=hs
   split at h1
   ·rename_i sh q e1 e2
    exact ⟨sh,q,by rw[<-Nat.eq_of_beq_eq_true e];exact e1,e2,h1⟩
   ·cases h1
  | false =>
   rw[e]at ht
   exact strictE_get hs.2 t ht
theorem strictE_ok (hH:GoodH h) (hn:nodB π=true) {lk:Nat->TV} (hlk:∀ t,goodV h (lk t)) {env:List (Nat×VSh)} {fx:TE} {ds:List Dat} (hs:strictE π env fx=true) (hx:∀ t,memE t fx=true->lk t=lkE fx t)
  (he:decE lk h π env=some ds) (t:Nat) (ht:memE t fx=true):lkE (bldE env ds) t=lkE fx t/\memE t (bldE env ds)=true:=by
 obtain ⟨sh,q,h1,h2,h3⟩:=strictE_get hs t ht
 obtain ⟨d,g1,g2,g3⟩:=decE_get he h1
 refine ⟨?_,g3⟩
 rw[g2,h2]
 have hg:=hlk t
 rw[hx t ht,h2]at g1 hg
 rw[decP_strict hH hn hg h3 g1]
theorem decH_get {b:BSh} {B O:List (Nat×TB)}:∀ {bs:List BSh} {j i:Nat} {ds:List Dat},decH h π j bs=some ds->bs[i]? = some b →
  ∃ d,decB h π (j+i) b=some d/\blkL B j (bldH O j bs ds) i=(bldB O (j+i) b d).res B (j+i)
 | [],j,i,ds,_,hb=>by simp at hb
 | p::r,j,i,ds,he,hb=>by
  unfold decH at he
  split at he
  ·rename_i a l h1 h2
   cases he
   rw[(bldH_cons (O:=O) (j:=j) (r:=r) (rest:=l) (decB_tys h1)).1]
   cases i with
   | zero =>
    have:p=b:=by simpa using hb
    subst this
    exact ⟨a,h1,rfl⟩
   | succ i =>
    obtain ⟨d,g1,g2⟩:=decH_get h2 (i:=i) (by simpa using hb)
    rw[show j+(i+1)=j+1+i by omega]
    exact ⟨d,g1,g2⟩
  ·cases he
theorem owns_lk {O:List (Nat×TB)} (hO:OwnsP h π O) {j:Nat} (hj:lkB O j≠.no):∃ (id:Nat) (t:Ty) (n:Nat) (xs:List t.den),π[j]? = some id/\ListB (h id) t n xs/\lkB O j=.rows t xs.length xs:=by
 obtain ⟨p,hp,rfl,e⟩:=lkB_mem hj
 rw[<-e]
 exact hO p hp
theorem owns_eq {O O':List (Nat×TB)} (hO:OwnsP h π O) (hO':OwnsP h π O') {j:Nat} (hj:lkB O j≠.no) (hj':lkB O' j≠.no):lkB O j=lkB O' j:=by
 obtain ⟨id,t,n,xs,h1,h2,h3⟩:=owns_lk hO hj
 obtain ⟨id',t',n',xs',g1,g2,g3⟩:=owns_lk hO' hj'
 rw[h1]at g1
 cases g1
 rcases h2 with h2|h2<;>rcases g2 with g2|g2<;>rw[h2]at g2<;>cases g2<;>rw[h3,g3]
theorem owns_app {O O':List (Nat×TB)} (hO:OwnsP h π O) (hO':OwnsP h π O') {j:Nat}:(lkB O j≠.no->lkB (O++O') j=lkB O j)/\(lkB O' j≠.no->lkB (O++O') j=lkB O' j):=by
 rcases lkB_append (j:=j) O O' with ⟨h1,h2⟩|⟨h1,h2⟩
 ·refine ⟨λ _=>h2,λ h' => ?_⟩
  rw[h2]
  refine owns_eq hO hO' ?_ h'
  obtain ⟨p,hp,e⟩:=List.mem_map.1 h1
  intro hno
  have:∀ {l:List (Nat×TB)},j ∈ l.map (·.1)->(∀ q ∈ l,q.2≠.no)->lkB l j≠.no:=by
   intro l
   induction l with
   | nil=>intro hm;simp at hm
   | cons q r ih =>
    intro hm hq
    show (match Nat.beq q.1 j with|true=>q.2|false=>lkB r j)≠.no
    cases e:Nat.beq q.1 j with
    | true=>exact hq q (by simp)
    | false =>
     rcases List.mem_cons.1 hm with e'|hm
     ·rw[e',beq_self]at e;cases e
     ·exact ih hm λ x hx=>hq x (List.mem_cons_of_mem _ hx)
  refine this h1 (λ q hq e => ?_) hno
  obtain ⟨_,_,_,_,_,_,h3⟩:=hO q hq
  rw[h3]at e;cases e
 ·exact ⟨λ h'=>absurd (lkB_not h1) h',λ _=>h2⟩
theorem decB_strict (hH:GoodH h) (hn:nodB π=true) {O:List (Nat×TB)} (hO:OwnsP h π O) {j:Nat} (hj:π[j]? = some j) {b:BSh} {ds:List Dat} (hcov:b=.o\/b=.od->lkB O j≠.no) (hs:strictB π b (h j)=true) (he:decB h π j b=some ds) :
  bldB O j b ds=h j:=by
 have hg:=hH j
 unfold strictB at hs
 split at hs
 ·rename_i hx;rw[hx];rfl
 ·rename_i t n xs hx
  obtain ⟨id,t',n',xs',h1,h2,h3⟩:=owns_lk hO (hcov (.inl rfl))
  rw[hj]at h1
  cases h1
  rcases h2 with h2|h2<;>rw[hx]at h2<;>cases h2
  show lkB O j=_
  rw[h3,hx,hH.len hx]
 ·rename_i t n xs hx
  obtain ⟨id,t',n',xs',h1,h2,h3⟩:=owns_lk hO (hcov (.inr rfl))
  rw[hj]at h1
  cases h1
  rcases h2 with h2|h2<;>rw[hx]at h2<;>cases h2
  show toDp (lkB O j)=_
  rw[h3,hx]
  show (match t.dpB with|true=>TB.deep t xs.length xs none|false=>.rows t xs.length xs)=_
  rw[(hH.lenD hx).2,<-(hH.lenD hx).1]
 ·rename_i τ t n xs hx
  simp only[decB,hj,hx]at he
  split at he
  ·rename_i ys hy
   cases he
   obtain ⟨e1,e2⟩:=castL_some hy
   subst e1
   have e2:xs=ys:=e2
   subst e2
   show TB.rows t xs.length xs=_
   rw[hx,hH.len hx]
  ·cases he
 ·rename_i τ t n xs hx
  simp only[decB,hj,hx]at he
  split at he
  ·rename_i ys hy
   cases he
   obtain ⟨e1,e2⟩:=castL_some hy
   subst e1
   have e2:xs=ys:=e2
   subst e2
   show (match t.dpB with|true=>TB.deep t xs.length xs none|false=>.rows t xs.length xs)=_
   rw[hx,(hH.lenD hx).2,<-(hH.lenD hx).1]
  ·cases he
 ·rename_i t own cs hx
  simp only[decB,hj,hx]at he
  split at he
  ·rename_i d hd
   cases he
   rw[hx]at hg
   show TB.var (ownSet own 0 (leaves d.t d.v))=_
   rw[(decCs_strict hH hn hg hs hd).2,hx]
  ·cases he
 ·rename_i ds' cs hx
  simp only[decB,hj,hx]at he
  split at he
  ·rename_i hd
   cases he
   show TB.var ds'=_
   rw[sameCs_strict hn hd hs,hx]
  ·cases he
 ·cases hs
theorem strictH_get {V Fh:List BSh} {hp:List TB}:∀ {fb:List (Nat×TB)},strictH π V Fh hp fb=true->∀ j ∈ fb.map (·.1),∃ b,V[j]? = some .f/\Fh[j]? = some b/\hp[j]? = some .fix/\π[j]? = some j/\strictB π b (lkB fb j)=true
 | [],_,j,hj=>by simp at hj
 | p::r,hs,j,hj=>by
  simp only[strictH,Bool.and_eq_true]at hs
  show ∃ b,_/\_/\_/\_/\strictB π b (match Nat.beq p.1 j with|true=>p.2|false=>lkB r j)=true
  cases e:Nat.beq p.1 j with
  | true =>
   have e:=Nat.eq_of_beq_eq_true e
   subst e
   obtain ⟨h1,_⟩:=hs
   split at h1
   ·rename_i b id e1 e2 e3 e4
    simp only[Bool.and_eq_true]at h1
    obtain rfl:=Nat.eq_of_beq_eq_true h1.1
    exact ⟨b,e1,e2,e3,e4,h1.2⟩
   ·cases h1
  | false =>
   rcases List.mem_cons.1 hj with e'|hj
   ·rw[e',beq_self]at e;cases e
   ·exact strictH_get hs.2 j hj
theorem coverO_get {O:List (Nat×TB)}:∀ {bs:List BSh} {j i:Nat},coverO O j bs=true->(bs[i]? = some .o\/bs[i]? = some .od)->lkB O (j+i)≠.no
 | [],j,i,_,hi=>by simp at hi
 | b::r,j,i,hc,hi=>by
  cases i with
  | zero =>
   have:b=.o\/b=.od:=by simpa using hi
   rcases this with rfl|rfl
   all_goals
    simp only[coverO,Bool.and_eq_true]at hc
    have:=hc.1
    intro e
    rw[Nat.add_zero]at e
    rw[e]at this
    cases this
  | succ i =>
   have hr:coverO O (j+1) r=true:=by
    cases b<;>first|exact hc|skip
    all_goals
     simp only[coverO,Bool.and_eq_true]at hc
     exact hc.2
   have:=coverO_get hr (i:=i) (by simpa using hi)
   rwa [show j+1+i=j+(i+1) by omega]at this
theorem heapIds_get {b:Nat->TB}:∀ {V:List BSh} {j i:Nat},V[i]? = some .f->lkB (heapIds b j V) (j+i)=b (j+i)/\j+i ∈ (heapIds b j V).map (·.1)
 | [],j,i,h=>by simp at h
 | v::r,j,i,h=>by
  cases i with
  | zero =>
   have:v=.f:=by simpa using h
   subst this
   show (match Nat.beq j (j+0) with|true=>b j|false=>_)=_/\_
   rw[Nat.add_zero,beq_self]
   exact ⟨rfl,by simp[heapIds]⟩
  | succ i =>
   obtain ⟨h1,h2⟩:=heapIds_get (V:=r) (j:=j+1) (i:=i) (by simpa using h)
   rw[show j+(i+1)=j+1+i by omega]
   have:heapIds b j (v::r)=heapIds b (j+1) r\/heapIds b j (v::r)=(j,b j)::heapIds b (j+1) r:=by cases v<;>first|exact .inl rfl|exact .inr rfl
   rcases this with e|e
   ·rw[e];exact ⟨h1,h2⟩
   ·rw[e]
    refine ⟨?_,List.mem_cons_of_mem _ h2⟩
    show (match Nat.beq j (j+1+i) with|true=>b j|false=>lkB (heapIds b (j+1) r) (j+1+i))=_
    rw[beq_ne (by omega)]
    exact h1
theorem heapIds_lt {b:Nat->TB}:∀ {V:List BSh} {j x:Nat},x ∈ (heapIds b j V).map (·.1)->x < j+V.length
 | [],j,x,h=>by simp[heapIds]at h
 | v::r,j,x,h=>by
  have:heapIds b j (v::r)=heapIds b (j+1) r\/heapIds b j (v::r)=(j,b j)::heapIds b (j+1) r:=by cases v<;>first|exact .inl rfl|exact .inr rfl
  rcases this with e|e
  ·rw[e]at h
   have:=heapIds_lt h
   simp only[List.length_cons];omega
  ·rw[e]at h
   rcases List.mem_cons.1 h with e'|h
   ·have:x=j:=e'
    simp only[List.length_cons];omega
   ·have:=heapIds_lt h
    simp only[List.length_cons];omega
theorem heapIds_nf {l:List TB}:∀ {V:List BSh} {j:Nat} (x:Nat),lkB (heapIds (blkL [] 0 l) j V) x≠.fix:=λ {V j} x=>by
 refine lkB_all (p:=λ b=>b≠.fix) (λ e=>by cases e) ?_ x
 intro q
 induction V generalizing j with
 | nil=>intro hq;simp[heapIds]at hq
 | cons v r ih =>
  intro hq
  have:heapIds (blkL [] 0 l) j (v::r)=heapIds (blkL [] 0 l) (j+1) r\/heapIds (blkL [] 0 l) j (v::r)=(j,blkL [] 0 l j)::heapIds (blkL [] 0 l) (j+1) r:=by cases v<;>first|exact .inl rfl|exact .inr rfl
  rcases this with e|e
  ·rw[e]at hq;exact ih hq
  ·rw[e]at hq
   rcases List.mem_cons.1 hq with rfl|hq
   ·exact blkL0_nf l 0 j
   ·exact ih hq
theorem bldHO_noF:∀ (V:List BSh) (ds:List Dat),bldHO (noF V) ds=bldHO V ds
 | [],ds=>rfl
 | .f::r,ds=>bldHO_noF r ds
 | .n::r,ds=>bldHO_noF r ds
 | .d::r,ds=>bldHO_noF r ds
 | .o::r,ds=>bldHO_noF r ds
 | .od::r,ds=>bldHO_noF r ds
 | .c _::r,ds=>bldHO_noF r ds
 | .r t::r,[]=>rfl
 | .rd t::r,[]=>rfl
 | .v t o::r,[]=>rfl
 | .r t::r,d::ds=>bldHO_noF r ds
 | .rd t::r,d::ds=>bldHO_noF r ds
 | .v t o::r,d::ds=>by
  show ownBlk o 0 _++bldHO (noF r) ds=ownBlk o 0 _++bldHO r ds
  rw[bldHO_noF r ds]
theorem bldE_append:∀ {e1 e2:List (Nat×VSh)} {a b:List Dat},a.map (·.t)=envTys e1->bldE (e1++e2) (a++b)=bldE e1 a++bldE e2 b
 | [],e2,[],b,h=>rfl
 | [],e2,_::_,b,h=>by cases h
 | (t, .s ty own)::r,e2,[],b,h=>by cases h
 | (t, .s ty own)::r,e2,d::ds,b,h=>by
  show _::bldE (r++e2) (ds++b)=_::(bldE r ds++bldE e2 b)
  rw[bldE_append (by simpa [envTys,VSh.tys] using (List.cons.inj h).2)]
 | (t, .c q)::r,e2,ds,b,h=>by
  show (t, .pv q)::bldE (r++e2) (ds++b)=(t, .pv q)::(bldE r ds++bldE e2 b)
  rw[bldE_append (e1:=r) h]
theorem decE_append {lk:Nat->TV}:∀ {e1 e2:List (Nat×VSh)} {a b:List Dat},decE lk h π e1=some a->decE lk h π e2=some b->decE lk h π (e1++e2)=some (a++b)
 | [],e2,a,b,h1,h2=>by cases h1;exact h2
 | p::r,e2,a,b,h1,h2=>by
  unfold decE at h1
  split at h1
  ·rename_i x y g1 g2
   cases h1
   show (match decV h π p.2 (lk p.1),decE lk h π (r++e2) with|some a,some b=>some (a++b)|_,_=>none)=_
   rw[g1,decE_append g2 h2,List.append_assoc]
  ·cases h1
theorem join_ok {OV OF B:List (Nat×TB)} (hV:OwnsP h π OV) (hF:OwnsP h π OF):∀ {V Fh:List BSh} {j:Nat} {a b:List Dat},V.length=Fh.length->decH h π j (noF V)=some a->decH h π j Fh=some b →
  coverO OV j (noF V)=true->coverO OF j Fh=true->noFH (joinH V Fh)=true->(∀ i:Nat,V[i]? = some BSh.f->lkB B (j+i)=blkL [] j (bldH OF j Fh b) i) →
  ∃ ds,decH h π j (joinH V Fh)=some ds/\coverO (OV++OF) j (joinH V Fh)=true/\(∀ i,blkL B j (bldH OV j V a) i=blkL [] j (bldH (OV++OF) j (joinH V Fh) ds) i) ∧
   (bldH OV j V a).length=V.length/\(bldH (OV++OF) j (joinH V Fh) ds).length=V.length/\(joinH V Fh).length=V.length
 | [],[],j,a,b,_,h1,h2,_,_,_,_=>by
  cases h1;cases h2
  exact ⟨[],rfl,rfl,λ i=>by show blkL B j [] i=blkL [] j [] i;rw[blkL_nil,blkL_nil],rfl,rfl,rfl⟩
 | [],_::_,j,a,b,hl,_,_,_,_,_,_=>by simp at hl
 | _::_,[],j,a,b,hl,_,_,_,_,_,_=>by simp at hl
 | v::r,f::s,j,a,b,hl,h1,h2,hc1,hc2,hno,hB=>by
  have h2':=h2
  unfold decH at h2
  split at h2
  ·rename_i b0 b1 g1 g2
   cases h2
   have ec:=(bldH_cons (O:=OF) (j:=j) (r:=s) (rest:=b1) (decB_tys g1)).1
   have hc2':coverO OF (j+1) s=true/\(f=.o\/f=.od->lkB OF j≠.no):=by
    refine ⟨?_,λ e => ?_⟩
    ·cases f<;>first|exact hc2|skip
     all_goals
      simp only[coverO,Bool.and_eq_true]at hc2
      exact hc2.2
    ·have:=coverO_get hc2 (i:=0) (e.elim (λ e=>.inl (by rw[e];rfl)) λ e=>.inr (by rw[e];rfl))
     exact this
   have hB':∀ i:Nat,r[i]? = some BSh.f->lkB B (j+1+i)=blkL [] (j+1) (bldH OF (j+1) s b1) i:=λ i hi=>by
    have:=hB (i+1) (by simpa using hi)
    rw[ec]at this
    rw[show j+1+i=j+(i+1) by omega]
    exact this
   by_cases hv:v=.f
   ·subst hv
    -- a fixed block
    have h1:(match decB h π j .n,decH h π (j+1) (noF r) with|some a,some l=>some (a++l)|_,_=>none)=some a:=h1
    split at h1
    ·rename_i a0 a1 k1 k2
     cases h1
     have:a0=[]:=by simpa [decB] using k1.symm
     subst this
     have hno':noFH (joinH r s)=true/\f≠.f:=by
      have hno:noFH (f::joinH r s)=true:=hno
      cases f<;>first|exact ⟨hno,λ e=>by cases e⟩|cases hno
     obtain ⟨ds,q1,q2,q3,q4,q5,q6⟩:=join_ok hV hF (by simpa using hl) k2 g2 hc1 hc2'.1 hno'.1 hB'
     have ej:=(bldH_cons (O:=OV++OF) (j:=j) (b:=f) (r:=joinH r s) (rest:=ds) (decB_tys g1)).1
     have eb:bldB (OV++OF) j f b0=bldB OF j f b0:=by
      cases f<;>try rfl
      case o=>exact (owns_app hV hF).2 (hc2'.2 (.inl rfl))
      case od=>exact congrArg toDp ((owns_app hV hF).2 (hc2'.2 (.inr rfl)))
      case r t=>cases b0<;>rfl
      case rd t=>cases b0<;>rfl
      case v t o=>cases b0<;>rfl
     refine ⟨b0++ds,?_,?_,λ i => ?_,?_,?_,?_⟩
     ·show (match decB h π j f,decH h π (j+1) (joinH r s) with|some a,some l=>some (a++l)|_,_=>none)=_
      rw[g1,q1]
     ·show coverO (OV++OF) j (f::joinH r s)=true
      cases f<;>try exact q2
      case o =>
       show ((match lkB (OV++OF) j with | .rows ..=>true|_=>false)&&coverO (OV++OF) (j+1) (joinH r s))=true
       rw[q2,Bool.and_true,(owns_app hV hF).2 (hc2'.2 (.inl rfl))]
       obtain ⟨_,_,_,_,_,_,h3⟩:=owns_lk hF (hc2'.2 (.inl rfl))
       rw[h3]
      case od =>
       show ((match lkB (OV++OF) j with | .rows ..=>true|_=>false)&&coverO (OV++OF) (j+1) (joinH r s))=true
       rw[q2,Bool.and_true,(owns_app hV hF).2 (hc2'.2 (.inr rfl))]
       obtain ⟨_,_,_,_,_,_,h3⟩:=owns_lk hF (hc2'.2 (.inr rfl))
       rw[h3]
     ·show blkL B j (TB.fix::bldH OV (j+1) r a1) i=blkL [] j (bldH (OV++OF) j (f::joinH r s) (b0++ds)) i
      rw[ej]
      cases i with
      | zero =>
       have:=hB 0 rfl
       rw[ec]at this
       show lkB B j=TB.res [] j (bldB (OV++OF) j f b0)
       rw[eb]
       exact this
      | succ i=>exact q3 i
     ·show (bldH OV (j+1) r a1).length+1=r.length+1
      rw[q4]
     ·show (bldH (OV++OF) j (f::joinH r s) (b0++ds)).length=r.length+1
      rw[ej,List.length_cons,q5]
     ·show (f::joinH r s).length=r.length+1
      rw[List.length_cons,q6]
    ·cases h1
   ·have en:noF (v::r)=v::noF r:=by cases v<;>first|rfl|exact absurd rfl hv
    have ejn:joinH (v::r) (f::s)=v::joinH r s:=by cases v<;>first|rfl|exact absurd rfl hv
    rw[en]at h1 hc1
    rw[ejn]at hno ⊢
    unfold decH at h1
    split at h1
    ·rename_i a0 a1 k1 k2
     cases h1
     have hc1':coverO OV (j+1) (noF r)=true/\(v=.o\/v=.od->lkB OV j≠.no):=by
      refine ⟨?_,λ e => ?_⟩
      ·cases v<;>first|exact hc1|skip
       all_goals
        simp only[coverO,Bool.and_eq_true]at hc1
        exact hc1.2
      ·have:=coverO_get hc1 (i:=0) (e.elim (λ e=>.inl (by rw[e];rfl)) λ e=>.inr (by rw[e];rfl))
       exact this
     have hno':noFH (joinH r s)=true:=by cases v<;>first|exact hno|exact absurd rfl hv
     obtain ⟨ds,q1,q2,q3,q4,q5,q6⟩:=join_ok hV hF (by simpa using hl) k2 g2 hc1'.1 hc2'.1 hno' hB'
     have ej:=(bldH_cons (O:=OV++OF) (j:=j) (b:=v) (r:=joinH r s) (rest:=ds) (decB_tys k1)).1
     have ev:=(bldH_cons (O:=OV) (j:=j) (b:=v) (r:=r) (rest:=a1) (decB_tys k1)).1
     have eb:bldB (OV++OF) j v a0=bldB OV j v a0:=by
      cases v<;>try rfl
      case o=>exact (owns_app hV hF).1 (hc1'.2 (.inl rfl))
      case od=>exact congrArg toDp ((owns_app hV hF).1 (hc1'.2 (.inr rfl)))
      case r t=>cases a0<;>rfl
      case rd t=>cases a0<;>rfl
      case v t o=>cases a0<;>rfl
     have er:∀ X,TB.res X j (bldB OV j v a0)=bldB OV j v a0:=λ X=>by
      cases v<;>try rfl
      case f=>exact absurd rfl hv
      case o =>
       obtain ⟨_,_,_,_,_,_,h3⟩:=owns_lk hV (hc1'.2 (.inl rfl))
       show TB.res X j (lkB OV j)=lkB OV j
       rw[h3];rfl
      case od =>
       obtain ⟨_,t,_,xs,_,_,h3⟩:=owns_lk hV (hc1'.2 (.inr rfl))
       show TB.res X j (toDp (lkB OV j))=toDp (lkB OV j)
       rw[h3]
       show TB.res X j (match t.dpB with|true=>TB.deep t xs.length xs none|false=>.rows t xs.length xs)=(match t.dpB with|true=>TB.deep t xs.length xs none|false=>.rows t xs.length xs)
       cases t.dpB<;>rfl
      case r t=>cases a0 with|nil=>rfl|cons d _=>obtain ⟨τ,x⟩:=d;cases τ<;>rfl
      case rd t=>cases a0 with
       | nil=>rfl
       | cons d _ =>
        obtain ⟨τ,x⟩:=d
        cases τ<;>try rfl
        rename_i σ
        show TB.res X j (match σ.dpB with|true=>TB.deep σ x.length x none|false=>.rows σ x.length x)=(match σ.dpB with|true=>TB.deep σ x.length x none|false=>.rows σ x.length x)
        cases σ.dpB<;>rfl
      case v t o=>cases a0<;>rfl
     refine ⟨a0++ds,?_,?_,λ i => ?_,?_,?_,?_⟩
     ·show (match decB h π j v,decH h π (j+1) (joinH r s) with|some a,some l=>some (a++l)|_,_=>none)=_
      rw[k1,q1]
     ·cases v<;>try exact q2
      case o =>
       show ((match lkB (OV++OF) j with | .rows ..=>true|_=>false)&&coverO (OV++OF) (j+1) (joinH r s))=true
       rw[q2,Bool.and_true,(owns_app hV hF).1 (hc1'.2 (.inl rfl))]
       obtain ⟨_,_,_,_,_,_,h3⟩:=owns_lk hV (hc1'.2 (.inl rfl))
       rw[h3]
      case od =>
       show ((match lkB (OV++OF) j with | .rows ..=>true|_=>false)&&coverO (OV++OF) (j+1) (joinH r s))=true
       rw[q2,Bool.and_true,(owns_app hV hF).1 (hc1'.2 (.inr rfl))]
       obtain ⟨_,_,_,_,_,_,h3⟩:=owns_lk hV (hc1'.2 (.inr rfl))
       rw[h3]
     ·rw[ev,ej]
      cases i with
      | zero =>
       show TB.res B j (bldB OV j v a0)=TB.res [] j (bldB (OV++OF) j v a0)
       rw[eb,er,er]
      | succ i=>exact q3 i
     ·rw[ev,List.length_cons,q4];rfl
     ·rw[ej,List.length_cons,q5];rfl
     ·rw[List.length_cons,q6];rfl
    ·cases h1
  ·cases h2
end
end Go.Fm
namespace Go.Fm
variable [Globs] [Structs] [Tabs]
variable {F:Lv} {s:TS} {R:Type}
theorem Shp.dec_some {sh:Shp} {lk:Nat->TV} {h:Nat->TB} {π:List Nat} {ds:List Dat} (hd:sh.dec lk h π=some ds) :
  ∃ a b,decE lk h π sh.env=some a/\decH h π 0 sh.heap=some b/\coverO (bldO sh.env a++bldHO sh.heap b) 0 sh.heap=true/\ds=a++b:=by
 unfold Shp.dec at hd
 split at hd
 ·rename_i a b h1 h2
  split at hd
  ·rename_i hc
   cases hd
   exact ⟨a,b,h1,h2,hc,rfl⟩
  ·cases hd
 ·cases hd
theorem bldO_app:∀ {env:List (Nat×VSh)} {ds rest:List Dat},ds.map (·.t)=envTys env->bldO env (ds++rest)=bldO env ds
 | [],ds,rest,h=>rfl
 | (t, .s ty own)::r,[],rest,h=>by cases h
 | (t, .s ty own)::r,d::ds,rest,h=>by
  show _++bldO r (ds++rest)=_++bldO r ds
  rw[bldO_app (by simpa [envTys,VSh.tys] using (List.cons.inj h).2)]
 | (t, .c q)::r,ds,rest,h=>bldO_app (env:=r) h
theorem bld_of {sh:Shp} {a b:List Dat} (ha:a.map (·.t)=envTys sh.env):sh.bld (a++b)=⟨bldE sh.env a,bldH (bldO sh.env a++bldHO sh.heap b) 0 sh.heap b⟩:=by
 have hdrop:(a++b).drop (envTys sh.env).length=b:=by
  rw[<-ha,List.length_map]
  exact List.drop_left' rfl
 show (⟨bldE sh.env (a++b),bldH (bldO sh.env (a++b)++bldHO sh.heap ((a++b).drop _)) 0 sh.heap ((a++b).drop _)⟩:TS)=_
 rw[hdrop,bldO_app ha,bldE_app ha]
theorem owns_of {h:Nat->TB} {π:List Nat} {sh:Shp} {lk:Nat->TV} (hH:GoodH h) (hn:nodB π=true) (hlk:∀ t,goodV h (lk t)) {E:List (Nat×SV)} (hE:∀ t,Fm.lk E t=(lk t).conc) {a b:List Dat} (h1:decE lk h π sh.env=some a) (h2:decH h π 0 sh.heap=some b) :
  OwnsP h π (bldO sh.env a++bldHO sh.heap b):=by
 obtain ⟨e,a1,a2,a3,a4,⟨a5,a6⟩,a7⟩:=decE_ok (f:=7) hH hn hlk hE (rest:=[]) h1
 obtain ⟨o1,o2⟩:=decHO hH hn (rest:=[]) h2
 exact λ p hp=>(List.mem_append.1 hp).elim (a6 p) (o1 p)
theorem loop_head (hL:LvOk F) (hG:Good F s) {Fs Vs:Shp} {cd pd:List Dat} {c0:tup Fs.tys} {p0:tup Vs.tys} (hok:loopOk F Fs Vs ((bothS Fs Vs).prep F s) ((bothS Fs Vs).pi F ((bothS Fs Vs).prep F s))=true)
  (hc:Fs.dec (((bothS Fs Vs).prep F s).lk F) (((bothS Fs Vs).prep F s).blk F) ((bothS Fs Vs).pi F ((bothS Fs Vs).prep F s))=some cd)
  (hp:(Shp.mk Vs.env (noF Vs.heap)).dec (((bothS Fs Vs).prep F s).lk F) (((bothS Fs Vs).prep F s).blk F) ((bothS Fs Vs).pi F ((bothS Fs Vs).prep F s))=some pd) (h1:ofD Fs.tys cd=some c0) (h2:ofD Vs.tys pd=some p0) (hlv:lvOkB (fixL F Fs Vs c0)=true) :
  LvOk (fixL F Fs Vs c0)/\Good (fixL F Fs Vs c0) (Vs.mkS p0)/\Weak F.k0 (s.conc F) ((Vs.mkS p0).conc (fixL F Fs Vs c0)) ∧
   (∀ t,memE t F.fx=true->lkE (fixL F Fs Vs c0).fx t=lkE F.fx t)/\(∀ t,memE t F.fx=true->memE t (fixL F Fs Vs c0).fx=true) ∧
   (∀ j ∈ F.fb.map (·.1),lkB (fixL F Fs Vs c0).fb j=lkB F.fb j/\j ∈ (fixL F Fs Vs c0).fb.map (·.1)):=by
 obtain ⟨g1,g2⟩:=prep_ok (k0:=F.k0) hL (bothS Fs Vs) hG
 have hπl:((bothS Fs Vs).pi F ((bothS Fs Vs).prep F s)).length=(joinH Vs.heap Fs.heap).length:=piOf_len _ _ _
 generalize (bothS Fs Vs).pi F ((bothS Fs Vs).prep F s)=π at hok hc hp hπl
 generalize (bothS Fs Vs).prep F s=s1 at g1 g2 hok hc hp
 simp only[loopOk,Bool.and_eq_true]at hok
 obtain ⟨⟨⟨⟨⟨⟨⟨k1,k2⟩,k3⟩,k4⟩,k5⟩,k6⟩,k7⟩,k8⟩:=hok
 have hGH:GoodH (s1.blk F):=g1.heap
 obtain ⟨aF,bF,f1,f2,f3,rfl⟩:=Shp.dec_some hc
 obtain ⟨aV,bV,v1,v2,v3,rfl⟩:=Shp.dec_some hp
 have hEC:∀ t,Fm.lk (s1.conc F).env t=(s1.lk F t).conc:=λ t=>s1.lk_conc F t
 have oF:=owns_of (sh:=Fs) hGH k1 g1.env hEC f1 f2
 have oV:=owns_of (sh:=⟨Vs.env,noF Vs.heap⟩) hGH k1 g1.env hEC v1 v2
 have tF:=decE_tys f1
 have tV:=decE_tys v1
 have eF:Fs.mkS c0=⟨bldE Fs.env aF,bldH (bldO Fs.env aF++bldHO Fs.heap bF) 0 Fs.heap bF⟩:=by rw[mkS_of h1,bld_of tF]
 have eV:Vs.mkS p0=⟨bldE Vs.env aV,bldH (bldO Vs.env aV++bldHO (noF Vs.heap) bV) 0 Vs.heap bV⟩:=by rw[mkS_of h2,bld_of (sh:=Vs) tV,bldHO_noF]
 generalize hF1:fixL F Fs Vs c0=F1 at hlv
 have xF:F1.fx=bldE Fs.env aF:=by rw[<-hF1];show (Fs.mkS c0).env=_;rw[eF]
 have bF1:F1.fb=heapIds (blkL [] 0 (Fs.mkS c0).heap) 0 Vs.heap:=by rw[<-hF1];rfl
 have hOF:(Fs.mkS c0).heap=bldH (bldO Fs.env aF++bldHO Fs.heap bF) 0 Fs.heap bF:=by rw[eF]
 generalize bldO Fs.env aF++bldHO Fs.heap bF=OF at f3 oF hOF
 simp only at v3 oV v1 v2
 generalize bldO Vs.env aV++bldHO (noF Vs.heap) bV=OV at v3 oV eV
 obtain ⟨ds,q1,q2,q3,q4,q5,q6⟩:=join_ok (B:=F1.fb) oV oF (Nat.eq_of_beq_eq_true k5) v2 f2 v3 f3 k4 (λ i hi=>by
  rw[bF1,(heapIds_get hi).1,hOF,Nat.zero_add])
 have hO:OwnsP (s1.blk F) π (OV++OF):=λ p hp=>(List.mem_append.1 hp).elim (oV p) (oF p)
 obtain ⟨r1,r2⟩:=dec_gen (Ft:=⟨[],[],F.k0,F.n0⟩) g1 rfl rfl k1 k2 rfl rfl k3 (λ i hi=>by
  exfalso
  have:∀ (l:List BSh) (i:Nat),noFH l=true->l[i]? = some .f->False:=by
   intro l
   induction l with
   | nil=>intro i _ hi;simp at hi
   | cons b r ih =>
    intro i hl hi
    cases i with
    | zero =>
     have:b=.f:=by simpa using hi
     subst this;cases hl
    | succ i =>
     refine ih i ?_ (by simpa using hi)
     cases b<;>first|exact hl|cases hl
  exact this _ i k4 hi) (λ t ht=>by cases ht) hπl (decE_append v1 f1) q1 hO q2
 rw[bldE_append tV]at r1 r2
 generalize hS:(⟨bldE Vs.env aV++bldE Fs.env aF,bldH (OV++OF) 0 (joinH Vs.heap Fs.heap) ds⟩:TS)=S' at r1 r2
 have hlk:∀ t,(Vs.mkS p0).lk F1 t=S'.lk ⟨[],[],F.k0,F.n0⟩ t:=λ t=>by
  rw[<-hS]
  show lkE ((Vs.mkS p0).env++F1.fx) t=lkE ((bldE Vs.env aV++bldE Fs.env aF)++[]) t
  rw[eV,xF,List.append_nil]
 have hblk:∀ j,(Vs.mkS p0).blk F1 j=S'.blk ⟨[],[],F.k0,F.n0⟩ j:=λ j=>by
  rw[<-hS]
  show blkL F1.fb 0 (Vs.mkS p0).heap j=blkL [] 0 (bldH (OV++OF) 0 (joinH Vs.heap Fs.heap) ds) j
  rw[eV]
  exact q3 j
 have hlen:(Vs.mkS p0).heap.length=S'.heap.length:=by
  rw[<-hS,eV]
  show (bldH OV 0 Vs.heap bV).length=(bldH (OV++OF) 0 (joinH Vs.heap Fs.heap) ds).length
  rw[q4,q5]
 have hfx:∀ t,memE t F.fx=true->s1.lk F t=lkE F.fx t:=λ t ht=>by
  rcases lkE_append (t:=t) s1.env F.fx with ⟨h1,_⟩|⟨_,h2⟩
  ·rw[apart_get k6 t ht]at h1;cases h1
  ·exact h2
 have hst:=strictE_ok hGH k1 g1.env k7 hfx f1
 refine ⟨lvOk_of hlv λ j => ?_,good_eq r1 (by rw[<-hF1];rfl) (by rw[<-hF1];rfl) hlen (λ i hi => ?_) hlk hblk,(g2.trans r2).trans (weak_eq hlk hblk),λ t ht => ?_,λ t ht => ?_,λ j hj => ?_⟩
 ·rw[bF1];exact heapIds_nf j
 ·rw[bF1]at hi
  have:=heapIds_lt hi
  rw[eV]
  show i < (bldH OV 0 Vs.heap bV).length
  rw[q4];omega
 ·rw[xF];exact (hst t ht).1
 ·rw[xF];exact (hst t ht).2
 ·obtain ⟨b,e1,e2,e3,e4,e5⟩:=strictH_get k8 j hj
  have e1':Vs.heap[j]? = some .f:=e1
  have hh:=heapIds_get (b:=blkL [] 0 (Fs.mkS c0).heap) (j:=0) e1'
  rw[Nat.zero_add]at hh
  rw[bF1]
  refine ⟨?_,hh.2⟩
  rw[hh.1,hOF]
  obtain ⟨d,d1,d2⟩:=decH_get (B:=[]) (O:=OF) f2 e2 (i:=j)
  rw[Nat.zero_add]at d1 d2
  have hbl:s1.blk F j=lkB F.fb j:=by
   have:=blkL_fix (fb:=F.fb) (j:=0) e3
   rwa [Nat.zero_add]at this
  rw[d2,decB_strict hGH k1 oF e4 (λ e=>by have:=coverO_get f3 (e.elim (λ e=>.inl (e▸e2)) λ e=>.inr (e▸e2));rwa [Nat.zero_add]at this) (by rw[hbl];exact e5) d1,hbl]
  have:=hL.nf j
  cases hb:lkB F.fb j<;>first|rfl|exact absurd hb this
theorem anOk_z {T:TypeId->TyI} {Γ:List Con} {k0:Nat} (c:Code):AnOk T Γ k0 .z c:=by
 cases c<;>trivial
section
variable {P:Program} {nt k0:Nat} {σ σ':S} {Q:Ex->S->Prop}
theorem W.region_seq {id:Nat} {ops:Array Oper} {l:List Stp} (hs:Seq P nt ops.toList ops.toList σ l σ') (hq:Q .normal σ'):W P nt k0 (.region id ops false) σ Q:=λ hm=>by
 refine ⟨.normal,σ',λ C hP hn hk a w R => ?_,hq⟩
 refine wp_region ?_
 have:=hs.text 0 rfl C hP hn a w R (λ e' a' w'=>e'=.normal/\RelX C σ'.st a' w') (λ a' w' R'=>⟨rfl,R'⟩)
 rw[List.range_eq_range']
 simpa [Ex.of] using this
theorem W.drawn_seq {id:Nat} {ops:Array Oper} {l:List Stp} (hs:Seq P nt ops.toList ops.toList σ l σ') (hok:drawOk ops.toList (feetOf l)=true) (hq:Q .normal σ'):W P nt k0 (.region id ops true) σ Q:=λ hm=>by
 refine ⟨.normal,σ',λ C hP hn hk a w R => ?_,hq⟩
 refine wp_region_any hm ?_
 refine hs.drawn hok hP hn (λ a' w' R'=>⟨rfl,R'⟩) _ _ _ _ (by simp) ?_ (λ j o ho hp => ?_) ?_
 ·suffices ∀ (p:Nat->Bool) n,unl p n<=n from this _ _
  intro p n
  induction n with
  | zero=>exact Nat.le_refl _
  | succ n ih=>simp only[unl];split<;>omega
 ·exfalso
  by_cases hj:j < ops.size
  ·simp[hj]at hp
  ·rw[List.getElem?_eq_none (by simpa using hj)]at ho;cases ho
 ·have hdr:RelX C σ.st a { w with drawn:=w.drawn+1 }:=by
   obtain ⟨C',hC,ρ,R0⟩:=R
   exact ⟨C',hC,ρ,R0.drew⟩
  have hph:phiS ops.toList l σ (λ i=>(Array.replicate ops.size false).getD i false) ops.size=σ.st:=by
   have hf:∀ j,(Array.replicate ops.size false).getD j false=false:=λ j=>by
    by_cases hj:j < ops.size<;>simp[hj]
   simp only[phiS]
   show St.mk _ _=σ.st
   congr 1
   ·funext t;exact vAt_past (i:=0) (Nat.zero_le _) (λ j _ _ _=>hf j)
   ·funext id;exact vAt_past (i:=0) (Nat.zero_le _) (λ j _ _ _=>hf j)
  rw[hph]
  exact hdr
end
section
variable {T:TypeId->TyI} {Γ:List Con} {an:An} {K:Ex->TS->Option R}
theorem run_region {id:Nat} {ops:Array Oper} {draw:Bool}:run T Γ F an (.region id ops draw) s K=opsT T Γ F ops.toList ops.toList s [] λ s feet=>(match draw with
   | false=>K .normal s
   | true=>(match drawOk ops.toList feet.reverse with|true=>K .normal s|false=>none)):=rfl
theorem run_cond {c:Operand} {x y:Code}:run T Γ F an (.cond c x y) s K=(match s.ev F c with
  | .pv (.one (.bool t))=>cond t (run T Γ F (match an with | .q a _=>a|_=>.z) x s K) (run T Γ F (match an with | .q _ b=>b|_=>.z) y s K)
  | _=>none):=rfl
theorem run_block {id:Nat} {c:Code}:run T Γ F an (.block id c) s K=run T Γ F (match an with | .b a=>a|_=>.z) c s λ e s'=>(match e with
  | .normal=>K .normal s'
  | .exit i=>(match Nat.beq i id with|true=>K .normal s'|false=>K (.exit i) s')
  | .ret=>K .ret s'):=rfl
theorem run_seq {x y:Code}:run T Γ F an (.seq x y) s K=(match an with
  | .m outs ks fb a b=>(match fixS F s ks fb with
   | (F1,s1)=>(match lvOkB F1&&allLt s.heap.length F1.fb with
    | true=>(run T Γ F1 a x s1 λ e s'=>encO F1 s' e outs).bind λ o=>caseO F F1 (λ e s'=>(match e with
     | .normal=>run T Γ F b y s' K
     | e=>K e s')) outs o
    | false=>none))
  | .q a b=>run T Γ F a x s λ e s'=>(match e with
   | .normal=>run T Γ F b y s' K
   | e=>K e s')
  | _=>run T Γ F .z x s λ e s'=>(match e with
   | .normal=>run T Γ F .z y s' K
   | e=>K e s')):=rfl
theorem run_loop {c:Code}:run T Γ F an (.loop c) s K=(match an with
  | .l Fs Vs outs φ a =>
   (match loopOk F Fs Vs ((bothS Fs Vs).prep F s) ((bothS Fs Vs).pi F ((bothS Fs Vs).prep F s)) with
    | true=>(match Fs.dec (((bothS Fs Vs).prep F s).lk F) (((bothS Fs Vs).prep F s).blk F) ((bothS Fs Vs).pi F ((bothS Fs Vs).prep F s)),(Shp.mk Vs.env (noF Vs.heap)).dec (((bothS Fs Vs).prep F s).lk F) (((bothS Fs Vs).prep F s).blk F) ((bothS Fs Vs).pi F ((bothS Fs Vs).prep F s)) with
     | some cd,some pd=>(match ofD Fs.tys cd,ofD Vs.tys pd with
      | some c0,some p0=>(match lvOkB (fixL F Fs Vs c0) with
       | true=>(φ c0 bigK p0).bind λ o=>caseO F (fixL F Fs Vs c0) K outs o
       | false=>none)
      | _,_=>none)
     | _,_=>none)
    | false=>none)
  | _=>none):=rfl
end
theorem run_ok {P:Unit->Program} {T:TypeId->TyI} {Γ:List Con} (hS:Sound P T Γ) {nt:Nat}:∀ (c:Code) {F:Lv} {an:An} {s:TS} {R:Type} {K:Ex->TS->Option R} {r:R},okC nt c=true->LvOk F->Good F s->AnOk T Γ F.k0 an c->run T Γ F an c s K=some r →
  W (P ()) nt F.k0 c (s.conc F) (λ e σ=>∃ s',σ=s'.conc F/\Good F s'/\K e s'=some r)
 | .skip,F,an,s,R,K,r,hc,hL,hG,hA,h=>.skip ⟨s,rfl,hG,h⟩
 | .exit id,F,an,s,R,K,r,hc,hL,hG,hA,h=>.exit ⟨s,rfl,hG,h⟩
 | .ret,F,an,s,R,K,r,hc,hL,hG,hA,h=>.ret ⟨s,rfl,hG,h⟩
 | .region id ops draw,F,an,s,R,K,r,hc,hL,hG,hA,h=>by
  rw[run_region]at h
  obtain ⟨l,s',hs,hg,h⟩:=opsT_ok hS hL hc hG h
  rw[List.append_nil]at h
  cases draw with
  | false=>exact W.region_seq hs (Q:=λ e σ=>∃ s',σ=s'.conc F/\Good F s'/\K e s'=some r) ⟨s',rfl,hg,h⟩
  | true =>
   simp only at h
   ·split at h
    ·rename_i hok
     exact W.drawn_seq hs (by simpa using hok) (Q:=λ e σ=>∃ s',σ=s'.conc F/\Good F s'/\K e s'=some r) ⟨s',rfl,hg,h⟩
    ·cases h
 | .cond c x y,F,an,s,R,K,r,hc,hL,hG,hA,h=>by
  rw[run_cond]at h
  simp only[okC,Bool.and_eq_true]at hc
  split at h
  ·rename_i t ht
   have hb:(s.conc F).st.ev c=one (.bool t):=by rw[TS.ev_conc,ht];rfl
   refine .cond hb ?_
   cases t with
   | true =>
    rw[cond_true]at h
    refine run_ok hS x hc.1 hL hG ?_ h
    cases an<;>first|exact anOk_z _|exact hA.1
   | false =>
    rw[cond_false]at h
    refine run_ok hS y hc.2 hL hG ?_ h
    cases an<;>first|exact anOk_z _|exact hA.2
  ·cases h
 | .block id c,F,an,s,R,K,r,hc,hL,hG,hA,h=>by
  rw[run_block]at h
  refine .block ((run_ok hS c hc hL hG (by cases an<;>first|exact anOk_z _|exact hA) h).mono ?_)
  rintro e σ ⟨s',rfl,hg,hK⟩
  cases e with
  | normal=>exact ⟨s',rfl,hg,hK⟩
  | ret=>exact ⟨s',rfl,hg,hK⟩
  | exit i =>
   unfold kBlock
   simp only at hK ⊢
   cases hi:Nat.beq i id with
   | true=>rw[hi]at hK;exact ⟨s',rfl,hg,hK⟩
   | false=>rw[hi]at hK;exact ⟨s',rfl,hg,hK⟩
 | .seq x y,F,an,s,R,K,r,hc,hL,hG,hA,h=>by
  simp only[okC,Bool.and_eq_true]at hc
  have plain:∀ {a b:An},AnOk T Γ F.k0 a x->AnOk T Γ F.k0 b y->(run T Γ F a x s λ e s'=>(match e with
    | .normal=>run T Γ F b y s' K
    | e=>K e s'))=some r->W (P ()) nt F.k0 (.seq x y) (s.conc F) (λ e σ=>∃ s',σ=s'.conc F/\Good F s'/\K e s'=some r):=λ {a b} ha hb h=>by
   refine .seq ((run_ok hS x hc.1 hL hG ha h).mono ?_)
   rintro e σ ⟨s',rfl,hg,hK⟩
   cases e with
   | normal=>exact run_ok hS y hc.2 hL hg hb hK
   | ret=>exact ⟨s',rfl,hg,hK⟩
   | exit i=>exact ⟨s',rfl,hg,hK⟩
  rw[run_seq]at h
  cases an with
  | m outs ks fb a b =>
   simp only at h
   generalize hfs:fixS F s ks fb=X at h
   obtain ⟨F1,s1⟩:=X
   simp only at h
   split at h
   ·rename_i hok
    simp only[Bool.and_eq_true]at hok
    obtain ⟨o,h1,h2⟩:=Option.bind_eq_some_iff.1 h
    obtain ⟨l1,l2,l3,l4,l5,l6,l7,l8,l9⟩:=fixS_ok hL hG hfs hok.1 hok.2
    have hx:=run_ok hS x hc.1 l1 l2 (by rw[l5];exact hA.1) h1
    rw[l5]at hx
    refine .seq ((W.post (.weak (weak_eq l3 l4) hx) (Q2:=λ e σ=>∃ s',σ=s'.conc F/\Good F s'/\(match e with
     | .normal=>run T Γ F b y s' K
     | e=>K e s')=some r) ?_).mono ?_)
    ·rintro e σ ⟨s',rfl,hg,hK⟩
     obtain ⟨s2,g1,g2,g3⟩:=encO_ok l1 hg hK h2
     obtain ⟨w1,w2⟩:=outS_ok l1 g1 l5 l6 l7 l8 l9
     rw[l5]at g2
     exact ⟨_,g2.trans w2,_,rfl,w1,g3⟩
    ·rintro e σ ⟨s',rfl,hg,hK⟩
     cases e with
     | normal=>exact run_ok hS y hc.2 hL hg hA.2 hK
     | ret=>exact ⟨s',rfl,hg,hK⟩
     | exit i=>exact ⟨s',rfl,hg,hK⟩
   ·cases h
  | q a b=>exact plain hA.1 hA.2 h
  | z=>exact plain (anOk_z _) (anOk_z _) h
  | b a=>exact plain (anOk_z _) (anOk_z _) h
  | l Fs Vs outs φ a=>exact plain (anOk_z _) (anOk_z _) h
 | .loop c,F,an,s,R,K,r,hc,hL,hG,hA,h=>by
  rw[run_loop]at h
  cases an with
  | l Fs Vs outs φ a =>
   simp only at h
   split at h
   ·rename_i hok
    split at h
    ·rename_i cd pd hcd hpd
     split at h
     ·rename_i c0 p0 e1 e2
      split at h
      ·rename_i hlv
       obtain ⟨o,h1,h2⟩:=Option.bind_eq_some_iff.1 h
       obtain ⟨l1,l2,l3,l4,l5,l6⟩:=loop_head hL hG hok hcd hpd e1 e2 hlv
       obtain ⟨hz,hstep,hbody⟩:=hA
       have hk:(fixL F Fs Vs c0).k0=F.k0:=rfl
       have key:=W.loop (P:=P ()) (nt:=nt) (k0:=F.k0) (s:=s.conc F) (Q:=λ e σ=>e≠.normal/\∃ s',σ=s'.conc (fixL F Fs Vs c0)/\Good (fixL F Fs Vs c0) s'/\encO (fixL F Fs Vs c0) s' e outs=some o)
        (λ x:Nat×tup Vs.tys=>(Vs.mkS x.2).conc (fixL F Fs Vs c0)) (λ x=>Good (fixL F Fs Vs c0) (Vs.mkS x.2)/\φ c0 x.1 x.2=some o) (·.1) (c:=c) (bigK,p0) l3 ⟨l2,h1⟩ (λ x hx=>by
         obtain ⟨k,p⟩:=x
         obtain ⟨x1,x2⟩:=hx
         simp only at x1 x2 ⊢
         cases k with
         | zero=>rw[hz]at x2;cases x2
         | succ k =>
          have hrun:=hstep F.n0 c0 k p
          rw[x2]at hrun
          have:=run_ok hS c hc l1 x1 (an:=a) hbody hrun.symm
          refine this.mono ?_
          rintro e σ ⟨s',rfl,hg,hK⟩
          have hK:loopK2 (fixL F Fs Vs c0) (φ c0 k) e s'=some o:=hK
          cases e with
          | normal =>
           simp only[loopK2]at hK
           split at hK
           ·rename_i ds hs
            split at hK
            ·rename_i p' hp'
             obtain ⟨w1,w2⟩:=see_mk l1 hg hs hp'
             exact ⟨(k,p'),⟨w1,hK⟩,Nat.lt_succ_self k,w2⟩
            ·cases hK
           ·cases hK
          | ret=>exact ⟨nofun,s',rfl,hg,hK⟩
          | exit i=>exact ⟨nofun,s',rfl,hg,hK⟩)
       refine key.post ?_
       rintro e σ ⟨_,s',rfl,hg,hK⟩
       obtain ⟨s2,g1,g2,g3⟩:=encO_ok l1 hg hK h2
       obtain ⟨w1,w2⟩:=outS_ok (F:=F) l1 g1 rfl rfl l4 l5 l6
       exact ⟨_,Weak.trans g2 w2,_,rfl,w1,g3⟩
      ·cases h
     ·cases h
    ·cases h
   ·cases h
  | _=>cases h
end Go.Fm
namespace Go.Fm
variable [Globs] [Structs] [Tabs]
variable {F:Lv} {s:TS} {R:Type}
def pvsE (e:TE):List PV:=e.map λ p=>match p.2 with | .pv q=>q.conc | .tup _=>.one .dead
def svOf:List PV->SV
 | [p]=>.pv p
 | ps=>.tup ps
def ConOk (P:Program) (c:Con):Prop:=∀ a r,Good ⟨[],[],0,[]⟩ (c.ps.mkS a)->c.g a=some r →
 Ans P c.f (pvsE (c.ps.mkS a).env) (heapC [] 0 (c.ps.mkS a).heap) λ v h=>v=svOf (pvsE (c.rs.mkS r).env)/\h=heapC (lvl0 c.ro (c.ps.mkS a)).fb 0 (c.rs.mkS r).heap/\Good (lvl0 c.ro (c.ps.mkS a)) (c.rs.mkS r)
theorem leB0_no {x y:HS} (h:leB0 x y):x≠.no->y≠.no:=λ hx e=>by
 rcases h with (h|⟨b,b',e1,e2,_⟩)|⟨_,h⟩
 ·rw[h]at e;exact hx e
 ·rw[e2]at e;cases e
 ·rw[h]at e;cases e
theorem Meets.le {P:Program} {f:FuncId} {ps ps':List PV} {bs bs' h1:List HS} {r:SV} (hm:Meets P f ps' bs' r h1) (hp:lePs0 ps ps') (hl:bs'.length=bs.length) (hb:∀ i,leB0 (hOf bs i) (hOf bs' i)):Meets P f ps bs r h1:=by
 intro C vs hP hk hlen hargs hheap hno
 obtain ⟨g1,hle⟩:=heapRel_le hb hheap
 have:=hm C vs hP (hk.trans hl.symm) (by rw[lePs0_len hp];exact hlen) (λ i p hi=>by
  obtain ⟨p0,e1,e2⟩:=lePs0_get hp i p hi
  obtain ⟨u,hu,hr⟩:=hargs i p0 e1
  exact ⟨u,hu,RPV.le0 (RPV.mono hr (λ _ _=>rfl) hle) e2⟩) g1 (λ id hid=>leB0_no (hb id) (hno id (by rw[<-hl];exact hid)))
 rw[hl]at this
 exact this
theorem ActX.conv {P:Program} {o:Oper} {φ:St} {nid:Nat} {A A':Action} (h:ActX P o φ nid A') (hrd:∀ x ∈ A'.rd,x ∈ A.rd) (hv:A.val=A'.val) (hf:∀ p ∈ A'.hp,nid<=p.1->∃ q ∈ A.hp,q.1=p.1)
  (hh:∀ h':Nat->HS,(∀ id ∈ A.rd,h' id=φ.heap id)->∀ id,heapOf h' A'.hp id=heapOf h' A.hp id):ActX P o φ nid A:=by
 intro C hP φ' a w hag hR hd K Q hK
 refine h C hP φ' a w ⟨hag.env,λ id hid=>hag.hp id (hrd id hid),λ p hp hn => ?_,hag.fin⟩ hR hd K Q λ a' w' hr=>hK a' w' ?_
 ·obtain ⟨q,hq,e⟩:=hf p hp hn
  rw[<-e];exact hag.fresh q hq (by rw[e];exact hn)
 ·have e:φ'.app o.dst A'=φ'.app o.dst A:=by
   have:heapOf φ'.heap A'.hp=heapOf φ'.heap A.hp:=funext (hh φ'.heap hag.hp)
   unfold St.app
   rw[this,hv]
  rw[<-e];exact hr
theorem sgm_sig (π:List Nat) (k0 nid:Nat):sgm π k0 nid=sig π k0 nid:=by
 funext j
 unfold sgm sig
 by_cases h:j < k0
 ·rw[if_pos h,show Nat.blt j k0=true by rw[Nat.blt_eq];exact h]
 ·rw[if_neg h]
  cases hb:Nat.blt j k0 with
  | true=>rw[Nat.blt_eq]at hb;exact absurd hb h
  | false=>rfl
theorem sig_inj {π:List Nat} {nid:Nat} (hn:nodB π=true) (hlt:∀ x ∈ π,x < nid) {i j:Nat} (h:sig π π.length nid i=sig π π.length nid j):i=j:=by
 have lo:∀ {i:Nat},i < π.length->∃ x,π[i]? = some x/\π.getD i 0=x/\x < nid:=λ {i} hi=>by
  refine ⟨π[i],List.getElem?_eq_getElem hi,?_,hlt _ (List.getElem_mem hi)⟩
  rw[List.getD_eq_getElem?_getD,List.getElem?_eq_getElem hi];rfl
 unfold sig at h
 by_cases hi:i < π.length
 ·rw[if_pos hi]at h
  obtain ⟨x,a1,a2,a3⟩:=lo hi
  by_cases hj:j < π.length
  ·rw[if_pos hj]at h
   obtain ⟨y,b1,b2,b3⟩:=lo hj
   rw[a2,b2]at h
   subst h
   exact nodB_spec hn i j x a1 b1
  ·rw[if_neg hj]at h;omega
 ·rw[if_neg hi]at h
  by_cases hj:j < π.length
  ·rw[if_pos hj]at h
   obtain ⟨y,b1,b2,b3⟩:=lo hj
   omega
  ·rw[if_neg hj]at h;omega
section
variable {σ:Nat->Nat} {keep:Bool}
theorem backC_err (n:Int):backC σ keep (errC n)=errC n:=by
 rcases errC_or n with ⟨_,e⟩|⟨_,e⟩|⟨_,e⟩<;>(rw[e];rfl)
theorem backC_bk {c:TC} (h:bkOkC c=true) (hk:keep=true\/freeCs [c]=true):backC σ keep c.conc=(bkC σ c).conc:=by
 cases c with
 | imm t xs =>
  rcases hk with rfl|hk
  ·rfl
  ·cases hk
 | ip t q v r =>
  rcases hk with rfl|hk
  ·rfl
  ·cases hk
 | tab t xs =>
  rcases hk with rfl|hk
  ·rfl
  ·cases hk
 | fn f l =>
  show CV.fn f ((l.map λ p=>CV.ptr p.1 p.2).map _)=CV.fn f ((l.map λ p=>(σ p.1,p.2)).map λ p=>CV.ptr p.1 p.2)
  rw[List.map_map,List.map_map]
  rfl
 | win=>cases h
 | winx=>cases h
 | row=>cases h
 | rowx=>cases h
 | err n=>exact backC_err n
 | _=>rfl
theorem backCs_bk:∀ {cs:List TC},cs.all bkOkC=true->(keep=true\/freeCs cs=true)->(cs.map TC.conc).map (backC σ keep)=(cs.map (bkC σ)).map TC.conc
 | [],_,_=>rfl
 | c::r,h,hk=>by
  simp only[List.all_cons,Bool.and_eq_true]at h
  have hk1:keep=true\/freeCs [c]=true:=hk.imp (λ e=>e) λ e=>by
   simp only[freeCs,Bool.and_eq_true]at e ⊢
   exact ⟨e.1,trivial⟩
  have hk2:keep=true\/freeCs r=true:=hk.imp (λ e=>e) λ e=>by
   simp only[freeCs,Bool.and_eq_true]at e
   exact e.2
  simp only[List.map_cons,backC_bk h.1 hk1,backCs_bk h.2 hk2]
theorem backP_bk {p:TP} (h:(match p with | .one c=>bkOkC c | .agg cs=>cs.all bkOkC)=true) (hk:keep=true\/freeP p=true):backP σ keep p.conc=(bkP σ p).conc:=by
 cases p with
 | one c=>show PV.one _=PV.one _;rw[backC_bk h hk]
 | agg cs=>show PV.agg _=PV.agg _;rw[backCs_bk h hk]
theorem backE_bk:∀ {e:TE} {i:Nat},bkOkE i e=true->(keep=true\/freeE e=true)->(pvsE e).map (backP σ keep)=(valsE σ e).map TP.conc
 | [],_,_,_=>rfl
 | (t,v)::r,i,h,hk=>by
  simp only[bkOkE,Bool.and_eq_true]at h
  have hk2:keep=true\/freeE r=true:=hk.imp (λ e=>e) λ e=>by
   simp only[freeE,Bool.and_eq_true]at e
   exact e.2
  cases v with
  | tup l=>exact absurd h.1.1 Bool.false_ne_true
  | pv p =>
   have hk1:keep=true\/freeP p=true:=hk.imp (λ e=>e) λ e=>by
    simp only[freeE,Bool.and_eq_true]at e
    exact e.1
   show backP σ keep p.conc::(pvsE r).map (backP σ keep)=(bkP σ p).conc::(valsE σ r).map TP.conc
   rw[backE_bk h.2 hk2,backP_bk (by cases p<;>exact h.1.1) hk1]
theorem backS_bk {e:TE} {i:Nat} (h:bkOkE i e=true) (hk:keep=true\/freeE e=true):backS σ keep (svOf (pvsE e))=(tupV (valsE σ e)).conc:=by
 have:=backE_bk (σ:=σ) h hk
 generalize pvsE e=ps at this
 generalize valsE σ e=vs at this
 match ps,vs,this with
 | [],[],_=>rfl
 | [p],[v],e =>
  show SV.pv (backP σ keep p)=SV.pv v.conc
  rw[(List.cons.inj e).1]
 | p::q::r,u::v::w,e =>
  show SV.tup _=SV.tup _
  rw[e]
 | [],_::_,e=>cases e
 | _::_,[],e=>cases e
 | [_],_::_::_,e=>cases (List.cons.inj e).2
 | _::_::_,[_],e=>cases (List.cons.inj e).2
theorem rows_back {t:Ty} {xs:List t.den} (hk:keep=true\/t.plain=true):(xs.flatMap t.enc).map (backC σ keep)=xs.flatMap t.enc:=by
 rw[List.map_flatMap]
 congr 1
 funext v
 rw[<-leaves_conc,List.map_map]
 refine List.map_congr_left λ c hc => ?_
 have hp:c.pure=true:=List.all_eq_true.1 (leaves_pure t v) c hc
 show backC σ keep c.conc=c.conc
 rcases hk with rfl|hk
 ·cases c<;>first|rfl|exact backC_err _|cases hp
 ·have hf:=List.all_eq_true.1 (leaves_flat t v hk) c hc
  cases c<;>first|rfl|exact backC_err _|cases hf
theorem deep_back {t:Ty} {xs:List t.den}:((xs.flatMap t.enc).map ownC).map (backC σ keep)=(xs.flatMap t.enc).map ownC:=by
 rw[List.map_map]
 refine List.map_congr_left λ c hc => ?_
 obtain ⟨v,_,hc⟩:=List.mem_flatMap.1 hc
 rw[<-leaves_conc]at hc
 obtain ⟨d,hd,rfl⟩:=List.mem_map.1 hc
 have hp:d.pure=true:=List.all_eq_true.1 (leaves_pure t v) d hd
 show backC σ keep (ownC d.conc)=ownC d.conc
 cases d<;>first|rfl|cases hp|skip
 rename_i n _
 have e:ownC (errC n)=errC n:=by rcases errC_or n with ⟨_,e⟩|⟨_,e⟩|⟨_,e⟩<;>rw[e]<;>rfl
 show backC σ keep (ownC (errC n))=ownC (errC n)
 rw[e,backC_err]
theorem backH_bk {b:TB} (h:(match b with | .no=>false | .raw ..=>false | .deep _ _ _ (some _)=>false | .var cs=>cs.all bkOkC|_=>true)=true) (hf:b≠.fix) (hk:keep=true\/freeB b=true):backH σ keep b.conc=(bkB σ b).conc:=by
 cases b with
 | no=>cases h
 | raw=>cases h
 | fix=>exact absurd rfl hf
 | dead=>rfl
 | var cs =>
  show HS.live ⟨1,cs.length,(cs.map TC.conc).map (backC σ keep)⟩=HS.live ⟨1,(cs.map (bkC σ)).length,(cs.map (bkC σ)).map TC.conc⟩
  rw[backCs_bk h hk,List.length_map]
 | rows t n xs =>
  show HS.live ⟨t.size,n,(xs.flatMap t.enc).map (backC σ keep)⟩=HS.live ⟨t.size,n,xs.flatMap t.enc⟩
  rw[rows_back hk]
 | deep t n xs o =>
  cases o with
  | some H=>cases h
  | none =>
   show HS.deep ⟨t.size,n,((xs.flatMap t.enc).map ownC).map (backC σ keep)⟩=HS.deep ⟨t.size,n,(xs.flatMap t.enc).map ownC⟩
   rw[deep_back]
theorem backHp_bk {fb:List (Nat×TB)} (hinj:∀ i j,σ i=σ j->i=j):∀ {l:List TB} {j:Nat} {H:Nat->HS},bkOkH l=true->(keep=true\/freeH l=true)->(∀ i:Nat,l[i]? = some TB.fix->backH σ keep (lkB fb (j+i)).conc=H (σ (j+i))) →
  ∀ id,heapOf H (backHp σ keep j (heapC fb j l)) id=heapOf H ((bkH σ j l).map λ p=>(p.1,p.2.conc)) id
 | [],j,H,_,_,_,id=>rfl
 | b::r,j,H,hok,hk,hfx,id=>by
  simp only[bkOkH,Bool.and_eq_true]at hok
  have hk2:keep=true\/freeH r=true:=hk.imp (λ e=>e) λ e=>by
   simp only[freeH,Bool.and_eq_true]at e
   exact e.2
  have hk1:keep=true\/freeB b=true:=hk.imp (λ e=>e) λ e=>by
   simp only[freeH,Bool.and_eq_true]at e
   exact e.1
  by_cases hb:b=.fix
  ·subst hb
   show heapOf (upd H (σ j) (backH σ keep (lkB fb j).conc)) (backHp σ keep (j+1) (heapC fb (j+1) r)) id=heapOf H ((bkH σ (j+1) r).map λ p=>(p.1,p.2.conc)) id
   have e:upd H (σ j) (backH σ keep (lkB fb j).conc)=H:=by
    funext x
    show (if x=σ j then _ else H x)=H x
    by_cases hx:x=σ j
    ·rw[if_pos hx,hx];exact hfx 0 rfl
    ·rw[if_neg hx]
   rw[e]
   refine backHp_bk hinj hok.2 hk2 (λ i hi => ?_) id
   have:=hfx (i+1) (by simpa using hi)
   rwa [show j+(i+1)=j+1+i by omega]at this
  ·have e1:bkH σ j (b::r)=(σ j,bkB σ b)::bkH σ (j+1) r:=by cases b<;>first|rfl|exact absurd rfl hb
   have e2:heapC fb j (b::r)=b.conc::heapC fb (j+1) r:=by
    show (b.res fb j).conc::_=_
    cases b<;>first|rfl|exact absurd rfl hb
   rw[e1,e2]
   show heapOf (upd H (σ j) (backH σ keep b.conc)) (backHp σ keep (j+1) (heapC fb (j+1) r)) id=heapOf (upd H (σ j) (bkB σ b).conc) ((bkH σ (j+1) r).map λ p=>(p.1,p.2.conc)) id
   rw[backH_bk hok.1 hb hk1]
   refine backHp_bk hinj hok.2 hk2 (λ i hi => ?_) id
   have h1:=hfx (i+1) (by simpa using hi)
   rw[show j+(i+1)=j+1+i by omega]at h1
   rw[h1]
   show H _=(if σ (j+1+i)=σ j then _ else H (σ (j+1+i)))
   rw[if_neg λ e=>by have:=hinj _ _ e;omega]
end
section
variable {h:Nat->TB} {π:List Nat} {nid:Nat}
theorem sig_at {j id:Nat} (hj:π[j]? = some id):sig π π.length nid j=id:=by
 unfold sig
 rw[if_pos (List.getElem?_eq_some_iff.1 hj).1,List.getD_eq_getElem?_getD,hj];rfl
theorem ro1 {keep:Bool} (hH:GoodH h) {own:List (Nat×Nat)} {i:Nat} {c l l':TC} (hc:goodC h c) (hs:(match ownJ own i with|some _=>true|none=>c.pure)=true) (hk:keep=true\/freeCs [c]=true) (he:leafC h π own i c=some l) (hr:CR l l') :
  backC (sig π π.length nid) keep (own1 own i l').conc=c.conc:=by
 unfold leafC at he
 split at he
 ·rename_i j hj
  split at he
  ·rename_i id n
   split at he
   ·rename_i t n' xs id' hb hp
    split at he
    ·rename_i hid
     cases he
     have:=Nat.eq_of_beq_eq_true hid
     subst this
     rcases hr with rfl|⟨e,_⟩
     ·have e:own1 own i (.imm t xs)=.arr j xs.length:=by unfold own1;rw[hj]
      rw[e]
      show CV.arr (sig π π.length nid j) 0 xs.length=CV.arr id 0 n
      rw[sig_at hp,hH.len hb,hc.2.1 _ _ _ hb]
     ·cases e
    ·cases he
   ·rename_i t n' xs id' hb hp
    split at he
    ·rename_i hid
     cases he
     have:=Nat.eq_of_beq_eq_true hid
     subst this
     rcases hr with rfl|⟨e,_⟩
     ·have e:own1 own i (.imm t xs)=.arr j xs.length:=by unfold own1;rw[hj]
      rw[e]
      show CV.arr (sig π π.length nid j) 0 xs.length=CV.arr id 0 n
      rw[sig_at hp,(hH.lenD hb).1,hc.2.2.2 _ _ _ _ hb]
     ·cases e
    ·cases he
   ·cases he
  ·cases he
 ·rename_i hj
  rw[hj]at hs
  have hown:own1 own i l'=l':=by unfold own1;rw[hj]
  rw[hown]
  have hs:c.pure=true:=hs
  have hl:l=c:=by cases c<;>first|exact absurd hs Bool.false_ne_true|(simp only[pureR,pureC,TC.pure]at he;cases he;rfl)
  subst hl
  rcases hr with rfl|⟨e,_⟩
  ·cases l<;>first|rfl|exact backC_err _|exact absurd hs Bool.false_ne_true|skip
   rcases hk with rfl|hk
   ·rfl
   ·cases hk
  ·subst e;exact absurd hs Bool.false_ne_true
theorem roCs_ok {keep:Bool} (hH:GoodH h) {own:List (Nat×Nat)}:∀ {cs l l':List TC} {i:Nat},(∀ c ∈ cs,goodC h c)->roCs own i cs=true->(keep=true\/freeCs cs=true)->leafCs h π own i cs=some l->CRs l l' →
  ((ownSet own i l').map TC.conc).map (backC (sig π π.length nid) keep)=cs.map TC.conc
 | [],l,l',i,_,_,_,he,hr=>by
  cases he
  cases l' with
  | nil=>rfl
  | cons _ _=>exact hr.elim
 | c::r,l,l',i,hc,hs,hk,he,hr=>by
  unfold leafCs at he
  split at he
  ·rename_i c1 l1 h1 h2
   cases he
   simp only[roCs,Bool.and_eq_true]at hs
   have hk2:keep=true\/freeCs r=true:=hk.imp (λ e=>e) λ e=>by
    simp only[freeCs,Bool.and_eq_true]at e
    exact e.2
   have hk1:keep=true\/freeCs [c]=true:=hk.imp (λ e=>e) λ e=>by
    simp only[freeCs,Bool.and_eq_true]at e ⊢
    exact ⟨e.1,trivial⟩
   cases l' with
   | nil=>exact hr.elim
   | cons d r' =>
    rw[ownSet_cons]
    simp only[List.map_cons]
    rw[ro1 hH (hc c (by simp)) hs.1 hk1 h1 hr.1,roCs_ok hH (λ x hx=>hc x (List.mem_cons_of_mem _ hx)) hs.2 hk2 h2 hr.2]
  ·cases he
theorem caps_back:∀ {l l':List (Nat×Nat)},capsEq π l l'=true->l'.map (λ p=>(sig π π.length nid p.1,p.2))=l
 | [],[],_=>rfl
 | [],_::_,h=>by cases h
 | _::_,[],h=>by cases h
 | p::r,q::s,he=>by
  simp only[capsEq,Bool.and_eq_true]at he
  obtain ⟨⟨h1,h2⟩,h3⟩:=he
  split at h1
  ·rename_i id hid
   have e1:=Nat.eq_of_beq_eq_true h1
   simp only[List.map_cons]
   rw[caps_back h3,sig_at hid,e1,<-Nat.eq_of_beq_eq_true h2]
  ·cases h1
theorem same_back {keep:Bool} {c d:TC} (he:sameC π c d=true):backC (sig π π.length nid) keep d.conc=c.conc:=by
 unfold sameC at he
 split at he<;>try rfl
 ·rename_i id o j o'
  simp only[Bool.and_eq_true]at he
  obtain ⟨h1,h2⟩:=he
  split at h1
  ·rename_i id' hid
   show CV.ptr (sig π π.length nid j) o'=CV.ptr id o
   rw[sig_at hid,Nat.eq_of_beq_eq_true h1,Nat.eq_of_beq_eq_true h2]
  ·cases h1
 ·rename_i f l f' l'
  simp only[Bool.and_eq_true]at he
  have:=backC_bk (σ:=sig π π.length nid) (keep:=keep) (c:=.fn f' l') rfl (.inr rfl)
  rw[this]
  show CV.fn f' ((l'.map λ p=>(sig π π.length nid p.1,p.2)).map _)=CV.fn f _
  rw[caps_back he.2,Nat.eq_of_beq_eq_true he.1]
 ·rename_i n m
  obtain rfl:=Nat.eq_of_beq_eq_true he
  exact backC_err _
 ·rename_i k n k' m
  simp only[Bool.and_eq_true]at he
  obtain ⟨h1,h2⟩:=he
  split at h1
  ·rename_i e
   obtain rfl:=e
   obtain rfl:=Nat.eq_of_beq_eq_true h2
   rfl
  ·cases h1
 ·cases he
theorem sames_back {keep:Bool}:∀ {cs ds:List TC},sameCs π cs ds=true->(ds.map TC.conc).map (backC (sig π π.length nid) keep)=cs.map TC.conc
 | [],[],_=>rfl
 | [],_::_,h=>by cases h
 | _::_,[],h=>by cases h
 | c::r,d::s,he=>by
  simp only[sameCs,Bool.and_eq_true]at he
  simp only[List.map_cons,same_back he.1,sames_back he.2]
theorem leafCs_len {own:List (Nat×Nat)}:∀ {cs l:List TC} {i:Nat},leafCs h π own i cs=some l->l.length=cs.length
 | [],l,i,he=>by cases he;rfl
 | c::r,l,i,he=>by
  unfold leafCs at he
  split at he
  ·rename_i c1 l1 h1 h2
   cases he
   rw[List.length_cons,leafCs_len h2];rfl
  ·cases he
theorem CRs_len:∀ {l l':List TC},CRs l l'->l'.length=l.length
 | [],[],_=>rfl
 | _::_,_::_,h=>by simp only[List.length_cons,CRs_len h.2]
 | [],_::_,h=>h.elim
 | _::_,[],h=>h.elim
theorem ownSet_len {own:List (Nat×Nat)}:∀ {l:List TC} {i:Nat},(ownSet own i l).length=l.length
 | [],_=>rfl
 | c::r,i=>by simp only[ownSet_cons,List.length_cons,ownSet_len (l:=r)]
theorem sameCs_len:∀ {cs ds:List TC},sameCs π cs ds=true->ds.length=cs.length
 | [],[],_=>rfl
 | [],_::_,h=>by cases h
 | _::_,[],h=>by cases h
 | c::r,d::s,he=>by
  simp only[sameCs,Bool.and_eq_true]at he
  simp only[List.length_cons,sameCs_len he.2]
theorem roB_ok {keep:Bool} (hH:GoodH h) {O:List (Nat×TB)} (hO:OwnsP h π O) {j id:Nat} (hj:π[j]? = some id) {b:BSh} {ds:List Dat} (hcov:b=.o\/b=.od->lkB O j≠.no) (hs:roB b (h id)=true) (hk:keep=true\/freeB (h id)=true) (he:decB h π j b=some ds) :
  backH (sig π π.length nid) keep (bldB O j b ds).conc=(h id).conc/\noVar (bldB O j b ds)=noVar (h id)/\bldB O j b ds≠.fix:=by
 have hg:=hH id
 unfold roB at hs
 split at hs
 ·rename_i hx;rw[hx];exact ⟨rfl,rfl,λ e=>by cases e⟩
 ·rename_i t n xs hx
  obtain ⟨id',t',n',xs',h1,h2,h3⟩:=owns_lk hO (hcov (.inl rfl))
  rw[hj]at h1
  cases h1
  rcases h2 with h2|h2<;>rw[hx]at h2<;>cases h2
  have e:bldB O j .o ds=.rows t n xs:=by
   show lkB O j=_
   rw[h3,hH.len hx]
  rw[e,hx]
  rw[hx]at hk
  refine ⟨?_,rfl,λ e=>by cases e⟩
  show HS.live ⟨t.size,n,(xs.flatMap t.enc).map _⟩=_
  rw[rows_back hk];rfl
 ·rename_i t n xs hx
  obtain ⟨id',t',n',xs',h1,h2,h3⟩:=owns_lk hO (hcov (.inr rfl))
  rw[hj]at h1
  cases h1
  rcases h2 with h2|h2<;>rw[hx]at h2<;>cases h2
  have e:bldB O j .od ds=.deep t n xs none:=by
   show toDp (lkB O j)=_
   rw[h3]
   show (match t.dpB with|true=>TB.deep t xs.length xs none|false=>.rows t xs.length xs)=_
   rw[(hH.lenD hx).2,<-(hH.lenD hx).1]
  rw[e,hx]
  refine ⟨?_,rfl,λ e=>by cases e⟩
  show HS.deep ⟨t.size,n,((xs.flatMap t.enc).map ownC).map _⟩=_
  rw[deep_back];rfl
 ·rename_i τ t n xs hx
  simp only[decB,hj,hx]at he
  split at he
  ·rename_i ys hy
   cases he
   obtain ⟨e1,e2⟩:=castL_some hy
   subst e1
   have e2:xs=ys:=e2
   subst e2
   have e:bldB O j (.r t) [⟨.list t,xs⟩]=.rows t n xs:=by
    show TB.rows t xs.length xs=_
    rw[hH.len hx]
   rw[e,hx]
   rw[hx]at hk
   refine ⟨?_,rfl,λ e=>by cases e⟩
   show HS.live ⟨t.size,n,(xs.flatMap t.enc).map _⟩=_
   rw[rows_back hk];rfl
  ·cases he
 ·rename_i τ t n xs hx
  simp only[decB,hj,hx]at he
  split at he
  ·rename_i ys hy
   cases he
   obtain ⟨e1,e2⟩:=castL_some hy
   subst e1
   have e2:xs=ys:=e2
   subst e2
   have e:bldB O j (.rd t) [⟨.list t,xs⟩]=.deep t n xs none:=by
    show (match t.dpB with|true=>TB.deep t xs.length xs none|false=>.rows t xs.length xs)=_
    rw[(hH.lenD hx).2,<-(hH.lenD hx).1]
   rw[e,hx]
   refine ⟨?_,rfl,λ e=>by cases e⟩
   show HS.deep ⟨t.size,n,((xs.flatMap t.enc).map ownC).map _⟩=_
   rw[deep_back];rfl
  ·cases he
 ·rename_i t own cs hx
  simp only[decB,hj,hx]at he
  split at he
  ·rename_i d hd
   cases he
   rw[hx]at hg hk
   unfold decCs at hd
   split at hd
   ·rename_i l hl
    split at hd
    ·rename_i v hv
     cases hd
     have hcr:=mkT_made hv
     rw[hx]
     refine ⟨?_,rfl,λ e=>by cases e⟩
     show HS.live ⟨1,(ownSet own 0 (leaves t v)).length,((ownSet own 0 (leaves t v)).map TC.conc).map _⟩=HS.live ⟨1,cs.length,cs.map TC.conc⟩
     rw[roCs_ok hH hg hs hk hl hcr,ownSet_len,CRs_len hcr,leafCs_len hl]
    ·cases hd
   ·cases hd
  ·cases he
 ·rename_i ds' cs hx
  simp only[decB,hj,hx]at he
  split at he
  ·rename_i hd
   cases he
   rw[hx]
   refine ⟨?_,rfl,λ e=>by cases e⟩
   show HS.live ⟨1,ds'.length,(ds'.map TC.conc).map _⟩=HS.live ⟨1,cs.length,cs.map TC.conc⟩
   rw[sames_back hd,sameCs_len hd]
  ·cases he
 ·cases hs
end
end Go.Fm
namespace Go.Fm
variable [Globs] [Structs] [Tabs]
variable {F:Lv} {s:TS} {R:Type}
section
variable {h:Nat->TB} {π:List Nat}
theorem decE_args (hH:GoodH h) (hn:nodB π=true) {lk:Nat->TV}:∀ {env:List (Nat×VSh)} {args:List TP} {k:Nat} {ds:List Dat},seqE k env=true->env.length=args.length->(∀ (i:Nat) (p:TP),args[i]? = some p->lk (k+i)=.pv p) →
  (∀ p ∈ args,goodP h p)->decE lk h π env=some ds->∃ rd q,lendPs (lendP (hC h) π 9) (args.map TP.conc)=some (rd,q)/\lePs0 q (pvsE (bldE env ds))/\∀ x ∈ rd,x ∈ args.flatMap (lentP h π)
 | [],[],k,ds,_,_,_,_,he=>by cases he;exact ⟨[],[],rfl,trivial,λ x hx=>by simp at hx⟩
 | [],_::_,k,ds,_,hl,_,_,_=>by simp at hl
 | _::_,[],k,ds,_,hl,_,_,_=>by simp at hl
 | e::env,p::args,k,ds,hs,hl,hlk,hg,he=>by
  simp only[seqE,Bool.and_eq_true]at hs
  have e1:=Nat.eq_of_beq_eq_true hs.1
  unfold decE at he
  split at he
  ·rename_i a b h1 h2
   cases he
   rw[e1,show lk k=.pv p from hlk 0 p rfl]at h1
   have h1:decP h π e.2 p=some a:=h1
   obtain ⟨rd,q,a1,a2,a3,a4,a5,a6⟩:=decP_ok (f:=7) hH hn (hg p (by simp)) h1
   obtain ⟨rd2,q2,b1,b2,b3⟩:=decE_args hH hn hs.2 (by simpa using hl) (λ i p hp=>by
    have:=hlk (i+1) p (by simpa using hp)
    rwa [show k+(i+1)=k+1+i by omega]at this) (λ x hx=>hg x (List.mem_cons_of_mem _ hx)) h2
   refine ⟨rd++rd2,q::q2,?_,?_,λ x hx => ?_⟩
   ·simp only[List.map_cons,lendPs,a1,b1]
   ·rw[(bldE_cons (r:=env) (rest:=b) a6).1]
    exact ⟨a2,b2⟩
   ·rw[List.flatMap_cons]
    rcases List.mem_append.1 hx with hx|hx
    ·exact List.mem_append_left _ (a3 x hx)
    ·exact List.mem_append_right _ (b3 x hx)
  ·cases he
end
theorem lkE_num:∀ {args:List TP} {k i:Nat} {p:TP},args[i]? = some p->lkE (numE k args) (k+i)=.pv p
 | [],k,i,p,h=>by simp at h
 | a::r,k,i,p,h=>by
  show (match Nat.beq k (k+i) with|true=>TV.pv a|false=>lkE (numE (k+1) r) (k+i))=_
  cases i with
  | zero =>
   have:a=p:=by simpa using h
   rw[Nat.add_zero,beq_self,this]
  | succ i =>
   rw[beq_ne (by omega)]
   have:=lkE_num (args:=r) (k:=k+1) (i:=i) (p:=p) (by simpa using h)
   rwa [show k+1+i=k+(i+1) by omega]at this
theorem numE_good {h:Nat->TB}:∀ {args:List TP} {k:Nat},(∀ p ∈ args,goodP h p)->∀ t,goodV h (lkE (numE k args) t)
 | [],k,_,t=>trivial
 | a::r,k,hg,t=>by
  show goodV h (match Nat.beq k t with|true=>TV.pv a|false=>lkE (numE (k+1) r) t)
  cases Nat.beq k t with
  | true=>exact hg a (by simp)
  | false=>exact numE_good (λ x hx=>hg x (List.mem_cons_of_mem _ hx)) t
theorem lkB_ro {f:Nat->TB} {j:Nat}:∀ {ro:List Nat},elemN j ro=true->lkB (ro.map λ j=>(j,f j)) j=f j
 | [],h=>by cases h
 | x::r,h=>by
  show (match Nat.beq x j with|true=>f x|false=>lkB (r.map λ j=>(j,f j)) j)=_
  cases e:Nat.beq x j with
  | true=>rw[Nat.eq_of_beq_eq_true e]
  | false =>
   refine lkB_ro ?_
   rcases List.mem_cons.1 (elemN_iff.1 h) with e'|h
   ·rw[<-e',beq_self]at e;cases e
   ·exact elemN_iff.2 h
theorem n0Of_get:∀ {l:List TB} {j:Nat} {t:Ty} {n:Nat} {xs:List t.den},l[j]? = some (.rows t n xs)->(n0Of l)[j]? = some (some n)
 | [],j,t,n,xs,h=>by simp at h
 | b::r,0,t,n,xs,h=>by
  have:b=.rows t n xs:=by simpa using h
  subst this;rfl
 | b::r,j+1,t,n,xs,h=>by
  have:=n0Of_get (l:=r) (j:=j) (by simpa using h)
  cases b<;>exact this
theorem n0Of_getD:∀ {l:List TB} {j:Nat} {t:Ty} {n:Nat} {xs:List t.den} {o:Option (Hol t.den)},l[j]? = some (.deep t n xs o)->(n0Of l)[j]? = some (some n)
 | [],j,t,n,xs,o,h=>by simp at h
 | b::r,0,t,n,xs,o,h=>by
  have:b=.deep t n xs o:=by simpa using h
  subst this;rfl
 | b::r,j+1,t,n,xs,o,h=>by
  have:=n0Of_getD (l:=r) (j:=j) (by simpa using h)
  cases b<;>exact this
theorem keepT_get:∀ {A O:List TB} {i:Nat} {x:TB},keepT A O=true->A[i]? = some x->∃ y,O[i]? = some y/\(y=.dead\/y=.fix\/(∃ (t:Ty) (n:Nat) (xs:List t.den) (t':Ty) (n':Nat) (xs':List t'.den),x=.rows t n xs/\y=.rows t' n' xs'/\t.size=t'.size)\/(∃ cs cs',x=.var cs/\y=.var cs'/\cs.length=cs'.length)\/∃ (t:Ty) (n:Nat) (xs:List t.den) (t':Ty) (n':Nat) (xs':List t'.den),x=.deep t n xs none/\y=.deep t' n' xs' none/\t.size=t'.size)
 | [],O,i,x,_,h=>by simp at h
 | a::r,[],i,x,hk,_=>by cases a<;>cases hk
 | a::r,b::s,i,x,hk,h=>by
  have hr:keepT r s=true/\(b=.dead\/b=.fix\/(∃ (t:Ty) (n:Nat) (xs:List t.den) (t':Ty) (n':Nat) (xs':List t'.den),a=.rows t n xs/\b=.rows t' n' xs'/\t.size=t'.size)\/(∃ cs cs',a=.var cs/\b=.var cs'/\cs.length=cs'.length)\/∃ (t:Ty) (n:Nat) (xs:List t.den) (t':Ty) (n':Nat) (xs':List t'.den),a=.deep t n xs none/\b=.deep t' n' xs' none/\t.size=t'.size):=by
   unfold keepT at hk
   split at hk
   ·rename_i h1;cases h1
   ·rename_i h1 h2;cases h1;cases h2;exact ⟨hk, .inl rfl⟩
   ·rename_i h1 h2;cases h1;cases h2;exact ⟨hk, .inr (.inl rfl)⟩
   ·rename_i t n xs _ t' n' xs' _ h1 h2
    cases h1;cases h2
    simp only[Bool.and_eq_true]at hk
    exact ⟨hk.2, .inr (.inr (.inl ⟨t,n,xs,t',n',xs',rfl,rfl,Nat.eq_of_beq_eq_true hk.1⟩))⟩
   ·rename_i cs _ cs' _ h1 h2
    cases h1;cases h2
    simp only[Bool.and_eq_true]at hk
    exact ⟨hk.2, .inr (.inr (.inr (.inl ⟨cs,cs',rfl,rfl,Nat.eq_of_beq_eq_true hk.1⟩)))⟩
   ·rename_i t n xs _ t' n' xs' _ h1 h2
    cases h1;cases h2
    simp only[Bool.and_eq_true]at hk
    exact ⟨hk.2, .inr (.inr (.inr (.inr ⟨t,n,xs,t',n',xs',rfl,rfl,Nat.eq_of_beq_eq_true hk.1⟩)))⟩
   ·cases hk
  cases i with
  | zero =>
   have:a=x:=by simpa using h
   subst this
   exact ⟨b,rfl,hr.2⟩
  | succ i =>
   obtain ⟨y,h1,h2⟩:=keepT_get (i:=i) (x:=x) hr.1 (by simpa using h)
   exact ⟨y,by simpa using h1,h2⟩
def keep1:HS->HS->Prop
 | .live b, .live b'=>b.sz=b'.sz/\b.n=b'.n
 | .live _, .dead=>True
 | .dead, .dead=>True
 | .deep _, .dead=>True
 | .deep b, .deep b'=>b.sz=b'.sz/\b.n=b'.n
 | _,_=>False
theorem keepOk_of:∀ {bs h1:List HS},(∀ i,i < bs.length->keep1 (hOf bs i) (hOf h1 i))->keepOk bs h1=true
 | [],h1,_=>rfl
 | b::r,[],h=>by
  have:=h 0 (by simp)
  have e:hOf ([]:List HS) 0=.no:=rfl
  have e2:hOf (b::r) 0=b:=rfl
  rw[e,e2]at this
  cases b<;>exact this.elim
 | b::r,b'::s,h=>by
  have h0:=h 0 (by simp)
  have hr:=keepOk_of (bs:=r) (h1:=s) λ i hi=>h (i+1) (by simpa using hi)
  have e:hOf (b'::s) 0=b':=rfl
  have e2:hOf (b::r) 0=b:=rfl
  rw[e,e2]at h0
  cases b<;>cases b'<;>first|exact h0.elim|skip
  ·exact hr
  ·exact hr
  ·simp only[keepOk,Bool.and_eq_true,beq_iff_eq];exact ⟨h0,hr⟩
  ·exact hr
  ·simp only[keepOk,Bool.and_eq_true,beq_iff_eq];exact ⟨h0,hr⟩
theorem keep1_le {x y z:HS} (hl:leB0 x y) (hk:keep1 y z) (hx:x≠.no):keep1 x z:=by
 rcases hl with (e|⟨b,b',e1,e2,e3,e4,_⟩)|⟨_,e⟩
 ·rw[e]at hk;exact hk
 ·rw[e2]at hk
  rw[e1]
  cases z with
  | no=>exact hk.elim
  | dead=>trivial
  | deep _=>exact hk.elim
  | live b''=>exact ⟨e3.symm.trans hk.1,e4.symm.trans hk.2⟩
 ·rw[e]at hk
  cases z with
  | no=>exact hk.elim
  | live _=>exact hk.elim
  | deep _=>exact hk.elim
  | dead=>cases x<;>first|trivial|exact absurd rfl hx
section
variable {σ:Nat->Nat}
theorem hpGet_app:∀ {a b:List (Nat×TB)} {H:Nat->TB} {x:Nat},hpGet H (a++b) x=hpGet (hpGet H a) b x
 | [],b,H,x=>rfl
 | p::r,b,H,x=>hpGet_app (a:=r)
theorem hpGet_fz:∀ {fz:List Nat} {H:Nat->TB} {x:Nat},hpGet H (fz.map λ j=>(j,TB.dead)) x=if x ∈ fz then .dead else H x
 | [],H,x=>by simp[hpGet]
 | j::r,H,x=>by
  show hpGet (λ i=>if i=j then TB.dead else H i) (r.map λ j=>(j,TB.dead)) x=_
  rw[hpGet_fz]
  by_cases h1:x ∈ r
  ·rw[if_pos h1,if_pos (List.mem_cons_of_mem _ h1)]
  ·rw[if_neg h1]
   by_cases h2:x=j
   ·rw[if_pos h2,if_pos (by rw[h2];simp)]
   ·rw[if_neg h2,if_neg (by simp[h1,h2])]
theorem hpGet_bk (hinj:∀ i j,σ i=σ j->i=j):∀ {l:List TB} {j:Nat} {H:Nat->TB},(∀ (i:Nat) (b:TB),l[i]? = some b->b≠.fix->hpGet H (bkH σ j l) (σ (j+i))=bkB σ b) ∧
  (∀ x,(∀ (i:Nat) (b:TB),l[i]? = some b->b≠.fix->σ (j+i)≠x)->hpGet H (bkH σ j l) x=H x)
 | [],j,H=>⟨λ i b hb=>by simp at hb,λ x _=>rfl⟩
 | a::r,j,H=>by
  by_cases ha:a=.fix
  ·subst ha
   obtain ⟨h1,h2⟩:=hpGet_bk hinj (l:=r) (j:=j+1) (H:=H)
   have e:bkH σ j (.fix::r)=bkH σ (j+1) r:=rfl
   rw[e]
   refine ⟨λ i b hb hne => ?_,λ x hx=>h2 x λ i b hb hne => ?_⟩
   ·cases i with
    | zero=>exact absurd (by simpa using hb.symm) hne
    | succ i=>rw[show j+(i+1)=j+1+i by omega];exact h1 i b (by simpa using hb) hne
   ·have:=hx (i+1) b (by simpa using hb) hne
    rwa [show j+(i+1)=j+1+i by omega]at this
  ·have e:bkH σ j (a::r)=(σ j,bkB σ a)::bkH σ (j+1) r:=by cases a<;>first|rfl|exact absurd rfl ha
   obtain ⟨h1,h2⟩:=hpGet_bk hinj (l:=r) (j:=j+1) (H:=λ i=>if i=σ j then bkB σ a else H i)
   rw[e]
   refine ⟨λ i b hb hne => ?_,λ x hx => ?_⟩
   ·cases i with
    | zero =>
     have:a=b:=by simpa using hb
     subst this
     show hpGet (λ i=>if i=σ j then bkB σ a else H i) (bkH σ (j+1) r) (σ (j+0))=_
     rw[h2 _ λ i b hb hne e=>by have:=hinj _ _ e;omega]
     show (if σ (j+0)=σ j then _ else _)=_
     rw[Nat.add_zero,if_pos rfl]
    | succ i=>rw[show j+(i+1)=j+1+i by omega];exact h1 i b (by simpa using hb) hne
   ·show hpGet (λ i=>if i=σ j then bkB σ a else H i) (bkH σ (j+1) r) x=_
    rw[h2 x λ i b hb hne=>by
     have:=hx (i+1) b (by simpa using hb) hne
     rwa [show j+(i+1)=j+1+i by omega]at this]
    rw[if_neg λ e=>hx 0 a rfl ha e.symm]
theorem bkH_mem:∀ {l:List TB} {j:Nat} {p:Nat×TB},p ∈ bkH σ j l->∃ (i:Nat) (b:TB),l[i]? = some b/\b≠.fix/\p=(σ (j+i),bkB σ b)
 | [],j,p,h=>by simp[bkH]at h
 | a::r,j,p,h=>by
  by_cases ha:a=.fix
  ·subst ha
   obtain ⟨i,b,h1,h2,h3⟩:=bkH_mem (l:=r) (j:=j+1) h
   exact ⟨i+1,b,by simpa using h1,h2,by rw[h3,show j+(i+1)=j+1+i by omega]⟩
  ·have e:bkH σ j (a::r)=(σ j,bkB σ a)::bkH σ (j+1) r:=by cases a<;>first|rfl|exact absurd rfl ha
   rw[e]at h
   rcases List.mem_cons.1 h with rfl|h
   ·exact ⟨0,a,rfl,ha,rfl⟩
   ·obtain ⟨i,b,h1,h2,h3⟩:=bkH_mem h
    exact ⟨i+1,b,by simpa using h1,h2,by rw[h3,show j+(i+1)=j+1+i by omega]⟩
theorem bkH_has:∀ {l:List TB} {j i:Nat} {b:TB},l[i]? = some b->b≠.fix->∃ q ∈ bkH σ j l,q.1=σ (j+i)
 | [],j,i,b,h,_=>by simp at h
 | a::r,j,i,b,h,hb=>by
  have sub:∀ q ∈ bkH σ (j+1) r,q ∈ bkH σ j (a::r):=λ q hq=>by
   cases a<;>first|exact hq|exact List.mem_cons_of_mem _ hq
  cases i with
  | zero =>
   have:a=b:=by simpa using h
   subst this
   have e:bkH σ j (a::r)=(σ j,bkB σ a)::bkH σ (j+1) r:=by cases a<;>first|rfl|exact absurd rfl hb
   rw[e]
   exact ⟨_,List.mem_cons_self ..,rfl⟩
  | succ i =>
   obtain ⟨q,h1,h2⟩:=bkH_has (l:=r) (j:=j+1) (i:=i) (by simpa using h) hb
   exact ⟨q,sub q h1,by rw[h2,show j+(i+1)=j+1+i by omega]⟩
theorem goodC_bk {h h':Nat->TB} (hr:∀ j,h j≠.no->noVar (h' (σ j))=noVar (h j)) {c:TC} (hok:bkOkC c=true) (hc:goodC h c):goodC h' (bkC σ c):=by
 cases c with
 | arr id n =>
  have e:=hr id hc.1
  exact ⟨noVar_no e hc.1,λ t n' xs h'=>hc.2.1 t n' xs (noVar_rows e h'),λ t css h'=>hc.2.2.1 t css (noVar_raw e h'),λ t n' xs o h'=>hc.2.2.2 t n' xs o (noVar_deep e h')⟩
 | ptr id o=>exact noVar_no (hr id hc) hc
 | fn f l =>
  intro p hp
  obtain ⟨q,hq,rfl⟩:=List.mem_map.1 hp
  exact noVar_no (hr q.1 (hc q hq)) (hc q hq)
 | win=>cases hok
 | winx=>cases hok
 | row=>cases hok
 | rowx=>cases hok
 | _=>trivial
theorem goodP_bk {h h':Nat->TB} (hr:∀ j,h j≠.no->noVar (h' (σ j))=noVar (h j)) {p:TP} (hok:(match p with | .one c=>bkOkC c | .agg cs=>cs.all bkOkC)=true) (hc:goodP h p):goodP h' (bkP σ p):=by
 cases p with
 | one c=>exact goodC_bk hr hok hc
 | agg cs =>
  intro x hx
  obtain ⟨c,hc1,rfl⟩:=List.mem_map.1 hx
  exact goodC_bk hr (List.all_eq_true.1 hok c hc1) (hc c hc1)
theorem goodB_bk {h h':Nat->TB} (hr:∀ j,h j≠.no->noVar (h' (σ j))=noVar (h j)) {b:TB} (hok:(match b with | .no=>false | .raw ..=>false | .deep _ _ _ (some _)=>false | .var cs=>cs.all bkOkC|_=>true)=true) (hc:goodB h b):goodB h' (bkB σ b):=by
 cases b with
 | var cs =>
  intro x hx
  obtain ⟨c,hc1,rfl⟩:=List.mem_map.1 hx
  exact goodC_bk hr (List.all_eq_true.1 hok c hc1) (hc c hc1)
 | raw=>cases hok
 | rows=>exact hc
 | deep t n xs o =>
  cases o with
  | none=>exact ⟨hc.1,hc.2.1,trivial⟩
  | some H=>cases hok
 | _=>trivial
theorem vals_mem:∀ {e:TE} {i:Nat} {p:TP},bkOkE i e=true->p ∈ valsE σ e->∃ t q,i<=t/\lkE e t=.pv q/\p=bkP σ q/\(match q with | .one c=>bkOkC c | .agg cs=>cs.all bkOkC)=true
 | [],i,p,_,h=>by simp[valsE]at h
 | (t,v)::r,i,p,hok,h=>by
  simp only[bkOkE,Bool.and_eq_true]at hok
  have e1:=Nat.eq_of_beq_eq_true hok.1.2
  have e1:t=i:=e1
  subst e1
  cases v with
  | tup l=>exact absurd hok.1.1 Bool.false_ne_true
  | pv q =>
   rcases List.mem_cons.1 (show p ∈ bkP σ q::valsE σ r from h) with rfl|h
   ·refine ⟨t,q,Nat.le_refl _,?_,rfl,by cases q<;>exact hok.1.1⟩
    show (match Nat.beq t t with|true=>TV.pv q|false=>lkE r t)=_
    rw[beq_self]
   ·obtain ⟨u,q',h1,h2,h3,h4⟩:=vals_mem hok.2 h
    refine ⟨u,q',by omega,?_,h3,h4⟩
    show (match Nat.beq t u with|true=>TV.pv q|false=>lkE r u)=_
    rw[beq_ne (by omega)]
    exact h2
theorem tupV_good {h:Nat->TB}:∀ {vs:List TP},(∀ p ∈ vs,goodP h p)->goodV h (tupV vs)
 | [],hv=>λ p hp=>by simp at hp
 | [p],hv=>hv p (by simp)
 | p::q::r,hv=>hv
theorem bkOkH_get:∀ {l:List TB} {i:Nat} {b:TB},bkOkH l=true->l[i]? = some b->(match b with | .no=>false | .raw ..=>false | .deep _ _ _ (some _)=>false | .var cs=>cs.all bkOkC|_=>true)=true
 | [],i,b,_,h=>by simp at h
 | a::r,i,b,hok,h=>by
  simp only[bkOkH,Bool.and_eq_true]at hok
  cases i with
  | zero =>
   have:a=b:=by simpa using h
   subst this
   have:=hok.1
   exact this
  | succ i=>exact bkOkH_get hok.2 (by simpa using h)
theorem noVar_bk {b:TB}:noVar (bkB σ b)=noVar b:=by cases b<;>rfl
theorem roH_get {ro π:List Nat} {H:Nat->TB} {fr:Bool} {sh:List BSh}:∀ {l:List TB} {j i:Nat},roH ro π H fr sh j l=true->l[i]? = some .fix->∃ id b,π[j+i]? = some id/\sh[j+i]? = some b/\elemN (j+i) ro=true/\roB b (H id)=true/\(fr=true\/freeB (H id)=true)
 | [],j,i,_,h=>by simp at h
 | a::r,j,i,hr,h=>by
  cases i with
  | zero =>
   have:a=.fix:=by simpa using h
   subst this
   simp only[roH,Bool.and_eq_true]at hr
   have h1:=hr.1
   split at h1
   ·rename_i id b e1 e2
    simp only[Bool.and_eq_true,Bool.or_eq_true]at h1
    exact ⟨id,b,e1,e2,h1.1.1,h1.1.2,h1.2⟩
   ·cases h1
  | succ i =>
   have hr2:roH ro π H fr sh (j+1) r=true:=by
    cases a<;>first|exact hr|skip
    simp only[roH,Bool.and_eq_true]at hr
    exact hr.2
   have:=roH_get hr2 (i:=i) (by simpa using h)
   rwa [show j+1+i=j+(i+1) by omega]at this
end
theorem notIn_spec {π:List Nat} {x:Nat}:∀ {l:List Nat},x ∈ notIn π l ↔ x ∈ l/\x ∉ π
 | []=>by simp[notIn]
 | y::r=>by
  show x ∈ (match elemN y π with|true=>notIn π r|false=>(match elemN y (notIn π r) with|true=>notIn π r|false=>y::notIn π r)) ↔ _
  cases e:elemN y π with
  | true =>
   show x ∈ notIn π r ↔ _
   rw[notIn_spec (l:=r),List.mem_cons]
   constructor
   ·exact λ h=>⟨.inr h.1,h.2⟩
   ·rintro ⟨rfl|h1,h2⟩
    ·exact absurd (elemN_iff.1 e) h2
    ·exact ⟨h1,h2⟩
  | false =>
   have hy:=elemN_not.1 e
   show x ∈ (match elemN y (notIn π r) with|true=>notIn π r|false=>y::notIn π r) ↔ _
   cases e2:elemN y (notIn π r) with
   | true =>
    show x ∈ notIn π r ↔ _
    rw[notIn_spec (l:=r),List.mem_cons]
    constructor
    ·exact λ h=>⟨.inr h.1,h.2⟩
    ·rintro ⟨rfl|h1,h2⟩
     ·exact notIn_spec.1 (elemN_iff.1 e2)
     ·exact ⟨h1,h2⟩
   | false =>
    show x ∈ y::notIn π r ↔ _
    rw[List.mem_cons,notIn_spec (l:=r),List.mem_cons]
    constructor
    ·rintro (rfl|h)
     ·exact ⟨.inl rfl,hy⟩
     ·exact ⟨.inr h.1,h.2⟩
    ·rintro ⟨h1|h1,h2⟩
     ·exact .inl h1
     ·exact .inr ⟨h1,h2⟩
theorem liveAll_get {h:Nat->TB}:∀ {l:List Nat},liveAll h l=true->∀ x ∈ l,h x≠.no
 | [],_,x,hx=>by simp at hx
 | y::r,hl,x,hx=>by
  simp only[liveAll,Bool.and_eq_true]at hl
  rcases List.mem_cons.1 hx with rfl|hx
  ·intro e
   have h1:=hl.1
   rw[e]at h1
   exact Bool.false_ne_true h1
  ·exact liveAll_get hl.2 x hx
theorem argsT_conc:∀ {l:List TV} {ps:List TP},argsT l=some ps->argsP (l.map TV.conc)=some (ps.map TP.conc)
 | [],ps,h=>by cases h;rfl
 | .pv p::r,ps,h=>by
  unfold argsT at h
  split at h
  ·rename_i q hq
   cases h
   show (argsP (r.map TV.conc)).map _=_
   rw[argsT_conc hq];rfl
  ·cases h
 | .tup _::r,ps,h=>by cases h
theorem argsT_mem:∀ {l:List TV} {ps:List TP},argsT l=some ps->∀ p ∈ ps, .pv p ∈ l
 | [],ps,h,p,hp=>by cases h;simp at hp
 | .pv q::r,ps,h,p,hp=>by
  unfold argsT at h
  split at h
  ·rename_i l' hl
   cases h
   rcases List.mem_cons.1 hp with rfl|hp
   ·simp
   ·exact List.mem_cons_of_mem _ (argsT_mem hl p hp)
  ·cases h
 | .tup _::r,ps,h,p,hp=>by cases h
end Go.Fm
namespace Go.Fm
variable [Globs] [Structs] [Tabs]
variable {F:Lv} {s:TS} {R:Type}
theorem blkL_at {fb:List (Nat×TB)}:∀ {l:List TB} {j i:Nat} {b:TB},l[i]? = some b->blkL fb j l i=b.res fb (j+i)
 | [],j,i,b,h=>by simp at h
 | a::r,j,0,b,h=>by
  have:a=b:=by simpa using h
  subst this;rfl
 | a::r,j,i+1,b,h=>by
  show blkL fb (j+1) r i=_
  rw[blkL_at (l:=r) (j:=j+1) (i:=i) (by simpa using h),show j+(i+1)=j+1+i by omega]
theorem heapC_at {fb:List (Nat×TB)}:∀ {l:List TB} {j i:Nat},(heapC fb j l)[i]? = (l[i]?).map λ b=>(b.res fb (j+i)).conc
 | [],j,i=>by simp[heapC]
 | a::r,j,0=>by simp[heapC]
 | a::r,j,i+1=>by
  show (heapC fb (j+1) r)[i]? = _
  rw[heapC_at (l:=r),show j+(i+1)=j+1+i by omega]
  simp
theorem lentB_self {h:Nat->TB} {π:List Nat}:∀ {l:List Nat} {x:Nat},x ∈ l->x ∈ lentB h π l
 | [],x,hx=>by simp at hx
 | y::r,x,hx=>by
  show x ∈ y::(match h y with | .var cs=>cs.flatMap (lentC h π)|_=>[])++lentB h π r
  rcases List.mem_cons.1 hx with rfl|hx
  ·simp
  ·exact List.mem_append_right _ (lentB_self hx)
theorem heapOf_app (h:Nat->HS) (a b:List (Nat×HS)):heapOf h (a++b)=heapOf (heapOf h a) b:=by unfold heapOf;rw[List.foldl_append]
theorem noFH_get:∀ {l:List BSh} {i:Nat},noFH l=true->l[i]? = some .f->False
 | [],i,_,h=>by simp at h
 | b::r,0,hn,h=>by
  have:b=.f:=by simpa using h
  subst this;cases hn
 | b::r,i+1,hn,h=>by
  refine noFH_get (l:=r) (i:=i) ?_ (by simpa using h)
  cases b<;>first|exact hn|cases hn
theorem call_ok {P:Unit->Program} (hm:(P ()).follows .mixedOrders=true) {c:Con} (hc:ConOk (P ()) c) (hL:LvOk F) (hG:Good F s) {o:Oper} {cl:Call} {x:Operand} {caps:List (Nat×Nat)} {as:List TP}
  (ho:o.op=.call cl) (hcal:cl.callee=.value x) (hx:s.ev F x=.pv (.one (.fn c.f caps))) (ha:argsT (cl.args.toList.map (s.ev F))=some as) {K:OR->Option R} {r:R}
  (h:callT2 F s c (as++caps.map capP) K=some r):∃ A,K A=some r/\OpX (P ()) F o s A:=by
 have hgx:=good_ev hG x
 rw[hx]at hgx
 have hgargs:∀ p ∈ as++caps.map capP,goodP (s.blk F) p:=λ p hp=>by
  rcases List.mem_append.1 hp with hp|hp
  ·obtain ⟨y,_,hy⟩:=List.mem_map.1 (argsT_mem ha p hp)
   have:=good_ev hG y
   rw[hy]at this
   exact this
  ·obtain ⟨q,hq,rfl⟩:=List.mem_map.1 hp
   exact hgx q hq
 have hps:argsP (cl.args.toList.map (s.conc F).st.ev)=some (as.map TP.conc):=by
  have:=argsT_conc ha
  rw[List.map_map]at this
  have e:(TV.conc ∘ s.ev F)=(s.conc F).st.ev:=by funext y;exact (s.ev_conc F y).symm
  rwa [e]at this
 have hfx:(s.conc F).st.ev x=one (.fn c.f (caps.map λ p=>CV.ptr p.1 p.2)):=by rw[s.ev_conc F x,hx];rfl
 have hheap:(s.conc F).st.heap=hC (s.blk F):=by funext i;exact s.blk_conc F i
 have hcaps:as.map TP.conc++(caps.map λ p=>CV.ptr p.1 p.2).map PV.one=(as++caps.map capP).map TP.conc:=by
  rw[List.map_append,List.map_map,List.map_map];rfl
 generalize as++caps.map capP=args at h hgargs hcaps
 have hπl:(handOf c.ps (s.blk F) (numE 0 args)).length=c.ps.heap.length:=piOf_len _ _ _
 unfold callT2 at h
 simp only at h
 generalize handOf c.ps (s.blk F) (numE 0 args)=π at h hπl
 split at h
 ·rename_i ds hdec hok
  simp only[Bool.and_eq_true]at hok
  obtain ⟨⟨⟨⟨⟨k1,k2⟩,k3⟩,k4⟩,k5⟩,k6⟩:=hok
  have k4:=Nat.eq_of_beq_eq_true k4
  have hlive:=liveAll_get k2
  have hlt:∀ x ∈ π,x < s.heap.length:=λ x hx=>blk_lt (hlive x hx)
  obtain ⟨a,b,hE,hH,hcov,rfl⟩:=Shp.dec_some hdec
  have hGH:GoodH (s.blk F):=hG.heap
  have tE:=decE_tys hE
  split at h
  ·rename_i a0 ha0
   obtain ⟨r0,hg,h⟩:=Option.bind_eq_some_iff.1 h
   have hmk:c.ps.mkS a0=⟨bldE c.ps.env a,bldH (bldO c.ps.env a++bldHO c.ps.heap b) 0 c.ps.heap b⟩:=by rw[mkS_of ha0,bld_of tE]
   have hO:OwnsP (s.blk F) π (bldO c.ps.env a++bldHO c.ps.heap b):=owns_of (sh:=c.ps) hGH k1 (numE_good hgargs) (lk_envC · (numE 0 args)) hE hH
   generalize bldO c.ps.env a++bldHO c.ps.heap b=O at hcov hmk hO
   -- the callee's beginning
   have hG0:Good ⟨[],F.fb,0,[]⟩ ⟨numE 0 args,s.heap⟩:=⟨Nat.zero_le _,hG.fb,λ t=>by
    show goodV (s.blk F) (lkE (numE 0 args++[]) t)
    rw[List.append_nil]
    exact numE_good hgargs t,hG.heap,λ j t n xs hj=>absurd hj (Nat.not_lt_zero _),λ j t n xs o hj=>absurd hj (Nat.not_lt_zero _)⟩
   have hlk0:(⟨numE 0 args,s.heap⟩:TS).lk ⟨[],F.fb,0,[]⟩=lkE (numE 0 args):=by
    funext t
    show lkE (numE 0 args++[]) t=_
    rw[List.append_nil]
   have hGA:=(dec_gen (Ft:=⟨[],[],0,[]⟩) (π:=π) (env:=c.ps.env) (heap:=c.ps.heap) hG0 rfl rfl k1 rfl rfl rfl k5 (λ i hi=>(noFH_get k6 hi).elim) (λ t ht=>by cases ht) hπl (by rw[hlk0];exact hE) hH hO hcov).1
   rw[<-hmk]at hGA
   obtain ⟨rd1,q,p1,p2,p3⟩:=decE_args hGH k1 (lk:=lkE (numE 0 args)) k3 k4 (λ i p hp=>lkE_num hp) hgargs hE
   obtain ⟨rd2,bs,b1,b2,b3,b4,b5,b6,b7,b8⟩:=decH_ok (f:=7) (fb:=[]) hGH k1 hO (ids:=π) (rest:=[]) hH k5 hcov (λ i hi=>(noFH_get k6 hi).elim) hπl (λ i id hi=>by rw[Nat.zero_add];exact hi)
   rw[List.append_nil]at b3 b5 b6 b7
   have hAl:(c.ps.mkS a0).heap.length=c.ps.heap.length:=by rw[hmk];exact b7
   have hAh:(c.ps.mkS a0).heap=bldH O 0 c.ps.heap b:=by rw[hmk]
   have hAe:(c.ps.mkS a0).env=bldE c.ps.env a:=by rw[hmk]
   rw[<-hAh]at b3 b5
   rw[<-hAe]at p2
   obtain ⟨v,h1,hme,rfl,rfl,hGo⟩:=hc a0 r0 hGA hg hm
   have hbl:bs.length=π.length:=by rw[b2,hπl]
   have hme:=hme.le p2 (bs:=bs) (by rw[heapC_len,hAl,b2]) b3
   obtain ⟨_,_,hbg⟩:=lendH_some b1
   generalize hst:c.rs.mkS r0=o2 at h hme hGo
   generalize hlv:lvl0 c.ro (c.ps.mkS a0)=lv at h hme hGo
   have hfb:lv.fb=c.ro.map λ j=>(j,blkL [] 0 (c.ps.mkS a0).heap j):=by rw[<-hlv];rfl
   have hn0:lv.n0=n0Of (c.ps.mkS a0).heap:=by rw[<-hlv];rfl
   have hk0:lv.k0=(c.ps.mkS a0).heap.length:=by rw[<-hlv];rfl
   have hfx0:lv.fx=[]:=by rw[<-hlv];rfl
   generalize hA:(c.ps.mkS a0).heap=A at h hfb hn0 hk0 b3 b5 hAl hAh
   let σ:=sig π π.length s.heap.length
   have hinj:∀ i j,σ i=σ j->i=j:=λ i j=>sig_inj k1 hlt
   rw[sgm_sig]at h
   have hrdsub:∀ x ∈ rd1++rd2,x ∈ args.flatMap (lentP (s.blk F) π)++lentB (s.blk F) π π:=λ x hx=>by
    rcases List.mem_append.1 hx with hx|hx
    ·exact List.mem_append_left _ (p3 x hx)
    ·exact List.mem_append_right _ (b4 x hx)
   -- the blocks that are only read
   have hro:∀ {fr:Bool},roH c.ro π (s.blk F) fr c.ps.heap 0 o2.heap=true->∀ i:Nat,o2.heap[i]? = some TB.fix->∃ id,π[i]? = some id/\lkB lv.fb i=blkL [] 0 A i/\noVar (lkB lv.fb i)=noVar (s.blk F id) ∧
     (∀ keep,(keep=true\/fr=false)->backH σ keep (lkB lv.fb i).conc=(s.blk F id).conc):=λ {fr} hr i hi=>by
    obtain ⟨id,b',g1,g2,g3,g4,g5⟩:=roH_get hr hi
    rw[Nat.zero_add]at g1 g2 g3
    obtain ⟨d,d1,d2⟩:=decH_get (B:=[]) (O:=O) hH g2
    rw[Nat.zero_add]at d1 d2
    have e1:lkB lv.fb i=blkL [] 0 A i:=by rw[hfb];exact lkB_ro g3
    have hcv:b'=.o\/b'=.od->lkB O i≠.no:=λ e=>by
     have:=coverO_get hcov (e.elim (λ e=>.inl (e▸g2)) λ e=>.inr (e▸g2))
     rwa [Nat.zero_add]at this
    obtain ⟨q1,q2,q3⟩:=roB_ok (keep:=true) (nid:=s.heap.length) hGH hO g1 hcv g4 (.inl rfl) d1
    have e2:lkB lv.fb i=bldB O i b' d:=by
     rw[e1,hAh,d2]
     cases hbb:bldB O i b' d<;>first|rfl|exact absurd hbb q3
    refine ⟨id,g1,e1,by rw[e2];exact q2,λ keep hk => ?_⟩
    rw[e2]
    refine (roB_ok (keep:=keep) (nid:=s.heap.length) hGH hO g1 hcv g4 ?_ d1).1
    rcases hk with hk|hk
    ·exact .inl hk
    ·rcases g5 with g5|g5
     ·rw[hk]at g5;cases g5
     ·exact .inr g5
   have hAx:∀ i,i < A.length->∃ x id,A[i]? = some x/\π[i]? = some id/\blkL [] 0 A i=x/\BR (s.blk F id) x:=λ i hi=>by
    have e1:=List.getElem?_eq_getElem hi
    have hi':i < π.length:=by rw[hπl,<-hAl];exact hi
    have e2:=List.getElem?_eq_getElem hi'
    have e3:=blkL_at (fb:=[]) (j:=0) e1
    rw[Nat.zero_add]at e3
    have e4:=b5 i _ e2
    have e5:blkL [] 0 A i=A[i]:=by
     rw[e3]
     rw[e3]at e4
     cases hx:A[i]<;>first|rfl|skip
     rw[hx]at e4
     exact absurd rfl e4.no
    exact ⟨_,_,e1,e2,e5,e5▸e4⟩
   have hn0':∀ (i:Nat) {t:Ty} {n:Nat} {xs:List t.den} {t':Ty} {n':Nat} {xs':List t'.den},i < A.length->A[i]? = some (.rows t n xs)->o2.heap[i]? = some (.rows t' n' xs')->n'=n:=λ i t n xs t' n' xs' hi e1 e2=>by
    have e3:o2.blk lv i=.rows t' n' xs':=by
     have:=blkL_at (fb:=lv.fb) (j:=0) e2
     exact this
    have:=hGo.n0 i t' n' xs' (by rw[hk0];exact hi) e3
    rw[hn0,n0Of_get e1]at this
    cases this;rfl
   have hn1':∀ (i:Nat) {t:Ty} {n:Nat} {xs:List t.den} {o:Option (Hol t.den)} {t':Ty} {n':Nat} {xs':List t'.den} {o':Option (Hol t'.den)},i < A.length->A[i]? = some (.deep t n xs o)->o2.heap[i]? = some (.deep t' n' xs' o')->n'=n:=λ i t n xs o t' n' xs' o' hi e1 e2=>by
    have e3:o2.blk lv i=.deep t' n' xs' o':=by
     have:=blkL_at (fb:=lv.fb) (j:=0) e2
     exact this
    have:=hGo.n1 i t' n' xs' o' (by rw[hk0];exact hi) e3
    rw[hn0,n0Of_getD e1]at this
    cases this;rfl
   have hko:keepT A o2.heap=true->(∃ fr,roH c.ro π (s.blk F) fr c.ps.heap 0 o2.heap=true)->keepOk bs (heapC lv.fb 0 o2.heap)=true:=λ hkt ⟨fr,hr⟩=>by
    refine keepOk_of λ i hi => ?_
    have hiA:i < A.length:=by rw[hAl,<-b2];exact hi
    obtain ⟨x,id,x1,x2,x3,x4⟩:=hAx i hiA
    obtain ⟨y,y1,y2⟩:=keepT_get hkt x1
    have hbn:hOf bs i≠.no:=by
     rcases hbg i id x2 with ⟨_,e⟩|⟨_,_,_,_,e,_⟩|⟨_,_,_,_,e,_⟩<;>rw[hOf_get e]<;>simp
    refine keep1_le (b3 i) ?_ hbn
    rw[hOf_heapC,hOf_heapC,x3,blkL_at y1,Nat.zero_add]
    rcases y2 with rfl|rfl|⟨t,n,xs,t',n',xs',rfl,rfl,e⟩|⟨cs,cs',rfl,rfl,e⟩|⟨t,n,xs,t',n',xs',rfl,rfl,e⟩
    ·rcases x4 with rfl|⟨t,n,xs,_,rfl⟩|⟨cs,cs',_,rfl⟩|⟨t,n,xs,_,rfl⟩<;>trivial
    ·obtain ⟨_,_,g1,_⟩:=hro hr i y1
     show keep1 x.conc (lkB lv.fb i).conc
     rw[g1,x3]
     rcases x4 with rfl|⟨t,n,xs,_,rfl⟩|⟨cs,cs',_,rfl⟩|⟨t,n,xs,_,rfl⟩
     ·trivial
     ·exact ⟨rfl,rfl⟩
     ·exact ⟨rfl,rfl⟩
     ·exact ⟨rfl,rfl⟩
    ·exact ⟨e,(hn0' i hiA x1 y1).symm⟩
    ·exact ⟨rfl,e⟩
    ·exact ⟨e,(hn1' i hiA x1 y1).symm⟩
   -- the outcome
   have fin:∀ (fr keep:Bool) (fz:List Nat),bkOkE 0 o2.env=true->bkOkH o2.heap=true->keepT A o2.heap=true->roH c.ro π (s.blk F) fr c.ps.heap 0 o2.heap=true →
     (keep=true\/fr=false/\freeE o2.env=true/\freeH o2.heap=true)->(∀ x ∈ fz,s.blk F x≠.no/\x ∉ π) →
     ActX (P ()) o (s.conc F).st s.heap.length ⟨rd1++rd2,backS σ keep (svOf (pvsE o2.env)),fz.map (λ j=>(j,HS.dead))++backHp σ keep 0 (heapC lv.fb 0 o2.heap)⟩ →
     OpX (P ()) F o s ⟨tupV (valsE σ o2.env),fz.map (λ j=>(j,TB.dead))++bkH σ 0 o2.heap,args.flatMap (lentP (s.blk F) π)++lentB (s.blk F) π π⟩:=λ fr keep fz f1 f2 f3 f4 f5 f6 hA'=>by
    have hkf:keep=true\/freeE o2.env=true:=f5.imp (λ e=>e) (·.2.1)
    have hkf2:keep=true\/freeH o2.heap=true:=f5.imp (λ e=>e) (·.2.2)
    have hkr:keep=true\/fr=false:=f5.imp (λ e=>e) (·.1)
    refine ⟨hA'.conv hrdsub (backS_bk f1 hkf).symm (λ p hp hn => ?_) λ h' hag id => ?_,?_⟩
    ·show ∃ q ∈ (fz.map (λ j=>(j,TB.dead))++bkH σ 0 o2.heap).map (λ p=>(p.1,p.2.conc)),q.1=p.1
     rcases List.mem_append.1 hp with hp|hp
     ·obtain ⟨j,hj,rfl⟩:=List.mem_map.1 hp
      exact ⟨(j, .dead),by rw[List.map_append];exact List.mem_append_left _ (List.mem_map.2 ⟨(j, .dead),List.mem_map.2 ⟨j,hj,rfl⟩,rfl⟩),rfl⟩
     ·obtain ⟨i,hi⟩:=List.getElem?_of_mem hp
      rw[backHp_get,heapC_at]at hi
      cases hb:o2.heap[i]? with
      | none=>rw[hb]at hi;cases hi
      | some b2 =>
       rw[hb]at hi
       simp only[Option.map_some,Option.some.injEq,Nat.zero_add]at hi
       by_cases hfix:b2=.fix
       ·subst hfix
        obtain ⟨id,g1,_⟩:=hro f4 i hb
        have e:p.1=id:=by rw[<-hi];exact sig_at g1
        have:=hlt id (List.mem_of_getElem? g1)
        omega
       ·obtain ⟨q,q1,q2⟩:=bkH_has (σ:=σ) (j:=0) hb hfix
        refine ⟨(q.1,q.2.conc),by rw[List.map_append];exact List.mem_append_right _ (List.mem_map.2 ⟨q,q1,rfl⟩),?_⟩
        rw[q2,<-hi,Nat.zero_add]
    ·show heapOf h' (fz.map (λ j=>(j,HS.dead))++backHp σ keep 0 (heapC lv.fb 0 o2.heap)) id=heapOf h' ((fz.map (λ j=>(j,TB.dead))++bkH σ 0 o2.heap).map λ p=>(p.1,p.2.conc)) id
     rw[List.map_append,heapOf_app,heapOf_app]
     have e:(fz.map (λ j=>(j,TB.dead))).map (λ p:Nat×TB=>(p.1,p.2.conc))=fz.map (λ j=>(j,HS.dead)):=by rw[List.map_map];rfl
     rw[e]
     refine backHp_bk hinj f2 hkf2 (λ i hi => ?_) id
     rw[Nat.zero_add]
     obtain ⟨id',g1,g2,g3,g4⟩:=hro f4 i hi
     have hmem:=List.mem_of_getElem? g1
     have e:σ i=id':=sig_at g1
     rw[e,g4 keep hkr]
     have:heapOf h' (fz.map λ j=>(j,HS.dead)) id'=h' id':=heapZ_not λ hz=>(f6 id' hz).2 hmem
     rw[this,hag id' (List.mem_append_right _ (lentB_self hmem))]
     exact (s.blk_conc F id').symm
    ·-- what is told is so
     have H1:=hpGet_bk hinj (l:=o2.heap) (j:=0) (H:=hpGet (s.blk F) (fz.map λ j=>(j,TB.dead)))
     let H':=hpGet (s.blk F) (fz.map (λ j=>(j,TB.dead))++bkH σ 0 o2.heap)
     have hH':∀ x,H' x=hpGet (hpGet (s.blk F) (fz.map λ j=>(j,TB.dead))) (bkH σ 0 o2.heap) x:=λ x=>hpGet_app
     have hrel:∀ j,o2.blk lv j≠.no->noVar (H' (σ j))=noVar (o2.blk lv j):=λ j hj=>by
      rcases Nat.lt_or_ge j o2.heap.length with hlt2|hge
      ·have e1:=List.getElem?_eq_getElem hlt2
       have e2:o2.blk lv j=(o2.heap[j]).res lv.fb j:=by
        have:=blkL_at (fb:=lv.fb) (j:=0) e1
        rwa [Nat.zero_add]at this
       by_cases hfix:o2.heap[j]=.fix
       ·rw[hfix]at e1 e2
        obtain ⟨id',g1,g2,g3,g4⟩:=hro f4 j e1
        have hmem:=List.mem_of_getElem? g1
        rw[e2]
        show noVar (H' (σ j))=noVar (lkB lv.fb j)
        rw[g3,hH',H1.2 _ (λ i b hb hne e=>by
         rw[Nat.zero_add]at e
         have:=hinj _ _ e
         subst this
         rw[e1]at hb
         cases hb
         exact hne rfl),hpGet_fz,if_neg (λ hz=>(f6 _ hz).2 (by rw[show σ j=id' from sig_at g1];exact hmem)),show σ j=id' from sig_at g1]
       ·have e3:=H1.1 j _ e1 hfix
        rw[Nat.zero_add]at e3
        rw[hH',e3,noVar_bk,e2]
        cases hb:o2.heap[j]<;>first|rfl|exact absurd hb hfix
      ·exact absurd (blkL_ge hge) hj
     refine ⟨λ p hp => ?_,λ p hp => ?_,λ p hp => ?_,?_⟩
     ·rcases List.mem_append.1 hp with hp|hp
      ·obtain ⟨j,hj,rfl⟩:=List.mem_map.1 hp
       refine .inr ⟨(f6 j hj).1,?_⟩
       show Compat (s.blk F j) .dead
       cases s.blk F j<;>trivial
      ·obtain ⟨i,b2,g1,g2,rfl⟩:=bkH_mem hp
       rw[Nat.zero_add]
       rcases Nat.lt_or_ge i A.length with hi|hi
       ·right
        obtain ⟨x,id,x1,x2,x3,x4⟩:=hAx i hi
        have e:σ i=id:=sig_at x2
        show s.blk F (σ i)≠.no/\Compat (s.blk F (σ i)) (bkB σ b2)
        rw[e]
        refine ⟨hlive id (List.mem_of_getElem? x2),?_⟩
        obtain ⟨y,y1,y2⟩:=keepT_get f3 x1
        rw[g1]at y1
        cases y1
        rcases y2 with rfl|rfl|⟨t,n,xs,t',n',xs',rfl,rfl,e⟩|⟨cs,cs',rfl,rfl,e⟩|⟨t,n,xs,t',n',xs',rfl,rfl,e⟩
        ·show Compat (s.blk F id) .dead
         cases s.blk F id<;>trivial
        ·exact absurd rfl g2
        ·obtain ⟨q1,n'',q2⟩:=x4.rows rfl
         show Compat (s.blk F id) (.rows t' n' xs')
         rw[q2]
         show n'=n''
         rw[hn0' i hi x1 g1,q1,hGH.len q2]
        ·rcases x4 with x4|⟨_,_,_,_,x4⟩|⟨cs1,cs2,x4,_⟩|⟨_,_,_,_,x4⟩
         ·cases x4
         ·cases x4
         ·rw[x4];trivial
         ·cases x4
        ·obtain ⟨q1,n'',q2⟩:=x4.deep rfl
         show Compat (s.blk F id) (.deep t' n' xs' none)
         rw[q2]
         show n'=n''
         rw[hn1' i hi x1 g1,q1,(hGH.lenD q2).1]
       ·left
        show s.heap.length<=sig π π.length s.heap.length i
        unfold sig
        rw[if_neg (by rw[hπl,<-hAl];omega)]
        exact Nat.le_add_right _ _
     ·rcases List.mem_append.1 hp with hp|hp
      ·obtain ⟨j,hj,rfl⟩:=List.mem_map.1 hp
       exact ⟨λ e=>(by cases e),λ e=>(by cases e)⟩
      ·obtain ⟨i,b2,g1,g2,rfl⟩:=bkH_mem hp
       have hb:=bkOkH_get f2 g1
       cases b2 with
       | no=>exact absurd hb Bool.false_ne_true
       | fix=>exact absurd rfl g2
       | _=>exact ⟨λ e=>(by cases e),λ e=>(by cases e)⟩
     ·rcases List.mem_append.1 hp with hp|hp
      ·obtain ⟨j,hj,rfl⟩:=List.mem_map.1 hp
       trivial
      ·obtain ⟨i,b2,g1,g2,rfl⟩:=bkH_mem hp
       have hb:=bkOkH_get f2 g1
       have e:o2.blk lv i=b2:=by
        have:=blkL_at (fb:=lv.fb) (j:=0) g1
        show blkL lv.fb 0 o2.heap i=b2
        rw[this]
        cases b2<;>first|rfl|exact absurd rfl g2
       have hgb:=hGo.heap i
       rw[e]at hgb
       exact goodB_bk hrel hb hgb
     ·refine tupV_good λ p hp => ?_
      obtain ⟨t,q,q1,q2,rfl,q4⟩:=vals_mem f1 hp
      have:=hGo.env t
      have e:o2.lk lv t=.pv q:=by
       show lkE (o2.env++lv.fx) t=_
       rw[hfx0,List.append_nil];exact q2
      rw[e]at this
      exact goodP_bk hrel q4 this
   have hlp:lendPs (lendP (s.conc F).st.heap π 9) (as.map TP.conc++(caps.map λ p=>CV.ptr p.1 p.2).map PV.one)=some (rd1,q):=by rw[hheap,hcaps];exact p1
   have hlh:lendH (s.conc F).st.heap π 9 π=some (rd2,bs):=by rw[hheap];exact b1
   have hout:∀ x,x ∈ notIn π (args.flatMap (lentP (s.blk F) π)++lentB (s.blk F) π π)->x ∉ π:=λ x hx=>(notIn_spec.1 hx).2
   have hz:∀ fz:List Nat,notIn π (args.flatMap (lentP (s.blk F) π)++lentB (s.blk F) π π)=fz->allIn (π++fz) (rd1++rd2)=true:=λ fz hfz=>by
    have:∀ l:List Nat,(∀ x ∈ l,x ∈ π++fz)->allIn (π++fz) l=true:=by
     intro l
     induction l with
     | nil=>intro _;rfl
     | cons y r ih =>
      intro hl
      simp only[allIn,Bool.and_eq_true]
      exact ⟨ixOf_mem (hl y (by simp)),ih λ x hx=>hl x (List.mem_cons_of_mem _ hx)⟩
    refine this _ λ x hx => ?_
    by_cases hxp:x ∈ π
    ·exact List.mem_append_left _ hxp
    ·exact List.mem_append_right _ (by rw[<-hfz];exact notIn_spec.2 ⟨hrdsub x hx,hxp⟩)
   have hz2:∀ fz:List Nat,(∀ x ∈ fz,s.blk F x≠.no/\x ∉ π)->fz.all (λ x=>(ixOf π x).isNone&&Nat.blt x s.heap.length)=true:=λ fz hfz=>by
    refine List.all_eq_true.2 λ x hx => ?_
    obtain ⟨g1,g2⟩:=hfz x hx
    rw[ix_none (elemN_not.2 g2)]
    show (true&&Nat.blt x s.heap.length)=true
    rw[Bool.true_and,Nat.blt_eq]
    exact blk_lt g1
   split at h
   ·-- nothing is lent
    rename_i hchk hnil
    simp only[Bool.and_eq_true]at hchk
    split at h
    ·rename_i hr
     refine ⟨_,h,?_⟩
     have hk:=hko hchk.1.2 ⟨true,hr⟩
     have hact:=call_actz (nid:=s.heap.length) (fz:=[]) (hz [] hnil) rfl ho hcal hfx hps hlp hlh k1 hk hme
     rw[hbl]at hact
     exact fin true true [] hchk.1.1.1 hchk.1.1.2 hchk.1.2 hr (.inl rfl) (λ x hx=>by simp at hx) hact
    ·cases h
   ·rename_i hchk hfr hne
    simp only[Bool.and_eq_true]at hchk
    split at h
    ·rename_i hr
     refine ⟨_,h,?_⟩
     have hk:=hko hchk.1.2 ⟨true,hr⟩
     have hfz:∀ x ∈ notIn π (args.flatMap (lentP (s.blk F) π)++lentB (s.blk F) π π),s.blk F x≠.no/\x ∉ π:=λ x hx=>⟨liveAll_get hchk.2 x hx,hout x hx⟩
     have hact:=call_actz (nid:=s.heap.length) (hz _ rfl) (hz2 _ hfz) ho hcal hfx hps hlp hlh k1 hk hme
     rw[hbl]at hact
     exact fin true true _ hchk.1.1.1 hchk.1.1.2 hchk.1.2 hr (.inl rfl) hfz hact
    ·cases h
   ·rename_i hchk hfr hne
    simp only[Bool.and_eq_true]at hchk
    split at h
    ·rename_i hr
     simp only[Bool.and_eq_true]at hr
     refine ⟨_,h,?_⟩
     have hk:=hko hchk.1.2 ⟨false,hr.2⟩
     have hact:=call_actx (nid:=s.heap.length) ho hcal hfx hps hlp hlh k1 hk hme
     rw[hbl]at hact
     exact fin false (allIn π (rd1++rd2)) [] hchk.1.1.1 hchk.1.1.2 hchk.1.2 hr.2 (.inr ⟨rfl,hr.1.1,hr.1.2⟩) (λ x hx=>by simp at hx) hact
    ·cases h
   ·cases h
  ·cases h
 ·cases h
end Go.Fm
namespace Go.Fm
variable [Globs] [Structs] [Tabs]
def Mv1 (h:Nat->TB) (c l:TC) (a:List Nat):Prop :=
 (∃ (id n n':Nat) (t:Ty) (xs:List t.den),c=.arr id n/\l=.imm t xs/\h id=.rows t n' xs/\t.plain=true/\a=[id])\/(c=.emp/\(∃ t,l=.imm t [])/\a=[])\/(c.flat=true/\l=c/\a=[])
def MvL (h:Nat->TB):List TC->List TC->List Nat->Prop
 | [],[],ids=>ids=[]
 | c::r,l::s,ids=>∃ a b,ids=a++b/\Mv1 h c l a/\MvL h r s b
 | _,_,_=>False
theorem mvC_ok {h:Nat->TB} {c m l:TC} {a:List Nat} (he:mvC h c=some (m,a)) (hr:CR m l) (hl:l≠.emp):Mv1 h c l a:=by
 unfold mvC at he
 split at he
 ·rename_i id n
  split at he
  ·rename_i t n' xs hb
   split at he
   ·rename_i hp
    cases he
    rcases hr with rfl|⟨e,_⟩
    ·exact .inl ⟨id,n,n',t,xs,rfl,rfl,hb,hp,rfl⟩
    ·cases e
   ·cases he
  ·cases he
 ·cases he
  rcases hr with rfl|⟨_,t,rfl⟩
  ·exact absurd rfl hl
  ·exact .inr (.inl ⟨rfl,⟨t,rfl⟩,rfl⟩)
 ·split at he
  ·rename_i hf
   cases he
   rcases hr with rfl|⟨rfl,_⟩
   ·exact .inr (.inr ⟨hf,rfl,rfl⟩)
   ·cases hf
  ·cases he
theorem mvCs_ok {h:Nat->TB}:∀ {cs ms ls:List TC} {ids:List Nat},mvCs h cs=some (ms,ids)->CRs ms ls->(∀ l ∈ ls,l≠.emp)->MvL h cs ls ids
 | [],ms,ls,ids,he,hr,_=>by
  cases he
  cases ls with
  | nil=>rfl
  | cons _ _=>exact hr.elim
 | c::r,ms,ls,ids,he,hr,hl=>by
  unfold mvCs at he
  split at he
  ·rename_i m a l b h1 h2
   cases he
   cases ls with
   | nil=>exact hr.elim
   | cons l' ls'=>exact ⟨a,b,rfl,mvC_ok h1 hr.1 (hl _ (List.mem_cons_self ..)),mvCs_ok h2 hr.2 λ l h=>hl l (List.mem_cons_of_mem _ h)⟩
  ·cases he
theorem MvL.app {h:Nat->TB}:∀ {a b c d:List TC} {x y:List Nat},MvL h a b x->MvL h c d y->MvL h (a++c) (b++d) (x++y)
 | [],[],c,d,x,y,h1,h2=>by cases h1;exact h2
 | p::r,l::s,c,d,x,y,⟨a,b,e,h1,h3⟩,h2=>by
  subst e
  exact ⟨a,b++y,by rw[List.append_assoc],h1,MvL.app h3 h2⟩
 | [],_::_,_,_,_,_,h1,_=>h1.elim
 | _::_,[],_,_,_,_,h1,_=>h1.elim
theorem pure_notemp {t:Ty} {v:t.den}:∀ l ∈ leaves t v,l≠.emp:=λ l hl=>by
 have:=List.all_eq_true.1 (leaves_pure t v) l hl
 rintro rfl
 cases this
theorem mvAll_ok {h:Nat->TB} {t:Ty}:∀ {css:List (List TC)} {vs:List t.den} {ids:List Nat},mvAll h t css=some (vs,ids)->MvL h css.flatten (vs.flatMap (leaves t)) ids/\vs.length=css.length
 | [],vs,ids,he=>by cases he;exact ⟨rfl,rfl⟩
 | cs::r,vs,ids,he=>by
  unfold mvAll at he
  split at he
  ·rename_i l a vs' b h1 h2
   split at he
   ·rename_i v hv
    cases he
    obtain ⟨g1,g2⟩:=mvAll_ok h2
    exact ⟨by rw[List.flatten_cons,List.flatMap_cons];exact (mvCs_ok h1 (mkT_made hv) pure_notemp).app g1,by simp[g2]⟩
   ·cases he
  ·cases he
theorem MvL.len {h:Nat->TB}:∀ {cs ls:List TC} {ids:List Nat},MvL h cs ls ids->ls.length=cs.length
 | [],[],_,_=>rfl
 | c::r,l::s,ids,⟨a,b,_,_,h2⟩=>by simp only[List.length_cons,h2.len]
 | [],_::_,_,h=>h.elim
 | _::_,[],_,h=>h.elim
theorem MvL.get {h:Nat->TB}:∀ {cs ls:List TC} {ids:List Nat},MvL h cs ls ids->∀ (k:Nat) (c l:TC),cs[k]? = some c->ls[k]? = some l->∃ a,Mv1 h c l a/\∀ x ∈ a,x ∈ ids
 | [],[],_,_,k,c,l,h1,_=>by simp at h1
 | c::r,l::s,ids,⟨a,b,e,h1,h2⟩,0,c',l',g1,g2=>by
  cases g1;cases g2
  exact ⟨a,h1,λ x hx=>by rw[e];exact List.mem_append_left _ hx⟩
 | c::r,l::s,ids,⟨a,b,e,h1,h2⟩,k+1,c',l',g1,g2=>by
  obtain ⟨a',q1,q2⟩:=h2.get k c' l' (by simpa using g1) (by simpa using g2)
  exact ⟨a',q1,λ x hx=>by rw[e];exact List.mem_append_right _ (q2 x hx)⟩
 | [],_::_,_,h,_,_,_,_,_=>h.elim
 | _::_,[],_,h,_,_,_,_,_=>h.elim
theorem MvL.ids {h:Nat->TB}:∀ {cs ls:List TC} {ids:List Nat},MvL h cs ls ids->∀ x ∈ ids,∃ (k n:Nat),cs[k]? = some (.arr x n)
 | [],[],_,e,x,hx=>by rw[show _=_ from e]at hx;cases hx
 | c::r,l::s,ids,⟨a,b,e,h1,h2⟩,x,hx=>by
  rw[e]at hx
  rcases List.mem_append.1 hx with hx|hx
  ·rcases h1 with ⟨id,n,n',t,xs,rfl,_,_,_,rfl⟩|⟨_,_,rfl⟩|⟨_,_,rfl⟩
   ·rw[List.mem_singleton.1 hx];exact ⟨0,n,rfl⟩
   ·cases hx
   ·cases hx
  ·obtain ⟨k,n,hk⟩:=h2.ids x hx
   exact ⟨k+1,n,by simpa using hk⟩
 | [],_::_,_,h,_,_=>h.elim
 | _::_,[],_,h,_,_=>h.elim
theorem nodB_app {a b:List Nat} (hn:nodB (a++b)=true):nodB b=true/\∀ x ∈ a,x ∉ b:=by
 have hs:=nodB_spec hn
 have cv:∀ {l:List Nat},(∀ (i j x:Nat),l[i]? = some x->l[j]? = some x->i=j)->nodB l=true:=by
  intro l
  induction l with
  | nil=>intro _;rfl
  | cons y r ih =>
   intro hl
   have h1:nodB r=true:=ih λ i j x hi hj=>by
    have:=hl (i+1) (j+1) x (by simpa using hi) (by simpa using hj)
    omega
   have h2:y ∉ r:=λ hm=>by
    obtain ⟨i,hi⟩:=List.getElem?_of_mem hm
    have:=hl 0 (i+1) y rfl (by simpa using hi)
    omega
   unfold nodB
   simp only[h1,Bool.and_true]
   cases e:ixOf r y with
   | none=>rfl
   | some j=>exact absurd (List.mem_of_getElem? (ixOf_some e)) h2
 refine ⟨cv λ i j x hi hj => ?_,λ x hx hm => ?_⟩
 ·have:=hs (a.length+i) (a.length+j) x (by rw[List.getElem?_append_right (by omega)];simpa using hi) (by rw[List.getElem?_append_right (by omega)];simpa using hj)
  omega
 ·obtain ⟨i,hi⟩:=List.getElem?_of_mem hx
  obtain ⟨j,hj⟩:=List.getElem?_of_mem hm
  have hil:=(List.getElem?_eq_some_iff.1 hi).1
  have:=hs i (a.length+j) x (by rw[List.getElem?_append_left hil];exact hi) (by rw[List.getElem?_append_right (by omega)];simpa using hj)
  omega
theorem MvL.inj {h:Nat->TB}:∀ {cs ls:List TC} {ids:List Nat},MvL h cs ls ids->nodB ids=true->∀ (k k' x n n':Nat),cs[k]? = some (.arr x n)->cs[k']? = some (.arr x n')->k=k'
 | [],[],_,_,_,k,k',x,n,n',h1,_=>by simp at h1
 | c::r,l::s,ids,⟨a,b,e,h1,h2⟩,hn,k,k',x,n,n',g1,g2=>by
  subst e
  obtain ⟨hb,hd⟩:=nodB_app hn
  have hin:∀ (j m:Nat),r[j]? = some (.arr x m)->x ∈ b:=λ j m hj=>by
   have hjl:j < s.length:=by rw[h2.len];exact (List.getElem?_eq_some_iff.1 hj).1
   obtain ⟨a',q1,q2⟩:=h2.get j _ _ hj (List.getElem?_eq_getElem hjl)
   rcases q1 with ⟨id,n,n',t,xs,e,_,_,_,rfl⟩|⟨e,_⟩|⟨e,_⟩
   ·cases e;exact q2 _ (List.mem_singleton.2 rfl)
   ·cases e
   ·cases e
  have h0:∀ m,c=.arr x m->x ∈ a:=λ m hc=>by
   rcases h1 with ⟨id,n,n',t,xs,e,_,_,_,rfl⟩|⟨e,_⟩|⟨e,_⟩
   ·rw[hc]at e;cases e;exact List.mem_singleton.2 rfl
   ·rw[hc]at e;cases e
   ·rw[hc]at e;cases e
  cases k with
  | zero =>
   cases k' with
   | zero=>rfl
   | succ k' =>
    have e1:c=.arr x n:=by simpa using g1
    exact absurd (hin k' n' (by simpa using g2)) (hd x (h0 n e1))
  | succ k =>
   cases k' with
   | zero =>
    have e1:c=.arr x n':=by simpa using g2
    exact absurd (hin k n (by simpa using g1)) (hd x (h0 n' e1))
   | succ k'=>rw[h2.inj hb k k' x n n' (by simpa using g1) (by simpa using g2)]
 | [],_::_,_,h,_,_,_,_,_,_,_,_=>h.elim
 | _::_,[],_,h,_,_,_,_,_,_,_,_=>h.elim
theorem own_flat {c:TC} (h:c.flat=true):ownC c.conc=c.conc/\c.conc.isOwn=false:=by
 have hb:=flat_bare h
 cases hc:c.conc<;>first|exact ⟨rfl,rfl⟩|(rw[hc]at hb;cases hb)
def idAt (cs:List TC) (k:Nat):Nat:=match cs[k]? with|some (.arr id _)=>id|_=>0
theorem MvL.mvs {h:Nat->TB} (hH:GoodH h) {cs ls:List TC} {ids:List Nat} (hm:MvL h cs ls ids) (hn:nodB ids=true) (hg:∀ c ∈ cs,goodC h c) :
  Mvs (hC h) (cs.map TC.conc) (ls.map λ l=>ownC l.conc) (idAt cs) ids:=by
 have harr:∀ (k n:Nat),(cs.map TC.conc)[k]? = some (.arr (idAt cs k) 0 n)->cs[k]? = some (.arr (idAt cs k) n)\/∃ c,cs[k]? = some c/\∀ (id m:Nat),c≠.arr id m:=λ k n hk=>by
  rw[List.getElem?_map]at hk
  cases hc:cs[k]? with
  | none=>rw[hc]at hk;cases hk
  | some c =>
   rw[hc]at hk
   by_cases hx:∃ id m,c=.arr id m
   ·obtain ⟨id,m,rfl⟩:=hx
    cases hk
    exact .inl rfl
   ·exact .inr ⟨c,rfl,λ id m e=>hx ⟨id,m,e⟩⟩
 have hcell:∀ (k:Nat) (c:TC),cs[k]? = some c->∃ l a,ls[k]? = some l/\Mv1 h c l a/\∀ x ∈ a,x ∈ ids:=λ k c hk=>by
  have hkl:k < ls.length:=by rw[hm.len];exact (List.getElem?_eq_some_iff.1 hk).1
  obtain ⟨a,q1,q2⟩:=hm.get k _ _ hk (List.getElem?_eq_getElem hkl)
  exact ⟨_,a,List.getElem?_eq_getElem hkl,q1,q2⟩
 have harr2:∀ (k n:Nat),(cs.map TC.conc)[k]? = some (.arr (idAt cs k) 0 n)->cs[k]? = some (.arr (idAt cs k) n):=λ k n hk=>by
  rcases harr k n hk with h1|⟨c,hc,hx⟩
  ·exact h1
  ·obtain ⟨l,a,_,q1,_⟩:=hcell k c hc
   rw[List.getElem?_map,hc]at hk
   have hk:c.conc=.arr (idAt cs k) 0 n:=by simpa using hk
   rcases q1 with ⟨id,m,n',t,xs,e,_⟩|⟨e,_⟩|⟨e,_⟩
   ·exact absurd e (hx id m)
   ·rw[e]at hk;cases hk
   ·have:=flat_bare e
    rw[hk]at this;cases this
 refine ⟨by rw[List.length_map,List.length_map,hm.len],λ k c c' h1 h2 => ?_,λ k k' n n' h1 h2 e => ?_,λ x hx => ?_⟩
 ·rw[List.getElem?_map]at h1 h2
  cases hc:cs[k]? with
  | none=>rw[hc]at h1;cases h1
  | some d =>
   obtain ⟨l,a,g1,g2,g3⟩:=hcell k d hc
   rw[hc]at h1
   rw[g1]at h2
   cases h1;cases h2
   rcases g2 with ⟨id,n,n',t,xs,rfl,rfl,hb,hp,rfl⟩|⟨rfl,⟨t,rfl⟩,_⟩|⟨hf,rfl,_⟩
   ·have e1:n'=n:=(hg _ (List.mem_of_getElem? hc)).2.1 _ _ _ hb
    have e2:xs.length=n':=by have:=hH id;rw[hb]at this;exact this
    have e3:idAt cs k=id:=by unfold idAt;rw[hc]
    refine .inl ⟨t.size,n,xs.flatMap t.enc,by rw[e3];rfl,by rw[<-e1,<-e2];rfl,?_,plain_bare hp xs,by rw[flat_len (encOk t).len,e2,e1],by rw[e3];exact g3 id (List.mem_singleton.2 rfl)⟩
    rw[e3]
    show (h id).conc=_
    rw[hb,<-e1];rfl
   ·exact .inr (.inl ⟨rfl,t.size,rfl⟩)
   ·exact .inr (.inr ⟨(own_flat hf).1,flat_bare hf⟩)
 ·have g1:=harr2 k n h1
  have g2:=harr2 k' n' h2
  rw[e]at g1
  exact hm.inj hn k k' _ n n' g1 g2
 ·obtain ⟨k,n,hk⟩:=hm.ids x hx
  have e:idAt cs k=x:=by unfold idAt;rw[hk]
  exact ⟨k,n,by rw[List.getElem?_map,hk,e];rfl,e⟩
theorem map_over {f:CV->CV} (cs ns:List CV) (off:Nat):(over cs off ns).map f=over (cs.map f) off (ns.map f):=by
 unfold over
 rw[List.map_append,List.map_append,List.map_take,List.map_drop,List.length_map]
theorem row_cell {t:Ty} {xs:List t.den} {i:Int} {v:t.den} {q:Nat} {c:TC} (h:getI xs i=some v) (hc:(leaves t v)[q]? = some c):(xs.flatMap t.enc)[i.toNat*t.size+q]? = some c.conc:=by
 have hq:q < t.size:=by rw[<-leaves_len t v];exact (List.getElem?_eq_some_iff.1 hc).1
 have h1:=fGet (q:=q) (m:=1) (encOk t) h (by omega) (by omega)
 have h2:getC 1 ((t.enc v).drop q)=some [c.conc]:=by
  rw[<-leaves_conc]
  have:((leaves t v).map TC.conc)[q]? = some c.conc:=by rw[List.getElem?_map,hc];rfl
  obtain ⟨h3,h4⟩:=List.getElem?_eq_some_iff.1 this
  rw[getC_eq (by rw[List.length_drop];omega) (by omega),List.drop_eq_getElem_cons h3,h4];rfl
 rw[h2]at h1
 obtain ⟨h3,h4,_⟩:=getC_some h1
 have h4:1<=((xs.flatMap t.enc).drop (i.toNat*t.size+q)).length:=h4
 rw[List.length_drop]at h4
 have h5:i.toNat*t.size+q < (xs.flatMap t.enc).length:=by omega
 rw[List.drop_eq_getElem_cons h5]at h3
 rw[List.getElem?_eq_getElem h5]
 have:=(List.cons.inj h3).1
 rw[this]
theorem hol_cell {t:Ty} {xs:List t.den} {o:Option (Hol t.den)} {i:Int} {v:t.den} {q:Nat} {c:TC} {h:Nat->TB} (hg:getI xs i=some v) (hc:(leaves t v)[q]? = some c) (hf:c.flat=true) (ho:goodO h t xs o) :
  (holC t.size o ((xs.flatMap t.enc).map ownC))[i.toNat*t.size+q]? = some c.conc/\c.conc.isOwn=false:=by
 have h1:((xs.flatMap t.enc).map ownC)[i.toNat*t.size+q]? = some c.conc:=by rw[List.getElem?_map,row_cell hg hc,Option.map_some,(own_flat hf).1]
 refine ⟨?_,(own_flat hf).2⟩
 cases o with
 | none=>exact h1
 | some H =>
  show (((xs.flatMap t.enc).map ownC).set (H.i.toNat*t.size+H.q) _)[_]? = _
  rw[List.getElem?_set_ne ?_]
  ·exact h1
  ·intro e
   obtain ⟨_,g2,t',ys,g3⟩:=ho
   have hq:q < t.size:=by rw[<-leaves_len t v];exact (List.getElem?_eq_some_iff.1 hc).1
   have hq':H.q < t.size:=by rw[<-leaves_len t H.v];exact (List.getElem?_eq_some_iff.1 g3).1
   have e1:H.i.toNat=i.toNat:=by
    have h1:(H.i.toNat*t.size+H.q) / t.size=H.i.toNat:=by rw[Nat.mul_comm,Nat.mul_add_div (by omega),Nat.div_eq_of_lt hq',Nat.add_zero]
    have h2:(i.toNat*t.size+q) / t.size=i.toNat:=by rw[Nat.mul_comm,Nat.mul_add_div (by omega),Nat.div_eq_of_lt hq,Nat.add_zero]
    rw[<-h1,<-h2,e]
   have e2:H.q=q:=by rw[e1]at e;omega
   obtain ⟨a1,a2,a3⟩:=getI_some hg
   obtain ⟨b1,b2,b3⟩:=getI_some g2
   rw[e1]at b3
   rw[a3]at b3
   cases b3
   rw[e2,hc]at g3
   cases g3
   cases hf
end Go.Fm
namespace Go.Fm
variable [Globs] [Structs] [Tabs]
variable {R:Type} {F:Lv} {s:TS} {K:OR->Option R} {r:R} {P:Program}
theorem blk_deep {id n:Nat} {t:Ty} {xs:List t.den} {o:Option (Hol t.den)} (h:s.blk F id=.deep t n xs o):(s.conc F).st.heap id=.deep ⟨t.size,n,holC t.size o ((xs.flatMap t.enc).map ownC)⟩:=by rw[TS.blk_conc,h];rfl
theorem holC_len {α:Type} {sz:Nat} (o:Option (Hol α)) (cs:List CV):(holC sz o cs).length=cs.length:=by
 cases o with
 | none=>rfl
 | some H=>exact List.length_set
theorem quietD (hG:Good F s) {o:Oper} {id n:Nat} {t:Ty} {xs:List t.den} {oh:Option (Hol t.den)} {v:TV} (hb:s.blk F id=.deep t n xs oh) (hv:∀ j,v.conc.men j->j=id) (hgv:goodV (s.blk F) v)
  (h:∀ φ2:St,(∀ x ∈ o.op.operands,φ2.ev x=(s.ev F x).conc)->(∃ cs,φ2.heap id=.live ⟨t.size,n,cs⟩/\cs.length=n*t.size/\∀ (p:Nat) (c:CV),(holC t.size oh ((xs.flatMap t.enc).map ownC))[p]? = some c->c.isOwn=false->cs[p]? = some c) →
   act P o φ2 s.heap.length λ A=>A=⟨[id],v.conc,[]⟩):OpX P F o s ⟨v,[],[id]⟩:=by
 have hgb:=hG.heap id
 rw[hb]at hgb
 refine ⟨ActOk.x (ok_deep_quiet (blk_deep hb) (List.mem_singleton.2 rfl) (λ j hj=>by rw[List.mem_singleton.1 hj,blk_deep hb];nofun) (λ j hj=>List.mem_singleton.2 (hv j hj)) λ φ2 h1 ⟨cs,h2,h3,h4⟩ h5 => ?_), .quiet hgv⟩
 obtain ⟨A,hA,e⟩:=act_ok (h φ2 (λ x hx=>by rw[h1 x hx,s.ev_conc]) ⟨cs,h2,by rw[h3,holC_len,List.length_map,flat_len (encOk t).len,hgb.1],h4⟩)
 rw[e]at hA
 exact hA
theorem indexAddrD_ok {T:TypeId->TyI} (hT:T=tiOf P) (hG:Good F s) {o:Oper} {t:TypeId} {x i:Operand} (ho:o.op=.indexAddr t x i) (h:indexAddrD T F s t (s.ev F x) (s.ev F i) K=some r):∃ A,K A=some r/\OpX P F o s A:=by
 subst hT
 have hg:=good_ev hG x
 unfold indexAddrD at h
 split at h
 ·rename_i e id n k j h1 hx hi
  rw[hx]at hg
  split at h
  ·rename_i τ t' n' xs oh h3 hb
   split at h
   ·rename_i xs' hc
    obtain ⟨rfl,rfl⟩:=castL_eq hc
    obtain ⟨v,hv,h⟩:=bS h
    have hgb:=hG.heap id
    rw[hb]at hgb
    have e1:n'=n:=hg.2.2.2 _ _ _ _ hb
    obtain ⟨g1,g2,g3⟩:=getI_some hv
    refine ⟨_,h,quietD hG hb (λ j hj=>hj.symm) ⟨by rw[hb];nofun,λ n2 ys h'=>(by rw[hb]at h';cases h'),λ n2 ys o' h'=>(by rw[hb]at h';cases h';exact hv)⟩ λ φ2 q1 ⟨cs,q2,q3,q4⟩ => ?_⟩
    unfold act
    rw[ho]
    have hxm:x ∈ o.op.operands:=by rw[ho];simp[Op.operands]
    have him:i ∈ o.op.operands:=by rw[ho];simp[Op.operands]
    have hk:kindF P t=.slice e:=h1
    have hsz:sizeF P e=some t'.size:=tyS_ok h3
    simp only[hk,hsz,kO]
    rw[q1 x hxm,q1 i him,hx,hi]
    show kLive (φ2.heap id) _
    rw[q2]
    refine ⟨rfl,⟨g1,by rw[<-e1,<-hgb.1];exact g2⟩,?_⟩
    show Action.mk _ _ _=_
    simp only[TV.conc,TP.conc,TC.conc,Nat.zero_add,Nat.add_zero]
   ·cases h
  ·cases h
 ·cases h
theorem fieldAddrD_ok {T:TypeId->TyI} (hT:T=tiOf P) (hG:Good F s) {o:Oper} {t:TypeId} {x:Operand} {f:Nat} (ho:o.op=.fieldAddr t x f) (h:fieldAddrD T F s t (s.ev F x) f K=some r):∃ A,K A=some r/\OpX P F o s A:=by
 subst hT
 have hg:=good_ev hG x
 unfold fieldAddrD at h
 split at h
 ·rename_i q id p t' i v h1 hx
  rw[hx]at hg
  split at h
  ·rename_i size t2 n xs oh h2 hb
   split at h
   ·rename_i h3
    refine ⟨_,h,quietD hG hb (λ j hj=>hj.symm) hg λ φ2 q1 ⟨cs,q2,q3,q4⟩ => ?_⟩
    unfold act
    rw[ho]
    have hxm:x ∈ o.op.operands:=by rw[ho];simp[Op.operands]
    have h1:(foffL P t)[f]? = some q:=h1
    rw[foffL_get]at h1
    have h2:sizeF P q.2=some size:=h2
    simp only[h1,h2,kO]
    rw[q1 x hxm,hx]
    refine ⟨by rw[Nat.blt_eq]at h3;omega,?_⟩
    show kLive (φ2.heap id) _
    rw[q2]
    show Action.mk _ _ _=_
    simp only[TV.conc,TP.conc,TC.conc,Nat.add_assoc]
   ·cases h
  ·cases h
 ·cases h
theorem lenD_ok {T:TypeId->TyI} (hT:T=tiOf P) (hG:Good F s) {o:Oper} {c:Call} {t:TypeId} {x:TC} (ho:o.op=.call c) (hc:c.callee=.builtin .len) (hat:c.argTypes.toList=[t]) (hxs:c.args.toList.map (s.ev F)=[.pv (.one x)])
  (h:lenD T F s t x K=some r):∃ A,K A=some r/\OpX P F o s A:=by
 subst hT
 unfold lenD at h
 split at h
 ·rename_i e id n h1
  split at h
  ·rename_i t' n' xs oh hb
   obtain ⟨y,hl,hy⟩:=map_one hxs
   have hg:=good_ev hG y
   rw[hy]at hg
   refine ⟨_,h,quietD hG hb (λ j hj=>hj.elim) trivial λ φ2 q1 ⟨cs,q2,q3,q4⟩ => ?_⟩
   unfold act
   rw[ho]
   have hym:y ∈ o.op.operands:=call_mem ho hc hl (by simp)
   have hk:kindF P t=.slice e:=h1
   simp only[hc,hat,hl,List.map_cons,List.map_nil]
   unfold builtinF
   simp only[hk]
   rw[q1 y hym,hy]
   show kLive (φ2.heap id) _
   rw[q2]
   rfl
  ·cases h
 ·cases h
theorem takeT_get {n:Nat}:∀ {l m:List TC},takeT n l=some m->m.length=n/\∀ j,j < n->m[j]? = l[j]? := by
 induction n with
 | zero=>intro l m h;unfold takeT at h;cases h;exact ⟨rfl,λ j hj=>by omega⟩
 | succ n ih =>
  intro l m h
  cases l with
  | nil=>unfold takeT at h;cases h
  | cons c r =>
   unfold takeT at h
   split at h
   ·rename_i l' h1
    cases h
    obtain ⟨g1,g2⟩:=ih h1
    refine ⟨by simp[g1],λ j hj => ?_⟩
    cases j with
    | zero=>rfl
    | succ j=>simpa using g2 j (by omega)
   ·cases h
theorem getT_get {n:Nat} {l m:List TC} (h:getT n l=some m):0 < n/\m.length=n/\∀ j,j < n->m[j]? = l[j]? := by
 unfold getT at h
 split at h
 ·cases h
 ·obtain ⟨g1,g2⟩:=takeT_get h
  exact ⟨by omega,g1,g2⟩
theorem loadD_ok {T:TypeId->TyI} (hT:T=tiOf P) (hG:Good F s) {o:Oper} {t:TypeId} {x:Operand} (ho:o.op=.load t x) (h:loadD T F s t (s.ev F x) K=some r):∃ A,K A=some r/\OpX P F o s A:=by
 subst hT
 have hg:=good_ev hG x
 unfold loadD at h
 split at h
 ·rename_i size b id q t' i v h1 h2 hx
  rw[hx]at hg
  split at h
  ·rename_i t2 n xs oh hos hb
   split at h
   ·rename_i xs' ns hc hns
    obtain ⟨rfl,rfl⟩:=castL_eq hc
    have hgb:=hG.heap id
    rw[hb]at hgb
    obtain ⟨hl,hdp,hgo⟩:=hgb
    have hgi:getI xs' i=some v:=hg.2.2 _ _ _ hb
    obtain ⟨a0,a1,a2⟩:=getT_get hns
    have hxm:x ∈ o.op.operands:=by rw[ho];simp[Op.operands]
    have hs1:sizeF P t=some size:=h1
    have hs2:aggF P t=some b:=h2
    have hleaf:∀ j,j < size->(leaves t2 v)[q+j]? = ns[j]? := λ j hj=>by rw[a2 j hj,List.getElem?_drop]
    split at h
    ·rename_i hf
     have hcell:∀ (j:Nat) (c:TC),ns[j]? = some c->c.flat=true:=λ j c hj=>List.all_eq_true.1 hf c (List.mem_of_getElem? hj)
     have hmen:∀ j,(pvT b ns).conc.men j->False:=λ j hm=>by
      rw[pvT_conc]at hm
      have hall:∀ c ∈ ns.map TC.conc,¬ c.men j:=λ c hc'=>by
       obtain ⟨d,hd,rfl⟩:=List.mem_map.1 hc'
       exact bare_men (flat_bare (List.all_eq_true.1 hf d hd)) j
      cases b with
      | true =>
       obtain ⟨c,hc1,hc2⟩:=hm
       exact hall c hc1 hc2
      | false =>
       cases hq:ns.map TC.conc with
       | nil=>rw[hq]at hm;exact hm
       | cons c r'=>rw[hq]at hm;exact hall c (by rw[hq];exact List.mem_cons_self ..) hm
     refine ⟨_,h,quietD hG hb (λ j hj=>(hmen j hj).elim) (pvT_good λ c hc'=>goodC_pure (flat_pure (List.all_eq_true.1 hf c hc'))) λ φ2 q1 ⟨cs,q2,q3,q4⟩ => ?_⟩
     unfold act
     rw[ho]
     simp only[hs1,hs2,kO]
     refine ⟨bool_size hos,?_⟩
     rw[q1 x hxm,hx]
     show kLive (φ2.heap id) _
     rw[q2]
     have hpos:∀ j,j < size->∃ c,ns[j]? = some c/\cs[i.toNat*t2.size+q+j]? = some c.conc:=λ j hj=>by
      have hjl:j < ns.length:=by omega
      have e1:=List.getElem?_eq_getElem hjl
      refine ⟨_,e1,?_⟩
      obtain ⟨e2,e3⟩:=hol_cell hgi ((hleaf j hj).trans e1) (hcell j _ e1) hgo
      rw[Nat.add_assoc]
      exact q4 _ _ e2 e3
     have hle:i.toNat*t2.size+q+size<=cs.length:=by
      obtain ⟨c,_,e⟩:=hpos (size-1) (by omega)
      have:=(List.getElem?_eq_some_iff.1 e).1
      omega
     refine ⟨hle,?_⟩
     have:(cs.drop (i.toNat*t2.size+q)).take size=ns.map TC.conc:=by
      refine List.ext_getElem? λ j => ?_
      rw[List.getElem?_take]
      by_cases hj:j < size
      ·obtain ⟨c,e1,e2⟩:=hpos j hj
       rw[if_pos hj,List.getElem?_drop,e2,List.getElem?_map,e1];rfl
      ·rw[if_neg hj,List.getElem?_map,List.getElem?_eq_none (by omega)];rfl
     show Action.mk [id] (.pv (pvOf b ((cs.drop (i.toNat*t2.size+q)).take size))) []=_
     rw[this,pvT_conc]
    ·split at h
     ·rename_i τ ys hf
      split at h
      ·rename_i hp
       have hs:size=1:=a1.symm
       subst hs
       have hlf:(leaves t2 v)[q]? = some (.imm τ ys):=hleaf 0 (by omega)
       have hq:q < t2.size:=by rw[<-leaves_len t2 v];exact (List.getElem?_eq_some_iff.1 hlf).1
       have hcl:((xs'.flatMap t2.enc).map ownC)[i.toNat*t2.size+q]? = some (.own τ.size ys.length (ys.flatMap τ.enc)):=by
        rw[List.getElem?_map,row_cell hgi hlf];rfl
       have hok:=ok_deep_open (P:=P) (o:=o) (φ:=(s.conc F).st) (nid:=s.heap.length) (t:=t) (x:=x) (id:=id) (off:=i.toNat*t2.size+q) ho hs1 hs2 (by rw[s.ev_conc,hx];rfl) (blk_deep hb) hcl
       have hne:s.heap.length≠id:=λ e=>by rw[<-e,blk_new]at hb;cases hb
       refine ⟨_,h,hok.x,⟨λ p hp' => ?_,λ p hp' => ?_,λ p hp' => ?_,?_⟩⟩
       ·rcases List.mem_cons.1 hp' with rfl|hp'
        ·exact .inr ⟨by rw[hb];nofun,by rw[hb];rfl⟩
        ·rw[List.mem_singleton.1 hp'];exact .inl (Nat.le_refl _)
       ·rcases List.mem_cons.1 hp' with rfl|hp'
        ·exact ⟨nofun,nofun⟩
        ·rw[List.mem_singleton.1 hp'];exact ⟨nofun,nofun⟩
       ·have hnew:hpGet (s.blk F) [(id, .deep t2 n xs' (some ⟨i,v,q,s.heap.length,ys.length⟩)),(s.heap.length, .rows τ ys.length ys)] s.heap.length=.rows τ ys.length ys:=if_pos rfl
        rcases List.mem_cons.1 hp' with rfl|hp'
        ·refine ⟨hl,hdp,⟨by rw[hnew];nofun,λ t' n' xs2 h' => ?_,λ t' css h' => ?_,λ t' n' xs2 o' h' => ?_⟩,hgi,τ,ys,hlf⟩
         ·rw[hnew]at h';cases h';rfl
         ·rw[hnew]at h';cases h'
         ·rw[hnew]at h';cases h'
        ·rw[List.mem_singleton.1 hp'];exact rfl
       ·have hnew:hpGet (s.blk F) [(id, .deep t2 n xs' (some ⟨i,v,q,s.heap.length,ys.length⟩)),(s.heap.length, .rows τ ys.length ys)] s.heap.length=.rows τ ys.length ys:=if_pos rfl
        refine ⟨by rw[hnew];nofun,λ t' n' xs2 h' => ?_,λ t' css h' => ?_,λ t' n' xs2 o' h' => ?_⟩
        ·rw[hnew]at h';cases h';rfl
        ·rw[hnew]at h';cases h'
        ·rw[hnew]at h';cases h'
      ·cases h
     ·cases h
   ·cases h
  ·cases h
 ·cases h
end Go.Fm
namespace Go.Fm
variable [Globs] [Structs] [Tabs]
variable {R:Type} {F:Lv} {s:TS} {K:OR->Option R} {r:R} {P:Program}
theorem putT_eq:∀ {off:Nat} {ns cs m:List TC},putT off ns cs=some m->off+ns.length<=cs.length/\m=cs.take off++ns++cs.drop (off+ns.length)
 | 0,[],cs,m,h=>by
  have h:some cs=some m:=by cases cs<;>exact h
  cases h;simp
 | 0,n::ns,c::cs,m,h=>by
  unfold putT at h
  split at h
  ·rename_i l h1
   cases h
   obtain ⟨e1,e2⟩:=putT_eq h1
   refine ⟨by simpa using e1,?_⟩
   rw[e2];simp
  ·cases h
 | off+1,ns,c::cs,m,h=>by
  have h:(match putT off ns cs with|some l=>some (c::l)|none=>none)=some m:=by cases ns<;>exact h
  split at h
  ·rename_i l h1
   cases h
   obtain ⟨e1,e2⟩:=putT_eq h1
   refine ⟨by simp only[List.length_cons];omega,?_⟩
   rw[e2]
   simp only[List.take_succ_cons,List.cons_append,show off+1+ns.length=(off+ns.length)+1 by omega,List.drop_succ_cons]
  ·cases h
 | 0,n::ns,[],m,h=>by cases h
 | off+1,ns,[],m,h=>by cases ns<;>cases h
theorem CRs_split:∀ {a b m:List TC},CRs (a++b) m->∃ x y,m=x++y/\CRs a x/\CRs b y
 | [],b,m,h=>⟨[],m,rfl,trivial,h⟩
 | c::r,b,[],h=>h.elim
 | c::r,b,d::s,h=>by
  obtain ⟨x,y,e,h1,h2⟩:=CRs_split (a:=r) h.2
  exact ⟨d::x,y,by rw[e];rfl,⟨h.1,h1⟩,h2⟩
theorem deads_conc (ids:List Nat):(deads ids).map (λ p:Nat×TB=>(p.1,p.2.conc))=deadAll ids:=by
 unfold deads deadAll
 rw[List.map_map];rfl
theorem deads_mem {ids:List Nat} {p:Nat×TB} (h:p ∈ deads ids):p.1 ∈ ids/\p.2=.dead:=by
 obtain ⟨j,hj,rfl⟩:=List.mem_map.1 h
 exact ⟨hj,rfl⟩
theorem hpGet_deads:∀ {ids:List Nat} {h:Nat->TB} {x:Nat},x ∉ ids->hpGet h (deads ids) x=h x
 | [],h,x,_=>rfl
 | i::r,h,x,hx=>by
  show hpGet (λ j=>if j=i then .dead else h j) (deads r) x=_
  rw[hpGet_deads λ hm=>hx (List.mem_cons_of_mem _ hm),if_neg λ e=>hx (by rw[e];exact List.mem_cons_self ..)]
theorem MvL.live {h:Nat->TB} {cs ls:List TC} {ids:List Nat} (hm:MvL h cs ls ids):∀ x ∈ ids,∃ (t:Ty) (n:Nat) (xs:List t.den),h x=.rows t n xs:=λ x hx=>by
 obtain ⟨k,n,hk⟩:=hm.ids x hx
 have hkl:k < ls.length:=by rw[hm.len];exact (List.getElem?_eq_some_iff.1 hk).1
 obtain ⟨a,q1,_⟩:=hm.get k _ _ hk (List.getElem?_eq_getElem hkl)
 rcases q1 with ⟨id,n,n',t,xs,e,_,hb,_⟩|⟨e,_⟩|⟨e,_⟩
 ·cases e;exact ⟨t,n',xs,hb⟩
 ·cases e
 ·cases e
theorem compat_dead (b:TB):Compat b .dead:=by cases b<;>trivial
theorem nodB_cons {x:Nat} {l:List Nat} (h:nodB (x::l)=true):x ∉ l/\nodB l=true:=by
 obtain ⟨h1,h2⟩:=nodB_app (a:=[x]) h
 exact ⟨h2 x (List.mem_singleton.2 rfl),h1⟩
theorem storeD_ok {T:TypeId->TyI} (hT:T=tiOf P) (hG:Good F s) {o:Oper} {t:TypeId} {x v:Operand} (ho:o.op=.store t x v) (h:storeD T F s t (s.ev F x) (s.ev F v) K=some r):∃ A,K A=some r/\OpX P F o s A:=by
 subst hT
 have hg:=good_ev hG x
 have hgv:=good_ev hG v
 unfold storeD at h
 split at h
 ·rename_i size ns id q t' i w h1 hns hx
  rw[hx]at hg
  split at h
  ·rename_i t2 n xs oh ms ids hlen hb hms
   split at h
   ·rename_i xs' l hc hp hnd
    obtain ⟨rfl,rfl⟩:=castL_eq hc
    split at h
    ·rename_i y hy
     have hgb:=hG.heap id
     rw[hb]at hgb
     obtain ⟨hl,hdp,hgo⟩:=hgb
     have hgi:getI xs' i=some w:=hg.2.2 _ _ _ hb
     obtain ⟨hid,hnd'⟩:=nodB_cons hnd
     -- the new row's cells
     obtain ⟨p1,p2⟩:=putT_eq hp
     have hcr:=mkT_made hy
     rw[p2]at hcr
     obtain ⟨A1,C1,e1,c1,c2⟩:=CRs_split hcr
     obtain ⟨A0,ls,e2,c3,c4⟩:=CRs_split c1
     have hne:∀ c ∈ leaves t2 w,c≠.emp:=pure_notemp
     have hA0:=CRs_same c3 λ c hc=>hne c (List.mem_of_mem_take hc)
     have hC1:=CRs_same c2 λ c hc=>hne c (List.mem_of_mem_drop hc)
     have hly:leaves t2 y=(leaves t2 w).take q++ls++(leaves t2 w).drop (q+ms.length):=by rw[e1,e2,<-hA0,<-hC1]
     have hmv:MvL (s.blk F) ns ls ids:=mvCs_ok hms c4 λ c hc=>by
      refine pure_notemp (t:=t2) (v:=y) c ?_
      rw[hly]
      exact List.mem_append_left _ (List.mem_append_right _ hc)
     have hlm:ms.length=ls.length:=by
      have:∀ {a b:List TC},CRs a b->a.length=b.length:=by
       intro a
       induction a with
       | nil=>intro b hb;cases b with|nil=>rfl|cons _ _=>exact hb.elim
       | cons c r ih=>intro b hb;cases b with|nil=>exact hb.elim|cons d s=>simp only[List.length_cons,ih hb.2]
      exact this c4
     have hgns:∀ c ∈ ns,goodC (s.blk F) c:=cellsV_good hns hgv
     have hH:GoodH (s.blk F):=hG.heap
     have hheap:(s.conc F).st.heap=hC (s.blk F):=by funext j;exact s.blk_conc F j
     have hMv:Mvs (s.conc F).st.heap (ns.map TC.conc) (ls.map λ l=>ownC l.conc) (idAt ns) ids:=by rw[hheap];exact hmv.mvs hH hnd' hgns
     have hency:t2.enc y=over (t2.enc w) q (ls.map TC.conc):=by
      rw[<-leaves_conc,<-leaves_conc,hly]
      unfold over
      rw[List.map_append,List.map_append,List.map_take,List.map_drop,List.length_map,hlm]
     have hput:=fPut (encOk t2) hgi (show putN q (ls.map TC.conc) (t2.enc w)=some (t2.enc y) by rw[hency];exact putN_eq (by rw[List.length_map,<-hlm,(encOk t2).len,<-leaves_len t2 w];exact p1))
     obtain ⟨f1,f2⟩:=putN_some hput
     rw[List.length_map]at f1
     have hD:((xs'.set i.toNat y).flatMap t2.enc).map ownC=over ((xs'.flatMap t2.enc).map ownC) (i.toNat*t2.size+q) (ls.map λ l=>ownC l.conc):=by
      rw[f2,map_over,List.map_map];rfl
     have hszl:ns.length=size:=Nat.eq_of_beq_eq_true hlen
     have hs1:sizeF P t=some size:=h1
     -- the end,whatever the state of the near list
     have fin:(∃ cs0,(s.conc F).st.heap id=.deep ⟨t2.size,n,cs0⟩/\cs0.length=(xs'.flatMap t2.enc).length/\over cs0 (i.toNat*t2.size+q) (ls.map λ l=>ownC l.conc)=((xs'.set i.toNat y).flatMap t2.enc).map ownC) →
       OpX P F o s ⟨tone .dead,(id, .deep t2 n (xs'.set i.toNat y) none)::deads ids,id::ids⟩:=λ ⟨cs0,q1,q2,q3⟩=>by
      have hok:=ok_deep_store (P:=P) (o:=o) (φ:=(s.conc F).st) (nid:=s.heap.length) (t:=t) (x:=x) (v:=v) (size:=size) (id:=id) (off:=i.toNat*t2.size+q) (b:=⟨t2.size,n,cs0⟩) (ns:=ns.map TC.conc) ho hs1
       (by rw[s.ev_conc];exact cellsV_conc hns rfl) (by rw[List.length_map];exact hszl) (by rw[s.ev_conc,hx];rfl) q1 (by rw[List.length_map];show _<=cs0.length;rw[q2,<-hmv.len];exact f1) hMv hid
      simp only[q3]at hok
      refine ⟨?_,⟨λ p hp' => ?_,λ p hp' => ?_,λ p hp' => ?_,trivial⟩⟩
      ·have e:(⟨tone .dead,(id, .deep t2 n (xs'.set i.toNat y) none)::deads ids,id::ids⟩:OR).conc=⟨id::ids,one .dead,(id, .deep ⟨t2.size,n,((xs'.set i.toNat y).flatMap t2.enc).map ownC⟩)::deadAll ids⟩:=by
        unfold OR.conc
        rw[List.map_cons,deads_conc];rfl
       rw[e]
       exact hok.x
      ·rcases List.mem_cons.1 hp' with rfl|hp'
       ·exact .inr ⟨by rw[hb];nofun,by rw[hb];rfl⟩
       ·obtain ⟨a1,a2⟩:=deads_mem hp'
        obtain ⟨τ,m,zs,a3⟩:=hmv.live _ a1
        exact .inr ⟨by rw[a3];nofun,by rw[a2];exact compat_dead _⟩
      ·rcases List.mem_cons.1 hp' with rfl|hp'
       ·exact ⟨nofun,nofun⟩
       ·rw[(deads_mem hp').2];exact ⟨nofun,nofun⟩
      ·rcases List.mem_cons.1 hp' with rfl|hp'
       ·exact ⟨by rw[List.length_set];exact hl,hdp,trivial⟩
       ·rw[(deads_mem hp').2];trivial
     split at h
     ·exact ⟨_,h,fin ⟨_,blk_deep hb,by show ((xs'.flatMap t2.enc).map ownC).length=_;rw[List.length_map],hD.symm⟩⟩
     ·rename_i H
      split at h
      ·rename_i hq
       simp only[Bool.and_eq_true]at hq
       obtain ⟨u,hu,h⟩:=bS h
       have hi:i=H.i:=of_decide_eq_true (chk_some hu)
       have hqq:q=H.q:=Nat.eq_of_beq_eq_true hq.1
       have hl1:ls.length=1:=by rw[hmv.len];exact Nat.eq_of_beq_eq_true hq.2
       refine ⟨_,h,fin ⟨_,blk_deep hb,by show (((xs'.flatMap t2.enc).map ownC).set _ _).length=_;rw[List.length_set,List.length_map],?_⟩⟩
       show over (((xs'.flatMap t2.enc).map ownC).set (H.i.toNat*t2.size+H.q) _) _ _=_
       rw[hD,<-hi,<-hqq]
       unfold over
       rw[List.length_map,hl1,List.take_set_of_le (Nat.le_refl _),List.drop_set_of_lt (by omega)]
      ·cases h
    ·cases h
   ·cases h
  ·cases h
 ·cases h
theorem makeSliceD_ok {T:TypeId->TyI} (hT:T=tiOf P) (hG:Good F s) {o:Oper} {t:TypeId} {l c:Operand} (ho:o.op=.makeSlice t l c) (h:makeSliceD T F s t l c K=some r):∃ A,K A=some r/\OpX P F o s A:=by
 subst hT
 unfold makeSliceD at h
 split at h
 ·rename_i e h1
  split at h
  ·rename_i τ v z by_ h2 h3
   obtain ⟨g1,g2,g3⟩:=zeroE_ok h2
   obtain ⟨e1,e2⟩:=zeroT_conc g2
   have hle:=CRs_le (mkT_made g3)
   rw[leaves_conc]at hle
   split at h
   ·rename_i n h4 h5
    simp only[Bool.and_eq_true]at h4
    obtain ⟨⟨⟨⟨h41,h42⟩,h43⟩,h44⟩,h45⟩:=h4
    obtain ⟨xs,hx,h⟩:=bS h
    obtain ⟨f1,f2⟩:=mk_new (encOk τ) hx hle
    obtain ⟨rfl,m1,m2⟩:=mk_some hx
    have hk:kindF P t=.slice e:=h1
    have hsz:sizeF P e=some τ.size:=tyS_ok g1
    have hz:zeroF P e=some (z.map TC.conc):=e1
    have hb:bytesF P e=some by_:=h3
    have hact:act P o (s.conc F).st s.heap.length λ A=>A=⟨[],one (.arr s.heap.length 0 n.toNat),[(s.heap.length, .live ⟨τ.size,n.toNat,(List.replicate n.toNat (z.map TC.conc)).flatten⟩)]⟩:=by
     unfold act
     rw[ho]
     have hl:=s.ev_conc F l
     have hc:=s.ev_conc F c
     rw[eqOp_ev h43]at hc
     rw[h5]at hl hc
     simp only[hk,hsz,hz,hb,kO,hl,hc]
     exact ⟨Nat.le_of_ble_eq_true h41,by rw[List.length_map];exact Nat.eq_of_beq_eq_true h42,rfl,rfl,rfl,m1,m2,rfl⟩
    obtain ⟨A,hA,rfl⟩:=act_ok hact
    have hlen:(List.replicate n.toNat v).length=n.toNat:=List.length_replicate
    have hem:EmpOwn (List.replicate n.toNat (z.map TC.conc)).flatten (((List.replicate n.toNat v).flatMap τ.enc).map ownC):=by
     have hfl:leL0 (List.replicate n.toNat (z.map TC.conc)).flatten ((List.replicate n.toNat v).flatMap τ.enc):=by
      have:=f2
      rw[hlen]at this
      exact this
     refine ⟨by rw[List.length_map,leL0_len hfl],λ k c c' hk1 hk2 => ?_⟩
     rw[List.getElem?_map]at hk2
     cases hk3:((List.replicate n.toNat v).flatMap τ.enc)[k]? with
     | none=>rw[hk3]at hk2;cases hk2
     | some d =>
      rw[hk3]at hk2
      cases hk2
      obtain ⟨c0,q1,q2⟩:=leL0_get hfl k d hk3
      rw[hk1]at q1
      cases q1
      have hcz:c ∈ z.map TC.conc:=by
       obtain ⟨l',hl',hc'⟩:=List.mem_flatten.1 (List.mem_of_getElem? hk1)
       rw[(List.mem_replicate.1 hl').2]at hc'
       exact hc'
      obtain ⟨c1,hc1,rfl⟩:=List.mem_map.1 hcz
      have hc2:=List.all_eq_true.1 h45 c1 hc1
      simp only[Bool.or_eq_true]at hc2
      rcases hc2 with hc2|hc2
      ·rcases q2 with q2|⟨q2,_⟩
       ·subst q2
        exact .inr ⟨(own_flat hc2).1,flat_bare hc2⟩
       ·have:=flat_bare hc2
        rw[q2]at this;cases this
      ·have:c1=.emp:=by cases c1<;>first|rfl|cases hc2
       subst this
       rcases q2 with q2|⟨_,sz,q2⟩
       ·exfalso
        obtain ⟨y,_,hd⟩:=List.mem_flatMap.1 (List.mem_of_getElem? hk3)
        rw[<-leaves_conc]at hd
        obtain ⟨d',hd',hd2⟩:=List.mem_map.1 hd
        have hp:=List.all_eq_true.1 (leaves_pure τ y) d' hd'
        rw[q2]at hd2
        cases d' with
        | err k0 =>
         have hd2:errC k0=.emp:=hd2
         rcases errC_or k0 with ⟨_,e⟩|⟨_,e⟩|⟨_,e⟩<;>rw[e]at hd2<;>cases hd2
        | _=>first|(cases hd2;done)|(cases hp;done)
       ·exact .inl ⟨rfl,sz,by rw[q2];rfl⟩
    refine ⟨_,h,?_,?_⟩
    ·have:=ok_deep_new hA hem
     have e:(⟨tone (.arr s.heap.length (List.replicate n.toNat v).length),[(s.heap.length, .deep τ (List.replicate n.toNat v).length (List.replicate n.toNat v) none)],[]⟩:OR).conc=⟨[],one (.arr s.heap.length 0 n.toNat),[(s.heap.length, .deep ⟨τ.size,n.toNat,((List.replicate n.toNat v).flatMap τ.enc).map ownC⟩)]⟩:=by
      rw[hlen];rfl
     rw[e]
     exact this.x
    ·refine ⟨λ p hp => ?_,λ p hp => ?_,λ p hp => ?_,?_⟩
     ·rw[List.mem_singleton.1 hp];exact .inl (Nat.le_refl _)
     ·rw[List.mem_singleton.1 hp];exact ⟨nofun,nofun⟩
     ·rw[List.mem_singleton.1 hp];exact ⟨rfl,h44,trivial⟩
     ·have e:hpGet (s.blk F) [(s.heap.length, .deep τ (List.replicate n.toNat v).length (List.replicate n.toNat v) none)] s.heap.length=.deep τ (List.replicate n.toNat v).length (List.replicate n.toNat v) none:=if_pos rfl
      refine ⟨by rw[e];nofun,λ t' n' xs2 h' => ?_,λ t' css h' => ?_,λ t' n' xs2 o' h' => ?_⟩
      ·rw[e]at h';cases h'
      ·rw[e]at h';cases h'
      ·rw[e]at h';cases h';rfl
   ·cases h
  ·cases h
 ·cases h
theorem appendD_ok {T:TypeId->TyI} (hT:T=tiOf P) (hG:Good F s) {o:Oper} {c:Call} {t t2:TypeId} {ra:List TypeId} {x y:TC} (ho:o.op=.call c) (hc:c.callee=.builtin .append) (hat:c.argTypes.toList=t::t2::ra)
  (hxs:c.args.toList.map (s.ev F)=[.pv (.one x), .pv (.one y)]) (h:appendD T F s t t2 x y K=some r):∃ A,K A=some r/\OpX P F o s A:=by
 subst hT
 obtain ⟨ox,oy,hl,hx,hy⟩:=map_two hxs
 have hgx:=good_ev hG ox
 have hgy:=good_ev hG oy
 rw[hx]at hgx
 rw[hy]at hgy
 unfold appendD at h
 split at h
 ·rename_i e e2 id n rid m h1 h2
  split at h
  ·rename_i τ z by_ h3 h4 h5
   split at h
   ·rename_i t' n' xs t'' css h6 hb hbr
    split at h
    ·rename_i xs' vs ids hcs ht hmv
     obtain ⟨rfl,rfl⟩:=castL_eq hcs
     have ht:t''=t':=by
      by_cases e:t''=t'
      ·exact e
      ·rw[if_neg e]at ht;cases ht
     subst ht
     split at h
     ·rename_i hnd
      obtain ⟨ws,hw,h⟩:=bS h
      obtain ⟨rfl,hw2⟩:=appSome hw
      simp only[Bool.and_eq_true]at h6
      have hgb:=hG.heap id
      rw[hb]at hgb
      obtain ⟨hl',hdp,_⟩:=hgb
      have hgr:=hG.heap rid
      rw[hbr]at hgr
      have hn:n'=n:=hgx.2.2.2 _ _ _ _ hb
      have hm:css.length=m:=hgy.2.2.1 _ _ hbr
      obtain ⟨hmL,hvl⟩:=mvAll_ok hmv
      have hfl:∀ {css:List (List TC)},(∀ r ∈ css,r.length=t''.size)->css.flatten.length=css.length*t''.size:=by
       intro css
       induction css with
       | nil=>intro _;simp
       | cons a r ih=>intro hr;rw[List.flatten_cons,List.length_append,hr a (List.mem_cons_self ..),ih λ r hr'=>hr r (List.mem_cons_of_mem _ hr'),List.length_cons,Nat.add_mul,Nat.one_mul,Nat.add_comm]
      have hns:(css.flatten.map TC.conc).length=m*t''.size:=by rw[List.length_map,hfl (λ r hr=>(hgr r hr).1),hm]
      have hH:GoodH (s.blk F):=hG.heap
      have hheap:(s.conc F).st.heap=hC (s.blk F):=by funext j;exact s.blk_conc F j
      have hMv:Mvs (s.conc F).st.heap (css.flatten.map TC.conc) ((vs.flatMap (leaves t'')).map λ l=>ownC l.conc) (idAt css.flatten) ids:=by
       rw[hheap]
       refine hmL.mvs hH hnd λ c hc' => ?_
       obtain ⟨q,hq,hcq⟩:=List.mem_flatten.1 hc'
       exact ((hgr q hq).2 c hcq).1
      have hraw:(s.conc F).st.heap rid=.live ⟨t''.size,m,css.flatten.map TC.conc⟩:=by
       rw[blk_raw hbr,hm,List.map_flatten]
      have hdeep:=blk_deep hb
      have hok:=ok_deep_append (P:=P) (o:=o) (φ:=(s.conc F).st) (nid:=s.heap.length) (e:=e) (e2:=e2) (size:=t''.size) (by_:=by_) (id:=id) (rid:=rid) (m:=m) (z:=z) (ns:=css.flatten.map TC.conc) ho hc hat hl h1 h2
       (tyS_ok h3) h5 h4 (Nat.le_of_ble_eq_true h6.1) (Nat.eq_of_beq_eq_true h6.2) rfl (by rw[s.ev_conc,hx,hn];rfl) hdeep (by rw[s.ev_conc,hy];rfl) hraw hns
       (by rw[List.length_append,hl',hvl,hm]at hw2;exact hw2) hMv
      have hlive:=hmL.live
      have hnid:s.heap.length ∉ ids:=λ hm'=>by
       obtain ⟨τ',k',zs,e⟩:=hlive _ hm'
       rw[blk_new]at e;cases e
      have hlw:(xs'++vs).length=n'+m:=by rw[List.length_append,hl',hvl,hm]
      refine ⟨_,h,?_,?_⟩
      ·have e:(⟨tone (.arr s.heap.length (xs'++vs).length),(id, .dead)::(s.heap.length, .deep t'' (xs'++vs).length (xs'++vs) none)::deads ids,id::rid::ids⟩:OR).conc =
         ⟨id::rid::ids,one (.arr s.heap.length 0 (n'+m)),(id, .dead)::(s.heap.length, .deep ⟨t''.size,n'+m,(xs'.flatMap t''.enc).map ownC++(vs.flatMap (leaves t'')).map λ l=>ownC l.conc⟩)::deadAll ids⟩:=by
        unfold OR.conc
        rw[List.map_cons,List.map_cons,deads_conc,hlw]
        have e3:((xs'++vs).flatMap t''.enc).map ownC=(xs'.flatMap t''.enc).map ownC++(vs.flatMap (leaves t'')).map λ l=>ownC l.conc:=by
         rw[List.flatMap_append,List.map_append]
         congr 1
         have:vs.flatMap t''.enc=(vs.flatMap (leaves t'')).map TC.conc:=by
          rw[List.map_flatMap]
          congr 1
          funext v
          exact (leaves_conc t'' v).symm
         rw[this,List.map_map];rfl
        show Action.mk _ _ ((id,HS.dead)::(s.heap.length,HS.deep ⟨t''.size,n'+m,((xs'++vs).flatMap t''.enc).map ownC⟩)::_)=_
        rw[e3];rfl
       rw[e]
       exact hok.x
      ·refine ⟨λ p hp => ?_,λ p hp => ?_,λ p hp => ?_,?_⟩
       ·rcases List.mem_cons.1 hp with rfl|hp
        ·exact .inr ⟨by rw[hb];nofun,compat_dead _⟩
        ·rcases List.mem_cons.1 hp with rfl|hp
         ·exact .inl (Nat.le_refl _)
         ·obtain ⟨a1,a2⟩:=deads_mem hp
          obtain ⟨τ',k',zs,a3⟩:=hlive _ a1
          exact .inr ⟨by rw[a3];nofun,by rw[a2];exact compat_dead _⟩
       ·rcases List.mem_cons.1 hp with rfl|hp
        ·exact ⟨nofun,nofun⟩
        ·rcases List.mem_cons.1 hp with rfl|hp
         ·exact ⟨nofun,nofun⟩
         ·rw[(deads_mem hp).2];exact ⟨nofun,nofun⟩
       ·rcases List.mem_cons.1 hp with rfl|hp
        ·trivial
        ·rcases List.mem_cons.1 hp with rfl|hp
         ·exact ⟨rfl,hdp,trivial⟩
         ·rw[(deads_mem hp).2];trivial
       ·have e:hpGet (s.blk F) ((id, .dead)::(s.heap.length, .deep t'' (xs'++vs).length (xs'++vs) none)::deads ids) s.heap.length=.deep t'' (xs'++vs).length (xs'++vs) none:=by
         show hpGet _ (deads ids) _=_
         rw[hpGet_deads hnid];exact if_pos rfl
        refine ⟨by rw[e];nofun,λ t' n' xs2 h' => ?_,λ t' css h' => ?_,λ t' n' xs2 o' h' => ?_⟩
        ·rw[e]at h';cases h'
        ·rw[e]at h';cases h'
        ·rw[e]at h';cases h';rfl
     ·cases h
    ·cases h
   ·cases h
  ·cases h
 ·cases h
theorem actD_ok {T:TypeId->TyI} (hT:T=tiOf P) (hG:Good F s) {o:Oper} (h:actD T F s o.op K=some r):∃ A,K A=some r/\OpX P F o s A:=by
 unfold actD at h
 split at h
 ·rename_i t x f ho;exact fieldAddrD_ok hT hG ho h
 ·rename_i t x ho;exact loadD_ok hT hG ho h
 ·rename_i t x v ho;exact storeD_ok hT hG ho h
 ·rename_i t l c ho;exact makeSliceD_ok hT hG ho h
 ·rename_i t x i ho;exact indexAddrD_ok hT hG ho h
 ·rename_i c ho
  split at h
  ·rename_i t x h1 h2 h3
   exact lenD_ok hT hG ho h1 h2 h3 h
  ·rename_i t t2 ra x y h1 h2 h3
   exact appendD_ok hT hG ho h1 h2 h3 h
  ·cases h
 ·cases h
end Go.Fm
namespace Go.Fm
variable [Globs] [Structs] [Tabs]
variable {F:Lv} {s:TS} {R:Type}
theorem pick1_ok {h:Nat->TB} {f:FuncId} {args:List TP} {c:Con}:∀ {Γ:List Con},pick1 Γ h f args=some c->c ∈ Γ/\c.f=f
 | [],hp=>by cases hp
 | d::r,hp=>by
  unfold pick1 at hp
  split at hp
  ·rename_i hf
   split at hp
   ·cases hp;exact ⟨by simp,Nat.eq_of_beq_eq_true hf⟩
   ·obtain ⟨h1,h2⟩:=pick1_ok hp;exact ⟨List.mem_cons_of_mem _ h1,h2⟩
  ·obtain ⟨h1,h2⟩:=pick1_ok hp;exact ⟨List.mem_cons_of_mem _ h1,h2⟩
theorem sound_of {P:Unit->Program} {T:TypeId->TyI} {Γ:List Con} (hT:T=tiOf (P ())) (hm:(P ()).follows .mixedOrders=true) (hΓ:∀ c ∈ Γ,ConOk (P ()) c):Sound P T Γ:=by
 intro R F s o K r hL hG h
 unfold opT2 at h
 split at h
 ·rename_i cl ho
  split at h
  ·rename_i x hx
   split at h
   ·rename_i f caps args e1 e2
    split at h
    ·rename_i c hc
     obtain ⟨g1,rfl⟩:=pick1_ok hc
     exact call_ok hm (hΓ c g1) hL hG ho hx e1 e2 h
    ·cases h
   ·cases h
  ·rename_i hne
   split at h
   ·exact actD_ok hT hG h
   ·obtain ⟨A,h1,h2⟩:=actT2_ok hG h
    exact ⟨A,h1,h2.elim (λ h2=>h2.opX hT hm λ c x hc e=>by rw[ho]at hc;cases hc;exact hne x e) λ h2=>h2.opX hT⟩
 ·rename_i hne
  split at h
  ·exact actD_ok hT hG h
  ·obtain ⟨A,h1,h2⟩:=actT2_ok hG h
   exact ⟨A,h1,h2.elim (λ h2=>h2.opX hT hm λ c x hc e=>hne c hc) λ h2=>h2.opX hT⟩
theorem resT_ok {T:TypeId->TyI} (hG:Good F s):∀ {l:List ResultVar} {ps:List TP},resT T F s l=some ps->resL T (hOf (s.conc F).heap) (s.conc F).env l=some (ps.map TP.conc)/\(∀ p ∈ ps,goodP (s.blk F) p)/\ps.length=l.length
 | [],ps,h=>by cases h;exact ⟨rfl,λ p hp=>by simp at hp,rfl⟩
 | .tmp t::r,ps,h=>by
  unfold resT at h
  split at h
  ·rename_i p l e1 e2
   cases h
   obtain ⟨g1,g2,g3⟩:=resT_ok hG e2
   have e:Fm.lk (s.conc F).env t=(s.lk F t).conc:=s.lk_conc F t
   refine ⟨?_,λ q hq => ?_,by rw[List.length_cons,g3];rfl⟩
   ·unfold resL
    rw[e,e1]
    show (resL T _ _ r).map _=_
    rw[g1];rfl
   ·rcases List.mem_cons.1 hq with rfl|hq
    ·have:=hG.env t
     rw[e1]at this
     exact this
    ·exact g2 q hq
  ·cases h
 | .cell a t::r,ps,h=>by
  unfold resT at h
  split at h
  ·rename_i id off size b e1 e2 e3
   split at h
   ·rename_i cs e4 e5
    split at h
    ·rename_i ns l e6 e7
     cases h
     obtain ⟨g1,g2,g3⟩:=resT_ok hG e7
     obtain ⟨q0,qm⟩:=getT_conc e6
     obtain ⟨q1,q2,q3⟩:=getC_some q0
     have e:Fm.lk (s.conc F).env a=(s.lk F a).conc:=s.lk_conc F a
     have eb:hOf (s.conc F).heap id=(s.blk F id).conc:=s.blk_conc F id
     have hg:=hG.heap id
     rw[e4]at hg
     refine ⟨?_,λ q hq => ?_,by rw[List.length_cons,g3];rfl⟩
     ·unfold resL
      rw[e,e1]
      show (match hOf (s.conc F).heap id,(T t).size,(T t).agg with
       | .live b,some size,some g=>if off+size<=b.cs.length/\(g=false->size=1) then (resL T (hOf (s.conc F).heap) (s.conc F).env r).map (pvOf g ((b.cs.drop off).take size)::·) else none
       | _,_,_=>none)=_
      rw[eb,e4,e2,e3]
      show (if off+size<=(cs.map TC.conc).length/\(b=false->size=1) then (resL T (hOf (s.conc F).heap) (s.conc F).env r).map (pvOf b (((cs.map TC.conc).drop off).take size)::·) else none)=_
      have hb:b=false->size=1:=λ e=>by
       subst e
       exact Nat.eq_of_beq_eq_true (by simpa [okSize] using e5)
      rw[List.length_map,List.length_drop]at q2
      have hoff:off+size<=(cs.map TC.conc).length:=by
       rw[List.length_map];omega
      rw[if_pos ⟨hoff,hb⟩,g1]
      rw[<-List.map_drop,<-q1]
      show some (_::_)=some (_::_)
      congr 2
      cases b with
      | true=>rfl
      | false =>
       show PV.one ((ns.map TC.conc).headD .dead)=PV.one (ns.headD .dead).conc
       cases ns<;>rfl
     ·rcases List.mem_cons.1 hq with rfl|hq
      ·have hns:∀ c ∈ ns,goodC (s.blk F) c:=λ c hc=>hg c (List.mem_of_mem_drop (qm c hc))
       cases b with
       | true=>exact hns
       | false =>
        show goodC _ (ns.headD .dead)
        cases ns with
        | nil=>trivial
        | cons c _=>exact hns c (by simp)
      ·exact g2 q hq
    ·cases h
   ·cases h
  ·cases h
theorem ans_typed {P:Unit->Program} {T:TypeId->TyI} (hT:T=tiOf (P ())) {f:FuncId} {fn:Func} {c:Code} {ps:List PV} {bs:List HS} {K:SV->List HS->Prop} (hf:(P ()).funcs[f]? = some fn) (hb:fn.body=some c)
  (hname:(fn.name == "runtime.NumGoroutine")=false) (hps:ps.length<=fn.ntmps) {s0:S} (hw0:Weak bs.length ⟨zipE 0 ps,bs⟩ s0)
  (h:W (P ()) fn.ntmps bs.length c s0 λ e s'=>(match e with | .exit _=>False|_=>True)/\∃ ps0 ps1 h1,resL T (hOf s'.heap) s'.env fn.results.toList=some ps0/\Weak bs.length ⟨zipE 0 ps0,s'.heap⟩ ⟨zipE 0 ps1,h1⟩/\ps1.length=ps0.length/\K (svOf ps1) h1) :
  Ans (P ()) f ps bs K:=λ hm=>by
 obtain ⟨e,s',hr,he,ps0,ps1,h1,hres,hw1,hlen1,hK⟩:=h hm
 subst hT
 refine ⟨svOf ps1,h1,?_,hK⟩
 intro C vs hP hk hlen hargs hheap hno
 have hcall:(callFunc f vs.toArray).run (P ()) C.w0=.ok (.enter f vs.toArray) C.w0:=by
  have hne:¬ fn.name = "runtime.NumGoroutine" := by simpa using hname
  simp[callFunc,Sem.run_bind,hf,hne,hb]
 unfold Serves
 rw[hcall]
 show Calls (P ()) f vs.toArray C.w0 _
 refine calls_of_wp hf hb ?_
 let C':Ctx:={ C with nt:=fn.ntmps }
 let a0:Act:={ tmps:=vs.toArray++Array.replicate (fn.ntmps-vs.toArray.size) undef,defers:=[] }
 have hR0:RelX C' (⟨zipE 0 ps,bs⟩:S).st a0 C.w0:=by
  refine ⟨C', .refl _,C.rho0,rfl,?_,λ t => ?_,hheap,λ id hid=>⟨?_,rfl⟩, .refl _ _⟩
  ·show (vs.toArray++Array.replicate (fn.ntmps-vs.toArray.size) undef).size=fn.ntmps
   simp only[Array.size_append,List.size_toArray,Array.size_replicate]
   omega
  ·show RSV C.w0 C.Sh C.rho0 (hOf bs) _ (lk (zipE 0 ps) t)
   rw[lk_zipE,if_pos (Nat.zero_le _),Nat.sub_zero]
   cases hp:ps[t]? with
   | none=>trivial
   | some p =>
    obtain ⟨u,hu,hr⟩:=hargs t p hp
    have:a0.tmps.getD t undef=u:=by
     have ht:t < vs.length:=(List.getElem?_eq_some_iff.1 hu).1
     simp only[a0,Array.getD_eq_getD_getElem?]
     rw[Array.getElem?_append_left (by simpa using ht)]
     simp[hu]
    rw[this]
    exact hr
  ·exact hno id (by rw[<-hk];exact hid)
 refine wp_mono (hr C' hP rfl hk a0 C.w0 (hw0 C' a0 C.w0 hk hR0)) λ e' a' w' ⟨hee,R'⟩ => ?_
 subst hee
 obtain ⟨C2,hreb,ρ',R2⟩:=R'
 have hfinal:a'.defers=[]/\∃ v,(results fn a'.tmps).run (P ()) w'=.ok v w'/\∃ (ρ':Rho) (Sh':Nat->Prop),HeapRel C.w0 Sh' C.O ρ' (hOf h1) w'/\RSV w' Sh' ρ' (hOf h1) v (svOf ps1) ∧
   (∀ id,id < bs.length->hOf h1 id≠.no/\ρ' id=C.rho0 id)/\Fr C.w0 C.O w'/\(∀ k,C.Sh k->Sh' k) ∧
   (∀ k,Sh' k->k < w'.heap.size/\(C.Sh k\/C.w0.heap.size<=k\/C.O k)):=by
  refine ⟨R2.defers,?_⟩
  have hmap:∀ vs:List Value,(fn.results.toList.mapM (getRes a'.tmps)).run (P ()) w'=.ok vs w' →
    (fn.results.mapM (getRes a'.tmps)).run (P ()) w'=.ok vs.toArray w':=λ vs hvs=>by
   rw[Array.mapM_eq_mapM_toList]
   rw[Sem.run_map]
   rw[hvs]
   rfl
  obtain ⟨us,e1,e2,e3⟩:=run_resL (P:=P ()) (tmps:=a'.tmps) R2.env R2.hp.blk hres
  -- the results as an activation's slots
  let C4:Ctx:={ C' with nt:=us.length }
  let C5:Ctx:={ C2 with nt:=us.length }
  let a1:Act:={ tmps:=us.toArray,defers:=[] }
  have hX:RelX C4 (⟨zipE 0 ps0,s'.heap⟩:S).st a1 w':=by
   refine ⟨C5,⟨hreb.P,rfl,hreb.k0,hreb.rho0,hreb.fr,hreb.o,hreb.sh,hreb.shn⟩,ρ',rfl,?_,λ t => ?_,R2.hp,R2.init,R2.fr⟩
   ·show us.toArray.size=us.length
    simp
   ·show RSV w' C2.Sh ρ' (hOf s'.heap) (us.toArray.getD t undef) (lk (zipE 0 ps0) t)
    rw[lk_zipE,if_pos (Nat.zero_le _),Nat.sub_zero]
    cases hp:ps0[t]? with
    | none=>trivial
    | some p =>
     obtain ⟨u,hu,hr⟩:=e3 t p hp
     have:us.toArray.getD t undef=u:=by
      simp[hu]
     rw[this]
     exact hr
  obtain ⟨C3,hreb3,ρ3,R3⟩:=hw1 C4 a1 w' hk hX
  have hval:∃ v,(results fn a'.tmps).run (P ()) w'=.ok v w'/\RSV w' C3.Sh ρ3 (hOf h1) v (svOf ps1):=by
   have hslot:∀ (i:Nat) (p:PV),ps1[i]? = some p->∃ u:Value,us[i]? = some u/\RPV w' C3.Sh ρ3 (hOf h1) u p:=λ i p hp=>by
    have:=R3.env i
    have e:(⟨zipE 0 ps1,h1⟩:S).st.env i=.pv p:=by
     show lk (zipE 0 ps1) i=.pv p
     rw[lk_zipE,if_pos (Nat.zero_le _),Nat.sub_zero,hp]
    rw[e]at this
    have hi:i < us.length:=by
     have:=(List.getElem?_eq_some_iff.1 hp).1
     omega
    refine ⟨us[i],List.getElem?_eq_getElem hi,?_⟩
    have e2:a1.tmps.getD i undef=us[i]:=by
     show us.toArray.getD i undef=us[i]
     simp[hi]
    rw[e2]at this
    exact this
   by_cases h1':us.length=1
   ·obtain ⟨u,rfl⟩:∃ u,us=[u]:=by
     match us,h1' with
     | [u],_=>exact ⟨u,rfl⟩
    have:ps1.length=1:=by rw[hlen1,<-e2];rfl
    obtain ⟨p,rfl⟩:∃ p,ps1=[p]:=by
     match ps1,this with
     | [p],_=>exact ⟨p,rfl⟩
    obtain ⟨u',hu',hr'⟩:=hslot 0 p rfl
    cases hu'
    refine ⟨u,?_,hr'⟩
    rw[results_eq,Sem.run_bind,hmap _ e1]
    simp
   ·have hne:ps1.length≠1:=by rw[hlen1,<-e2];exact h1'
    have hsv:svOf ps1=.tup ps1:=by
     match ps1,hne with
     | [],_=>rfl
     | [p],hne=>exact absurd rfl hne
     | _::_::_,_=>rfl
    rw[hsv]
    refine ⟨.tuple us.toArray,?_,us,rfl,by rw[e2,hlen1],hslot⟩
    rw[results_eq,Sem.run_bind,hmap _ e1]
    have h1:us.toArray.size≠1:=by
     rw[List.size_toArray];exact h1'
    simp only[Result.andThen_ok,dif_neg h1,Sem.run_pure]
  obtain ⟨v,hrv,hvr⟩:=hval
  refine ⟨v,hrv,?_⟩
  obtain ⟨D3,hD3⟩:=R3.hp.dp
  refine ⟨ρ3,C3.Sh,⟨R3.hp.blk,λ id b L e1 e2 => ?_,R3.hp.inj,D3,hD3.re λ _ _ k _ _ h3=>h3.elim (λ h=>.inl (Nat.le_trans hreb3.fr.size h)) λ h=>hreb3.o _ h⟩,hvr,λ id hid => ?_,hreb3.fr.trans R3.fr hreb3.o,hreb3.sh,λ k hk=>⟨Nat.lt_of_lt_of_le (C3.old k hk).1 R3.fr.size,hreb3.shn k hk⟩⟩
  ·obtain ⟨g1,g2,g3⟩:=R3.hp.own id b L e1 e2
   refine ⟨g1,g2,?_⟩
   rcases g3 with g3|g3
   ·exact .inl (Nat.le_trans hreb3.fr.size g3)
   ·exact hreb3.o _ g3
  ·have hk0:id < C3.k0:=by rw[hreb3.k0];show id < C.k0;rw[hk];exact hid
   obtain ⟨g1,g2⟩:=R3.init id hk0
   refine ⟨g1,?_⟩
   rw[g2,hreb3.rho0]
 cases e with
 | normal=>exact hfinal
 | ret=>exact hfinal
 | exit id=>exact he.elim
end Go.Fm
namespace Go.Fm
variable [Globs] [Structs] [Tabs]
variable {F:Lv} {s:TS} {R:Type}
def seqTE:Nat->TE->Bool
 | _,[]=>true
 | i,p::r=>Nat.beq p.1 i&&(match p.2 with | .pv _=>true | .tup _=>false)&&seqTE (i+1) r
def plainH:List TB->Bool
 | []=>true
 | b::r=>(match b with | .no=>false | .fix=>false|_=>true)&&plainH r
def entS (ro:List Nat) (s:TS) (n nt:Nat):Bool :=
 lvOkB (lvl0 ro s)&&allLt s.heap.length (lvl0 ro s).fb&&Nat.beq s.heap.length n&&seqTE 0 s.env&&plainH s.heap&&Nat.ble s.env.length nt
def entB (c:Con) (n nt:Nat) (a:tup c.ps.tys):Bool:=entS c.ro (c.ps.mkS a) n nt
def endS (s:TS) (n:Nat):Bool:=seqTE 0 s.env&&Nat.beq s.env.length n
def endB (c:Con) (n:Nat) (r:tup c.rs.tys):Bool:=endS (c.rs.mkS r) n
theorem zip_env:∀ {e:TE} {i:Nat},seqTE i e=true->zipE i (pvsE e)=envC e
 | [],i,_=>rfl
 | (t,v)::r,i,h=>by
  simp only[seqTE,Bool.and_eq_true]at h
  have e:t=i:=Nat.eq_of_beq_eq_true h.1.1
  subst e
  cases v with
  | tup l=>exact absurd h.1.2 Bool.false_ne_true
  | pv p =>
   show (t,SV.pv p.conc)::zipE (t+1) (pvsE r)=(t,SV.pv p.conc)::envC r
   rw[zip_env h.2]
theorem zip_num:∀ {ps:List TP} {i:Nat},zipE i (ps.map TP.conc)=envC (numE i ps)
 | [],i=>rfl
 | p::r,i=>by
  show (i,SV.pv p.conc)::zipE (i+1) (r.map TP.conc)=(i,SV.pv p.conc)::envC (numE (i+1) r)
  rw[zip_num]
theorem plainH_get:∀ {l:List TB} {i:Nat} {b:TB},plainH l=true->l[i]? = some b->b≠.no/\b≠.fix
 | [],i,b,_,h=>by simp at h
 | a::r,i,b,hp,h=>by
  simp only[plainH,Bool.and_eq_true]at hp
  cases i with
  | zero =>
   have:a=b:=by simpa using h
   subst this
   have h1:=hp.1
   constructor
   ·intro e;rw[e]at h1;exact Bool.false_ne_true h1
   ·intro e;rw[e]at h1;exact Bool.false_ne_true h1
  | succ i=>exact plainH_get hp.2 (by simpa using h)
theorem fn_ok {P:Unit->Program} {T:TypeId->TyI} (hT:T=tiOf (P ())) {Γ:List Con} {C:Con} {fn:Func} {code:Code} {an:An} {n nt nr:Nat} (hΓ:(P ()).follows .mixedOrders=true->∀ c ∈ Γ,ConOk (P ()) c)
  (hf:(P ()).funcs[C.f]? = some fn) (hb:fn.body=some code) (hname:(fn.name == "runtime.NumGoroutine")=false) {res:List ResultVar} (hres:fn.results.toList=res) (hnt:fn.ntmps=nt) (hcode:okC nt code=true) (hnr:res.length=nr)
  (hent:∀ a,entB C n nt a=true) (hend:∀ r,endB C nr r=true) (hA:AnOk T Γ n an code) (hg:∀ a r,C.g a=some r->fnRun T Γ an code res C.ro C.ps C.rs a=some r):ConOk (P ()) C:=by
 intro a r hG hgr hm
 have hrun:=hg a r hgr
 unfold fnRun at hrun
 have he:=hent a
 have hd:=hend r
 generalize hst:C.ps.mkS a=st at hG hrun
 have he:entS C.ro st n nt=true:=by rw[<-hst];exact he
 simp only[entS,Bool.and_eq_true]at he
 obtain ⟨⟨⟨⟨⟨e1,e2⟩,e3⟩,e4⟩,e5⟩,e6⟩:=he
 have e3:=Nat.eq_of_beq_eq_true e3
 have hd:endS (C.rs.mkS r) nr=true:=hd
 simp only[endS,Bool.and_eq_true]at hd
 obtain ⟨d1,d2⟩:=hd
 have d2:=Nat.eq_of_beq_eq_true d2
 generalize hlv:lvl0 C.ro st=lv at e1 e2 hrun
 have hfb:lv.fb=C.ro.map λ j=>(j,blkL [] 0 st.heap j):=by rw[<-hlv];rfl
 have hn0:lv.n0=n0Of st.heap:=by rw[<-hlv];rfl
 have hk0:lv.k0=st.heap.length:=by rw[<-hlv];rfl
 have hfx:lv.fx=[]:=by rw[<-hlv];rfl
 have hLv:LvOk lv:=lvOk_of e1 λ j=>by
  rw[hfb]
  refine lkB_all (p:=λ b=>b≠.fix) (λ e=>(by cases e)) (λ q hq => ?_) j
  obtain ⟨i,_,rfl⟩:=List.mem_map.1 hq
  exact blkL0_nf _ _ _
 have hblk:∀ j,(ent0 C.ro st).blk lv j=blkL [] 0 st.heap j:=λ j=>by
  show blkL lv.fb 0 (fixH C.ro 0 st.heap) j=blkL [] 0 st.heap j
  rcases Nat.lt_or_ge j st.heap.length with hj|hj
  ·refine blkL_fixH (λ _ _=>trivial) (λ i hi=>absurd rfl (plainH_get e5 hi).2) (λ i hi hm => ?_) hj
   rw[Nat.zero_add]at hm ⊢
   rw[hfb,lkB_ro hm]
  ·rw[blkL_ge hj,blkL_ge (by rw[fixH_len];exact hj)]
 have hlk:∀ t,(ent0 C.ro st).lk lv t=lkE st.env t:=λ t=>by
  show lkE (st.env++lv.fx) t=_
  rw[hfx,List.append_nil]
 have hGe:Good lv (ent0 C.ro st):=by
  refine ⟨?_,λ i hi => ?_,λ t => ?_,λ j => ?_,λ j t m xs hj e => ?_,λ j t m xs o hj e => ?_⟩
  ·rw[hk0];exact Nat.le_of_eq (fixH_len _ _ _).symm
  ·rw[show (ent0 C.ro st).heap.length=st.heap.length from fixH_len _ _ _]
   exact allLt_get e2 i hi
  ·rw[hlk,funext hblk]
   have:=hG.env t
   have e:st.lk ⟨[],[],0,[]⟩ t=lkE st.env t:=by
    show lkE (st.env++[]) t=_
    rw[List.append_nil]
   rw[e]at this
   exact this
  ·rw[hblk,funext hblk]
   exact hG.heap j
  ·rw[hblk]at e
   rw[hk0]at hj
   have g:=List.getElem?_eq_getElem hj
   have:=blkL_at (fb:=[]) (j:=0) g
   rw[this]at e
   have e':st.heap[j]=.rows t m xs:=by
    cases hb:st.heap[j]<;>rw[hb]at e<;>first|exact e|cases e
   rw[hn0]
   rw[e']at g
   exact n0Of_get g
  ·rw[hblk]at e
   rw[hk0]at hj
   have g:=List.getElem?_eq_getElem hj
   have:=blkL_at (fb:=[]) (j:=0) g
   rw[this]at e
   have e':st.heap[j]=.deep t m xs o:=by
    cases hb:st.heap[j]<;>rw[hb]at e<;>first|exact e|cases e
   rw[hn0]
   rw[e']at g
   exact n0Of_getD g
 have hbl:(heapC [] 0 st.heap).length=lv.k0:=by rw[heapC_len,hk0]
 have hW:=run_ok (sound_of hT hm (hΓ hm)) (nt:=nt) code hcode hLv hGe (by rw[hk0,e3];exact hA) hrun
 refine ans_typed hT hf hb hname ?_ (s0:=(ent0 C.ro st).conc lv) ?_ ?_ hm
 ·rw[hnt]
  show (pvsE st.env).length<=nt
  unfold pvsE
  rw[List.length_map]
  exact Nat.le_of_ble_eq_true e6
 ·refine weak_st (λ t => ?_) (λ i => ?_)
  ·show Fm.lk (envC (st.env++lv.fx)) t=Fm.lk (zipE 0 (pvsE st.env)) t
   rw[hfx,List.append_nil,zip_env e4]
  ·show hOf (heapC lv.fb 0 (fixH C.ro 0 st.heap)) i=hOf (heapC [] 0 st.heap) i
   rw[hOf_heapC,hOf_heapC]
   have:=hblk i
   rw[show blkL lv.fb 0 (fixH C.ro 0 st.heap) i=blkL [] 0 st.heap i from this]
 ·rw[hnt,hbl]
  refine hW.mono ?_
  rintro e σ ⟨s',rfl,hg',hfin⟩
  have hne:(∀ i,e≠.exit i)/\∃ ps,resT T lv s' res=some ps/\∃ ds,C.rs.see lv ⟨numE 0 ps,s'.heap⟩=some ds/\ofD C.rs.tys ds=some r:=by
   have body:(match resT T lv s' res with
    | some ps=>(match C.rs.see lv ⟨numE 0 ps,s'.heap⟩ with
     | some ds=>ofD C.rs.tys ds
     | none=>none)
    | none=>none)=some r->∃ ps,resT T lv s' res=some ps/\∃ ds,C.rs.see lv ⟨numE 0 ps,s'.heap⟩=some ds/\ofD C.rs.tys ds=some r:=λ h=>by
    split at h
    ·rename_i ps h1
     split at h
     ·rename_i ds h2
      exact ⟨ps,h1,ds,h2,h⟩
     ·cases h
    ·cases h
   cases e with
   | exit i=>cases hfin
   | normal=>exact ⟨λ i h=>(by cases h),body hfin⟩
   | ret=>exact ⟨λ i h=>(by cases h),body hfin⟩
  obtain ⟨hne,ps,h1,ds,h2,h3⟩:=hne
  refine ⟨by cases e with
   | exit i=>exact absurd rfl (hne i)
   | normal=>trivial
   | ret=>trivial,?_⟩
  obtain ⟨r1,r2,r3⟩:=resT_ok hg' h1
  have hlk':∀ t,(⟨numE 0 ps,s'.heap⟩:TS).lk lv t=lkE (numE 0 ps) t:=λ t=>by
   show lkE (numE 0 ps++lv.fx) t=_
   rw[hfx,List.append_nil]
  have hG2:Good lv ⟨numE 0 ps,s'.heap⟩:=⟨hg'.k0,hg'.fb,λ t=>by rw[hlk'];exact numE_good r2 t,hg'.heap,hg'.n0,hg'.n1⟩
  obtain ⟨w1,w2⟩:=see_mk hLv hG2 h2 h3
  rw[hres]
  refine ⟨ps.map TP.conc,pvsE (C.rs.mkS r).env,heapC lv.fb 0 (C.rs.mkS r).heap,r1,?_,?_,rfl,rfl,w1⟩
  ·have e1:(⟨numE 0 ps,s'.heap⟩:TS).conc lv=⟨zipE 0 (ps.map TP.conc),(s'.conc lv).heap⟩:=by
    show (⟨envC (numE 0 ps++lv.fx),heapC lv.fb 0 s'.heap⟩:S)=_
    rw[hfx,List.append_nil,zip_num];rfl
   have e2:(C.rs.mkS r).conc lv=⟨zipE 0 (pvsE (C.rs.mkS r).env),heapC lv.fb 0 (C.rs.mkS r).heap⟩:=by
    show (⟨envC ((C.rs.mkS r).env++lv.fx),heapC lv.fb 0 (C.rs.mkS r).heap⟩:S)=_
    rw[hfx,List.append_nil,zip_env d1]
   rw[e1,e2]at w2
   exact w2
  ·unfold pvsE
   rw[List.length_map,List.length_map,d2,r3,hnr]
end Go.Fm
