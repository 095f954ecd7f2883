import Derived.Test.YtgfamepnkhpemaaGreatDoorMK
set_option linter.all false
namespace Go.Proofs.YtgfamepnkhpemaaGreatDoor
open Go Go.Fm
end Go.Proofs.YtgfamepnkhpemaaGreatDoor
namespace Go.Proofs.YtgfamepnkhpemaaGreatDoor
open Go Go.Fm
theorem tag_eq (k:Int):g_spec_l04Tag k=g_impl_nameTag k:=rfl
theorem wmul16 (f:Int):(IntKind.wrap .u32 (f*16)) % 16=0:=by
 simp[IntKind.wrap,IntKind.bits,IntKind.signed]
theorem or_tag {f t:Int} (t0:0<=t) (t1:t < 16):orI .u32 (IntKind.wrap .u32 (f*16)) t=IntKind.wrap .u32 (IntKind.wrap .u32 (f*16)+t):=by
 have hb:=wU32_bd (f*16)
 have h16:=wmul16 f
 generalize IntKind.wrap .u32 (f*16)=x at *
 rw[orU hb.1 hb.2 t0 (by omega),wU32 (by omega) (by omega)]
 have e:x.toNat=2 ^ 4*(x.toNat / 16):=by omega
 rw[e,or_low 4 (by omega)]
 omega
theorem or_zero {f:Int}:orI .u32 (IntKind.wrap .u32 (f*16)) 0=IntKind.wrap .u32 (f*16):=by
 have hb:=wU32_bd (f*16)
 rw[or_tag (by decide) (by decide),Int.add_zero,wU32 hb.1 hb.2]
theorem word_l0 {t:Int} (t0:0<=t) (t1:t < 16):∀ (k:Nat) (done rest:List Int),done≠[]->rest.length < k->done.length+rest.length<=1048576 →
  g_spec_l04Word_l0 t k (done++rest) done.length=some (done++rest.map λ f=>orI .u32 (IntKind.wrap .u32 (f*16)) 0):=by
 intro k
 induction k with
 | zero=>intro done rest _ h1;omega
 | succ k ih =>
  intro done rest h0 h1 h2
  unfold g_spec_l04Word_l0
  cases rest with
  | nil=>rw[decide_eq_false (by simp)];simp
  | cons f r =>
   have hd:1<=done.length:=by cases done with|nil=>exact absurd rfl h0|cons _ _=>simp
   rw[decide_eq_true (by simp;omega),getI_nat,List.getElem?_append_right (Nat.le_refl _),Nat.sub_self]
   have e0:((done.length:Int)==0)=false:=by simp;omega
   simp only[cond_true,List.getElem?_cons_zero,Option.bind_some,e0,cond_false]
   rw[Int.toNat_natCast,List.set_append_right _ _ (Nat.le_refl _),Nat.sub_self,List.set_cons_zero]
   rw[wI64 (by omega) (by simp at h2;omega)]
   have:=ih (done++[IntKind.wrap .u32 (f*16)]) r (by simp) (by simp at h1;omega) (by simp at h2 ⊢;omega)
   simp only[List.append_assoc,List.singleton_append,List.length_append,List.length_singleton]at this
   rw[show ((done.length:Int)+1)=((done.length+1:Nat):Int) by omega,this,List.map_cons,or_zero]
theorem word_eq {t:Int} {s:Bs} {fs:List Int} (t0:0<=t) (t1:t < 16) (hs:s.length<=1048576) (hp:g_impl_Pack s=some fs) (hl:fs.length<=24):g_spec_l04Word t s=some (nameCells t fs):=by
 unfold g_spec_l04Word
 rw[pack_eq hs,hp]
 simp only[Option.bind_some]
 cases fs with
 | nil=>rfl
 | cons f r =>
  have h1:g_spec_l04Word_l0 t bigK (f::r) 0=some (nameCells t (f::r)):=by
   rw[show bigK=18446744073709551615+1 from rfl]
   unfold g_spec_l04Word_l0
   have e1:getI (f::r) 0=some f:=rfl
   have e2:∀ x,getI ((f::r).set (Int.toNat 0) x) 0=some x:=λ x=>rfl
   rw[decide_eq_true (by simp),e1]
   simp only[cond_true,Option.bind_some,e2,show ((0:Int)==0)=true from rfl]
   rw[wI64 (by decide) (by decide)]
   have:=word_l0 t0 t1 18446744073709551615 [IntKind.wrap .u32 (IntKind.wrap .u32 (f*16)+t)] r (by simp) (by simp at hl;omega) (by simp at hl ⊢;omega)
   simp only[List.singleton_append,List.length_singleton]at this
   rw[show ((0:Int)+1)=((1:Nat):Int) from rfl]
   rw[show List.set (List.set (f::r) (Int.toNat 0) (IntKind.wrap .u32 (f*16))) (Int.toNat 0) (IntKind.wrap .u32 (IntKind.wrap .u32 (f*16)+t))=IntKind.wrap .u32 (IntKind.wrap .u32 (f*16)+t)::r from rfl,this]
   simp only[nameCells,or_tag t0 t1]
  rw[h1]
  rfl
theorem num_eq {n:Int} {hex:Bool} {s l:Int} (hs:s=8\/s=6) (hl:l=2\/l=5):g_spec_l04Num n hex s l=g_impl_numberCells n hex s l:=by
 unfold g_spec_l04Num g_impl_numberCells
 have hb:=wU32_bd (IntKind.wrap .u32 n*32)
 have h32:IntKind.wrap .u32 (IntKind.wrap .u32 n*32) % 32=0:=by
  simp[IntKind.wrap,IntKind.bits,IntKind.signed]
 generalize IntKind.wrap .u32 (IntKind.wrap .u32 n*32)=x at *
 have key:∀ b:Int,(b=0\/b=16)->IntKind.wrap .u32 (IntKind.wrap .u32 (x+b)+s)=orI .u32 (orI .u32 x b) s/\IntKind.wrap .u32 (b+l)=orI .u32 b l:=λ b hb2=>by
  constructor
  ·have h1:orI .u32 x b=x+b:=by
    rw[orU hb.1 hb.2 (by omega) (by omega),show x.toNat=2 ^ 5*(x.toNat / 32) by omega,or_low 5 (by omega)];omega
   rw[h1,wU32 (x:=x+b) (by omega) (by omega),orU (by omega) (by omega) (by omega) (by omega),show (x+b).toNat=2 ^ 4*((x+b).toNat / 16) by omega,or_low 4 (by omega),wU32 (by omega) (by omega)];omega
  ·rcases hb2 with rfl|rfl<;>rcases hl with rfl|rfl<;>rfl
 have k0:=key 0 (.inl rfl)
 have k1:=key 16 (.inr rfl)
 cases hex with
 | true=>simp only[cond_true,Option.bind_some,k1.1,k1.2]
 | false=>simp only[cond_false,Option.bind_some,k0.1,k0.2]
theorem nameTag_vals (k:Int):∃ t,g_impl_nameTag k=some t/\0<=t/\t < 16/\(0 < t->1<=k/\k<=6):=by
 unfold g_impl_nameTag
 have hc:∀ (b:Bool) (x y:Option Int) (Q:Int->Prop),(b=true->∃ t,x=some t/\Q t)->(b=false->∃ t,y=some t/\Q t)->∃ t,cond b x y=some t/\Q t:=λ b x y Q h1 h2=>by
  cases b with
  | true=>exact h1 rfl
  | false=>exact h2 rfl
 refine hc _ _ _ _ (λ h=>⟨1,rfl,by have:=eq_of_beq h;omega⟩) λ _=>hc _ _ _ _ (λ h=>⟨3,rfl,by have:=eq_of_beq h;omega⟩) λ _=>hc _ _ _ _ (λ h=>⟨4,rfl,by have:=eq_of_beq h;omega⟩) λ _ =>
  hc _ _ _ _ (λ h=>⟨9,rfl,by have:=eq_of_beq h;omega⟩) λ _=>hc _ _ _ _ (λ h=>⟨10,rfl,by have:=eq_of_beq h;omega⟩) λ _=>hc _ _ _ _ (λ h=>⟨11,rfl,by have:=eq_of_beq h;omega⟩) λ _=>⟨0,rfl,by decide,by decide,λ h=>absurd h (by decide)⟩
end Go.Proofs.YtgfamepnkhpemaaGreatDoor
namespace Go.Proofs.YtgfamepnkhpemaaGreatDoor
open Go Go.Fm
theorem plainE (a b c:Bool):(cond a (cond (!b) (some c) (some false)) (some false):Option Bool)=some (a&&(!b&&c)):=by cases a<;>cases b<;>cases c<;>rfl
theorem cells_eq {it:GItem} (hs:it.Name.length<=1048576):g_spec_CellsOf it=g_impl_CellsOf it:=by
 obtain ⟨K,nm,n,hex,raw⟩:=it
 obtain ⟨t,ht,t0,t1,tk⟩:=nameTag_vals K
 obtain ⟨p,hp,_,hpl⟩:=pack_ok (s:=nm) hs
 simp only at hs
 unfold g_spec_CellsOf g_impl_CellsOf
 simp only[tag_eq,ht,plainE,Option.bind_some,beq_self_eq_true,Bool.true_and,Bool.and_true,hp]
 generalize (n==0)=bn
 generalize (raw==0)=br
 by_cases k0:K=0
 ·subst k0
  have:t=0:=by
   have h:g_impl_nameTag 0=some 0:=by kernel_rfl
   rw[h]at ht;cases ht;rfl
  subst this
  cases nm with
  | nil=>cases bn<;>cases hex<;>simp
  | cons a b=>simp
 by_cases k7:K=7
 ·subst k7
  have:t=0:=by
   have h:g_impl_nameTag 7=some 0:=by kernel_rfl
   rw[h]at ht;cases ht;rfl
  subst this
  rw[num_eq (.inl rfl) (.inl rfl)]
  cases nm with
  | nil=>cases br<;>simp<;>cases g_impl_numberCells n hex 8 2<;>rfl
  | cons a b=>simp
 by_cases k8:K=8
 ·subst k8
  have:t=0:=by
   have h:g_impl_nameTag 8=some 0:=by kernel_rfl
   rw[h]at ht;cases ht;rfl
  subst this
  rw[num_eq (.inr rfl) (.inr rfl)]
  cases nm with
  | nil=>cases br<;>simp<;>cases g_impl_numberCells n hex 6 5<;>rfl
  | cons a b=>simp
 by_cases k9:K=9
 ·subst k9
  have:t=0:=by
   have h:g_impl_nameTag 9=some 0:=by kernel_rfl
   rw[h]at ht;cases ht;rfl
  subst this
  rw[word_eq (by decide) (by decide) hs hp hpl]
  cases p with
  | nil=>simp[nameCells]
  | cons f r =>
   cases r with
   | nil =>
    have hg:getI [f] 0=some f:=rfl
    have ha:∀ x y:Int,app [x] [y]=some [x,y]:=λ x y=>app_eq (by simp)
    cases br<;>cases hex<;>simp[nameCells,hg,ha]
   | cons g r =>
    have h2:∀ (a b:Int) (r:List Int),(((a::b::r).length:Int)==1)=false:=λ a b r=>by simp;omega
    simp only[nameCells,List.map_cons,h2,Option.bind_some,cond_false]
    cases br<;>cases hex<;>simp
 ·have e0:(K==0)=false:=by simpa using k0
  have e7:(K==7)=false:=by simpa using k7
  have e8:(K==8)=false:=by simpa using k8
  have e9:(K==9)=false:=by simpa using k9
  rw[word_eq t0 t1 hs hp hpl]
  have hc:=cells_l0 hpl bigK 0 t [] (Nat.zero_le _) (by unfold bigK;omega) rfl (λ h=>by omega)
  simp only[Int.natCast_zero,List.drop_zero,List.nil_append]at hc
  simp only[e0,e7,e8,e9,cond_false,Bool.false_and,hc,Option.bind_some]
  cases bn<;>cases br<;>cases hex<;>by_cases h0:0 < t<;>simp[h0]
end Go.Proofs.YtgfamepnkhpemaaGreatDoor
namespace Go.Proofs.YtgfamepnkhpemaaGreatDoor
open Go Go.Fm
theorem specTag_ok {k:Int}:Tot (g_spec_l04Tag k) λ _=>True:=by
 unfold g_spec_l04Tag
 exact .cond (λ _=>.some trivial) λ _=>.cond (λ _=>.some trivial) λ _=>.cond (λ _=>.some trivial) λ _=>.cond (λ _=>.some trivial) λ _=>.cond (λ _=>.some trivial) λ _=>.cond (λ _=>.some trivial) λ _=>.some trivial
def EC (o:Unit ⊕ List Int):Prop:=match o with | .inl _=>True | .inr r=>U32 r/\r.length<=25
theorem specCells_ok {it:GItem} (hs:it.Name.length<=1048576) (hr:0<=it.Raw/\it.Raw < 4294967296):Tot (g_spec_CellsOf it) λ r=>U32 r/\r.length<=25:=by
 unfold g_spec_CellsOf
 have t3:∀ {a b c:Bool} {d:Bool},Tot (_root_.cond a (_root_.cond b (some c) (some false)) (some d)) λ _=>True:=λ {a b c d}=>by cases a<;>cases b<;>exact .some trivial
 have t2:∀ {a c d:Bool},Tot (_root_.cond a (some c) (some d)) λ _=>True:=λ {a c d}=>by cases a<;>exact .some trivial
 refine .bind t3 λ p _=>.bind (Q:=EC) ?_ λ o ho => ?_
 ·refine .cond (λ _=>.bind t3 λ a _=>.cond (λ _=>.some ⟨.one hr,by simp⟩) λ _=>.some trivial) λ _=>.cond (λ _=>.bind t2 λ a _=>.cond (λ _=>.bind specNum_ok λ r h=>.some ⟨h.1,by omega⟩) λ _=>.some trivial) λ _ =>
   .cond (λ _=>.bind t2 λ a _=>.cond (λ _=>.bind specNum_ok λ r h=>.some ⟨h.1,by omega⟩) λ _=>.some trivial) λ _ =>
   .cond (λ _=>.bind (specWord_ok hs) λ r h=>.bind t3 λ a _=>.cond (λ _=>.bindE (app_eq (by simp;omega)) (.some ⟨h.1.app (.one (wU32_bd _)),by simp;omega⟩)) λ _=>.some trivial) λ _ =>
   .bind specTag_ok λ t _=>.bind t2 λ a _=>.cond (λ _=>.bind (specWord_ok hs) λ r h=>.some ⟨h.1,by omega⟩) λ _=>.some trivial
 ·cases o with
  | inl _=>exact .some ⟨.nil,by simp⟩
  | inr r=>exact .some ho
end Go.Proofs.YtgfamepnkhpemaaGreatDoor
namespace Go.Proofs.YtgfamepnkhpemaaGreatDoor
open Go Go.Fm
set_option maxRecDepth 100000
structure ItS (it:GItem):Prop where
 n:it.Name.length<=1048576
 r:0<=it.Raw/\it.Raw < 4294967296
def itemOkB (it:GItem):Bool:=(g_spec_ItemOk it).getD false
theorem itemOk_spec {it:GItem} (h:ItS it):g_spec_ItemOk it=some (itemOkB it):=by
 obtain ⟨cs,hc,_⟩:=specCells_ok h.n h.r
 unfold itemOkB g_spec_ItemOk
 rw[hc]
 rfl
theorem itemOk_impl {it:GItem} (h:ItS it):g_impl_ItemOk it=some (itemOkB it):=by
 rw[<-itemOk_spec h]
 unfold g_impl_ItemOk g_spec_ItemOk
 rw[cells_eq h.n]
theorem dec_text (n:Int):∃ t,g_spec_DecText (IntKind.wrap .i64 n)=some t/\g_impl_DecText (IntKind.wrap .i64 n)=some t/\t.length<=21:=by
 obtain ⟨h0,h1⟩:=wI64_bd n
 exact ⟨_,spec_dec h0 (by omega),impl_dec h0 (by omega),itoa_len h0 (by omega)⟩
theorem hex_text {n:Int} (h0:0<=n) (h1:n < 4294967296):∃ t,g_spec_HexText n=some t/\g_impl_HexText n=some t/\t.length<=8 :=
 ⟨_,spec_hex h0 h1,impl_hex h0 h1,hexD_len 7 n.toNat (by omega)⟩
end Go.Proofs.YtgfamepnkhpemaaGreatDoor
namespace Go.Proofs.YtgfamepnkhpemaaGreatDoor
open Go Go.Fm
set_option maxRecDepth 100000
def colF (b:Int):Int:=if b=82 then 2 else if b=71 then 3 else if b=89 then 1 else if b=87 then 4 else if b=84 then 5 else if b=66 then 6 else if b=86 then 9 else -1
theorem col_all:(List.range 256).all (λ b=>g_spec_ColorKey (b:Nat)==some (colF (b:Nat))&&g_impl_ColorKey (b:Nat)==some (colF (b:Nat)))=true:=by kernel_rfl
theorem col_eq {b:Nat} (h:b < 256):g_spec_ColorKey (b:Int)=some (colF b)/\g_impl_ColorKey (b:Int)=some (colF b):=by
 have:=List.all_eq_true.mp col_all b (List.mem_range.mpr h)
 rw[Bool.and_eq_true,beq_iff_eq,beq_iff_eq]at this
 exact this
def stripW:Int->List UInt8->Int×List UInt8
 | kd,[]=>(kd,[])
 | kd,b::r=>if 0<=colF (b.toNat:Int) then stripW (colF (b.toNat:Int)) r else (kd,b::r)
theorem idx_head (b:UInt8) (r:List UInt8):idxS (b::r) 0=some (b.toNat:Int):=idxS_at (i:=0) rfl
theorem strip_spec:∀ (w:List UInt8) (k:Nat) (kd:Int),w.length < k->g_spec_Typed_l2 k kd w=some (stripW kd w):=by
 intro w
 induction w with
 | nil =>
  intro k kd hk
  obtain ⟨k,rfl⟩:∃ k',k=k'+1:=⟨k-1,by omega⟩
  rw[g_spec_Typed_l2];rfl
 | cons b r ih =>
  intro k kd hk
  obtain ⟨k,rfl⟩:∃ k',k=k'+1:=⟨k-1,by omega⟩
  rw[List.length_cons]at hk
  rw[g_spec_Typed_l2,show ((b::r) != [])=true from rfl,cond_true,idx_head,Option.bind_some,(col_eq b.toNat_lt).1,Option.bind_some,Option.bind_some,stripW]
  by_cases hc:0<=colF (b.toNat:Int)
  ·rw[decide_eq_true hc,cond_true,Option.bind_some,(col_eq b.toNat_lt).1,Option.bind_some,subL_drop (by omega) (by rw[List.length_cons];omega),Option.bind_some,if_pos hc]
   exact ih k _ (by omega)
  ·rw[decide_eq_false hc,cond_false,if_neg hc]
theorem strip_impl:∀ (w:List UInt8) (k:Nat) (kd:Int),w.length < k->g_impl_Typed_l1 k kd w=some (stripW kd w):=by
 intro w
 induction w with
 | nil =>
  intro k kd hk
  obtain ⟨k,rfl⟩:∃ k',k=k'+1:=⟨k-1,by omega⟩
  rw[g_impl_Typed_l1];rfl
 | cons b r ih =>
  intro k kd hk
  obtain ⟨k,rfl⟩:∃ k',k=k'+1:=⟨k-1,by omega⟩
  rw[List.length_cons]at hk
  rw[g_impl_Typed_l1,show ((b::r) != [])=true from rfl,cond_true,idx_head,Option.bind_some,(col_eq b.toNat_lt).2,Option.bind_some,Option.bind_some,stripW]
  by_cases hc:0<=colF (b.toNat:Int)
  ·rw[decide_eq_true hc,cond_true,Option.bind_some,(col_eq b.toNat_lt).2,Option.bind_some,subL_drop (by omega) (by rw[List.length_cons];omega),Option.bind_some,if_pos hc]
   exact ih k _ (by omega)
  ·rw[decide_eq_false hc,cond_false,if_neg hc]
theorem strip_len:∀ (w:List UInt8) (kd:Int),(stripW kd w).2.length<=w.length:=by
 intro w
 induction w with
 | nil=>intro kd;exact Nat.le_refl _
 | cons b r ih =>
  intro kd
  rw[stripW]
  split
  ·have:=ih (colF (b.toNat:Int));rw[List.length_cons];omega
  ·exact Nat.le_refl _
def smV (w:List UInt8):Int×Bool:=if (decV w).2=true ∧ -2147483648<=(decV w).1/\(decV w).1<=2147483647 then ((decV w).1,true) else (0,false)
theorem l06Dec_eq (w:List UInt8):g_spec_l06Dec w=some (smV w):=by
 unfold g_spec_l06Dec smV
 rw[spec_rd,Option.bind_some]
 cases h:(decV w).2 with
 | false=>rw[if_neg (by simp)];rfl
 | true =>
  rw[Bool.not_true,cond_false,l01In_eq,Option.bind_some,Option.bind_some]
  by_cases hr : -2147483648<=(decV w).1/\(decV w).1<=2147483647
  ·rw[decide_eq_true hr,Bool.not_true,cond_false,if_pos ⟨rfl,hr⟩,wI32 (by omega) (by omega)]
  ·rw[decide_eq_false hr,Bool.not_false,cond_true,if_neg (λ q=>hr q.2)]
theorem small_eq {w:List UInt8} (hw:w.length<=1048576):∃ v,g_impl_small w=some (v,(smV w).2)/\((smV w).2=true->v=(smV w).1):=by
 unfold g_impl_small smV
 rw[impl_rd hw,Option.bind_some]
 cases h:(decV w).2 with
 | false=>rw[if_neg (by simp),cond_false];exact ⟨_,rfl,λ h=>nomatch h⟩
 | true =>
  rw[cond_true]
  by_cases hr : -2147483648<=(decV w).1/\(decV w).1<=2147483647
  ·rw[if_pos ⟨rfl,hr⟩,wI32 (by omega) (by omega),wI64 (by omega) (by omega),beq_self_eq_true];exact ⟨_,rfl,λ _=>rfl⟩
  ·rw[if_neg (λ q=>hr q.2)]
   obtain ⟨q0,q1⟩:=wI32_bd (decV w).1
   rw[wI64 (by omega) (by omega),show ((decV w).1==IntKind.wrap .i32 (decV w).1)=false by rw[beq_eq_false_iff_ne];omega]
   exact ⟨_,rfl,λ h=>nomatch h⟩
theorem itoa_head {n:Int}:∃ b r,Lib.itoa n=b::r/\b.toNat≠36:=by
 unfold Lib.itoa
 split
 ·exact ⟨45,_,rfl,by decide⟩
 ·obtain ⟨b,r,e,h0,h1⟩:=dig_head (u:=n.toNat)
  exact ⟨b,r,e,by omega⟩
theorem sm_dollar {b:UInt8} {r:List UInt8} (h:b.toNat=36):(smV (b::r)).2=false:=by
 unfold smV
 split
 ·rename_i hc
  obtain ⟨_,_,e⟩:=(decV_ok (b::r)).1 hc.1
  obtain ⟨b',r',e',hb⟩:=itoa_head (n:=(decV (b::r)).1)
  rw[e]at e'
  cases e'
  exact absurd h hb
 ·rfl
def numV (b:UInt8) (r:List UInt8):Int×Bool×Bool:=if b=36 then (IntKind.wrap .i32 (hexV r).1,true,(hexV r).2) else ((smV (b::r)).1,false,(smV (b::r)).2)
def wordF (out:List GItem) (kd:Int):List UInt8->List GItem×Bool
 | []=>(out,true)
 | b::r =>
  if kd=3/\(numV b r).2.2=true then (out++[⟨8,[],(numV b r).1,(numV b r).2.1,0⟩],true)
  else if kd=1/\(numV b r).2.2=true then (out++[⟨7,[],(numV b r).1,(numV b r).2.1,0⟩],true)
  else if (smV (b::r)).2=true/\kd=9/\∃ x,out.getLast? = some x/\x.Kind=9 then
   (match out.getLast? with|some x=>(out.set (out.length-1) ⟨x.Kind,x.Name,(smV (b::r)).1,x.Hex,x.Raw⟩,true)|none=>(out,true))
  else (out++[⟨kd,b::r,0,false,0⟩],itemOkB ⟨kd,b::r,0,false,0⟩)
theorem itS_w {kd:Int} {w:List UInt8} (h:w.length<=1048576):ItS ⟨kd,w,0,false,0⟩:=⟨h,Int.le_refl 0,(by decide:(0:Int) < 4294967296)⟩
theorem last_get {α:Type} {l:List α} {x:α} (h:l.getLast? = some x):getI l (((l.length-1:Nat):Int))=some x:=by
 rw[getI_nat,<-List.getLast?_eq_getElem?,h]
theorem lastW {α:Type} (l:List α) (h:0 < l.length) (h2:l.length<=1048576):IntKind.wrap .i64 ((l.length:Int)-1)=((l.length-1:Nat):Int):=by
 rw[wI64 (by omega) (by omega)];omega
end Go.Proofs.YtgfamepnkhpemaaGreatDoor
namespace Go.Proofs.YtgfamepnkhpemaaGreatDoor
open Go Go.Fm
set_option maxRecDepth 100000
theorem last_cases (l:List GItem):(l.length=0/\l.getLast? = none)\/(0 < l.length/\∃ x,l.getLast? = some x/\getI l ((l.length-1:Nat):Int)=some x):=by
 cases h:l.getLast? with
 | none=>exact .inl ⟨by rw[List.getLast?_eq_none_iff.mp h];rfl,rfl⟩
 | some x =>
  refine .inr ⟨?_,x,rfl,last_get h⟩
  cases l with
  | nil=>exact nomatch h
  | cons a l=>simp
theorem last9_impl {l:List GItem} (h2:l.length<=1048576):(cond (decide ((IntKind.wrap .i64 ((l.length:Int)-1)) ≥ 0)) ((getI l (IntKind.wrap .i64 ((l.length:Int)-1))).bind λ v_34=>some (v_34.Kind==9)) (some false):Option Bool)=some (decide (∃ x,l.getLast? = some x/\x.Kind=9)):=by
 rcases last_cases l with ⟨h0,hn⟩|⟨h0,x,hx,hg⟩
 ·rw[h0,show IntKind.wrap .i64 (((0:Nat):Int)-1) = -1 from by decide,hn]
  rw[decide_eq_false (by omega),cond_false,decide_eq_false (by rintro ⟨x,e,_⟩;exact nomatch e)]
 ·rw[lastW l h0 h2,hg,hx,decide_eq_true (by omega),cond_true,Option.bind_some]
  by_cases h9:x.Kind=9
  ·rw[decide_eq_true ⟨x,rfl,h9⟩,h9];rfl
  ·rw[decide_eq_false (by rintro ⟨y,e,h⟩;cases e;exact h9 h),beq_eq_false_iff_ne.mpr h9]
theorem last9_spec {l:List GItem} (h2:l.length<=1048576):(cond (decide ((l.length:Int) > 0)) ((getI l (IntKind.wrap .i64 ((l.length:Int)-1))).bind λ v_34=>some (v_34.Kind==9)) (some false):Option Bool)=some (decide (∃ x,l.getLast? = some x/\x.Kind=9)):=by
 rcases last_cases l with ⟨h0,hn⟩|⟨h0,x,hx,hg⟩
 ·rw[h0,hn]
  rw[decide_eq_false (by omega),cond_false,decide_eq_false (by rintro ⟨x,e,_⟩;exact nomatch e)]
 ·rw[lastW l h0 h2,hg,hx,decide_eq_true (by omega),cond_true,Option.bind_some]
  by_cases h9:x.Kind=9
  ·rw[decide_eq_true ⟨x,rfl,h9⟩,h9];rfl
  ·rw[decide_eq_false (by rintro ⟨y,e,h⟩;cases e;exact h9 h),beq_eq_false_iff_ne.mpr h9]
theorem app1 {out:List GItem} {x:GItem} (h:out.length<=1048576):app out [x]=some (out++[x]):=app_eq (by simp only[List.length_cons,List.length_nil];omega)
theorem b36 {b:UInt8}:b.toNat=36 ↔ b=36:=⟨λ h=>UInt8.toNat_inj.mp h,λ h=>by rw[h];rfl⟩
theorem sm_36 {b:UInt8} {r:List UInt8} (h:b=36):(smV (b::r)).2=false:=sm_dollar (b36.mpr h)
theorem wordF_eq (out:List GItem) (kd:Int) (b:UInt8) (r:List UInt8):wordF out kd (b::r) =
  if kd=3/\(numV b r).2.2=true then (out++[⟨8,[],(numV b r).1,(numV b r).2.1,0⟩],true)
  else if kd=1/\(numV b r).2.2=true then (out++[⟨7,[],(numV b r).1,(numV b r).2.1,0⟩],true)
  else if (smV (b::r)).2=true/\kd=9/\∃ x,out.getLast? = some x/\x.Kind=9 then
   (match out.getLast? with|some x=>(out.set (out.length-1) ⟨x.Kind,x.Name,(smV (b::r)).1,x.Hex,x.Raw⟩,true)|none=>(out,true))
  else (out++[⟨kd,b::r,0,false,0⟩],itemOkB ⟨kd,b::r,0,false,0⟩):=rfl
theorem l16Number_eq {kd:Int} {b:UInt8} {r:List UInt8}:∃ it,g_spec_l16Number kd (b::r)=some (it,decide ((kd=3\/kd=1)/\(numV b r).2.2=true)) ∧
  ((kd=3\/kd=1)/\(numV b r).2.2=true->it=⟨if kd=1 then 7 else 8,[],(numV b r).1,(numV b r).2.1,0⟩):=by
 unfold g_spec_l16Number
 have hk:(cond (kd==1) (some (⟨7,[],0,false,0⟩:GItem)) (some (⟨8,[],0,false,0⟩:GItem)):Option GItem)=some ⟨if kd=1 then 7 else 8,[],0,false,0⟩:=by
  by_cases h:kd=1
  ·rw[if_pos h,h];rfl
  ·rw[if_neg h,beq_eq_false_iff_ne.mpr h];rfl
 rw[hk,Option.bind_some]
 have hc:(cond (kd != 3) (some (kd != 1)) (some false):Option Bool)=some (decide (¬ (kd=3\/kd=1))):=by
  by_cases h3:kd=3
  ·rw[h3];rfl
  ·by_cases h1:kd=1
   ·rw[h1];rfl
   ·rw[show (kd != 3)=true by simp[h3],show (kd != 1)=true by simp[h1],decide_eq_true (by omega)];rfl
 rw[hc,Option.bind_some]
 by_cases hp:kd=3\/kd=1
 ·rw[decide_eq_false (not_not_intro hp),cond_false,idx_head,Option.bind_some]
  unfold numV
  by_cases h36:b=36
  ·rw[if_pos h36,show ((b.toNat:Int)==36)=true by rw[b36.mpr h36];rfl,cond_true,subL_drop (by omega) (by rw[List.length_cons];omega),Option.bind_some]
   show ∃ it,Option.bind (g_spec_ReadHex r) _=_/\_
   rw[spec_rh,Option.bind_some]
   refine ⟨_,?_,λ _=>rfl⟩
   cases h:(hexV r).2 with
   | true=>rw[decide_eq_true ⟨hp,rfl⟩]
   | false=>rw[decide_eq_false (by rintro ⟨_,h⟩;exact nomatch h)]
  ·rw[if_neg h36,show ((b.toNat:Int)==36)=false by rw[beq_eq_false_iff_ne];intro h;exact h36 (b36.mp (by omega)),cond_false,l06Dec_eq,Option.bind_some]
   refine ⟨_,?_,λ _=>rfl⟩
   cases h:(smV (b::r)).2 with
   | true=>rw[decide_eq_true ⟨hp,rfl⟩]
   | false=>rw[decide_eq_false (by rintro ⟨_,h⟩;exact nomatch h)]
 ·rw[decide_eq_true hp,cond_true]
  exact ⟨_,by rw[decide_eq_false (λ q=>hp q.1)],λ q=>absurd q.1 hp⟩
theorem word_spec {out:List GItem} {kd:Int} {b:UInt8} {r:List UInt8} (ho:out.length<=1048576) (hw:(b::r).length<=1048576):g_spec_l16Word out kd (b::r)=some (wordF out kd (b::r)):=by
 unfold g_spec_l16Word
 obtain ⟨it,e,hit⟩:=l16Number_eq (kd:=kd) (b:=b) (r:=r)
 rw[e,Option.bind_some,wordF_eq]
 by_cases hn:(kd=3\/kd=1)/\(numV b r).2.2=true
 ·rw[decide_eq_true hn,cond_true,app1 ho,Option.bind_some,hit hn]
  rcases hn with ⟨h3|h1,h2⟩
  ·rw[if_neg (show ¬ kd=1 by omega),if_pos ⟨h3,h2⟩]
  ·rw[if_pos h1,if_neg (λ q=>absurd q.1 (by omega)),if_pos ⟨h1,h2⟩]
 ·rw[decide_eq_false hn,cond_false,if_neg (λ q=>hn ⟨.inl q.1,q.2⟩),if_neg (λ q=>hn ⟨.inr q.1,q.2⟩),l06Dec_eq,Option.bind_some]
  have hitem:((app out [(⟨kd,b::r,0,false,0⟩:GItem)]).bind λ v_12=>(g_spec_ItemOk (⟨kd,b::r,0,false,0⟩:GItem)).bind λ y_13=>some (v_12,y_13))=some (out++[⟨kd,b::r,0,false,0⟩],itemOkB ⟨kd,b::r,0,false,0⟩):=by
   rw[app1 ho,Option.bind_some,itemOk_spec (itS_w hw),Option.bind_some]
  cases hs:(smV (b::r)).2 with
  | false=>rw[cond_false,Option.bind_some,cond_false,hitem,if_neg (by rintro ⟨h,_⟩;exact nomatch h)]
  | true =>
   rw[cond_true,last9_spec ho]
   by_cases h9:kd=9
   ·rw[h9,show ((9:Int)==9)=true from rfl,cond_true,Option.bind_some]
    by_cases hl:∃ x,out.getLast? = some x/\x.Kind=9
    ·obtain ⟨x,hx,hk⟩:=hl
     rcases last_cases out with ⟨h0,hn⟩|⟨h0,y,hy,hg⟩
     ·rw[hn]at hx;exact nomatch hx
     ·rw[hx]at hy;cases hy
      rw[decide_eq_true ⟨x,hx,hk⟩,cond_true,lastW out h0 ho,hg,Option.bind_some,if_pos ⟨rfl,rfl,x,hx,hk⟩,hx]
      rfl
    ·rw[decide_eq_false hl,cond_false,if_neg (λ q=>hl q.2.2),<-h9,hitem]
   ·rw[beq_eq_false_iff_ne.mpr h9,cond_false,Option.bind_some,cond_false,hitem,if_neg (λ q=>h9 q.2.1)]
theorem cut_eq (b:UInt8) (r:List UInt8):g_strings_CutPrefix (b::r) [36]=some (if b=36 then (r,true) else (b::r,false)):=by
 unfold g_strings_CutPrefix g_istringslite_CutPrefix g_istringslite_HasPrefix
 rw[decide_eq_true (by simp only[List.length_cons,List.length_nil];omega),cond_true,subL_take (by omega) (by simp only[List.length_cons,List.length_nil];omega),Option.bind_some,Option.bind_some]
 by_cases h:b=36
 ·subst h
  rw[if_pos rfl]
  show Option.bind (Option.bind (subL _ _ _) _) _=_
  rw[subL_drop (by simp only[List.length_cons,List.length_nil];omega) (by simp only[List.length_cons,List.length_nil];omega)]
  rfl
 ·rw[if_neg h,show (List.take (([36]:List UInt8).length:Int).toNat (b::r)==[36])=false by rw[beq_eq_false_iff_ne];intro e;exact h (List.cons.inj e).1]
  rfl
theorem typed_num {b:UInt8} {r:List UInt8} (hw:(b::r).length<=1048576):∃ v hx,g_impl_typedNumber (b::r)=some (v,hx,(numV b r).2.2)/\((numV b r).2.2=true->v=(numV b r).1/\hx=(numV b r).2.1):=by
 unfold g_impl_typedNumber
 obtain ⟨v,hv,hq⟩:=small_eq hw
 rw[cut_eq,Option.bind_some]
 unfold numV
 rw[List.length_cons]at hw
 by_cases h:b=36
 ·rw[if_pos h,if_pos h]
  show ∃ v hx,Option.bind (Option.bind (g_impl_ReadHex r) _) _=_/\_
  rw[impl_rh (by omega),Option.bind_some]
  cases hh:(hexV r).2 with
  | true=>rw[cond_true,Option.bind_some];exact ⟨_,_,rfl,λ _=>⟨rfl,rfl⟩⟩
  | false =>
   rw[cond_false,Option.bind_some]
   show ∃ v hx,Option.bind (g_impl_small _) _=_/\_
   rw[hv,sm_36 h]
   exact ⟨_,_,rfl,λ h=>nomatch h⟩
 ·rw[if_neg h,if_neg h]
  show ∃ v hx,Option.bind (g_impl_small _) _=_/\_
  rw[hv]
  exact ⟨_,_,rfl,λ h=>⟨hq h,rfl⟩⟩
theorem step_impl {vs:List GSpot} {n:Int} {k i:Nat} {out:List GItem} {kd kd':Int} {sp:GSpot} {b:UInt8} {r:List UInt8} (hi:(i:Int) < n) (hi2:i<=1048576) (hg:getI vs (i:Int)=some sp) (hsp:sp.word.length<=1048576) (hs:stripW kd sp.word=(kd',b::r)) (ho:out.length<=1048576) :
  g_impl_Typed_l0 vs n (k+1) out kd (i:Int)=if (wordF out kd' (b::r)).2=true then g_impl_Typed_l0 vs n k (wordF out kd' (b::r)).1 kd' ((i+1:Nat):Int) else some (.inr (IntKind.wrap .i64 (sp.at_+1))):=by
 have hw:(b::r).length<=1048576:=by have:=strip_len sp.word kd;rw[hs]at this;exact Nat.le_trans this hsp
 have hnx:IntKind.wrap .i64 ((i:Int)+1)=((i+1:Nat):Int):=by rw[wI64 (by omega) (by omega)];rfl
 rw[g_impl_Typed_l0,decide_eq_true hi,cond_true,hg,Option.bind_some,strip_impl _ _ _ (by unfold bigK;omega),Option.bind_some,hs,hnx]
 show Option.bind (cond (b::r==[]) _ _) _=_
 rw[show ((b::r)==[])=false from rfl,cond_false]
 generalize hp:wordF out kd' (b::r)=p
 rw[wordF_eq]at hp
 obtain ⟨v,hx,hn,hv⟩:=typed_num hw
 rw[hn,Option.bind_some]
 have hitem:∀ {f:(List GItem×Int) ⊕ Int->Option (List GItem ⊕ Int)},Option.bind ((g_impl_ItemOk (⟨kd',b::r,0,false,0⟩:GItem)).bind λ y_36=>cond (!y_36) (some (.inr (IntKind.wrap .i64 (sp.at_+1)))) ((app out [(⟨kd',b::r,0,false,0⟩:GItem)]).bind λ v_37=>some (.inl (v_37,kd')))) f
   = if itemOkB ⟨kd',b::r,0,false,0⟩=true then f (.inl (out++[⟨kd',b::r,0,false,0⟩],kd')) else f (.inr (IntKind.wrap .i64 (sp.at_+1))):=by
  intro f
  rw[itemOk_impl (itS_w hw),Option.bind_some,app1 ho]
  cases itemOkB ⟨kd',b::r,0,false,0⟩ with
  | true=>rw[if_pos rfl];rfl
  | false=>rw[if_neg (λ h=>nomatch h)];rfl
 cases hok:(numV b r).2.2 with
 | false =>
  have hsm:(smV (b::r)).2=false:=by
   unfold numV at hok
   split at hok
   ·rename_i h;exact sm_36 h
   ·exact hok
  rw[hok,if_neg (λ q=>nomatch q.2),if_neg (λ q=>nomatch q.2),hsm,if_neg (λ q=>nomatch q.1)]at hp
  subst hp
  simp only[cond_false,Option.bind_some]
  rw[hitem]
 | true =>
  obtain ⟨rfl,rfl⟩:=hv hok
  rw[hok]at hp
  simp only[cond_true,Option.bind_some]
  by_cases h3:kd'=3
  ·subst h3
   rw[if_pos ⟨rfl,rfl⟩]at hp
   subst hp
   rw[show ((3:Int)==3)=true from rfl,cond_true,app1 ho,if_pos rfl];rfl
  ·rw[if_neg (λ q=>h3 q.1)]at hp
   rw[beq_eq_false_iff_ne.mpr h3,cond_false]
   by_cases h1:kd'=1
   ·subst h1
    rw[if_pos ⟨rfl,rfl⟩]at hp
    subst hp
    rw[show ((1:Int)==1)=true from rfl,cond_true,app1 ho,if_pos rfl];rfl
   ·rw[if_neg (λ q=>h1 q.1)]at hp
    rw[beq_eq_false_iff_ne.mpr h1,cond_false,last9_impl ho]
    by_cases h36:b=36
    ·have e1:(numV b r).2.1=true:=by unfold numV;rw[if_pos h36]
     rw[sm_36 h36,if_neg (λ q=>nomatch q.1)]at hp
     subst hp
     rw[e1,Bool.not_true,cond_false,Option.bind_some,cond_false,hitem]
    ·have e1:(numV b r).2.1=false:=by unfold numV;rw[if_neg h36]
     have e2:(numV b r).1=(smV (b::r)).1:=by unfold numV;rw[if_neg h36]
     have e3:(smV (b::r)).2=true:=by unfold numV at hok;rw[if_neg h36]at hok;exact hok
     rw[e3]at hp
     rw[e1,e2,Bool.not_false,cond_true]
     by_cases h9:kd'=9
     ·rw[show (kd'==9)=true by rw[h9];rfl,cond_true,Option.bind_some]
      by_cases hl:∃ x,out.getLast? = some x/\x.Kind=9
      ·obtain ⟨x,hx,hk⟩:=hl
       rcases last_cases out with ⟨h0,hn⟩|⟨h0,y,hy,hg⟩
       ·rw[hn]at hx;exact nomatch hx
       ·rw[hx]at hy;cases hy
        rw[if_pos ⟨rfl,h9,x,hx,hk⟩,hx]at hp
        subst hp
        rw[decide_eq_true ⟨x,hx,hk⟩,cond_true,lastW out h0 ho,hg,Option.bind_some,if_pos rfl]
        rfl
      ·rw[if_neg (λ q=>hl q.2.2)]at hp
       subst hp
       rw[decide_eq_false hl,cond_false,hitem]
     ·rw[if_neg (λ q=>h9 q.2.1)]at hp
      subst hp
      rw[beq_eq_false_iff_ne.mpr h9,cond_false,Option.bind_some,cond_false,hitem]
end Go.Proofs.YtgfamepnkhpemaaGreatDoor
namespace Go.Proofs.YtgfamepnkhpemaaGreatDoor
open Go Go.Fm
set_option maxRecDepth 100000
def blB (b:UInt8):Bool:=b.toNat==32 || b.toNat==9 || b.toNat==10
theorem blank_spec (b:UInt8):g_spec_l01Blank (b.toNat:Int)=some (blB b):=by
 unfold g_spec_l01Blank blB
 have e:∀ m:Nat,((b.toNat:Int)==(m:Int))=(b.toNat==m):=λ m=>by
  cases h:(b.toNat==m) with
  | true=>rw[beq_iff_eq]at h ⊢;omega
  | false=>rw[beq_eq_false_iff_ne]at h ⊢;omega
 rw[show (32:Int)=((32:Nat):Int) from rfl,show (9:Int)=((9:Nat):Int) from rfl,show (10:Int)=((10:Nat):Int) from rfl,e,e,e]
 cases b.toNat==32<;>cases b.toNat==9<;>rfl
theorem blank_impl (b:UInt8):g_impl_isSpace (b.toNat:Int)=some (blB b):=by
 unfold g_impl_isSpace blB
 have e:∀ m:Nat,((b.toNat:Int)==(m:Int))=(b.toNat==m):=λ m=>by
  cases h:(b.toNat==m) with
  | true=>rw[beq_iff_eq]at h ⊢;omega
  | false=>rw[beq_eq_false_iff_ne]at h ⊢;omega
 rw[show (32:Int)=((32:Nat):Int) from rfl,show (9:Int)=((9:Nat):Int) from rfl,show (10:Int)=((10:Nat):Int) from rfl,e,e,e]
 cases b.toNat==32<;>cases b.toNat==10<;>cases b.toNat==9<;>rfl
def wordLen:List UInt8->Nat
 | []=>0
 | b::r=>if blB b=true then 0 else wordLen r+1
theorem wordLen_le:∀ l:List UInt8,wordLen l<=l.length
 | []=>Nat.le_refl _
 | b::r=>by rw[wordLen];have:=wordLen_le r;split<;>simp<;>omega
theorem drop_at {s:List UInt8} {i:Nat} {b:UInt8} {r:List UInt8} (h:s.drop i=b::r):i < s.length/\s[i]? = some b/\s.drop (i+1)=r:=by
 have hl:i < s.length:=by
  rcases Nat.lt_or_ge i s.length with h'|h'
  ·exact h'
  ·rw[List.drop_eq_nil_of_le h']at h;exact nomatch h
 have e:=List.drop_eq_getElem_cons hl
 rw[h]at e
 exact ⟨hl,by rw[List.getElem?_eq_getElem hl,(List.cons.inj e).1],(List.cons.inj e).2.symm⟩
theorem drop_none {s:List UInt8} {i:Nat} (h:s.drop i=[]):s.length<=i:=List.drop_eq_nil_iff.mp h
theorem end_spec {s:List UInt8} (hs:s.length<=1048576):∀ (l:List UInt8) (k i:Nat),s.drop i=l->i<=s.length->l.length < k->g_spec_Typed_l1 s k (i:Int)=some ((i+wordLen l:Nat):Int):=by
 intro l
 induction l with
 | nil =>
  intro k i h hi hk
  obtain ⟨k,rfl⟩:∃ k',k=k'+1:=⟨k-1,by omega⟩
  rw[g_spec_Typed_l1,decide_eq_false (by have:=drop_none h;omega)];rfl
 | cons b r ih =>
  intro k i h hi hk
  obtain ⟨k,rfl⟩:∃ k',k=k'+1:=⟨k-1,by omega⟩
  obtain ⟨hl,hg,hd⟩:=drop_at h
  rw[List.length_cons]at hk
  rw[g_spec_Typed_l1,decide_eq_true (by omega),cond_true,idxS_at hg,Option.bind_some,blank_spec,Option.bind_some,Option.bind_some,wordLen]
  cases hb:blB b with
  | true=>rw[Bool.not_true,cond_false,if_pos rfl];rfl
  | false =>
   rw[Bool.not_false,cond_true,if_neg (λ h=>nomatch h),wI64 (by omega) (by omega),show (i:Int)+1=((i+1:Nat):Int) from rfl,ih k (i+1) hd hl (by omega),show i+1+wordLen r=i+(wordLen r+1) by omega]
theorem end_impl {s:List UInt8} (hs:s.length<=1048576):∀ (l:List UInt8) (k i:Nat),s.drop i=l->i<=s.length->l.length < k->g_impl_spots_l1 s k (i:Int)=some ((i+wordLen l:Nat):Int):=by
 intro l
 induction l with
 | nil =>
  intro k i h hi hk
  obtain ⟨k,rfl⟩:∃ k',k=k'+1:=⟨k-1,by omega⟩
  rw[g_impl_spots_l1,decide_eq_false (by have:=drop_none h;omega)];rfl
 | cons b r ih =>
  intro k i h hi hk
  obtain ⟨k,rfl⟩:∃ k',k=k'+1:=⟨k-1,by omega⟩
  obtain ⟨hl,hg,hd⟩:=drop_at h
  rw[List.length_cons]at hk
  rw[g_impl_spots_l1,decide_eq_true (by omega),cond_true,idxS_at hg,Option.bind_some,blank_impl,Option.bind_some,Option.bind_some,wordLen]
  cases hb:blB b with
  | true=>rw[Bool.not_true,cond_false,if_pos rfl];rfl
  | false =>
   rw[Bool.not_false,cond_true,if_neg (λ h=>nomatch h),wI64 (by omega) (by omega),show (i:Int)+1=((i+1:Nat):Int) from rfl,ih k (i+1) hd hl (by omega),show i+1+wordLen r=i+(wordLen r+1) by omega]
def spotsL:Nat->Int->List UInt8->List GSpot
 | 0,_,_=>[]
 | _+1,_,[]=>[]
 | f+1,p,b::r=>if blB b=true then spotsL f (p+1) r else ⟨(b::r).take (wordLen (b::r)),p⟩::spotsL f (p+wordLen (b::r)) ((b::r).drop (wordLen (b::r)))
theorem wordLen_pos {b:UInt8} {r:List UInt8} (h:blB b=false):1<=wordLen (b::r):=by rw[wordLen,h];simp
theorem sub_word {s:List UInt8} {i:Nat} {l:List UInt8} (h:s.drop i=l) (hi:i<=s.length):subL s (i:Int) ((i+wordLen l:Nat):Int)=some (l.take (wordLen l)):=by
 have hw:=wordLen_le l
 have hl:l.length=s.length-i:=by rw[<-h,List.length_drop]
 rw[subL_eq (by omega) (by omega) (by omega),show ((i:Nat):Int).toNat=i from rfl,h,show (((i+wordLen l:Nat):Int).toNat-i)=wordLen l by omega]
theorem spots_impl {s:List UInt8} (hs:s.length<=1048576):∀ (f i k:Nat) (out:List GSpot) (l:List UInt8),s.drop i=l->i<=s.length->l.length<=f->f < k->out.length<=i →
  g_impl_spots_l0 s k out (i:Int)=some (out++spotsL f i l):=by
 intro f
 induction f with
 | zero =>
  intro i k out l h hi hf hk ho
  obtain ⟨k,rfl⟩:∃ k',k=k'+1:=⟨k-1,by omega⟩
  have hn:l=[]:=List.length_eq_zero_iff.mp (by omega)
  subst hn
  rw[g_impl_spots_l0,decide_eq_false (by have:=drop_none h;omega),cond_false,spotsL,List.append_nil]
 | succ f ih =>
  intro i k out l h hi hf hk ho
  obtain ⟨k,rfl⟩:∃ k',k=k'+1:=⟨k-1,by omega⟩
  cases l with
  | nil=>rw[g_impl_spots_l0,decide_eq_false (by have:=drop_none h;omega),cond_false,spotsL,List.append_nil]
  | cons b r =>
   obtain ⟨hl,hg,hd⟩:=drop_at h
   have hlen:(b::r).length=s.length-i:=by rw[<-h,List.length_drop]
   have hwl:=wordLen_le (b::r)
   rw[List.length_cons]at hf
   rw[g_impl_spots_l0,decide_eq_true (by omega),cond_true,idxS_at hg,Option.bind_some,blank_impl,Option.bind_some,spotsL]
   cases hb:blB b with
   | true =>
    rw[cond_true,if_pos rfl,wI64 (by omega) (by omega),show (i:Int)+1=((i+1:Nat):Int) from rfl]
    exact ih (i+1) k out r hd hl (by omega) (by omega) (by omega)
   | false =>
    have hp:=wordLen_pos (r:=r) hb
    rw[cond_false,if_neg (λ h=>nomatch h),end_impl hs (b::r) bigK i h hi (by unfold bigK;omega),Option.bind_some,sub_word h hi,Option.bind_some,app_eq (by rw[List.length_singleton];omega),Option.bind_some,
     ih (i+wordLen (b::r)) k _ ((b::r).drop (wordLen (b::r))) (by rw[<-h,List.drop_drop]) (by omega) (by rw[List.length_drop,List.length_cons];omega) (by omega) (by rw[List.length_append,List.length_singleton];omega)]
    rw[List.append_assoc];rfl
def foldF:List GSpot->List GItem->Int->List GItem ⊕ Int
 | [],out,kd=>.inl out
 | sp::r,out,kd =>
  if (stripW kd sp.word).2=[] then foldF r out (stripW kd sp.word).1
  else if (wordF out (stripW kd sp.word).1 (stripW kd sp.word).2).2=true then foldF r (wordF out (stripW kd sp.word).1 (stripW kd sp.word).2).1 (stripW kd sp.word).1
  else .inr (sp.at_+1)
theorem wordF_len (out:List GItem) (kd:Int) (w:List UInt8):(wordF out kd w).1.length<=out.length+1:=by
 cases w with
 | nil=>exact Nat.le_succ _
 | cons b r =>
  rw[wordF_eq]
  repeat' split
  all_goals simp
def SpOk (n:Nat) (l:List GSpot):Prop:=∀ sp ∈ l,sp.word.length<=1048576/\0<=sp.at_/\sp.at_ < n
theorem fold_impl {vs:List GSpot} (hv:vs.length<=1048576) (ho:SpOk 1048576 vs):∀ (l:List GSpot) (k i:Nat) (out:List GItem) (kd:Int),vs.drop i=l->i<=vs.length->l.length < k->out.length<=i →
  g_impl_Typed_l0 vs (vs.length:Int) k out kd (i:Int)=some (foldF l out kd):=by
 intro l
 induction l with
 | nil =>
  intro k i out kd h hi hk hout
  obtain ⟨k,rfl⟩:∃ k',k=k'+1:=⟨k-1,by omega⟩
  rw[g_impl_Typed_l0,decide_eq_false (by have:=List.drop_eq_nil_iff.mp h;omega),cond_false,foldF]
 | cons sp r ih =>
  intro k i out kd h hi hk hout
  obtain ⟨k,rfl⟩:∃ k',k=k'+1:=⟨k-1,by omega⟩
  have hl:i < vs.length:=by
   rcases Nat.lt_or_ge i vs.length with h'|h'
   ·exact h'
   ·rw[List.drop_eq_nil_of_le h']at h;exact nomatch h
  have e:=List.drop_eq_getElem_cons hl
  rw[h]at e
  have hg:getI vs (i:Int)=some sp:=by rw[getI_nat,List.getElem?_eq_getElem hl,(List.cons.inj e).1]
  have hd:vs.drop (i+1)=r:=(List.cons.inj e).2.symm
  obtain ⟨o1,o2,o3⟩:=ho sp (List.mem_of_mem_drop (by rw[h];exact List.mem_cons_self))
  rw[List.length_cons]at hk
  rw[foldF]
  generalize hs:stripW kd sp.word=p
  obtain ⟨kd',w⟩:=p
  cases w with
  | nil =>
   rw[if_pos rfl,g_impl_Typed_l0,decide_eq_true (by omega),cond_true,hg,Option.bind_some,strip_impl _ _ _ (by unfold bigK;omega),Option.bind_some,hs]
   show g_impl_Typed_l0 _ _ _ _ _ _=_
   rw[wI64 (by omega) (by omega)]
   exact ih k (i+1) out kd' hd hl (by omega) (by omega)
  | cons b t =>
   rw[if_neg (by simp),step_impl (by omega) (by omega) hg o1 hs (by omega)]
   have:=wordF_len out kd' (b::t)
   cases hw:(wordF out kd' (b::t)).2 with
   | true=>rw[if_pos rfl,if_pos rfl];exact ih k (i+1) _ kd' hd hl (by omega) (by omega)
   | false=>rw[if_neg (λ h=>nomatch h),if_neg (λ h=>nomatch h),wI64 (by omega) (by omega)]
def outS (r:List GItem ⊕ Int):List GItem ⊕ (List GItem×Int):=match r with | .inl l=>.inl l | .inr p=>.inr ([],p)
theorem fold_spec {s:List UInt8} (hs:s.length<=6000):∀ (f i k:Nat) (out:List GItem) (kd:Int) (l:List UInt8),s.drop i=l->i<=s.length->l.length<=f->f < k->out.length<=i →
  g_spec_Typed_l0 s k out kd (i:Int)=some (outS (foldF (spotsL f i l) out kd)):=by
 intro f
 induction f with
 | zero =>
  intro i k out kd l h hi hf hk ho
  obtain ⟨k,rfl⟩:∃ k',k=k'+1:=⟨k-1,by omega⟩
  have hn:l=[]:=List.length_eq_zero_iff.mp (by omega)
  subst hn
  rw[g_spec_Typed_l0,decide_eq_false (by have:=drop_none h;omega),cond_false,spotsL,foldF];rfl
 | succ f ih =>
  intro i k out kd l h hi hf hk ho
  obtain ⟨k,rfl⟩:∃ k',k=k'+1:=⟨k-1,by omega⟩
  cases l with
  | nil=>rw[g_spec_Typed_l0,decide_eq_false (by have:=drop_none h;omega),cond_false,spotsL,foldF];rfl
  | cons b r =>
   obtain ⟨hl,hg,hd⟩:=drop_at h
   have hlen:(b::r).length=s.length-i:=by rw[<-h,List.length_drop]
   have hwl:=wordLen_le (b::r)
   rw[List.length_cons]at hf
   rw[g_spec_Typed_l0,decide_eq_true (by omega),cond_true,idxS_at hg,Option.bind_some,blank_spec,Option.bind_some,spotsL]
   cases hb:blB b with
   | true =>
    rw[cond_true,if_pos rfl,wI64 (by omega) (by omega),show (i:Int)+1=((i+1:Nat):Int) from rfl]
    exact ih (i+1) k out kd r hd hl (by omega) (by omega) (by omega)
   | false =>
    have hp:=wordLen_pos (r:=r) hb
    have htk:((b::r).take (wordLen (b::r))).length<=6000:=by rw[List.length_take];omega
    rw[cond_false,if_neg (λ h=>nomatch h),end_spec (by omega) (b::r) bigK i h hi (by unfold bigK;omega),Option.bind_some,sub_word h hi,Option.bind_some,strip_spec _ _ _ (by unfold bigK;omega),Option.bind_some,foldF]
    have hsl:=strip_len ((b::r).take (wordLen (b::r))) kd
    have go:∀ (o:List GItem) (kd':Int),o.length<=i+wordLen (b::r)->g_spec_Typed_l0 s k o kd' ((i+wordLen (b::r):Nat):Int)=some (outS (foldF (spotsL f ((i:Int)+wordLen (b::r)) ((b::r).drop (wordLen (b::r)))) o kd')):=λ o kd' h1 =>
     ih (i+wordLen (b::r)) k o kd' _ (by rw[<-h,List.drop_drop]) (by omega) (by rw[List.length_drop,List.length_cons];omega) (by omega) h1
    generalize hs':stripW kd ((b::r).take (wordLen (b::r)))=p at hsl ⊢
    obtain ⟨kd',w⟩:=p
    cases w with
    | nil =>
     rw[if_pos rfl]
     show g_spec_Typed_l0 _ _ _ _ _=_
     exact go out kd' (by omega)
    | cons c t =>
     have h1:(c::t).length<=6000:=Nat.le_trans hsl htk
     show Option.bind (cond ((c::t) != []) _ _) _=_
     rw[show ((c::t) != [])=true from rfl,cond_true,word_spec (by omega) (by omega),Option.bind_some,if_neg (by simp)]
     have:=wordF_len out kd' (c::t)
     cases hw:(wordF out kd' (c::t)).2 with
     | true =>
      rw[if_pos rfl]
      show g_spec_Typed_l0 _ _ _ _ _=_
      exact go _ kd' (by omega)
     | false =>
      rw[if_neg (λ h=>nomatch h),wI64 (by omega) (by omega)]
      rfl
theorem spots_ok {n:Nat}:∀ (f p:Nat) (l:List UInt8),p+l.length<=n->n<=1048576->SpOk n (spotsL f p l)/\(spotsL f p l).length<=l.length:=by
 intro f
 induction f with
 | zero=>intro p l h hn;rw[spotsL];exact ⟨(λ _ h=>nomatch h),Nat.zero_le _⟩
 | succ f ih =>
  intro p l h hn
  cases l with
  | nil=>rw[spotsL];exact ⟨(λ _ h=>nomatch h),Nat.zero_le _⟩
  | cons b r =>
   have hwl:=wordLen_le (b::r)
   rw[spotsL]
   cases hb:blB b with
   | true =>
    rw[if_pos rfl]
    rw[List.length_cons]at h
    obtain ⟨q1,q2⟩:=ih (p+1) r (by omega) hn
    exact ⟨q1,by rw[List.length_cons];exact Nat.le_trans q2 (Nat.le_succ _)⟩
   | false =>
    have hp:=wordLen_pos (r:=r) hb
    rw[if_neg (λ h=>nomatch h)]
    obtain ⟨q1,q2⟩:=ih (p+wordLen (b::r)) ((b::r).drop (wordLen (b::r))) (by rw[List.length_drop];omega) hn
    rw[List.length_drop]at q2
    refine ⟨λ sp hsp => ?_,?_⟩
    ·rcases List.mem_cons.mp hsp with rfl|h'
     ·refine ⟨?_,Int.natCast_nonneg p,?_⟩
      ·show (List.take _ _).length<=_
       rw[List.length_take];omega
      ·show (p:Int) < n
       rw[List.length_cons]at h;omega
     ·exact q1 sp h'
    ·rw[List.length_cons]
     have:(spotsL f ((p:Int)+(wordLen (b::r):Nat)) ((b::r).drop (wordLen (b::r)))).length<=(b::r).length-wordLen (b::r):=q2
     omega
def spotsOf (s:List UInt8):List GSpot:=spotsL s.length 0 s
def typedR (s:List UInt8):List GItem×Int:=if s.length > 6000 then ([],1) else match foldF (spotsOf s) [] 3 with | .inl l=>(l,0) | .inr p=>([],p)
theorem impl_typed (s:List UInt8):g_impl_Typed s=some (typedR s):=by
 unfold g_impl_Typed typedR
 by_cases h:s.length > 6000
 ·rw[decide_eq_true (by omega),cond_true,if_pos h]
 ·rw[decide_eq_false (by omega),cond_false,if_neg h]
  obtain ⟨q1,q2⟩:=spots_ok (n:=1048576) s.length 0 s (by omega) (Nat.le_refl _)
  have hsp:g_impl_spots s=some (spotsOf s):=by
   unfold g_impl_spots
   rw[show g_impl_spots_l0 s bigK ([]:List GSpot) 0=some ([]++spotsL s.length 0 s) from spots_impl (by omega) s.length 0 bigK [] s rfl (by omega) (Nat.le_refl _) (by unfold bigK;omega) (Nat.le_refl _)]
   rfl
  have hf:g_impl_Typed_l0 (spotsOf s) ((spotsOf s).length:Int) bigK ([]:List GItem) 3 0=some (foldF (spotsOf s) [] 3) :=
   fold_impl (vs:=spotsOf s) (Nat.le_trans q2 (by omega)) q1 (spotsOf s) bigK 0 [] 3 rfl (Nat.zero_le _) (Nat.lt_of_le_of_lt q2 (by unfold bigK;omega)) (Nat.le_refl _)
  rw[hsp,Option.bind_some,hf,Option.bind_some]
  cases foldF (spotsOf s) [] 3<;>rfl
theorem spec_typed (s:List UInt8):g_spec_Typed s=some (typedR s):=by
 unfold g_spec_Typed typedR
 by_cases h:s.length > 6000
 ·rw[decide_eq_true (by omega),cond_true,if_pos h]
 ·rw[decide_eq_false (by omega),cond_false,if_neg h]
  have hf:g_spec_Typed_l0 s bigK ([]:List GItem) 3 0=some (outS (foldF (spotsOf s) [] 3)) :=
   fold_spec (by omega) s.length 0 bigK [] 3 s rfl (Nat.zero_le _) (Nat.le_refl _) (by unfold bigK;omega) (Nat.le_refl _)
  rw[hf,Option.bind_some]
  cases foldF (spotsOf s) [] 3<;>rfl
end Go.Proofs.YtgfamepnkhpemaaGreatDoor
namespace Go.Proofs.YtgfamepnkhpemaaGreatDoor
open Go Go.Fm
set_option maxRecDepth 100000
theorem fold_len:∀ (l:List GSpot) (out:List GItem) (kd:Int) (r:List GItem),foldF l out kd=.inl r->r.length<=out.length+l.length:=by
 intro l
 induction l with
 | nil=>intro out kd r h;rw[foldF]at h;cases h;exact Nat.le_refl _
 | cons sp t ih =>
  intro out kd r h
  rw[foldF]at h
  rw[List.length_cons]
  split at h
  ·have:=ih _ _ _ h;omega
  ·split at h
   ·have:=ih _ _ _ h
    have:=wordF_len out (stripW kd sp.word).1 (stripW kd sp.word).2
    omega
   ·exact nomatch h
theorem spotsOf_ok {s:List UInt8} (h:s.length<=6000):SpOk s.length (spotsOf s)/\(spotsOf s).length<=s.length:=by
 have:=spots_ok (n:=s.length) s.length 0 s (by omega) (by omega)
 exact this
theorem typed_len (s:List UInt8):(typedR s).1.length<=6000:=by
 unfold typedR
 split
 ·exact Nat.zero_le _
 ·rename_i h
  split
  ·rename_i l hl
   have:=fold_len _ _ _ _ hl
   have:=(spotsOf_ok (s:=s) (by omega)).2
   show l.length<=_
   rw[List.length_nil]at *
   omega
  ·exact Nat.zero_le _
end Go.Proofs.YtgfamepnkhpemaaGreatDoor
namespace Go.Proofs.YtgfamepnkhpemaaGreatDoor
open Go Go.Fm
set_option maxRecDepth 100000
def JI (x:GItem):Prop:=g_impl_ItemOk x=some true/\(x.Kind=9->x.Hex=false/\x.Raw=0)
theorem nums_ok {n s l:Int} {hex:Bool}:∃ cs,g_impl_numberCells n hex s l=some cs/\0 < cs.length:=by
 unfold g_impl_numberCells
 have h1:∃ b,(cond hex (some 16) (some 0):Option Int)=some b:=by cases hex<;>exact ⟨_,rfl⟩
 have h2:∃ b,(cond (decide (n ≥ (-67108864))) (some (decide (n<=67108863))) (some false):Option Bool)=some b:=by cases decide (n ≥ (-67108864))<;>exact ⟨_,rfl⟩
 obtain ⟨b1,h1⟩:=h1
 obtain ⟨b2,h2⟩:=h2
 rw[h1,Option.bind_some,h2,Option.bind_some]
 cases b2<;>exact ⟨_,rfl,by simp⟩
theorem ok_8 {n:Int} {hex:Bool}:JI ⟨8,[],n,hex,0⟩:=by
 refine ⟨?_,λ h=>nomatch h⟩
 obtain ⟨cs,h,hl⟩:=nums_ok (n:=n) (s:=6) (l:=5) (hex:=hex)
 unfold g_impl_ItemOk g_impl_CellsOf g_impl_nameTag
 simp[h]
 omega
theorem ok_7 {n:Int} {hex:Bool}:JI ⟨7,[],n,hex,0⟩:=by
 refine ⟨?_,λ h=>nomatch h⟩
 obtain ⟨cs,h,hl⟩:=nums_ok (n:=n) (s:=8) (l:=2) (hex:=hex)
 unfold g_impl_ItemOk g_impl_CellsOf g_impl_nameTag
 simp[h]
 omega
theorem var_n {name:Bs} {n m:Int}:g_impl_ItemOk ⟨9,name,n,false,0⟩=g_impl_ItemOk ⟨9,name,m,false,0⟩:=by
 unfold g_impl_ItemOk g_impl_CellsOf g_impl_nameTag
 simp
 cases g_impl_Pack name with
 | none=>rfl
 | some p =>
  simp
  cases hc:((p.length:Int)==1) with
  | false=>rfl
  | true =>
   simp
   cases getI p 0 with
   | none=>rfl
   | some v=>rfl
theorem wordF_ok {out:List GItem} {kd:Int} {w:List UInt8} (hw:w.length<=1048576) (h:∀ x ∈ out,JI x) (hb:(wordF out kd w).2=true):∀ x ∈ (wordF out kd w).1,JI x:=by
 have app:∀ {y:GItem},JI y->∀ x ∈ out++[y],JI x:=λ hy x hx=>by
  rcases List.mem_append.mp hx with h'|h'
  ·exact h x h'
  ·rw[List.mem_singleton.mp h'];exact hy
 cases w with
 | nil=>exact h
 | cons b r =>
  rw[wordF_eq]at hb ⊢
  split
  ·exact app ok_8
  ·split
   ·exact app ok_7
   ·split
    ·rename_i hc
     obtain ⟨_,_,x,hx,h9⟩:=hc
     rw[hx]
     intro y hy
     rcases List.mem_or_eq_of_mem_set hy with h'|h'
     ·exact h y h'
     ·have hj:=h x (List.mem_of_getLast? hx)
      obtain ⟨k,nm,n,hex,raw⟩:=x
      obtain rfl:k=9:=h9
      obtain ⟨e1,e2⟩:=hj.2 rfl
      obtain rfl:hex=false:=e1
      obtain rfl:raw=0:=e2
      rw[h']
      exact ⟨var_n.trans hj.1,λ _=>⟨rfl,rfl⟩⟩
    ·rename_i h1 h2 h3
     rw[if_neg h1,if_neg h2,if_neg h3]at hb
     have hb':itemOkB ⟨kd,b::r,0,false,0⟩=true:=hb
     exact app ⟨by rw[itemOk_impl (itS_w hw),hb'],λ _=>⟨rfl,rfl⟩⟩
theorem fold_ok {n:Nat}:∀ (l:List GSpot) (out:List GItem) (kd:Int) (r:List GItem),SpOk n l->(∀ x ∈ out,JI x)->foldF l out kd=.inl r->∀ x ∈ r,JI x:=by
 intro l
 induction l with
 | nil=>intro out kd r _ h e;rw[foldF]at e;cases e;exact h
 | cons sp t ih =>
  intro out kd r hs h e
  have ht:SpOk n t:=λ s hm=>hs s (List.mem_cons_of_mem _ hm)
  have hsp:=hs sp List.mem_cons_self
  have hsl:=strip_len sp.word kd
  rw[foldF]at e
  split at e
  ·exact ih _ _ _ ht h e
  ·split at e
   ·rename_i hb
    exact ih _ _ _ ht (wordF_ok (by omega) h hb) e
   ·exact nomatch e
theorem fold_at {n:Nat}:∀ (l:List GSpot) (out:List GItem) (kd p:Int),SpOk n l->foldF l out kd=.inr p->1<=p/\p<=n:=by
 intro l
 induction l with
 | nil=>intro out kd p _ e;rw[foldF]at e;exact nomatch e
 | cons sp t ih =>
  intro out kd p hs e
  have ht:SpOk n t:=λ s hm=>hs s (List.mem_cons_of_mem _ hm)
  obtain ⟨_,q1,q2⟩:=hs sp List.mem_cons_self
  rw[foldF]at e
  split at e
  ·exact ih _ _ _ ht e
  ·split at e
   ·exact ih _ _ _ ht e
   ·cases e;omega
theorem typed_ok (s:List UInt8):(∀ x ∈ (typedR s).1,JI x)/\0<=(typedR s).2/\(typedR s).2<=(s.length:Int)+1:=by
 unfold typedR
 split
 ·exact ⟨(λ x h=>by cases (h:x ∈ ([]:List GItem))),by decide,by show (1:Int)<=_;omega⟩
 ·rename_i h
  obtain ⟨q1,q2⟩:=spotsOf_ok (s:=s) (by omega)
  split
  ·rename_i l hl
   exact ⟨fold_ok _ _ _ _ q1 (λ x h=>by cases h) hl,Int.le_refl 0,by show (0:Int)<=_;omega⟩
  ·rename_i p hp
   obtain ⟨a,b⟩:=fold_at _ _ _ _ q1 hp
   exact ⟨(λ x h=>by cases (h:x ∈ ([]:List GItem))),by show 0<=p;omega,by show p<=_;omega⟩
theorem sameItems_self {a:List GItem} (h:a.length<=1048576):g_laws_sameItems a a=some true :=
 eqRefl (g_laws_sameItems_l0 a a) _ rfl (λ k n x hx hn=>by
  rw[g_laws_sameItems_l0,decide_eq_true (by omega),cond_true,getI_nat,hx]
  simp only[Option.bind_some,beq_self_eq_true,Bool.true_and,Bool.and_true,Bool.not_true,cond_false]
  rw[nxt (by omega)]) (λ k n hn=>by rw[g_laws_sameItems_l0,decide_eq_false (by omega),cond_false]) (by omega)
end Go.Proofs.YtgfamepnkhpemaaGreatDoor
namespace Go.Proofs.YtgfamepnkhpemaaGreatDoor
open Go Go.Fm
set_option maxRecDepth 100000
def Cok (c:GL01Cur):Prop:=0<=c.i/\c.b.length<=1048576
theorem byte_ok {c:GL01Cur} (h:Cok c):Tot (g_spec_l01Byte c) λ r=>0<=r.1/\r.1<=255/\Cok r.2:=by
 unfold g_spec_l01Byte
 refine Tot.bind (Q:=λ r=>0<=r.1/\r.1<=255/\Cok r.2) (.condD (λ hi => ?_) (λ hi => ?_)) λ r hr=>.some hr
 ·obtain ⟨v,hv,_⟩:=getI_ex h.1 hi
  refine .bindE hv (.some ⟨(and_le (by decide) (by decide)).1,(and_le (by decide) (by decide)).2,?_,h.2⟩)
  have:=h.1
  have:=h.2
  show 0<=IntKind.wrap .i64 (c.i+1)
  rw[wI64 (by omega) (by omega)]
  omega
 ·exact .some ⟨(and_le (by decide) (by decide)).1,(and_le (by decide) (by decide)).2,h⟩
theorem below_ok {c:GL01Cur} (h:Cok c) {n:Int} (hn:0 < n):Tot (g_spec_l01Below n c) λ r=>0<=r.1/\r.1 < n/\Cok r.2:=by
 unfold g_spec_l01Below
 refine .condD (λ h0=>by omega) λ _=>.condD (λ h1 => ?_) λ h1 => ?_
 ·refine .bind (byte_ok h) λ a ha => ?_
  obtain ⟨e,g1,g2⟩:=remI_ex (k:=.i64) ha.1 hn
  exact .bindE e (.some ⟨g1,g2,ha.2.2⟩)
 ·refine .bind (byte_ok h) λ a ha=>.bind (byte_ok ha.2.2) λ b hb=>.bind (byte_ok hb.2.2) λ d hd=>.bind (byte_ok hd.2.2) λ x hx => ?_
  rw[wI64 (x:=a.1*16777216) (by omega) (by omega),wI64 (x:=b.1*65536) (by omega) (by omega),wI64 (x:=d.1*256) (by omega) (by omega),wI64 (x:=a.1*16777216+b.1*65536) (by omega) (by omega),
   wI64 (x:=a.1*16777216+b.1*65536+d.1*256) (by omega) (by omega),wI64 (x:=a.1*16777216+b.1*65536+d.1*256+x.1) (by omega) (by omega)]
  obtain ⟨e,g1,g2⟩:=remI_ex (k:=.i64) (a:=a.1*16777216+b.1*65536+d.1*256+x.1) (by omega) hn
  exact .bindE e (.some ⟨g1,g2,hx.2.2⟩)
theorem once_ok {c:GL01Cur} (h:Cok c) {n:Int} (hn:0 < n):Tot (g_spec_l01Once n c) λ r=>Cok r.2 :=
 .bind (below_ok h hn) λ a ha=>.some ha.2.2
theorem pickInt_ok {c:GL01Cur} (h:Cok c) {l:List Int} (hl:0 < l.length):Tot (g_spec_l01PickInt l c) λ r=>r.1 ∈ l/\Cok r.2 :=
 .bind (below_ok h (by omega)) λ a ha=>by
  obtain ⟨v,hv,hm,_⟩:=getI_ex (xs:=l) ha.1 ha.2.1
  exact .bindE hv (.some ⟨hm,ha.2.2⟩)
theorem pick_ok {c:GL01Cur} (h:Cok c) {l:List Bs} (hl:0 < l.length):Tot (g_spec_l01Pick l c) λ r=>r.1 ∈ l/\Cok r.2 :=
 .bind (below_ok h (by omega)) λ a ha=>by
  obtain ⟨v,hv,hm,_⟩:=getI_ex (xs:=l) ha.1 ha.2.1
  exact .bindE hv (.some ⟨hm,ha.2.2⟩)
theorem new_ok {code:List Int} (h:code.length<=1048576):Tot (g_spec_l01New code) Cok:=by
 have key:∀ (k:Nat) (hh i:Int),0<=i->i<=4000->4000-i < k->Tot (g_spec_l01New_l0 code k hh i) λ _=>True:=by
  intro k
  induction k with
  | zero=>intro hh i h0 h1 h2;omega
  | succ k ih =>
   intro hh i h0 h1 h2
   unfold g_spec_l01New_l0
   refine .bind (Q:=λ b=>b=true->i < code.length/\i < 4000) (.condD (λ hi=>.some λ hb=>⟨hi,of_decide_eq_true hb⟩) λ _=>.some λ hb=>nomatch hb) λ b hb => ?_
   refine .cond (λ hc => ?_) λ _=>.some trivial
   obtain ⟨g1,g2⟩:=hb hc
   obtain ⟨v,hv,_⟩:=getI_ex h0 g1
   refine .bindE hv ?_
   rw[wI64 (x:=i+1) (by omega) (by omega)]
   exact ih _ _ (by omega) (by omega) (by omega)
 exact .bind (.bind (key bigK _ 0 (by decide) (by decide) (by decide)) λ a ha=>.some (Q:=λ _=>True) trivial) λ a ha=>.some ⟨Int.le_refl _,h⟩
theorem forLoop {S:Type} {n:Int} {F:Nat->Int->S->Option S} (I:Int->S->Prop) (hn:n<=1000000)
  (hs:∀ k i s,0<=i->i < n->I i s->(∀ s',I (i+1) s'->Tot (F k (i+1) s') (I (max 0 n)))->Tot (F (k+1) i s) (I (max 0 n)))
  (he:∀ k i s,n<=i->I i s->F (k+1) i s=some s) {s:S} (h0:I 0 s):Tot (F bigK 0 s) (I (max 0 n)):=by
 have key:∀ (k:Nat) (i:Int) (s:S),0<=i->i<=max 0 n->I i s->(max 0 n)-i < k->Tot (F k i s) (I (max 0 n)):=by
  intro k
  induction k with
  | zero=>intro i s h0 h1 h2 h3;omega
  | succ k ih =>
   intro i s h0 h1 h2 h3
   by_cases hi:i < n
   ·exact hs k i s h0 hi h2 λ s' hs'=>ih _ _ (by omega) (by omega) hs' (by omega)
   ·rw[he k i s (by omega) h2]
    have:i=max 0 n:=by omega
    subst this
    exact .some h2
 exact key bigK 0 s (Int.le_refl _) (by omega) h0 (by unfold bigK;omega)
theorem i32w' (x:Int) : -2147483648<=IntKind.wrap .i32 x/\IntKind.wrap .i32 x<=2147483647:=by
 unfold IntKind.wrap
 simp only[IntKind.signed,IntKind.bits,if_true]
 constructor<;>(have:=Int.emod_lt_of_pos (x+2147483648) (b:=4294967296) (by decide);have:=Int.emod_nonneg (x+2147483648) (b:=4294967296) (by decide);first|omega|(simp;omega))
theorem int_ok {c:GL01Cur} (h:Cok c):Tot (g_spec_l04Int c) λ r=>(-2147483648<=r.1/\r.1<=2147483647)/\Cok r.2:=by
 unfold g_spec_l04Int
 refine .bind (once_ok h (by decide)) λ a ha=>.cond (λ _ => ?_) λ _ => ?_
 ·exact .bind (below_ok ha (by decide)) λ b hb=>.some ⟨i32w' _,hb.2.2⟩
 ·exact .bind (pickInt_ok ha (by decide)) λ b hb=>.some ⟨i32w' _,hb.2⟩
theorem letterAt_ok {k:Int}:Tot (g_spec_LetterAt k) λ v=>0<=v/\v < 256:=by
 unfold g_spec_LetterAt
 rw[specIn_eq,Option.bind_some]
 refine .cond (λ _=>.some (by decide)) λ hc => ?_
 have hk:0<=k/\k<=47:=by simpa using hc
 obtain ⟨v,hv,h0,h1,_⟩:=idxS_ex (l:=[32,114,116,111,101,97,110,105,115,109,99,121,108,103,102,119,100,118,112,98,104,120,117,113,48,49,50,51,52,53,54,55,56,57,106,45,107,46,122,47,59,39,33,43,64,42,44,63]) (i:=k) hk.1 (by simp;omega)
 exact .bindE (a:=_) rfl (.bindE hv (.some ⟨h0,h1⟩))
theorem name_ok {c:GL01Cur} (h:Cok c):Tot (g_spec_l02Name c) λ r=>r.1.length<=10/\Cok r.2:=by
 unfold g_spec_l02Name
 refine .bind (once_ok h (by decide)) λ a ha=>.cond (λ _ => ?_) λ _ => ?_
 ·refine .bind (pick_ok ha (by decide)) λ b hb=>.some ⟨?_,hb.2⟩
  have:=hb.1
  revert this
  generalize b.1=x
  intro hx
  have:∀ y ∈ ([[100,117,112],[111,118,101,114],[115,113,117,97,114,101],[97,33],[50,42],[103,111],[45,105,102],[59],[63],[114,114,114,114,114,114,114],[114,116,111,101,97,110,105],[119,119,119,119,119,119],[113,113,113,113,113],[120]]:List Bs),y.length<=10:=by decide
  exact this x hx
 ·refine .bind (below_ok ha (by decide)) λ b hb => ?_
  rw[wI64 (by omega) (by omega)]
  have:=forLoop (n:=1+b.1) (F:=λ k i s=>g_spec_l02Name_l0 (1+b.1) k s.1 i s.2) (λ i s=>(s.1.length:Int)<=i/\Cok s.2) (by omega) (λ k i s h0 h1 hI hk=>by
   show Tot (g_spec_l02Name_l0 _ (k+1) s.1 i s.2) _
   unfold g_spec_l02Name_l0
   rw[decide_eq_true (by omega),cond_true]
   refine .bind (below_ok hI.2 (by decide)) λ x hx=>.bind letterAt_ok λ y hy=>.bindE (app_eq (by simp;omega)) ?_
   rw[wI64 (x:=i+1) (by omega) (by omega)]
   exact hk (_,_) ⟨by simp;omega,hx.2.2⟩) (λ k i s hi _=>by
   show g_spec_l02Name_l0 _ (k+1) s.1 i s.2=_
   unfold g_spec_l02Name_l0
   rw[decide_eq_false (by omega),cond_false]) (s:=([],b.2)) ⟨by simp,hb.2.2⟩
  refine .bind (.bind this λ x hx=>.some (Q:=λ (x:List Int×GL01Cur)=>x.1.length<=10/\Cok x.2) ⟨by have:=hx.1;show x.1.length<=10;omega,hx.2⟩) λ x hx=>.some ⟨?_,hx.2⟩
  unfold strOf;rw[List.length_map];exact hx.1
theorem some_ok {c:GL01Cur} (h:Cok c):Tot (g_spec_l04Some c) λ r=>(r.1.Name.length<=10/\r.1.Raw=0)/\Cok r.2:=by
 unfold g_spec_l04Some
 refine .bind (below_ok h (by decide)) λ a ha=>.cond (λ _ => ?_) λ _=>.cond (λ _ => ?_) λ _=>.cond (λ _ => ?_) λ _ => ?_
 ·exact .bind (int_ok ha.2.2) λ b hb=>.bind (once_ok hb.2 (by decide)) λ d hd=>.some ⟨⟨by simp,rfl⟩,hd⟩
 ·exact .bind (int_ok ha.2.2) λ b hb=>.bind (once_ok hb.2 (by decide)) λ d hd=>.some ⟨⟨by simp,rfl⟩,hd⟩
 ·refine .bind (pick_ok ha.2.2 (by decide)) λ b hb=>.bind (int_ok hb.2) λ d hd=>.some ⟨⟨?_,rfl⟩,hd.2⟩
  have:=hb.1
  revert this
  generalize b.1=x
  intro hx
  have:∀ y ∈ ([[120],[97,116],[113,113,113,113],[116,101,110]]:List Bs),y.length<=10:=by decide
  exact this x hx
 ·exact .bind (below_ok ha.2.2 (by decide)) λ b hb=>.bind (name_ok hb.2.2) λ d hd=>.some ⟨⟨hd.1,rfl⟩,hd.2⟩
end Go.Proofs.YtgfamepnkhpemaaGreatDoor
namespace Go.Proofs.YtgfamepnkhpemaaGreatDoor
open Go Go.Fm
set_option maxRecDepth 100000
end Go.Proofs.YtgfamepnkhpemaaGreatDoor
namespace Go.Proofs.YtgfamepnkhpemaaGreatDoor
open Go Go.Fm
set_option maxRecDepth 100000
abbrev keysB:List UInt8:=[82,71,89,87,84,66,86]
abbrev kindsI:List Int:=[2,3,1,4,5,6,9]
def keyO (kd:Int):Option UInt8:=if kd=2 then some 82 else if kd=3 then some 71 else if kd=1 then some 89 else if kd=4 then some 87 else if kd=5 then some 84 else if kd=6 then some 66 else if kd=9 then some 86 else none
def kindOf (k:Int):Int:=if k=7 then 1 else if k=8 then 3 else k
def decT (n:Int):Bs:=(g_spec_DecText (IntKind.wrap .i64 n)).getD []
def hexT (n:Int):Bs:=(g_spec_HexText (IntKind.wrap .u32 n)).getD []
theorem decT_ok (n:Int):g_spec_DecText (IntKind.wrap .i64 n)=some (decT n)/\g_impl_DecText (IntKind.wrap .i64 n)=some (decT n)/\(decT n).length<=21:=by
 obtain ⟨t,h1,h2,h3⟩:=dec_text n
 have:decT n=t:=by unfold decT;rw[h1];rfl
 rw[this];exact ⟨h1,h2,h3⟩
theorem hexT_ok (n:Int):g_spec_HexText (IntKind.wrap .u32 n)=some (hexT n)/\g_impl_HexText (IntKind.wrap .u32 n)=some (hexT n)/\(hexT n).length<=8:=by
 obtain ⟨q0,q1⟩:=wU32_bd n
 obtain ⟨t,h1,h2,h3⟩:=hex_text q0 q1
 have:hexT n=t:=by unfold hexT;rw[h1];rfl
 rw[this];exact ⟨h1,h2,h3⟩
def bodyT (it:GItem):Bs:=if it.Kind=8\/it.Kind=7 then (if it.Hex=true then 36::hexT it.N else decT it.N) else if it.Kind=9 then it.Name++32::decT it.N else it.Name
theorem bodyT_len (it:GItem):(bodyT it).length<=it.Name.length+22:=by
 have h1:=(decT_ok it.N).2.2
 have h2:=(hexT_ok it.N).2.2
 unfold bodyT
 repeat' split
 all_goals simp
 all_goals omega
def oneS (it:GItem):Bs:=match keyO (kindOf it.Kind) with|some c=>c::bodyT it|none=>[]
def oneI (it:GItem):Bs:=match keyO (kindOf it.Kind) with|some c=>c::bodyT it|none=>bodyT it
theorem one_len (it:GItem):(oneS it).length<=it.Name.length+23/\(oneI it).length<=it.Name.length+23:=by
 have:=bodyT_len it
 unfold oneS oneI
 constructor<;>split<;>first|omega|(simp;omega)|simp
theorem os0 {kd:Int} {b:Bs} {k:Nat}:g_spec_l16One_l0 kd b keysB (k+1) 0=cond (2==kd) ((catS [82] b).bind λ v=>some (.inr v)) (g_spec_l16One_l0 kd b keysB k 1):=by kernel_rfl
theorem os1 {kd:Int} {b:Bs} {k:Nat}:g_spec_l16One_l0 kd b keysB (k+1) 1=cond (3==kd) ((catS [71] b).bind λ v=>some (.inr v)) (g_spec_l16One_l0 kd b keysB k 2):=by kernel_rfl
theorem os2 {kd:Int} {b:Bs} {k:Nat}:g_spec_l16One_l0 kd b keysB (k+1) 2=cond (1==kd) ((catS [89] b).bind λ v=>some (.inr v)) (g_spec_l16One_l0 kd b keysB k 3):=by kernel_rfl
theorem os3 {kd:Int} {b:Bs} {k:Nat}:g_spec_l16One_l0 kd b keysB (k+1) 3=cond (4==kd) ((catS [87] b).bind λ v=>some (.inr v)) (g_spec_l16One_l0 kd b keysB k 4):=by kernel_rfl
theorem os4 {kd:Int} {b:Bs} {k:Nat}:g_spec_l16One_l0 kd b keysB (k+1) 4=cond (5==kd) ((catS [84] b).bind λ v=>some (.inr v)) (g_spec_l16One_l0 kd b keysB k 5):=by kernel_rfl
theorem os5 {kd:Int} {b:Bs} {k:Nat}:g_spec_l16One_l0 kd b keysB (k+1) 5=cond (6==kd) ((catS [66] b).bind λ v=>some (.inr v)) (g_spec_l16One_l0 kd b keysB k 6):=by kernel_rfl
theorem os6 {kd:Int} {b:Bs} {k:Nat}:g_spec_l16One_l0 kd b keysB (k+1) 6=cond (9==kd) ((catS [86] b).bind λ v=>some (.inr v)) (g_spec_l16One_l0 kd b keysB k 7):=by kernel_rfl
theorem os7 {kd:Int} {b:Bs} {k:Nat}:g_spec_l16One_l0 kd b keysB (k+1) 7=some (.inl ()):=by kernel_rfl
theorem one_loop {kd:Int} {b:Bs} (hb:b.length<=2000000):g_spec_l16One_l0 kd b keysB bigK 0=some (match keyO kd with|some c=>.inr (c::b)|none=>.inl ()):=by
 have hc:∀ c:UInt8,((catS [c] b).bind λ v=>some (.inr v):Option (Unit ⊕ Bs))=some (.inr (c::b)):=λ c=>by rw[catS_eq (by simp;omega)];rfl
 have hn:∀ j:Int,(j==kd)=decide (kd=j):=λ j=>by
  by_cases h:kd=j
  ·rw[decide_eq_true h,h,beq_self_eq_true]
  ·rw[decide_eq_false h,beq_eq_false_iff_ne];exact λ e=>h e.symm
 rw[show bigK=18446744073709551607+1+1+1+1+1+1+1+1+1 from rfl,os0,os1,os2,os3,os4,os5,os6,os7]
 simp only[hn,hc]
 unfold keyO
 by_cases h2:kd=2
 ·rw[decide_eq_true h2,if_pos h2];rfl
 rw[decide_eq_false h2,if_neg h2,cond_false]
 by_cases h2:kd=3
 ·rw[decide_eq_true h2,if_pos h2];rfl
 rw[decide_eq_false h2,if_neg h2,cond_false]
 by_cases h2:kd=1
 ·rw[decide_eq_true h2,if_pos h2];rfl
 rw[decide_eq_false h2,if_neg h2,cond_false]
 by_cases h2:kd=4
 ·rw[decide_eq_true h2,if_pos h2];rfl
 rw[decide_eq_false h2,if_neg h2,cond_false]
 by_cases h2:kd=5
 ·rw[decide_eq_true h2,if_pos h2];rfl
 rw[decide_eq_false h2,if_neg h2,cond_false]
 by_cases h2:kd=6
 ·rw[decide_eq_true h2,if_pos h2];rfl
 rw[decide_eq_false h2,if_neg h2,cond_false]
 by_cases h2:kd=9
 ·rw[decide_eq_true h2,if_pos h2];rfl
 rw[decide_eq_false h2,if_neg h2,cond_false]
theorem beqD (a b:Int):(a==b)=decide (a=b):=by
 by_cases h:a=b
 ·rw[decide_eq_true h,h,beq_self_eq_true]
 ·rw[decide_eq_false h,beq_eq_false_iff_ne.mpr h]
theorem spec_one {it:GItem} (h:ItS it):g_spec_l16One it=some (oneS it):=by
 obtain ⟨d1,_,d3⟩:=decT_ok it.N
 obtain ⟨x1,_,x3⟩:=hexT_ok it.N
 have hn:=h.n
 have hb:=bodyT_len it
 have key:∃ kd b,kd=kindOf it.Kind/\b=bodyT it/\((cond (it.Kind==8) (some (it.Kind==8)) (some (it.Kind==7)):Option (Bool)).bind λ v_5=>cond v_5 ((cond (it.Kind==7) (some 1) (some 3):Option (Int)).bind λ kind_6=>(g_spec_DecText (IntKind.wrap .i64 it.N)).bind λ y_7=>cond it.Hex ((g_spec_HexText (IntKind.wrap .u32 it.N)).bind λ y_8=>(catS [36] y_8).bind λ v_9=>some (kind_6,v_9)) (some (kind_6,y_7))) (cond (it.Kind==9) ((catS it.Name [32]).bind λ v_10=>(g_spec_DecText (IntKind.wrap .i64 it.N)).bind λ y_11=>(catS v_10 y_11).bind λ v_12=>some (it.Kind,v_12)) (some (it.Kind,it.Name))))=some (kd,b):=by
  refine ⟨_,_,rfl,rfl,?_⟩
  rw[d1,x1]
  simp only[Option.bind_some,catS_eq (a:=[36]) (b:=hexT it.N) (by simp;omega),catS_eq (a:=it.Name) (b:=[32]) (by simp;omega),catS_eq (a:=it.Name++[32]) (b:=decT it.N) (by simp;omega)]
  unfold kindOf bodyT
  by_cases h8:it.Kind=8
  ·rw[h8]
   cases it.Hex<;>rfl
  ·by_cases h7:it.Kind=7
   ·rw[h7]
    cases it.Hex<;>rfl
   ·rw[beqD,beqD,decide_eq_false h8,decide_eq_false h7,cond_false,Option.bind_some,cond_false,if_neg h7,if_neg h8,if_neg (show ¬ (it.Kind=8\/it.Kind=7) by omega)]
    by_cases h9:it.Kind=9
    ·rw[h9,if_pos rfl];simp
    ·rw[beqD,decide_eq_false h9,if_neg h9];rfl
 unfold g_spec_l16One
 obtain ⟨kd,b,rfl,rfl,hk⟩:=key
 rw[hk,Option.bind_some]
 show Option.bind (Option.bind (g_spec_l16One_l0 (kindOf it.Kind) (bodyT it) keysB bigK 0) _) _=_
 rw[one_loop (by omega)]
 unfold oneS
 cases keyO (kindOf it.Kind)<;>rfl
theorem ki {it:GItem} {j:Int} (h7:j≠7) (h8:j≠8):(cond (j==it.Kind) (some true) (cond (it.Kind==8) (cond (j==3) (some true) (cond (it.Kind==7) (some (j==1)) (some false))) (cond (it.Kind==7) (some (j==1)) (some false))):Option Bool)=some (decide (kindOf it.Kind=j)):=by
 have ne:∀ {a b:Int},a≠b->(a==b)=false:=λ h=>beq_eq_false_iff_ne.mpr h
 have sy:decide (kindOf it.Kind=j)=(j==kindOf it.Kind):=by rw[beqD];exact decide_eq_decide.mpr ⟨Eq.symm,Eq.symm⟩
 rw[sy]
 unfold kindOf
 by_cases h1:it.Kind=7
 ·rw[h1,ne h7,if_pos rfl];rfl
 ·rw[if_neg h1,ne h1]
  by_cases h2:it.Kind=8
  ·rw[h2,ne h8,if_pos rfl]
   cases (j==3)<;>rfl
  ·rw[if_neg h2,ne h2]
   cases (j==it.Kind)<;>rfl
theorem im_step {it:GItem} {k:Nat} {key:Bs} {i:Nat} {j:Int} {c:UInt8} (hi:i < 7) (hj:kindsI[i]? = some j) (hc:keysB[i]? = some c) (h7:j≠7) (h8:j≠8) :
  g_impl_TypeText_l1 kindsI 7 it (k+1) key (i:Int)=g_impl_TypeText_l1 kindsI 7 it k (if kindOf it.Kind=j then [c] else key) ((i+1:Nat):Int):=by
 rw[g_impl_TypeText_l1,decide_eq_true (by omega),cond_true,getI_nat,hj,Option.bind_some,ki h7 h8,Option.bind_some,nxt (by omega)]
 have hs:((g_impl_colorKeys).bind λ y_23=>(subL y_23 (i:Int) ((i+1:Nat):Int)).bind λ v_24=>some v_24)=some [c]:=by
  show Option.bind (subL keysB _ _) _=_
  rw[subL_eq (by omega) (by omega) (by simp;omega),Option.bind_some]
  have hl:i < keysB.length:=hi
  rw[show ((i+1:Nat):Int).toNat-((i:Nat):Int).toNat=1 by omega,show ((i:Nat):Int).toNat=i from rfl,List.drop_eq_getElem_cons hl]
  rw[List.getElem?_eq_getElem hl]at hc
  rw[Option.some.inj hc];rfl
 rw[hs]
 by_cases h:kindOf it.Kind=j
 ·rw[decide_eq_true h,if_pos h];rfl
 ·rw[decide_eq_false h,if_neg h];rfl
theorem key_loop {it:GItem}:g_impl_TypeText_l1 kindsI 7 it bigK [] 0=some (match keyO (kindOf it.Kind) with|some c=>[c]|none=>[]):=by
 rw[show bigK=18446744073709551607+1+1+1+1+1+1+1+1+1 from rfl]
 rw[show (0:Int)=((0:Nat):Int) from rfl,im_step (by decide) rfl rfl (by decide) (by decide),im_step (by decide) rfl rfl (by decide) (by decide),im_step (by decide) rfl rfl (by decide) (by decide),im_step (by decide) rfl rfl (by decide) (by decide),im_step (by decide) rfl rfl (by decide) (by decide),im_step (by decide) rfl rfl (by decide) (by decide),im_step (by decide) rfl rfl (by decide) (by decide),
  g_impl_TypeText_l1,decide_eq_false (by decide),cond_false]
 generalize kindOf it.Kind=kd
 unfold keyO
 by_cases h2:kd=2
 ·subst h2;rfl
 by_cases h3:kd=3
 ·subst h3;rfl
 by_cases h1:kd=1
 ·subst h1;rfl
 by_cases h4:kd=4
 ·subst h4;rfl
 by_cases h5:kd=5
 ·subst h5;rfl
 by_cases h6:kd=6
 ·subst h6;rfl
 by_cases h9:kd=9
 ·subst h9;rfl
 simp only[if_neg h2,if_neg h3,if_neg h1,if_neg h4,if_neg h5,if_neg h6,if_neg h9]
theorem impl_step1 {list:List GItem} {k n:Nat} {it:GItem} {parts:List Bs} (hx:list[n]? = some it) (hm:list.length<=1048576) (h:ItS it) (ho:parts.length<=n) :
  g_impl_TypeText_l0 list (list.length:Int) (k+1) parts (n:Int)=g_impl_TypeText_l0 list (list.length:Int) k (parts++[oneI it]) ((n+1:Nat):Int):=by
 have hn:n < list.length:=(List.getElem?_eq_some_iff.mp hx).1
 obtain ⟨_,d1,d3⟩:=decT_ok it.N
 obtain ⟨_,x1,x3⟩:=hexT_ok it.N
 have hl:=h.n
 have hb:=bodyT_len it
 have hbody:(cond (it.Kind==9) ((g_impl_DecText (IntKind.wrap .i64 it.N)).bind λ y_26=>(catS [32] y_26).bind λ v_27=>(catS it.Name v_27).bind λ v_28=>some v_28) ((cond (it.Kind != 8) (some (it.Kind != 7)) (some false):Option (Bool)).bind λ v_29=>cond v_29 (some it.Name) (cond it.Hex ((g_impl_HexText (IntKind.wrap .u32 it.N)).bind λ y_30=>(catS [36] y_30).bind λ v_31=>some v_31) ((g_impl_DecText (IntKind.wrap .i64 it.N)).bind λ y_32=>some y_32))):Option (Bs))=some (bodyT it):=by
  rw[d1,x1]
  simp only[Option.bind_some,catS_eq (a:=[36]) (b:=hexT it.N) (by simp;omega),catS_eq (a:=[32]) (b:=decT it.N) (by simp;omega),catS_eq (a:=it.Name) (b:=[32]++decT it.N) (by simp;omega)]
  unfold bodyT
  by_cases h9:it.Kind=9
  ·rw[h9];rfl
  ·rw[beqD,decide_eq_false h9,cond_false]
   by_cases h8:it.Kind=8
   ·rw[h8]
    cases it.Hex<;>rfl
   ·by_cases h7:it.Kind=7
    ·rw[h7]
     cases it.Hex<;>rfl
    ·rw[show (it.Kind != 8)=true by simp[h8],cond_true,show (it.Kind != 7)=true by simp[h7],Option.bind_some,cond_true,if_neg (by omega),if_neg h9]
 have hkey:((g_impl_keyKinds).bind λ y_13=>(g_impl_TypeText_l1 y_13 (y_13.length:Int) it bigK [] 0).bind λ key_19=>some key_19)=some (match keyO (kindOf it.Kind) with|some c=>[c]|none=>[]):=by
  show Option.bind (g_impl_TypeText_l1 kindsI 7 it bigK [] 0) _=_
  rw[key_loop];rfl
 rw[g_impl_TypeText_l0,decide_eq_true (by omega),cond_true,getI_nat,hx,Option.bind_some,hkey,Option.bind_some,hbody,Option.bind_some]
 have hcat:catS (match keyO (kindOf it.Kind) with|some c=>[c]|none=>[]) (bodyT it)=some (oneI it):=by
  unfold oneI
  cases keyO (kindOf it.Kind) with
  | none=>exact catS_eq (by simp;omega)
  | some c=>exact catS_eq (by simp;omega)
 rw[hcat,Option.bind_some,app_eq (by rw[List.length_singleton];omega),Option.bind_some,Option.bind_some,nxt (by omega)]
end Go.Proofs.YtgfamepnkhpemaaGreatDoor
namespace Go.Proofs.YtgfamepnkhpemaaGreatDoor
open Go Go.Fm
set_option maxRecDepth 100000
theorem bsOf_app (a b:Bs):bsOf (a++b)=bsOf a++bsOf b:=by unfold bsOf;simp
theorem str_bsOf (a:Bs):strOf (bsOf a)=a:=bytes_back a
def glue (n:Nat) (ts:List Bs):Bs:=if n=0 then Lib.join ts [32] else Lib.joinTail [32] ts
theorem glue_cons (n:Nat) (t:Bs) (ts:List Bs):glue n (t::ts)=(if n=0 then [] else [32])++t++glue (n+1) ts:=by
 unfold glue
 rw[if_neg (by omega:¬ n+1=0)]
 split
 ·rw[Lib.join_cons];rfl
 ·simp[Lib.joinTail]
theorem glue_nil (n:Nat):glue n []=[]:=by unfold glue;split<;>rfl
theorem glue_len (L:Nat):∀ (ts:List Bs) (n:Nat),(∀ t ∈ ts,t.length<=L)->(glue n ts).length<=ts.length*(L+1):=by
 intro ts
 induction ts with
 | nil=>intro n _;rw[glue_nil];exact Nat.zero_le _
 | cons t ts ih =>
  intro n h
  have h1:=h t List.mem_cons_self
  have h2:=ih (n+1) λ x hx=>h x (List.mem_cons_of_mem _ hx)
  have h3:(if n=0 then ([]:Bs) else [32]).length<=1:=by split<;>simp
  rw[glue_cons,List.length_append,List.length_append,List.length_cons,Nat.add_mul]
  omega
theorem spec_tt {list:List GItem} (hm:list.length<=1048576) (hi:∀ x ∈ list,ItS x):∀ (k n:Nat) (out:List Int),n<=list.length->list.length-n < k->out.length<=2000000 →
  ∃ o,g_spec_TypeText_l0 list k out (n:Int)=some o/\(o=out++bsOf (glue n ((list.drop n).map oneS))\/(6000 < o.length/\6000 < (out++bsOf (glue n ((list.drop n).map oneS))).length)):=by
 intro k
 induction k with
 | zero=>intro n out h0 h1;omega
 | succ k ih =>
  intro n out h0 h1 h2
  rw[g_spec_TypeText_l0]
  by_cases hn:n < list.length
  ·have hx:=hi _ (List.getElem_mem hn)
   rw[decide_eq_true (by omega),cond_true,Option.bind_some]
   by_cases ho:out.length<=6000
   ·have hl:=(one_len list[n]).1
    have hxn:=hx.n
    rw[decide_eq_true (by omega),cond_true]
    have hs:(cond (decide ((n:Int) > 0)) ((app out [32]).bind λ v_11=>some v_11) (some out):Option (List Int))=some (if n=0 then out else out++[32]):=by
     by_cases h0:n=0
     ·subst h0;rfl
     ·rw[decide_eq_true (by omega),cond_true,app_eq (by simp;omega),if_neg h0];rfl
    have hol:(if n=0 then out else out++[32]).length<=out.length+1:=by split<;>simp
    rw[hs,Option.bind_some,getI_nat,List.getElem?_eq_getElem hn,Option.bind_some,spec_one hx,Option.bind_some,app_eq (by rw[bsOf_len];omega),Option.bind_some,Option.bind_some,nxt (by omega)]
    obtain ⟨o,e,h⟩:=ih (n+1) ((if n=0 then out else out++[32])++bsOf (oneS list[n])) (by omega) (by omega) (by rw[List.length_append,bsOf_len];omega)
    refine ⟨o,e,?_⟩
    have eq:out++bsOf (glue n ((list.drop n).map oneS))=(if n=0 then out else out++[32])++bsOf (oneS list[n])++bsOf (glue (n+1) ((list.drop (n+1)).map oneS)):=by
     rw[List.drop_eq_getElem_cons hn,List.map_cons,glue_cons,bsOf_app,bsOf_app]
     by_cases h0:n=0
     ·rw[if_pos h0,if_pos h0];simp[bsOf]
     ·rw[if_neg h0,if_neg h0];simp[bsOf]
    rw[eq]
    exact h
   ·rw[decide_eq_false (by omega),cond_false]
    exact ⟨out,rfl, .inr ⟨by omega,by rw[List.length_append];omega⟩⟩
  ·rw[decide_eq_false (by omega),cond_false,Option.bind_some,cond_false]
   refine ⟨out,rfl, .inl ?_⟩
   rw[List.drop_eq_nil_of_le (by omega),List.map_nil,glue_nil]
   simp[bsOf]
theorem impl_tt {list:List GItem} (hm:list.length<=1048576) (hi:∀ x ∈ list,ItS x):∀ (k n:Nat) (parts:List Bs),n<=list.length->list.length-n < k->parts.length<=n →
  g_impl_TypeText_l0 list (list.length:Int) k parts (n:Int)=some (parts++(list.drop n).map oneI):=by
 intro k
 induction k with
 | zero=>intro n out h0 h1;omega
 | succ k ih =>
  intro n parts h0 h1 h2
  by_cases hn:n < list.length
  ·rw[impl_step1 (List.getElem?_eq_getElem hn) hm (hi _ (List.getElem_mem hn)) h2,ih (n+1) _ (by omega) (by omega) (by simp;omega),List.drop_eq_getElem_cons hn,List.map_cons,List.append_assoc]
   rfl
  ·rw[g_impl_TypeText_l0,decide_eq_false (by omega),cond_false,List.drop_eq_nil_of_le (by omega),List.map_nil,List.append_nil]
theorem item_beq (v w:GItem):((v.Kind:Int)==w.Kind&&((v.Name:Bs)==w.Name&&((v.N:Int)==w.N&&((v.Hex:Bool)==w.Hex&&((v.Raw:Int)==w.Raw&&true)))))=decide (v=w):=by
 obtain ⟨a,b,c,d,e⟩:=v
 obtain ⟨a2,b2,c2,d2,e2⟩:=w
 by_cases h:(⟨a,b,c,d,e⟩:GItem)=⟨a2,b2,c2,d2,e2⟩
 ·rw[decide_eq_true h];cases h;simp
 ·rw[decide_eq_false h]
  cases hb:((a==a2)&&((b==b2)&&((c==c2)&&((d==d2)&&((e==e2)&&true))))) with
  | false=>rfl
  | true =>
   exfalso
   simp only[Bool.and_eq_true,beq_iff_eq,and_true]at hb
   obtain ⟨rfl,rfl,rfl,rfl,rfl⟩:=hb
   exact h rfl
theorem same_impl {a b:List GItem} (h:a.length<=1048576):g_impl_sameItems a b=some (decide (a=b)):=by
 unfold g_impl_sameItems
 rw[eqList (g_slices_Equal_Item_l0 a b (a.length:Int)) (g_slices_Equal_Item a b) rfl (λ k i=>by rw[g_slices_Equal_Item_l0];simp only[item_beq]) h]
 rfl
theorem same_spec {a b:List GItem} (h:a.length<=1048576):g_spec_l04Same a b=some (decide (a=b)) :=
 eqList (g_spec_l04Same_l0 a b) _ rfl (λ k i=>by rw[g_spec_l04Same_l0];simp only[item_beq]) h
def KO (kd:Int):Prop:=keyO kd≠none
theorem ko_col {b:Int} (h:0<=colF b):KO (colF b):=by
 have hm:colF b=2\/colF b=3\/colF b=1\/colF b=4\/colF b=5\/colF b=6\/colF b=9\/colF b = -1:=by
  unfold colF
  repeat' split
  all_goals decide
 unfold KO
 rcases hm with e|e|e|e|e|e|e|e<;>rw[e]at h ⊢<;>first|exact absurd h (by decide)|decide
theorem ko_kind {kd:Int} (h:KO kd):kindOf kd=kd:=by
 unfold kindOf
 by_cases h7:kd=7
 ·subst h7;exact absurd rfl h
 ·by_cases h8:kd=8
  ·subst h8;exact absurd rfl h
  ·rw[if_neg h7,if_neg h8]
theorem strip_ko:∀ (w:List UInt8) (kd:Int),KO kd->KO (stripW kd w).1:=by
 intro w
 induction w with
 | nil=>intro kd h;exact h
 | cons b r ih =>
  intro kd h
  rw[stripW]
  split
  ·rename_i hc;exact ih _ (ko_col hc)
  ·exact h
def KI (x:GItem):Prop:=KO (kindOf x.Kind)
theorem wordF_ki {out:List GItem} {kd:Int} {w:List UInt8} (hk:KO kd) (h:∀ x ∈ out,KI x):∀ x ∈ (wordF out kd w).1,KI x:=by
 have app:∀ {y:GItem},KI y->∀ x ∈ out++[y],KI x:=λ hy x hx=>by
  rcases List.mem_append.mp hx with h'|h'
  ·exact h x h'
  ·rw[List.mem_singleton.mp h'];exact hy
 cases w with
 | nil=>exact h
 | cons b r =>
  rw[wordF_eq]
  split
  ·exact app (show keyO (kindOf 8)≠none by decide)
  ·split
   ·exact app (show keyO (kindOf 7)≠none by decide)
   ·split
    ·rename_i hc
     obtain ⟨_,_,x,hx,h9⟩:=hc
     rw[hx]
     intro y hy
     rcases List.mem_or_eq_of_mem_set hy with h'|h'
     ·exact h y h'
     ·rw[h'];exact h x (List.mem_of_getLast? hx)
    ·exact app (show KO (kindOf kd) by rw[ko_kind hk];exact hk)
theorem fold_ki:∀ (l:List GSpot) (out:List GItem) (kd:Int) (r:List GItem),KO kd->(∀ x ∈ out,KI x)->foldF l out kd=.inl r->∀ x ∈ r,KI x:=by
 intro l
 induction l with
 | nil=>intro out kd r _ h e;rw[foldF]at e;cases e;exact h
 | cons sp t ih =>
  intro out kd r hk h e
  have hk':=strip_ko sp.word kd hk
  rw[foldF]at e
  split at e
  ·exact ih _ _ _ hk' h e
  ·split at e
   ·exact ih _ _ _ hk' (wordF_ki hk' h) e
   ·exact nomatch e
theorem typed_ki (s:List UInt8):∀ x ∈ (typedR s).1,KI x:=by
 unfold typedR
 split
 ·exact λ x h=>by cases (h:x ∈ ([]:List GItem))
 ·split
  ·rename_i l hl
   exact fold_ki _ _ _ _ (show keyO 3≠none by decide) (λ x h=>by cases h) hl
  ·exact λ x h=>by cases (h:x ∈ ([]:List GItem))
theorem long_typed {s:List UInt8} (h:6000 < s.length):typedR s=([],1):=by unfold typedR;rw[if_pos h]
theorem tt_both {list:List GItem} (hm:list.length<=1048576) (hi:∀ x ∈ list,ItS x):∃ t,g_spec_TypeText list=some t/\g_impl_TypeText list=some t/\(t≠[]->typedR t=(list,0)):=by
 obtain ⟨o,s1,s2⟩:=spec_tt hm hi bigK 0 [] (Nat.zero_le _) (by unfold bigK;omega) (Nat.zero_le _)
 have i1:=impl_tt hm hi bigK 0 [] (Nat.zero_le _) (by unfold bigK;omega) (Nat.le_refl _)
 rw[List.drop_zero]at s2 i1
 rw[List.nil_append]at s2 i1
 rw[show ((0:Nat):Int)=0 from rfl]at s1 i1
 have hlen:(glue 0 (list.map oneI)).length<=140737488355328:=by
  have h1:=glue_len 1048600 (list.map oneI) 0 λ t ht=>by
   obtain ⟨x,hx,rfl⟩:=List.mem_map.mp ht
   have:=(one_len x).2
   have:=(hi x hx).n
   omega
  have h2:(list.map oneI).length*(1048600+1)<=1048576*(1048600+1):=Nat.mul_le_mul_right _ (by rw[List.length_map];exact hm)
  omega
 have ej:glue 0 (list.map oneI)=Lib.join (list.map oneI) [32]:=by unfold glue;rw[if_pos rfl]
 have hj:g_strings_Join (list.map oneI) [32]=some (glue 0 (list.map oneI)):=by
  unfold g_strings_Join gJoin
  rw[ej]at hlen ⊢
  rw[decide_eq_true ⟨by rw[List.length_map];omega,hlen⟩]
  rfl
 have es:g_spec_TypeText list=some (if (typedR (strOf o)).2 > 0\/(typedR (strOf o)).1≠list then [] else strOf o):=by
  unfold g_spec_TypeText
  rw[s1,Option.bind_some,Option.bind_some,spec_typed,Option.bind_some,same_spec (Nat.le_trans (typed_len _) (by omega))]
  by_cases h1:(typedR (strOf o)).2 > 0
  ·rw[decide_eq_true h1,if_pos (.inl h1)];rfl
  ·by_cases h2:(typedR (strOf o)).1=list
   ·rw[decide_eq_false h1,decide_eq_true h2,if_neg (by rintro (h|h);exact h1 h;exact h h2)];rfl
   ·rw[decide_eq_false h1,decide_eq_false h2,if_pos (.inr h2)];rfl
 have ei:g_impl_TypeText list=some (if (typedR (glue 0 (list.map oneI))).2 > 0\/(typedR (glue 0 (list.map oneI))).1≠list then [] else glue 0 (list.map oneI)):=by
  unfold g_impl_TypeText
  rw[i1,Option.bind_some,Option.bind_some,hj,Option.bind_some,impl_typed,Option.bind_some,same_impl (Nat.le_trans (typed_len _) (by omega))]
  have h0:=(typed_ok (glue 0 (list.map oneI))).2.1
  by_cases h1:(typedR (glue 0 (list.map oneI))).2 > 0
  ·rw[show ((typedR (glue 0 (list.map oneI))).2 != 0)=true by simp;omega,if_pos (.inl h1)];rfl
  ·have hz:(typedR (glue 0 (list.map oneI))).2=0:=by omega
   by_cases h2:(typedR (glue 0 (list.map oneI))).1=list
   ·rw[hz,decide_eq_true h2,if_neg (by rintro (h|h);exact absurd h (by decide);exact h h2)];rfl
   ·rw[hz,decide_eq_false h2,if_pos (.inr h2)];rfl
 by_cases hg:∀ x ∈ list,KI x
 ·have em:list.map oneS=list.map oneI:=List.map_congr_left λ x hx=>by
   have:=hg x hx
   unfold KI KO at this
   unfold oneS oneI
   cases hk:keyO (kindOf x.Kind) with
   | none=>exact absurd hk this
   | some c=>rfl
  rw[em]at s2
  have fin:∀ t:Bs,(if (typedR t).2 > 0\/(typedR t).1≠list then [] else t)≠[]->typedR (if (typedR t).2 > 0\/(typedR t).1≠list then [] else t)=(list,0):=λ t ht=>by
   split at ht
   ·exact absurd rfl ht
   ·rename_i hc
    rw[if_neg hc]
    have h0:=(typed_ok t).2.1
    have h1:¬ (typedR t).2 > 0:=λ h=>hc (.inl h)
    have h2:(typedR t).1=list:=Classical.byContradiction λ h=>hc (.inr h)
    exact Prod.ext h2 (by show (typedR t).2=0;omega)
  rcases s2 with s2|⟨l1,l2⟩
  ·rw[s2,str_bsOf]at es
   exact ⟨_,es,ei,fin _⟩
  ·have h1:6000 < (strOf o).length:=by unfold strOf;rw[List.length_map];exact l1
   have h2:6000 < (glue 0 (list.map oneI)).length:=by rw[bsOf_len]at l2;exact l2
   rw[long_typed h1,if_pos (.inl (by decide))]at es
   rw[long_typed h2,if_pos (.inl (by decide))]at ei
   exact ⟨[],es,ei,λ h=>absurd rfl h⟩
 ·have hne:∀ t:Bs,(typedR t).1≠list:=λ t e=>hg λ x hx=>by rw[<-e]at hx;exact typed_ki t x hx
  rw[if_pos (.inr (hne _))]at es ei
  exact ⟨[],es,ei,λ h=>absurd rfl h⟩
end Go.Proofs.YtgfamepnkhpemaaGreatDoor
namespace Go.Proofs.YtgfamepnkhpemaaGreatDoor
open Go Go.Fm
set_option maxRecDepth 100000
theorem word_ok2 {c:GL01Cur} (h:Cok c):Tot (g_spec_l01Word c) λ r=>(0<=r.1/\r.1 < 4294967296)/\Cok r.2:=by
 unfold g_spec_l01Word
 refine .bind (below_ok h (by decide)) λ a ha=>.cond (λ _ => ?_) λ _=>.cond (λ _ => ?_) λ _ => ?_
 ·exact .bind (pickInt_ok ha.2.2 (by decide)) λ b hb=>.some ⟨wU32_bd _,hb.2⟩
 ·exact .bind (below_ok ha.2.2 (by decide)) λ b hb=>.some ⟨wU32_bd _,hb.2.2⟩
 ·exact .bind (below_ok ha.2.2 (by decide)) λ b hb=>.bind (below_ok hb.2.2 (by decide)) λ d hd=>.some ⟨wU32_bd _,hd.2.2⟩
theorem any_ok {c:GL01Cur} (h:Cok c):Tot (g_spec_l04Any c) λ r=>ItS r.1/\Cok r.2:=by
 unfold g_spec_l04Any
 refine .bind (some_ok h) λ a ha=>.bind (Q:=λ o=>match o with | .inl r=>ItS r.2.2/\Cok r.1 | .inr r=>ItS r.2.1/\Cok r.1) ?_ λ o ho => ?_
 ·obtain ⟨⟨n1,n2⟩,hc⟩:=ha
  have hi:ItS a.1:=⟨by omega,by rw[n2];exact ⟨by decide,by decide⟩⟩
  refine .bind (below_ok hc (by decide)) λ b hb=>.cond (λ _=>.bind (word_ok2 hb.2.2) λ w hw=>.some ⟨⟨Nat.zero_le _,hw.1⟩,hw.2⟩) λ _=>.cond (λ _=>.bind (below_ok hb.2.2 (by decide)) λ w hw=>.some ⟨⟨hi.n,hi.r⟩,hw.2.2⟩) λ _ =>
   .cond (λ _=>.bind (pick_ok hb.2.2 (by decide)) λ w hw=>.some ⟨⟨?_,hi.r⟩,hw.2⟩) λ _=>.cond (λ _=>.bind (below_ok hb.2.2 (by decide)) λ w hw=>.some ⟨⟨hi.n,wU32_bd _⟩,hw.2.2⟩) λ _=>.some ⟨hi,hb.2.2⟩
  have:=(by decide:∀ y ∈ ([[],[65],[113,113,113,113,113],[115,113,117,97,114,101,115,113,117,97,114,101]]:List Bs),y.length<=12) _ hw.1
  show w.1.length<=_
  omega
 ·cases o with
  | inl r=>exact .some ho
  | inr r=>exact .some ho
theorem list_ok8 {c:GL01Cur} (h:Cok c):Tot (g_spec_l04List 8 c) λ r=>(r.1.length<=8/\∀ x ∈ r.1,ItS x)/\Cok r.2:=by
 unfold g_spec_l04List
 refine .bind (below_ok h (by decide)) λ y hy => ?_
 obtain ⟨y0,y1,yc⟩:=hy
 have key:∀ (k:Nat) (out:List GItem) (i:Int) (c:GL01Cur),Cok c->0<=i->i<=8->(out.length:Int)<=i->(∀ x ∈ out,ItS x)->8-i < k->Tot (g_spec_l04List_l0 y.1 k out i c) λ r=>(r.1.length<=8/\∀ x ∈ r.1,ItS x)/\Cok r.2:=by
  intro k
  induction k with
  | zero=>intro out i c h0 h1 h2 h3 h4 h5;omega
  | succ k ih =>
   intro out i c h0 h1 h2 h3 h4 h5
   rw[g_spec_l04List_l0]
   refine .condD (λ hi => ?_) λ _=>.some ⟨⟨by show out.length<=8;omega,h4⟩,h0⟩
   refine .bind (Q:=λ r=>((r.1.length:Int)<=i+1/\∀ x ∈ r.1,ItS x)/\Cok r.2) ?_ λ r hr => ?_
   ·refine .bind (some_ok h0) λ a ha=>.bind (Q:=λ r=>ItS r.2/\Cok r.1) (.bind (once_ok ha.2 (by decide)) λ b hb=>.cond (λ _=>.bind (any_ok hb) λ d hd=>.some hd) λ _=>.some ⟨(⟨by have:=ha.1.1;show a.1.Name.length<=_;omega,by show 0<=a.1.Raw/\a.1.Raw < _;rw[ha.1.2];exact ⟨by decide,by decide⟩⟩:ItS a.1),hb⟩) λ b hb => ?_
    refine .bindE (app_eq (by rw[List.length_singleton];omega)) (.some ⟨⟨by show ((out++[b.2]).length:Int)<=_;rw[List.length_append,List.length_singleton];omega,λ x hx => ?_⟩,hb.2⟩)
    rcases List.mem_append.mp hx with hx|hx
    ·exact h4 x hx
    ·rw[List.mem_singleton.mp hx];exact hb.1
   ·rw[wI64 (x:=i+1) (by omega) (by omega)]
    exact ih _ _ _ hr.2 (by omega) (by omega) hr.1.1 hr.1.2 (by omega)
 refine .bind (Q:=λ r=>(r.1.length<=8/\∀ x ∈ r.1,ItS x)/\Cok r.2) (.bind (key bigK _ _ _ yc (by decide) (by decide) (by decide) (λ x hx=>by cases hx) (by decide)) λ d hd=>.some hd) λ d hd=>.some hd
theorem drawTypeText {code:List Int} (hc:code.length<=1048576):Tot (g_spec_DrawTypeText code) λ l=>l.length<=9/\∀ x ∈ l,ItS x:=by
 unfold g_spec_DrawTypeText
 refine .bind (new_ok hc) λ c h=>.bind (list_ok8 h) λ l hl => ?_
 obtain ⟨⟨l1,l2⟩,lc⟩:=hl
 refine .bind (Q:=λ r=>r.1.length<=9/\∀ x ∈ r.1,ItS x) ?_ λ r hr=>.some hr
 refine .bind (once_ok lc (by decide)) λ o ho=>.cond (λ _ => ?_) λ _=>.some ⟨by show l.1.length<=9;omega,l2⟩
 refine .bind (pickInt_ok ho (by decide)) λ p hp=>.bind (pick_ok hp.2 (by decide)) λ q hq=>.bindE (app_eq (by rw[List.length_singleton];omega)) (.some ⟨by show (l.1++_).length<=9;rw[List.length_append,List.length_singleton];omega,λ x hx => ?_⟩)
 rcases List.mem_append.mp hx with hx|hx
 ·exact l2 x hx
 ·rw[List.mem_singleton.mp hx]
  have:=(by decide:∀ y ∈ ([[49,50],[45,49],[48],[57]]:List Bs),y.length<=2) _ hq.1
  exact itS_w (by omega)
theorem law_typedT (code:List Int):g_laws_FnTyped code=some true:=by
 unfold g_laws_FnTyped g_laws_big
 rw[Option.bind_some]
 by_cases hc:code.length<=1048576
 ·rw[decide_eq_false (by omega),cond_false]
  obtain ⟨l,hl,h1,h2⟩:=drawTypeText hc
  obtain ⟨t,e1,e2,e3⟩:=tt_both (list:=l) (by omega) h2
  rw[hl,Option.bind_some,e1,e2,Option.bind_some,Option.bind_some,bne_self',cond_false]
  by_cases ht:t=[]
  ·rw[ht];rfl
  ·rw[beq_eq_false_iff_ne.mpr ht,cond_false,impl_typed,Option.bind_some,e3 ht]
   show cond ((0:Int)==0) ((g_laws_sameItems l l).bind _) _=_
   rw[sameItems_self (by omega)];rfl
 ·rw[decide_eq_true (by omega),cond_true]
end Go.Proofs.YtgfamepnkhpemaaGreatDoor

namespace Go.Proofs.YtgfamepnkhpemaaGreatDoor
open Go Go.Fm
set_option maxRecDepth 100000
theorem ans_FnTyped (x0:List Int) (g0:(λ xs:List Int=>xs.length<=maxLen/\∀ x ∈ xs,(λ n:Int=>(Lit.int .u8 n).wf=true) x) x0) :
  Ans Tryz.prog 4 [.one (.imm 1 x0.length (x0.flatMap (eI .u8)))] [] λ v _=>v=Go.Fm.one (.bool true):=λ hm=>by
 obtain ⟨r,h1,a,b,c,_⟩:=ce_laws_FnTyped (x0) true (good_pure rfl rfl) (law_typedT x0) hm
 exact ⟨r,h1,a,b⟩
end Go.Proofs.YtgfamepnkhpemaaGreatDoor
