import Derived.Test.YtofjeimkphojaaaGreatDoorMK
set_option linter.all false
namespace Go.Proofs.YtofjeimkphojaaaGreatDoor
open Go Go.Fm
def i32B (x:Int):Prop := -2147483648<=x/\x<=2147483647
theorem i32w (x:Int):i32B (IntKind.wrap .i32 x):=by have:=wI32_bd x;exact ⟨this.1,by omega⟩
def VarsB (c:Nat) (vars:List Int):Bool:=allN (λ n v=>inB v 0 (IntKind.wrap .i64 ((c:Int)-1)) && !((vars.take n).any λ x=>v==x)) 0 vars
structure SB (st:GSt):Prop where
 d:st.Data.length<=16
 r:st.Ret.length<=24
 m:st.Mem.length=32
 v:st.Vars.length<=20
 o:st.Out.length<=400
 i:st.In.length<=100
 rk:∀ s ∈ st.Ret,0<=s.Kind/\s.Kind<=2
 vb:VarsB st.Cells.length st.Vars=true
 c:((Int.tmod (st.Cells.length:Int) 64)==0)=true
 cl:st.Cells.length<=768
 f:0<=st.Fault/\st.Fault<=13
 u:0<=st.Fuel/\st.Fuel<=4000
theorem stB_iff {st:GSt}:StB st=true ↔ SB st:=by
 unfold StB
 simp only[Bool.and_eq_true,Bool.not_eq_true',decide_eq_false_iff_not,decide_eq_true_eq,List.all_eq_true,bne_eq_false_iff_eq,inB]
 constructor
 ·rintro ⟨h1,h2,h3,h4,h5,h6,h7,h8,⟨h9,h10⟩,h11,h12⟩
  exact ⟨by omega,by omega,by omega,by omega,by omega,by omega,h7,by unfold VarsB inB;exact h8,h9,by omega,h11,h12⟩
 ·rintro ⟨h1,h2,h3,h4,h5,h6,h7,h8,h9,h10,h11,h12⟩
  exact ⟨by omega,by omega,by omega,by omega,by omega,by omega,h7,by unfold VarsB inB at h8;exact h8,⟨h9,by omega⟩,h11,h12⟩
structure SG (st:GSt):Prop where
 b:SB st
 d:∀ x ∈ st.Data,i32B x
 m:∀ x ∈ st.Mem,i32B x
 a:i32B st.A
 r:∀ s ∈ st.Ret,i32B s.N
theorem app0 {α:Type} {xs:List α} (h:xs.length<=1000):app ([]:List α) xs=some xs:=by rw[app_eq (by simp;omega)];rfl
theorem copyS {st:GSt} (h:SB st):g_spec_l08Copy st=some st:=by
 have:=h.d;have:=h.r;have:=h.m;have:=h.v;have:=h.o;have:=h.i;have:=h.cl
 unfold g_spec_l08Copy
 rw[app0 (by omega),Option.bind_some,app0 (by omega),Option.bind_some,app0 (by omega),Option.bind_some,app0 (by omega),Option.bind_some,app0 (by omega),Option.bind_some,app0 (by omega),Option.bind_some,app0 (by omega),Option.bind_some]
theorem ownS {st:GSt} (h:SB st):g_impl_ownSt st=some st:=by
 have:=h.d;have:=h.r;have:=h.m;have:=h.v;have:=h.o;have:=h.i;have:=h.cl
 unfold g_impl_ownSt g_slices_Clone_int32 g_slices_Clone_Slot g_slices_Clone_uint32 g_slices_Clone_int g_slices_Clone_byte
 rw[app0 (by omega),Option.bind_some,app0 (by omega),Option.bind_some,app0 (by omega),Option.bind_some,app0 (by omega),Option.bind_some,app0 (by omega),Option.bind_some,app0 (by omega),Option.bind_some,app0 (by omega),Option.bind_some]
def flt (st:GSt) (f:Int):GSt:=⟨st.Data,st.Ret,st.A,st.Mem,st.Cells,st.Vars,st.Out,st.In,f,st.Fuel⟩
theorem spec_flt {st:GSt} (h:SB st) (f:Int):g_spec_l08Fault st f=some (flt st f):=by
 unfold g_spec_l08Fault;rw[copyS h];rfl
theorem impl_flt {st:GSt} (h:SB st) (f:Int):g_impl_doesc1 f st=some (flt st f):=by
 unfold g_impl_doesc1;rw[ownS h];rfl
theorem SG.flt {st:GSt} (h:SG st) {f:Int} (h0:0<=f) (h1:f<=13):SG (flt st f) :=
 ⟨⟨h.b.d,h.b.r,h.b.m,h.b.v,h.b.o,h.b.i,h.b.rk,h.b.vb,h.b.c,h.b.cl,⟨h0,h1⟩,h.b.u⟩,h.d,h.m,h.a,h.r⟩
def dat (st:GSt) (l:List Int):GSt:=⟨l,st.Ret,st.A,st.Mem,st.Cells,st.Vars,st.Out,st.In,st.Fault,st.Fuel⟩
def putS (st st2:GSt) (w:Nat) (l:List Int):GSt:=if st.Data.length-w+l.length > 16 then flt st 2 else dat st2 (st.Data.take (st.Data.length-w)++l)
theorem spec_put {st:GSt} (h:SB st) {w:Nat} {l:List Int} (hw:w<=st.Data.length) (hl:l.length<=16):g_spec_l08Put st (w:Int) l=some (putS st st w l):=by
 have:=h.d
 unfold g_spec_l08Put putS
 rw[wI64 (x:=(st.Data.length:Int)-w) (by omega) (by omega),wI64 (by omega) (by omega),spec_flt h,copyS h]
 by_cases hx:st.Data.length-w+l.length > 16
 ·rw[decide_eq_true (by omega),cond_true,if_pos hx];rfl
 ·rw[decide_eq_false (by omega),cond_false,if_neg hx,Option.bind_some,show (st.Data.length:Int)-w=((st.Data.length-w:Nat):Int) by omega,subL_take (by omega) (by omega),Option.bind_some,Int.toNat_natCast,app_eq (by rw[List.length_take];omega)]
  rfl
theorem SG.put {st st2:GSt} (h:SG st) (h2:SG st2) {w:Nat} {l:List Int} (hl:∀ x ∈ l,i32B x):SG (putS st st2 w l):=by
 unfold putS
 split
 ·exact h.flt (by omega) (by omega)
 ·refine ⟨⟨?_,h2.b.r,h2.b.m,h2.b.v,h2.b.o,h2.b.i,h2.b.rk,h2.b.vb,h2.b.c,h2.b.cl,h2.b.f,h2.b.u⟩,λ x hx => ?_,h2.m,h2.a,h2.r⟩
  ·show (st.Data.take (st.Data.length-w)++l).length<=16
   rw[List.length_append,List.length_take];omega
  ·rcases List.mem_append.1 hx with hx|hx
   ·exact h.d x (List.mem_of_mem_take hx)
   ·exact hl x hx
theorem putS_fuel {st st2:GSt} (h:st2.Fuel=st.Fuel) (w:Nat) (l:List Int):(putS st st2 w l).Fuel=st.Fuel:=by
 unfold putS;split
 ·rfl
 ·exact h
def yOf (st:GSt):Int:=if h:0 < st.Data.length then st.Data[st.Data.length-1] else 0
def xOf (st:GSt):Int:=if h:1 < st.Data.length then st.Data[st.Data.length-2] else 0
theorem SG.y {st:GSt} (h:SG st):i32B (yOf st):=by
 unfold yOf;split
 ·exact h.d _ (List.getElem_mem _)
 ·exact ⟨by omega,by omega⟩
theorem SG.x {st:GSt} (h:SG st):i32B (xOf st):=by
 unfold xOf;split
 ·exact h.d _ (List.getElem_mem _)
 ·exact ⟨by omega,by omega⟩
theorem get_y {st:GSt} (h:SB st) (hn:0 < st.Data.length):getI st.Data (IntKind.wrap .i64 ((st.Data.length:Int)-1))=some (yOf st):=by
 have:=h.d
 rw[wI64 (by omega) (by omega),show (st.Data.length:Int)-1=((st.Data.length-1:Nat):Int) by omega,getI_nat,List.getElem?_eq_getElem (by omega)]
 unfold yOf;rw[dif_pos hn]
theorem get_x {st:GSt} (h:SB st) (hn:1 < st.Data.length):getI st.Data (IntKind.wrap .i64 ((st.Data.length:Int)-2))=some (xOf st):=by
 have:=h.d
 rw[wI64 (by omega) (by omega),show (st.Data.length:Int)-2=((st.Data.length-2:Nat):Int) by omega,getI_nat,List.getElem?_eq_getElem (by omega)]
 unfold xOf;rw[dif_pos hn]
theorem impl_does {st st2:GSt} (h:SG st) {k:Int} {name:List UInt8} {w:Nat} {l:List Int} {f:Int} (hk:g_spec_PrimName k=some name) (hne:(name==[])=false) (hw:g_impl_wants k=some (w:Int)) (hl:l.length<=16)
  (he:w<=st.Data.length->g_impl_St_effect name (xOf st) (yOf st) st=some (l,f,st2)) (h2:st2.Data=st.Data) :
  g_impl_does st k=some (if st.Data.length < w then flt st 2 else if f≠0 then flt st f else putS st st2 w l):=by
 have hd:=h.b.d
 unfold g_impl_does
 rw[name_eq,hk,Option.bind_some,hne,cond_false,hw]
 simp only[Option.bind_some]
 by_cases hn:st.Data.length < w
 ·rw[decide_eq_true (by omega),cond_true,if_pos hn,impl_flt h.b];rfl
 rw[decide_eq_false (by omega),cond_false,if_neg hn,ownS h.b]
 simp only[Option.bind_some]
 have ex:(cond (decide ((st.Data.length:Int) > 1)) ((getI st.Data (IntKind.wrap .i64 ((st.Data.length:Int)-2))).bind λ v_10=>some v_10) (some 0):Option Int)=some (xOf st):=by
  by_cases h1:1 < st.Data.length
  ·rw[decide_eq_true (by omega),cond_true,get_x h.b h1];rfl
  ·rw[decide_eq_false (by omega),cond_false];unfold xOf;rw[dif_neg h1]
 have ey:(cond (decide ((st.Data.length:Int) > 0)) ((getI st.Data (IntKind.wrap .i64 ((st.Data.length:Int)-1))).bind λ v_12=>some v_12) (some 0):Option Int)=some (yOf st):=by
  by_cases h1:0 < st.Data.length
  ·rw[decide_eq_true (by omega),cond_true,get_y h.b h1];rfl
  ·rw[decide_eq_false (by omega),cond_false];unfold yOf;rw[dif_neg h1]
 rw[ex,Option.bind_some,ey,Option.bind_some,he (by omega)]
 simp only[Option.bind_some]
 rw[h2,wI64 (by omega) (by omega),show (st.Data.length:Int)-w=((st.Data.length-w:Nat):Int) by omega,subL_take (by omega) (by omega),Option.bind_some,Int.toNat_natCast,app_eq (by rw[List.length_take];omega),Option.bind_some]
 by_cases hf:f=0
 ·subst hf
  rw[show ((0:Int) != 0)=false from rfl,cond_false,if_neg (by simp)]
  unfold putS
  rw[List.length_append,List.length_take,Nat.min_eq_left (by omega),impl_flt h.b]
  by_cases hx:st.Data.length-w+l.length > 16
  ·rw[decide_eq_true (by omega),cond_true,if_pos hx];rfl
  ·rw[decide_eq_false (by omega),cond_false,if_neg hx];rfl
 ·rw[show (f != 0)=true by simp[hf],cond_true,if_pos hf,impl_flt h.b];rfl
theorem spec_does {st:GSt} (h:SG st) (hf:st.Fault=0) {k:Int} {name:List UInt8} {w:Nat} {R:GSt} (hk:g_spec_PrimName k=some name) (hne:(name==[])=false) (hw:g_spec_l08Takes name=some (w:Int)) (hw2:w<=2)
  (he:w<=st.Data.length->∀ x y,(0 < w->y=yOf st)->(1 < w->x=xOf st)->((g_spec_l08Pure name x y).bind λ y_14=>cond y_14.2 ((g_spec_l08Put st (w:Int) y_14.1).bind λ y_15=>some y_15) ((g_spec_l08Other st name x y).bind λ y_16=>some y_16))=some R) :
  g_spec_Do st k=some (if st.Data.length < w then flt st 2 else R):=by
 have hd:=h.b.d
 unfold g_spec_Do
 rw[spec_st ⟨by have:=h.b.r;omega,by have:=h.b.v;omega⟩,stB_iff.2 h.b]
 simp only[Option.bind_some,Bool.not_true,cond_false]
 rw[show (st.Fault != 0)=false by simp[hf],cond_false,hk,Option.bind_some,hne,cond_false,hw]
 simp only[Option.bind_some]
 by_cases hn:st.Data.length < w
 ·rw[decide_eq_true (by omega),cond_true,if_pos hn,spec_flt h.b];rfl
 rw[decide_eq_false (by omega),cond_false,if_neg hn]
 have ey:∃ y,(cond (decide ((w:Int) > 0)) ((getI st.Data (IntKind.wrap .i64 ((st.Data.length:Int)-1))).bind λ v_12=>some v_12) (some 0):Option Int)=some y/\(0 < w->y=yOf st):=by
  by_cases h1:0 < w
  ·exact ⟨yOf st,by rw[decide_eq_true (by omega),cond_true,get_y h.b (by omega)];rfl,λ _=>rfl⟩
  ·exact ⟨0,by rw[decide_eq_false (by omega),cond_false],λ h=>absurd h h1⟩
 have ex:∃ x,(cond (decide ((w:Int) > 1)) ((getI st.Data (IntKind.wrap .i64 ((st.Data.length:Int)-2))).bind λ v_12=>some v_12) (some 0):Option Int)=some x/\(1 < w->x=xOf st):=by
  by_cases h1:1 < w
  ·exact ⟨xOf st,by rw[decide_eq_true (by omega),cond_true,get_x h.b (by omega)];rfl,λ _=>rfl⟩
  ·exact ⟨0,by rw[decide_eq_false (by omega),cond_false],λ h=>absurd h h1⟩
 obtain ⟨y,ey,hy⟩:=ey
 obtain ⟨x,ex,hx⟩:=ex
 rw[ey,Option.bind_some,ex,Option.bind_some,he (by omega) x y hy hx]
end Go.Proofs.YtofjeimkphojaaaGreatDoor
namespace Go.Proofs.YtofjeimkphojaaaGreatDoor
open Go Go.Fm
set_option maxRecDepth 100000
def Both (st:GSt) (k:Int):Prop:=∃ st',g_spec_Do st k=some st'/\g_impl_does st k=some st'/\SG st'/\st'.Fuel=st.Fuel
theorem both_of {st st2:GSt} (h:SG st) (hf:st.Fault=0) {k:Int} {name:List UInt8} {w:Nat} {l:List Int} {f:Int} (hk:g_spec_PrimName k=some name) (hne:(name==[])=false) (hw:g_impl_wants k=some (w:Int)) (ht:g_spec_l08Takes name=some (w:Int)) (hw2:w<=2) (hl:l.length<=16)
  (hi:w<=st.Data.length->g_impl_St_effect name (xOf st) (yOf st) st=some (l,f,st2)) (h2:st2.Data=st.Data) (hu:st2.Fuel=st.Fuel) (hg:w<=st.Data.length->f=0->SG st2/\∀ x ∈ l,i32B x) (hfr:0<=f/\f<=13)
  (hs:w<=st.Data.length->∀ x y,(0 < w->y=yOf st)->(1 < w->x=xOf st)->((g_spec_l08Pure name x y).bind λ y_14=>cond y_14.2 ((g_spec_l08Put st (w:Int) y_14.1).bind λ y_15=>some y_15) ((g_spec_l08Other st name x y).bind λ y_16=>some y_16))=some (if f≠0 then flt st f else putS st st2 w l)):Both st k:=by
 refine ⟨_,spec_does h hf hk hne ht hw2 hs,impl_does h hk hne hw hl hi h2,?_,?_⟩
 ·split
  ·exact h.flt (by omega) (by omega)
  ·rename_i hn
   split
   ·exact h.flt hfr.1 hfr.2
   ·rename_i hf0
    obtain ⟨g1,g2⟩:=hg (by omega) (by omega)
    exact h.put g1 g2
 ·split
  ·rfl
  ·split
   ·rfl
   ·exact putS_fuel hu _ _
theorem both_pure {st:GSt} (h:SG st) (hf:st.Fault=0) {k:Int} {name:List UInt8} {w:Nat} {L:Int->Int->List Int} (hk:g_spec_PrimName k=some name) (hne:(name==[])=false) (hw:g_impl_wants k=some (w:Int)) (ht:g_spec_l08Takes name=some (w:Int)) (hw2:w<=2) (hl:∀ x y,(L x y).length<=3)
  (hi:g_impl_St_effect name (xOf st) (yOf st) st=some (L (xOf st) (yOf st),0,st)) (hs:∀ x y,g_spec_l08Pure name x y=some (L x y,true)) (hL:∀ x y,(0 < w->y=yOf st)->(1 < w->x=xOf st)->L x y=L (xOf st) (yOf st)) (hg:∀ x ∈ L (xOf st) (yOf st),i32B x):Both st k :=
 both_of h hf hk hne hw ht hw2 (l:=L (xOf st) (yOf st)) (f:=0) (st2:=st) (by have:=hl (xOf st) (yOf st);omega) (λ _=>hi) rfl rfl (λ _ _=>⟨h,hg⟩) (by omega) (λ hn x y hy hx=>by
  rw[hs,Option.bind_some,cond_true,hL x y hy hx,spec_put h.b hn (by show (L (xOf st) (yOf st)).length<=16;have:=hl (xOf st) (yOf st);omega),if_neg (by simp)];rfl)
theorem nm0:g_spec_PrimName 0=some [100,117,112]:=rfl
theorem wa0:g_impl_wants 0=some ((1:Nat):Int):=by unfold g_impl_wants g_impl_PrimEffect;rw[name_eq];rfl
theorem ta0:g_spec_l08Takes [100,117,112]=some ((1:Nat):Int):=rfl
theorem nm1:g_spec_PrimName 1=some [100,114,111,112]:=rfl
theorem wa1:g_impl_wants 1=some ((1:Nat):Int):=by unfold g_impl_wants g_impl_PrimEffect;rw[name_eq];rfl
theorem ta1:g_spec_l08Takes [100,114,111,112]=some ((1:Nat):Int):=rfl
theorem nm2:g_spec_PrimName 2=some [111,118,101,114]:=rfl
theorem wa2:g_impl_wants 2=some ((2:Nat):Int):=by unfold g_impl_wants g_impl_PrimEffect;rw[name_eq];rfl
theorem ta2:g_spec_l08Takes [111,118,101,114]=some ((2:Nat):Int):=rfl
theorem nm3:g_spec_PrimName 3=some [110,105,112]:=rfl
theorem wa3:g_impl_wants 3=some ((2:Nat):Int):=by unfold g_impl_wants g_impl_PrimEffect;rw[name_eq];rfl
theorem ta3:g_spec_l08Takes [110,105,112]=some ((2:Nat):Int):=rfl
theorem nm4:g_spec_PrimName 4=some [115,119,97,112]:=rfl
theorem wa4:g_impl_wants 4=some ((2:Nat):Int):=by unfold g_impl_wants g_impl_PrimEffect;rw[name_eq];rfl
theorem ta4:g_spec_l08Takes [115,119,97,112]=some ((2:Nat):Int):=rfl
theorem nm5:g_spec_PrimName 5=some [43]:=rfl
theorem wa5:g_impl_wants 5=some ((2:Nat):Int):=by unfold g_impl_wants g_impl_PrimEffect;rw[name_eq];rfl
theorem ta5:g_spec_l08Takes [43]=some ((2:Nat):Int):=rfl
theorem nm6:g_spec_PrimName 6=some [45]:=rfl
theorem wa6:g_impl_wants 6=some ((1:Nat):Int):=by unfold g_impl_wants g_impl_PrimEffect;rw[name_eq];rfl
theorem ta6:g_spec_l08Takes [45]=some ((1:Nat):Int):=rfl
theorem nm7:g_spec_PrimName 7=some [42]:=rfl
theorem wa7:g_impl_wants 7=some ((2:Nat):Int):=by unfold g_impl_wants g_impl_PrimEffect;rw[name_eq];rfl
theorem ta7:g_spec_l08Takes [42]=some ((2:Nat):Int):=rfl
theorem nm8:g_spec_PrimName 8=some [97,110,100]:=rfl
theorem wa8:g_impl_wants 8=some ((2:Nat):Int):=by unfold g_impl_wants g_impl_PrimEffect;rw[name_eq];rfl
theorem ta8:g_spec_l08Takes [97,110,100]=some ((2:Nat):Int):=rfl
theorem nm9:g_spec_PrimName 9=some [111,114]:=rfl
theorem wa9:g_impl_wants 9=some ((2:Nat):Int):=by unfold g_impl_wants g_impl_PrimEffect;rw[name_eq];rfl
theorem ta9:g_spec_l08Takes [111,114]=some ((2:Nat):Int):=rfl
theorem nm10:g_spec_PrimName 10=some [50,42]:=rfl
theorem wa10:g_impl_wants 10=some ((1:Nat):Int):=by unfold g_impl_wants g_impl_PrimEffect;rw[name_eq];rfl
theorem ta10:g_spec_l08Takes [50,42]=some ((1:Nat):Int):=rfl
theorem nm11:g_spec_PrimName 11=some [50,47]:=rfl
theorem wa11:g_impl_wants 11=some ((1:Nat):Int):=by unfold g_impl_wants g_impl_PrimEffect;rw[name_eq];rfl
theorem ta11:g_spec_l08Takes [50,47]=some ((1:Nat):Int):=rfl
theorem nm12:g_spec_PrimName 12=some [47,109,111,100]:=rfl
theorem wa12:g_impl_wants 12=some ((2:Nat):Int):=by unfold g_impl_wants g_impl_PrimEffect;rw[name_eq];rfl
theorem ta12:g_spec_l08Takes [47,109,111,100]=some ((2:Nat):Int):=rfl
theorem nm13:g_spec_PrimName 13=some [64]:=rfl
theorem wa13:g_impl_wants 13=some ((1:Nat):Int):=by unfold g_impl_wants g_impl_PrimEffect;rw[name_eq];rfl
theorem ta13:g_spec_l08Takes [64]=some ((1:Nat):Int):=rfl
theorem nm14:g_spec_PrimName 14=some [33]:=rfl
theorem wa14:g_impl_wants 14=some ((2:Nat):Int):=by unfold g_impl_wants g_impl_PrimEffect;rw[name_eq];rfl
theorem ta14:g_spec_l08Takes [33]=some ((2:Nat):Int):=rfl
theorem nm15:g_spec_PrimName 15=some [97]:=rfl
theorem wa15:g_impl_wants 15=some ((0:Nat):Int):=by unfold g_impl_wants g_impl_PrimEffect;rw[name_eq];rfl
theorem ta15:g_spec_l08Takes [97]=some ((0:Nat):Int):=rfl
theorem nm16:g_spec_PrimName 16=some [97,33]:=rfl
theorem wa16:g_impl_wants 16=some ((1:Nat):Int):=by unfold g_impl_wants g_impl_PrimEffect;rw[name_eq];rfl
theorem ta16:g_spec_l08Takes [97,33]=some ((1:Nat):Int):=rfl
theorem nm17:g_spec_PrimName 17=some [101,109,105,116]:=rfl
theorem wa17:g_impl_wants 17=some ((1:Nat):Int):=by unfold g_impl_wants g_impl_PrimEffect;rw[name_eq];rfl
theorem ta17:g_spec_l08Takes [101,109,105,116]=some ((1:Nat):Int):=rfl
theorem nm18:g_spec_PrimName 18=some [107,101,121]:=rfl
theorem wa18:g_impl_wants 18=some ((0:Nat):Int):=by unfold g_impl_wants g_impl_PrimEffect;rw[name_eq];rfl
theorem ta18:g_spec_l08Takes [107,101,121]=some ((0:Nat):Int):=rfl
theorem nm19:g_spec_PrimName 19=some [112,117,115,104]:=rfl
theorem wa19:g_impl_wants 19=some ((1:Nat):Int):=by unfold g_impl_wants g_impl_PrimEffect;rw[name_eq];rfl
theorem ta19:g_spec_l08Takes [112,117,115,104]=some ((1:Nat):Int):=rfl
theorem nm20:g_spec_PrimName 20=some [112,111,112]:=rfl
theorem wa20:g_impl_wants 20=some ((0:Nat):Int):=by unfold g_impl_wants g_impl_PrimEffect;rw[name_eq];rfl
theorem ta20:g_spec_l08Takes [112,111,112]=some ((0:Nat):Int):=rfl
theorem nm21:g_spec_PrimName 21=some [105]:=rfl
theorem wa21:g_impl_wants 21=some ((0:Nat):Int):=by unfold g_impl_wants g_impl_PrimEffect;rw[name_eq];rfl
theorem ta21:g_spec_l08Takes [105]=some ((0:Nat):Int):=rfl
theorem nm22:g_spec_PrimName 22=some [46]:=rfl
theorem wa22:g_impl_wants 22=some ((1:Nat):Int):=by unfold g_impl_wants g_impl_PrimEffect;rw[name_eq];rfl
theorem ta22:g_spec_l08Takes [46]=some ((1:Nat):Int):=rfl
theorem nm23:g_spec_PrimName 23=some [110,111,112]:=rfl
theorem wa23:g_impl_wants 23=some ((0:Nat):Int):=by unfold g_impl_wants g_impl_PrimEffect;rw[name_eq];rfl
theorem ta23:g_spec_l08Takes [110,111,112]=some ((0:Nat):Int):=rfl
theorem bv_ofInt (y:Int):(BitVec.ofInt 32 y).toNat=(y % 4294967296).toNat:=by rw[BitVec.toNat_ofInt];rfl
theorem not32 {y:Int} (h:i32B y):notI .i32 y=IntKind.wrap .i32 ((-1)-y):=by
 unfold notI bytesB
 show IntKind.wrap .i32 ((BitVec.ofInt 32 (if true=true then -1 else _) ^^^ BitVec.ofInt 32 y).toNat:Int)=_
 rw[if_pos rfl,show BitVec.ofInt 32 (-1)=BitVec.allOnes 32 from rfl,BitVec.allOnes_xor,BitVec.toNat_not,bv_ofInt]
 unfold i32B at h
 rw[wI32 (x:=(-1)-y) (by omega) (by omega)]
 unfold IntKind.wrap
 simp[IntKind.signed,IntKind.bits]
 omega
theorem word0 {st:GSt} (h:SG st) (hf:st.Fault=0):Both st 0 :=
 both_pure h hf nm0 rfl wa0 ta0 (by omega) (L:=λ x y=>[y,y]) (λ _ _=>by simp) (rfl) (λ _ _=>rfl) (λ x y hy _=>by rw[hy (by omega)]) (λ x hx=>by simp at hx;subst hx;exact h.y)
theorem word1 {st:GSt} (h:SG st) (hf:st.Fault=0):Both st 1 :=
 both_pure h hf nm1 rfl wa1 ta1 (by omega) (L:=λ x y=>[]) (λ _ _=>by simp) (rfl) (λ _ _=>rfl) (λ _ _ _ _=>rfl) (λ x hx=>by simp at hx)
theorem word2 {st:GSt} (h:SG st) (hf:st.Fault=0):Both st 2 :=
 both_pure h hf nm2 rfl wa2 ta2 (by omega) (L:=λ x y=>[x,y,x]) (λ _ _=>by simp) (rfl) (λ _ _=>rfl) (λ x y hy hx=>by rw[hy (by omega),hx (by omega)]) (λ x hx=>by simp at hx;rcases hx with rfl|rfl|rfl<;>first|exact h.x|exact h.y)
theorem word3 {st:GSt} (h:SG st) (hf:st.Fault=0):Both st 3 :=
 both_pure h hf nm3 rfl wa3 ta3 (by omega) (L:=λ x y=>[y]) (λ _ _=>by simp) (rfl) (λ _ _=>rfl) (λ x y hy _=>by rw[hy (by omega)]) (λ x hx=>by simp at hx;subst hx;exact h.y)
theorem word4 {st:GSt} (h:SG st) (hf:st.Fault=0):Both st 4 :=
 both_pure h hf nm4 rfl wa4 ta4 (by omega) (L:=λ x y=>[y,x]) (λ _ _=>by simp) (rfl) (λ _ _=>rfl) (λ x y hy hx=>by rw[hy (by omega),hx (by omega)]) (λ x hx=>by simp at hx;rcases hx with rfl|rfl<;>first|exact h.x|exact h.y)
theorem word5 {st:GSt} (h:SG st) (hf:st.Fault=0):Both st 5 :=
 both_pure h hf nm5 rfl wa5 ta5 (by omega) (L:=λ x y=>[IntKind.wrap .i32 (x+y)]) (λ _ _=>by simp) (rfl) (λ _ _=>rfl) (λ x y hy hx=>by rw[hy (by omega),hx (by omega)]) (λ x hx=>by rw[List.mem_singleton]at hx;subst hx;exact i32w _)
theorem word6 {st:GSt} (h:SG st) (hf:st.Fault=0):Both st 6 :=
 both_pure h hf nm6 rfl wa6 ta6 (by omega) (L:=λ x y=>[IntKind.wrap .i32 ((-1)-y)]) (λ _ _=>by simp) ((show g_impl_St_effect [45] (xOf st) (yOf st) st=some ([notI .i32 (yOf st)],0,st) from rfl).trans (by rw[not32 h.y])) (λ _ _=>rfl) (λ x y hy _=>by rw[hy (by omega)]) (λ x hx=>by rw[List.mem_singleton]at hx;subst hx;exact i32w _)
theorem word7 {st:GSt} (h:SG st) (hf:st.Fault=0):Both st 7 :=
 both_pure h hf nm7 rfl wa7 ta7 (by omega) (L:=λ x y=>[IntKind.wrap .i32 (x*y)]) (λ _ _=>by simp) (rfl) (λ _ _=>rfl) (λ x y hy hx=>by rw[hy (by omega),hx (by omega)]) (λ x hx=>by rw[List.mem_singleton]at hx;subst hx;exact i32w _)
theorem word8 {st:GSt} (h:SG st) (hf:st.Fault=0):Both st 8 :=
 both_pure h hf nm8 rfl wa8 ta8 (by omega) (L:=λ x y=>[andI .i32 x y]) (λ _ _=>by simp) (rfl) (λ _ _=>rfl) (λ x y hy hx=>by rw[hy (by omega),hx (by omega)]) (λ x hx=>by rw[List.mem_singleton]at hx;subst hx;exact i32w _)
theorem word9 {st:GSt} (h:SG st) (hf:st.Fault=0):Both st 9 :=
 both_pure h hf nm9 rfl wa9 ta9 (by omega) (L:=λ x y=>[xorI .i32 x y]) (λ _ _=>by simp) (rfl) (λ _ _=>rfl) (λ x y hy hx=>by rw[hy (by omega),hx (by omega)]) (λ x hx=>by rw[List.mem_singleton]at hx;subst hx;exact i32w _)
theorem word10 {st:GSt} (h:SG st) (hf:st.Fault=0):Both st 10 :=
 both_pure h hf nm10 rfl wa10 ta10 (by omega) (L:=λ x y=>[IntKind.wrap .i32 (y+y)]) (λ _ _=>by simp) ((show g_impl_St_effect [50,42] (xOf st) (yOf st) st=some ([IntKind.wrap .i32 (2*yOf st)],0,st) from rfl).trans (by rw[show 2*yOf st=yOf st+yOf st by omega])) (λ _ _=>rfl) (λ x y hy _=>by rw[hy (by omega)]) (λ x hx=>by rw[List.mem_singleton]at hx;subst hx;exact i32w _)
theorem word11 {st:GSt} (h:SG st) (hf:st.Fault=0):Both st 11 :=
 both_pure h hf nm11 rfl wa11 ta11 (by omega) (L:=λ x y=>[y / 2]) (λ _ _=>by simp) (rfl) (λ _ _=>rfl) (λ x y hy _=>by rw[hy (by omega)]) (λ x hx=>by simp at hx;subst hx;have:=h.y;unfold i32B at this ⊢;omega)
theorem word23 {st:GSt} (h:SG st) (hf:st.Fault=0):Both st 23 :=
 both_pure h hf nm23 rfl wa23 ta23 (by omega) (L:=λ x y=>[]) (λ _ _=>by simp) (rfl) (λ _ _=>rfl) (λ _ _ _ _=>rfl) (λ x hx=>by simp at hx)
end Go.Proofs.YtofjeimkphojaaaGreatDoor
namespace Go.Proofs.YtofjeimkphojaaaGreatDoor
open Go Go.Fm
set_option maxRecDepth 100000
theorem put0 {st:GSt} (h:SB st) {w:Nat} (hw:w<=st.Data.length) (hw1:0 < w\/st.Data.length<=16):putS st st w []=dat st (st.Data.take (st.Data.length-w)):=by
 have:=h.d
 unfold putS
 rw[if_neg (by simp;omega),List.append_nil]
theorem put0' {st st2:GSt} (h:SB st) {w:Nat} (hw:w<=st.Data.length):putS st st2 w []=dat st2 (st.Data.take (st.Data.length-w)):=by
 have:=h.d
 unfold putS
 rw[if_neg (by simp;omega),List.append_nil]
theorem put_0 {st:GSt} (h:SB st) {l:List Int} (hl:l.length<=16):g_spec_l08Put st 0 l=some (putS st st 0 l):=spec_put (w:=0) h (Nat.zero_le _) hl
theorem put_1 {st:GSt} (h:SB st) {l:List Int} (hw:1<=st.Data.length) (hl:l.length<=16):g_spec_l08Put st 1 l=some (putS st st 1 l):=spec_put (w:=1) h hw hl
theorem put_2 {st:GSt} (h:SB st) {l:List Int} (hw:2<=st.Data.length) (hl:l.length<=16):g_spec_l08Put st 2 l=some (putS st st 2 l):=spec_put (w:=2) h hw hl
theorem notpure {name:List UInt8} {w:Nat} {st:GSt} {x y:Int} {R:Option GSt} (hp:g_spec_l08Pure name x y=some ([],false)) (ho:g_spec_l08Other st name x y=R) :
  ((g_spec_l08Pure name x y).bind λ y_14=>cond y_14.2 ((g_spec_l08Put st (w:Int) y_14.1).bind λ y_15=>some y_15) ((g_spec_l08Other st name x y).bind λ y_16=>some y_16))=R:=by
 rw[hp,Option.bind_some,cond_false,ho]
 cases R<;>rfl
theorem word12 {st:GSt} (h:SG st) (hf:st.Fault=0):Both st 12:=by
 have hy:=h.y
 have hx:=h.x
 unfold i32B at hx hy
 by_cases hz:yOf st=0
 ·refine both_of h hf nm12 rfl wa12 ta12 (by omega) (l:=[]) (f:=5) (st2:=st) (by simp) (λ _ => ?_) rfl rfl (λ _ e=>by cases e) (by omega) (λ hn x y ey ex=>notpure rfl ?_)
  ·rw[hz];rfl
  ·rw[ey (by omega),hz]
   show ((g_spec_l08Fault st 5).bind _).bind _=_
   rw[spec_flt h.b];rfl
 ·have e1:quoI .i64 (IntKind.wrap .i64 (xOf st)) (IntKind.wrap .i64 (yOf st))=some (IntKind.wrap .i64 (Int.tdiv (xOf st) (yOf st))):=by
   rw[wI64 (by omega) (by omega),wI64 (by omega) (by omega)];unfold quoI;rw[if_neg hz]
  have e2:remI .i64 (IntKind.wrap .i64 (xOf st)) (IntKind.wrap .i64 (yOf st))=some (Int.tmod (xOf st) (yOf st)):=by
   rw[wI64 (by omega) (by omega),wI64 (by omega) (by omega)];unfold remI;rw[if_neg hz]
  refine both_of h hf nm12 rfl wa12 ta12 (by omega) (l:=[IntKind.wrap .i32 (Int.tmod (xOf st) (yOf st)),IntKind.wrap .i32 (IntKind.wrap .i64 (Int.tdiv (xOf st) (yOf st)))]) (f:=0) (st2:=st) (by simp) (λ _ => ?_) rfl rfl (λ _ _=>⟨h,λ x hx => ?_⟩) (by omega) (λ hn x y ey ex=>notpure rfl ?_)
  ·show (((cond (yOf st==0) (some ([],5)) ((quoI .i64 (IntKind.wrap .i64 (xOf st)) (IntKind.wrap .i64 (yOf st))).bind λ v_6=>(remI .i64 (IntKind.wrap .i64 (xOf st)) (IntKind.wrap .i64 (yOf st))).bind λ v_7=>some ([IntKind.wrap .i32 v_7,IntKind.wrap .i32 v_6],0)):Option (List Int×Int)).bind _:Option (GSt ⊕ (List Int×Int×GSt))).bind _)=_
   rw[show (yOf st==0)=false by simp[hz],cond_false,e1,e2];rfl
  ·simp only[List.mem_cons,List.not_mem_nil,or_false]at hx
   rcases hx with rfl|rfl<;>exact i32w _
  ·rw[ey (by omega),ex (by omega)]
   show ((cond (yOf st==0) ((g_spec_l08Fault st 5).bind λ y_5=>some y_5) ((quoI .i64 (IntKind.wrap .i64 (xOf st)) (IntKind.wrap .i64 (yOf st))).bind λ v_6=>(remI .i64 (IntKind.wrap .i64 (xOf st)) (IntKind.wrap .i64 (yOf st))).bind λ v_7=>(g_spec_l08Put st 2 [IntKind.wrap .i32 v_7,IntKind.wrap .i32 v_6]).bind λ y_8=>some y_8):Option GSt).bind _)=_
   rw[show (yOf st==0)=false by simp[hz],cond_false,e1,Option.bind_some,e2,Option.bind_some,put_2 h.b hn (by simp)];rfl
theorem word15 {st:GSt} (h:SG st) (hf:st.Fault=0):Both st 15 :=
 both_of h hf nm15 rfl wa15 ta15 (by omega) (l:=[st.A]) (f:=0) (st2:=st) (by simp) (λ _=>rfl) rfl rfl (λ _ _=>⟨h,λ x hx=>by rw[List.mem_singleton]at hx;subst hx;exact h.a⟩) (by omega) (λ hn x y ey ex=>notpure rfl (by
  show (g_spec_l08Put st 0 [st.A]).bind _=_
  rw[put_0 h.b (by simp)];rfl))
theorem word16 {st:GSt} (h:SG st) (hf:st.Fault=0):Both st 16 :=
 both_of h hf nm16 rfl wa16 ta16 (by omega) (l:=[]) (f:=0) (st2:=⟨st.Data,st.Ret,yOf st,st.Mem,st.Cells,st.Vars,st.Out,st.In,st.Fault,st.Fuel⟩) (by simp) (λ _=>rfl) rfl rfl
  (λ _ _=>⟨⟨⟨h.b.d,h.b.r,h.b.m,h.b.v,h.b.o,h.b.i,h.b.rk,h.b.vb,h.b.c,h.b.cl,h.b.f,h.b.u⟩,h.d,h.m,h.y,h.r⟩,λ x hx=>by simp at hx⟩) (by omega) (λ hn x y ey ex=>notpure rfl (by
  rw[ey (by omega)]
  show (g_spec_l08Put st 1 ([]:List Int)).bind _=_
  rw[put_1 h.b hn (by simp),put0 h.b hn (.inl (by omega)),put0' h.b hn];rfl))
def outS (st:GSt) (o:List Int):GSt:=⟨st.Data,st.Ret,st.A,st.Mem,st.Cells,st.Vars,o,st.In,st.Fault,st.Fuel⟩
theorem SG.out {st:GSt} (h:SG st) {o:List Int} (ho:o.length<=400):SG (outS st o):=⟨⟨h.b.d,h.b.r,h.b.m,h.b.v,ho,h.b.i,h.b.rk,h.b.vb,h.b.c,h.b.cl,h.b.f,h.b.u⟩,h.d,h.m,h.a,h.r⟩
theorem written_eq {st:GSt} (h:SB st) {s:List UInt8} (hs:s.length<=1000):g_impl_St_written s st=some (if st.Out.length+s.length > 400 then (13,st) else (0,outS st (st.Out++bsOf s))):=by
 have:=h.o
 unfold g_impl_St_written
 rw[wI64 (by omega) (by omega)]
 by_cases hx:st.Out.length+s.length > 400
 ·rw[decide_eq_true (by omega),cond_true,if_pos hx]
 ·rw[decide_eq_false (by omega),cond_false,if_neg hx,app_eq (by unfold bsOf;rw[List.length_map];omega)];rfl
theorem say_eq {st:GSt} (h:SB st) (hn:1<=st.Data.length) {b:List Int} (hs:b.length<=1000):g_spec_l08Say st b=some (if st.Out.length+b.length > 400 then flt st 13 else putS st (outS st (st.Out++b)) 1 []):=by
 have:=h.o
 unfold g_spec_l08Say
 rw[wI64 (by omega) (by omega),spec_flt h,put_1 h hn (by simp),put0 h hn (.inl (by omega)),put0' h hn]
 by_cases hx:st.Out.length+b.length > 400
 ·rw[decide_eq_true (by omega),cond_true,if_pos hx];rfl
 ·rw[decide_eq_false (by omega),cond_false,if_neg hx,Option.bind_some,show (dat st (st.Data.take (st.Data.length-1))).Out=st.Out from rfl,app_eq (by omega)];rfl
theorem bsOf_len (s:List UInt8):(bsOf s).length=s.length:=by unfold bsOf;simp
theorem word_out {st:GSt} (h:SG st) (hf:st.Fault=0) {k:Int} {name:List UInt8} {s:List UInt8} (hk:g_spec_PrimName k=some name) (hne:(name==[])=false) (hw:g_impl_wants k=some ((1:Nat):Int)) (ht:g_spec_l08Takes name=some ((1:Nat):Int)) (hs:s.length<=1000)
  (hi:g_impl_St_effect name (xOf st) (yOf st) st=(g_impl_St_written s st).bind λ r=>some ([],r.1,r.2)) (hp:∀ x y,g_spec_l08Pure name x y=some ([],false)) (ho:∀ x,g_spec_l08Other st name x (yOf st)=g_spec_l08Say st (bsOf s)):Both st k:=by
 rw[written_eq h.b hs]at hi
 by_cases hx:st.Out.length+s.length > 400
 ·rw[if_pos hx]at hi
  exact both_of h hf hk hne hw ht (by omega) (l:=[]) (f:=13) (st2:=st) (by simp) (λ _=>hi) rfl rfl (λ _ e=>by cases e) (by omega) (λ hn x y ey ex=>notpure (hp _ _) (by
   rw[ey (by omega),ho,say_eq h.b hn (by rw[bsOf_len];exact hs),if_pos (by rw[bsOf_len];exact hx)];rfl))
 ·rw[if_neg hx]at hi
  exact both_of h hf hk hne hw ht (by omega) (l:=[]) (f:=0) (st2:=outS st (st.Out++bsOf s)) (by simp) (λ _=>hi) rfl rfl (λ _ _=>⟨h.out (by rw[List.length_append,bsOf_len];omega),λ x hx=>by simp at hx⟩) (by omega) (λ hn x y ey ex=>notpure (hp _ _) (by
   rw[ey (by omega),ho,say_eq h.b hn (by rw[bsOf_len];exact hs),if_neg (by rw[bsOf_len];exact hx)];rfl))
theorem u8_and {y:Int} (h:i32B y):IntKind.wrap .u8 (andI .i32 y 255)=y % 256:=by
 have e:(bytesB .i32 y &&& bytesB .i32 255).toNat=(y % 256).toNat:=by
  show (BitVec.ofInt 32 y &&& BitVec.ofInt 32 255).toNat=_
  rw[BitVec.toNat_and,bv_ofInt,show (BitVec.ofInt 32 255).toNat=2 ^ 8-1 from rfl,Nat.and_two_pow_sub_one_eq_mod]
  omega
 unfold andI
 rw[e,wI32 (by omega) (by omega)]
 unfold IntKind.wrap
 simp[IntKind.signed,IntKind.bits]
 omega
theorem u8_w (y:Int):IntKind.wrap .u8 y=y % 256:=by
 unfold IntKind.wrap
 simp[IntKind.signed,IntKind.bits]
theorem bs_one {n:Int} (h0:0<=n) (h1:n < 256):bsOf (strOf [n])=[n]:=by
 unfold bsOf strOf
 simp only[List.map_cons,List.map_nil,List.cons.injEq,and_true]
 rw[UInt8.toNat_ofNat']
 omega
theorem word17 {st:GSt} (h:SG st) (hf:st.Fault=0):Both st 17 :=
 word_out h hf nm17 rfl wa17 ta17 (s:=strOf [IntKind.wrap .u8 (yOf st)]) (by simp[strOf]) (by
  show ((g_impl_St_written (strOf [IntKind.wrap .u8 (yOf st)]) st).bind λ y_20=>some (Sum.inr ([],y_20.1,y_20.2)):Option (GSt ⊕ (List Int×Int×GSt))).bind _=_
  rw[Option.bind_assoc];rfl) (λ _ _=>rfl) (λ x=>by
  show (g_spec_l08Say st [IntKind.wrap .u8 (andI .i32 (yOf st) 255)]).bind _=_
  rw[u8_and h.y,u8_w,bs_one (by omega) (by omega)]
  cases g_spec_l08Say st [yOf st % 256]<;>rfl)
theorem word22 {st:GSt} (h:SG st) (hf:st.Fault=0):Both st 22:=by
 have hy:=h.y
 unfold i32B at hy
 have hl:=itoa_len (n:=yOf st) (by omega) (by omega)
 refine word_out h hf nm22 rfl wa22 ta22 (s:=Lib.itoa (yOf st)++[32]) (by simp;omega) ?_ (λ _ _=>rfl) (λ x => ?_)
 ·show ((g_impl_DecText (IntKind.wrap .i64 (yOf st))).bind λ y_21=>(catS y_21 [32]).bind λ v_22=>(g_impl_St_written v_22 st).bind λ y_23=>some (Sum.inr ([],y_23.1,y_23.2)):Option (GSt ⊕ (List Int×Int×GSt))).bind _=_
  rw[wI64 (by omega) (by omega),impl_dec (by omega) (by omega),Option.bind_some,catS_eq (by simp;omega),Option.bind_some,Option.bind_assoc];rfl
 ·show ((g_spec_DecText (IntKind.wrap .i64 (yOf st))).bind λ y_12=>(catS y_12 [32]).bind λ v_13=>(s2b v_13).bind λ v_14=>(g_spec_l08Say st v_14).bind λ y_15=>some y_15)=_
  have e:s2b (Lib.itoa (yOf st)++[32])=some (bsOf (Lib.itoa (yOf st)++[32])):=by
   unfold s2b;rw[if_pos (by unfold maxN;simp;omega)]
  rw[wI64 (by omega) (by omega),spec_dec (by omega) (by omega),Option.bind_some,catS_eq (by simp;omega),Option.bind_some,e,Option.bind_some]
  cases g_spec_l08Say st (bsOf (Lib.itoa (yOf st)++[32]))<;>rfl
def inS (st:GSt) (i:List Int):GSt:=⟨st.Data,st.Ret,st.A,st.Mem,st.Cells,st.Vars,st.Out,i,st.Fault,st.Fuel⟩
theorem word18 {st:GSt} (h:SG st) (hf:st.Fault=0):Both st 18:=by
 have hi:=h.b.i
 by_cases h0:st.In.length=0
 ·refine both_of h hf nm18 rfl wa18 ta18 (by omega) (l:=[-1]) (f:=0) (st2:=st) (by simp) (λ _ => ?_) rfl rfl (λ _ _=>⟨h,λ x hx=>by rw[List.mem_singleton]at hx;subst hx;exact ⟨by omega,by omega⟩⟩) (by omega) (λ hn x y ey ex=>notpure rfl ?_)
  ·show ((cond ((st.In.length:Int)==0) _ _:Option (GSt ⊕ (List Int×Int×GSt)))).bind _=_
   rw[h0];rfl
  ·show ((cond (decide ((st.In.length:Int) > 0)) ((getI st.In 0).bind λ v_17=>some (IntKind.wrap .i32 v_17)) (some (-1)):Option Int).bind _)=_
   rw[decide_eq_false (by omega),cond_false,Option.bind_some,put_0 h.b (by simp),Option.bind_some]
   have:(putS st st 0 [-1]).In.length=0:=by unfold putS;split<;>exact h0
   rw[this]
   cases (putS st st 0 [-1]).Fault==0<;>rfl
 ·have e0:getI st.In 0=some st.In[0]:=by rw[show (0:Int)=((0:Nat):Int) from rfl,getI_nat,List.getElem?_eq_getElem (by omega)]
  have e1:subL st.In 1 ((st.In.length:Nat):Int)=some (st.In.drop 1):=by rw[subL_drop (by omega) (by omega)];rfl
  refine both_of h hf nm18 rfl wa18 ta18 (by omega) (l:=[IntKind.wrap .i32 st.In[0]]) (f:=0) (st2:=inS st (st.In.drop 1)) (by simp) (λ _ => ?_) rfl rfl (λ _ _=>⟨⟨⟨h.b.d,h.b.r,h.b.m,h.b.v,h.b.o,by show (st.In.drop 1).length<=100;rw[List.length_drop];omega,h.b.rk,h.b.vb,h.b.c,h.b.cl,h.b.f,h.b.u⟩,h.d,h.m,h.a,h.r⟩,λ x hx=>by rw[List.mem_singleton]at hx;subst hx;exact i32w _⟩) (by omega) (λ hn x y ey ex=>notpure rfl ?_)
  ·show ((cond ((st.In.length:Int)==0) _ ((getI st.In 0).bind λ v_24=>(subL st.In 1 ((st.In.length:Nat):Int)).bind λ v_25=>some (.inr ([IntKind.wrap .i32 v_24],0,(⟨st.Data,st.Ret,st.A,st.Mem,st.Cells,st.Vars,st.Out,v_25,st.Fault,st.Fuel⟩:GSt)))):Option (GSt ⊕ (List Int×Int×GSt)))).bind _=_
   rw[show ((st.In.length:Int)==0)=false by rw[beq_eq_false_iff_ne];omega,cond_false,e0,Option.bind_some,e1];rfl
  ·show ((cond (decide ((st.In.length:Int) > 0)) ((getI st.In 0).bind λ v_17=>some (IntKind.wrap .i32 v_17)) (some (-1)):Option Int).bind _)=_
   rw[decide_eq_true (p:=(st.In.length:Int) > 0) (by omega),cond_true,e0,Option.bind_some,Option.bind_some,put_0 h.b (by simp),Option.bind_some]
   unfold putS
   by_cases hx:st.Data.length-0+[IntKind.wrap .i32 st.In[0]].length > 16
   ·rw[if_pos hx,if_pos hx];rfl
   ·rw[if_neg hx,if_neg hx]
    show (((cond (st.Fault==0) (some (decide ((st.In.length:Int) > 0))) (some false):Option Bool).bind _:Option GSt)).bind _=_
    rw[hf,show ((0:Int)==0)=true from rfl,cond_true,decide_eq_true (p:=(st.In.length:Int) > 0) (by omega),Option.bind_some,cond_true]
    show ((subL st.In 1 ((st.In.length:Nat):Int)).bind _).bind _=_
    rw[e1];simp[dat,inS,hf]
def retS (st:GSt) (r:List GSlot):GSt:=⟨st.Data,r,st.A,st.Mem,st.Cells,st.Vars,st.Out,st.In,st.Fault,st.Fuel⟩
theorem SG.ret {st:GSt} (h:SG st) {r:List GSlot} (hl:r.length<=24) (hk:∀ s ∈ r,0<=s.Kind/\s.Kind<=2) (hn:∀ s ∈ r,i32B s.N):SG (retS st r) :=
 ⟨⟨h.b.d,hl,h.b.m,h.b.v,h.b.o,h.b.i,hk,h.b.vb,h.b.c,h.b.cl,h.b.f,h.b.u⟩,h.d,h.m,h.a,hn⟩
theorem word19 {st:GSt} (h:SG st) (hf:st.Fault=0):Both st 19:=by
 have hr:=h.b.r
 by_cases h0:st.Ret.length=24
 ·refine both_of h hf nm19 rfl wa19 ta19 (by omega) (l:=[]) (f:=3) (st2:=st) (by simp) (λ _ => ?_) rfl rfl (λ _ e=>by cases e) (by omega) (λ hn x y ey ex=>notpure rfl ?_)
  ·show ((cond ((st.Ret.length:Int)==24) _ _:Option (GSt ⊕ (List Int×Int×GSt)))).bind _=_
   rw[h0];rfl
  ·show ((cond ((st.Ret.length:Int)==24) ((g_spec_l08Fault st 3).bind _) _:Option GSt))=_
   rw[h0,spec_flt h.b];rfl
 ·have e1:app st.Ret [(⟨0,yOf st⟩:GSlot)]=some (st.Ret++[⟨0,yOf st⟩]):=app_eq (by simp;omega)
  refine both_of h hf nm19 rfl wa19 ta19 (by omega) (l:=[]) (f:=0) (st2:=retS st (st.Ret++[⟨0,yOf st⟩])) (by simp) (λ _ => ?_) rfl rfl (λ _ _=>⟨h.ret (by simp;omega) (λ s hs => ?_) (λ s hs => ?_),λ x hx=>by simp at hx⟩) (by omega) (λ hn x y ey ex=>notpure rfl ?_)
  ·show ((cond ((st.Ret.length:Int)==24) _ ((app st.Ret [(⟨0,yOf st⟩:GSlot)]).bind λ v_26=>some (.inl (⟨st.Data,v_26,st.A,st.Mem,st.Cells,st.Vars,st.Out,st.In,st.Fault,st.Fuel⟩:GSt))):Option (GSt ⊕ (List Int×Int×GSt)))).bind _=_
   rw[show ((st.Ret.length:Int)==24)=false by simp;omega,cond_false,e1];rfl
  ·rcases List.mem_append.1 hs with hs|hs
   ·exact h.b.rk s hs
   ·rw[List.mem_singleton]at hs;subst hs;exact ⟨by show (0:Int)<=0;omega,by show (0:Int)<=2;omega⟩
  ·rcases List.mem_append.1 hs with hs|hs
   ·exact h.r s hs
   ·rw[List.mem_singleton]at hs;subst hs;exact h.y
  ·rw[ey (by omega)]
   show ((cond ((st.Ret.length:Int)==24) _ ((g_spec_l08Put st 1 ([]:List Int)).bind _):Option GSt))=_
   rw[show ((st.Ret.length:Int)==24)=false by simp;omega,cond_false,put_1 h.b hn (by simp),put0 h.b hn (.inl (by omega)),put0' h.b hn,Option.bind_some]
   show (app st.Ret [(⟨0,yOf st⟩:GSlot)]).bind _=_
   rw[e1];rfl
end Go.Proofs.YtofjeimkphojaaaGreatDoor
namespace Go.Proofs.YtofjeimkphojaaaGreatDoor
open Go Go.Fm
set_option maxRecDepth 100000
theorem place_mem {st:GSt} (h:SB st) {y:Int} (hy:i32B y) (h0:0<=y) (h1:y<=31):g_spec_l08Place st y=some y/\g_impl_St_place_rd y st=some (y,true,true):=by
 unfold i32B at hy
 unfold g_spec_l08Place g_impl_St_place_rd
 rw[wI64 (x:=y) (by omega) (by omega),specIn_eq,within_eq,decide_eq_true ⟨h0,h1⟩]
 exact ⟨rfl,rfl⟩
theorem place_cell {st:GSt} (h:SB st) {y:Int} (hy:i32B y) (h0:1024<=y) (h1:y<=1023+st.Cells.length):g_spec_l08Place st y=some (y-992)/\g_impl_St_place_rd y st=some (y-1024,false,true):=by
 unfold i32B at hy
 have:=h.cl
 unfold g_spec_l08Place g_impl_St_place_rd
 rw[wI64 (x:=y) (by omega) (by omega),wI64 (x:=1024+(st.Cells.length:Int)) (by omega) (by omega),wI64 (x:=1024+(st.Cells.length:Int)-1) (by omega) (by omega),wI64 (x:=32+y) (by omega) (by omega),wI64 (x:=32+y-1024) (by omega) (by omega),wI64 (x:=y-1024) (by omega) (by omega),wI64 (x:=(st.Cells.length:Int)-1) (by omega) (by omega),
  specIn_eq,specIn_eq,within_eq,within_eq,decide_eq_false (by omega),decide_eq_true (p:=(1024:Int)<=y/\y<=1024+(st.Cells.length:Int)-1) (by omega),decide_eq_true (p:=(0:Int)<=y-1024/\y-1024<=(st.Cells.length:Int)-1) (by omega)]
 refine ⟨?_,rfl⟩
 show some (32+y-1024)=_
 congr 1;omega
theorem place_no {st:GSt} (h:SB st) {y:Int} (hy:i32B y) (h0:¬(0<=y/\y<=31)) (h1:¬(1024<=y/\y<=1023+st.Cells.length)):g_spec_l08Place st y=some (-1)/\g_impl_St_place_rd y st=some (0,false,false):=by
 unfold i32B at hy
 have:=h.cl
 unfold g_spec_l08Place g_impl_St_place_rd
 rw[wI64 (x:=y) (by omega) (by omega),wI64 (x:=1024+(st.Cells.length:Int)) (by omega) (by omega),wI64 (x:=1024+(st.Cells.length:Int)-1) (by omega) (by omega),wI64 (x:=y-1024) (by omega) (by omega),wI64 (x:=(st.Cells.length:Int)-1) (by omega) (by omega),
  specIn_eq,specIn_eq,within_eq,within_eq,decide_eq_false h0,decide_eq_false (p:=(1024:Int)<=y/\y<=1024+(st.Cells.length:Int)-1) (by omega),decide_eq_false (p:=(0:Int)<=y-1024/\y-1024<=(st.Cells.length:Int)-1) (by omega)]
 exact ⟨rfl,rfl⟩
theorem getI_int {α:Type} {xs:List α} {i:Int} (h0:0<=i) (h:i.toNat < xs.length):getI xs i=some xs[i.toNat]:=by
 have:getI xs ((i.toNat:Nat):Int)=some xs[i.toNat]:=by rw[getI_nat,List.getElem?_eq_getElem h]
 rwa [Int.toNat_of_nonneg h0]at this
theorem word13 {st:GSt} (h:SG st) (hf:st.Fault=0):Both st 13:=by
 have hy:=h.y
 have hm:=h.b.m
 by_cases ha:0<=yOf st/\yOf st<=31
 ·obtain ⟨p1,p2⟩:=place_mem h.b hy ha.1 ha.2
  have hlt:(yOf st).toNat < st.Mem.length:=by omega
  have e:getI st.Mem (yOf st)=some st.Mem[(yOf st).toNat]:=getI_int (by omega) hlt
  refine both_of h hf nm13 rfl wa13 ta13 (by omega) (l:=[st.Mem[(yOf st).toNat]]) (f:=0) (st2:=st) (by simp) (λ _ => ?_) rfl rfl (λ _ _=>⟨h,λ x hx=>by rw[List.mem_singleton]at hx;subst hx;exact h.m _ (List.getElem_mem _)⟩) (by omega) (λ hn x y ey ex=>notpure rfl ?_)
  ·show (((g_impl_St_place_rd (yOf st) st).bind _:Option (GSt ⊕ (List Int×Int×GSt)))).bind _=_
   rw[p2,Option.bind_some]
   show (((getI st.Mem (yOf st)).bind _:Option (GSt ⊕ (List Int×Int×GSt)))).bind _=_
   rw[e];rfl
  ·rw[ey (by omega)]
   show ((g_spec_l08Place st (yOf st)).bind _).bind _=_
   rw[p1,Option.bind_some,decide_eq_false (by omega),cond_false,decide_eq_true (by omega),cond_true,e,Option.bind_some,put_1 h.b hn (by simp)];rfl
 ·by_cases hb:1024<=yOf st/\yOf st<=1023+st.Cells.length
  ·obtain ⟨p1,p2⟩:=place_cell h.b hy hb.1 hb.2
   have hcl:=h.b.cl
   have hlt:(yOf st-1024).toNat < st.Cells.length:=by omega
   have e:getI st.Cells (yOf st-1024)=some st.Cells[(yOf st-1024).toNat]:=getI_int (by omega) hlt
   refine both_of h hf nm13 rfl wa13 ta13 (by omega) (l:=[IntKind.wrap .i32 st.Cells[(yOf st-1024).toNat]]) (f:=0) (st2:=st) (by simp) (λ _ => ?_) rfl rfl (λ _ _=>⟨h,λ x hx=>by rw[List.mem_singleton]at hx;subst hx;exact i32w _⟩) (by omega) (λ hn x y ey ex=>notpure rfl ?_)
   ·show (((g_impl_St_place_rd (yOf st) st).bind _:Option (GSt ⊕ (List Int×Int×GSt)))).bind _=_
    rw[p2,Option.bind_some]
    show (((getI st.Cells (yOf st-1024)).bind _:Option (GSt ⊕ (List Int×Int×GSt)))).bind _=_
    rw[e];rfl
   ·rw[ey (by omega)]
    show ((g_spec_l08Place st (yOf st)).bind _).bind _=_
    rw[p1,Option.bind_some,decide_eq_false (by omega),cond_false,decide_eq_false (by omega),cond_false,wI64 (by omega) (by omega),show yOf st-992-32=yOf st-1024 by omega,e,Option.bind_some,put_1 h.b hn (by simp)];rfl
  ·obtain ⟨p1,p2⟩:=place_no h.b hy ha hb
   refine both_of h hf nm13 rfl wa13 ta13 (by omega) (l:=[]) (f:=4) (st2:=st) (by simp) (λ _ => ?_) rfl rfl (λ _ e=>by cases e) (by omega) (λ hn x y ey ex=>notpure rfl ?_)
   ·show (((g_impl_St_place_rd (yOf st) st).bind _:Option (GSt ⊕ (List Int×Int×GSt)))).bind _=_
    rw[p2];rfl
   ·rw[ey (by omega)]
    show ((g_spec_l08Place st (yOf st)).bind _).bind _=_
    rw[p1,Option.bind_some,decide_eq_true (by omega),cond_true,spec_flt h.b];rfl
def cellS (o:GSt) (v n:Int):GSt:=⟨o.Data,o.Ret,o.A,o.Mem,o.Cells.set v.toNat (IntKind.wrap .u32 n),o.Vars,o.Out,o.In,o.Fault,o.Fuel⟩
theorem store_loop {st:GSt} {n a:Int} {z o:GSt} (hv:st.Vars.length<=20) (ha : -1<=a) (ha2:a<=100000) (hc:32<=a->(a-32).toNat < o.Cells.length) (hlow:a < 32->∀ v ∈ st.Vars,(0<=a/\v=a-32)->False):∀ (k i:Nat),i<=st.Vars.length->st.Vars.length-i < k →
  g_spec_l08Store_l0 n a st k (i:Int) z o=some (if (0<=a)/\(st.Vars.drop i).any (λ x=>a-32==x)=true then .inr (cellS o (a-32) n,cellS o (a-32) n) else .inl (z,o)):=by
 intro k
 induction k with
 | zero=>intro i h0 h1;omega
 | succ k ih =>
  intro i h0 h1
  rw[g_spec_l08Store_l0]
  by_cases hn:i < st.Vars.length
  ·rw[decide_eq_true (by omega),cond_true,getI_nat,List.getElem?_eq_getElem hn,List.drop_eq_getElem_cons hn,List.any_cons,wI64 (x:=a-32) (by omega) (by omega),nxt (by omega),ih (i+1) (by omega) (by omega)]
   simp only[Option.bind_some]
   by_cases hp:0<=a
   ·rw[decide_eq_true (by omega),cond_true,Option.bind_some]
    by_cases he:st.Vars[i]=a-32
    ·rw[show (st.Vars[i]==a-32)=true by simp[he],show (a-32==st.Vars[i])=true by simp[he],cond_true,Bool.true_or,if_pos ⟨hp,rfl⟩,he]
     by_cases h32:a < 32
     ·exact (hlow h32 _ (List.getElem_mem hn) ⟨hp,he⟩).elim
     ·rw[getI_int (by omega) (hc (by omega))]
      rfl
    ·rw[show (st.Vars[i]==a-32)=false by simp[he],show (a-32==st.Vars[i])=false by simp;omega,cond_false,Bool.false_or]
   ·rw[decide_eq_false (by omega),cond_false,Option.bind_some,cond_false,if_neg (λ h=>hp h.1),if_neg (λ h=>hp h.1)]
  ·rw[decide_eq_false (by omega),cond_false,List.drop_eq_nil_of_le (by omega),if_neg (by simp)]
def memS (st:GSt) (v n:Int):GSt:=⟨st.Data,st.Ret,st.A,st.Mem.set v.toNat n,st.Cells,st.Vars,st.Out,st.In,st.Fault,st.Fuel⟩
theorem SG.mem {st:GSt} (h:SG st) {v n:Int} (hn:i32B n):SG (memS st v n) :=
 ⟨⟨h.b.d,h.b.r,by show (st.Mem.set v.toNat n).length=32;rw[List.length_set];exact h.b.m,h.b.v,h.b.o,h.b.i,h.b.rk,h.b.vb,h.b.c,h.b.cl,h.b.f,h.b.u⟩,h.d,λ x hx=>(List.mem_or_eq_of_mem_set hx).elim (h.m x) (λ e=>e▸hn),h.a,h.r⟩
theorem SG.cell {st:GSt} (h:SG st) {v n:Int}:SG (cellS st v n):=by
 refine ⟨⟨h.b.d,h.b.r,h.b.m,h.b.v,h.b.o,h.b.i,h.b.rk,?_,?_,?_,h.b.f,h.b.u⟩,h.d,h.m,h.a,h.r⟩
 ·show VarsB (st.Cells.set v.toNat (IntKind.wrap .u32 n)).length st.Vars=true
  rw[List.length_set];exact h.b.vb
 ·show ((Int.tmod ((st.Cells.set v.toNat (IntKind.wrap .u32 n)).length:Int) 64)==0)=true
  rw[List.length_set];exact h.b.c
 ·show (st.Cells.set v.toNat (IntKind.wrap .u32 n)).length<=768
  rw[List.length_set];exact h.b.cl
theorem word14 {st:GSt} (h:SG st) (hf:st.Fault=0):Both st 14:=by
 have hy:=h.y
 have hx:=h.x
 have hm:=h.b.m
 have hv:=h.b.v
 have hcl:=h.b.cl
 unfold i32B at hy
 have lp:∀ (a:Int) (o:GSt),-1<=a->a<=100000->(32<=a->(a-32).toNat < o.Cells.length)->(a < 32->a = -1)->g_spec_l08Store_l0 (xOf st) a st bigK 0 (⟨[],[],0,[],[],[],[],[],0,0⟩:GSt) o=some (if (0<=a)/\(st.Vars.any (λ x=>a-32==x))=true then .inr (cellS o (a-32) (xOf st),cellS o (a-32) (xOf st)) else .inl (⟨[],[],0,[],[],[],[],[],0,0⟩,o)):=λ a o h1 h2 h3 h4=>by
  have:=store_loop (st:=st) (n:=xOf st) (a:=a) (z:=⟨[],[],0,[],[],[],[],[],0,0⟩) (o:=o) hv h1 h2 h3 (λ hl v _ hh=>by have:=h4 hl;omega) bigK 0 (Nat.zero_le _) (by unfold bigK;omega)
  rw[List.drop_zero]at this
  exact this
 by_cases ha:0<=yOf st/\yOf st<=31
 ·obtain ⟨p1,p2⟩:=place_mem h.b h.y ha.1 ha.2
  have hlt:(yOf st).toNat < st.Mem.length:=by omega
  have e:getI st.Mem (yOf st)=some st.Mem[(yOf st).toNat]:=getI_int (by omega) hlt
  refine both_of h hf nm14 rfl wa14 ta14 (by omega) (l:=[]) (f:=0) (st2:=memS st (yOf st) (xOf st)) (by simp) (λ _ => ?_) rfl rfl (λ _ _=>⟨h.mem hx,λ x hx=>by simp at hx⟩) (by omega) (λ hn x y ey ex=>notpure rfl ?_)
  ·show (((g_impl_St_place_rd (yOf st) st).bind _:Option (GSt ⊕ (List Int×Int×GSt)))).bind _=_
   rw[p2,Option.bind_some]
   show (((getI st.Mem (yOf st)).bind _:Option (GSt ⊕ (List Int×Int×GSt)))).bind _=_
   rw[e];rfl
  ·rw[ey (by omega),ex (by omega)]
   show ((g_spec_l08Place st (yOf st)).bind _).bind _=_
   rw[p1,Option.bind_some,put_2 h.b hn (by simp),put0 h.b hn (.inl (by omega)),put0' h.b hn,Option.bind_some,specIn_eq,decide_eq_true (p:=(0:Int)<=yOf st/\yOf st<=31) ha,Option.bind_some,cond_true]
   show ((getI st.Mem (yOf st)).bind _).bind _=_
   rw[e];rfl
 ·by_cases hb:1024<=yOf st/\yOf st<=1023+st.Cells.length
  ·obtain ⟨p1,p2⟩:=place_cell h.b h.y hb.1 hb.2
   have hlt:(yOf st-1024).toNat < st.Cells.length:=by omega
   have e:getI st.Cells (yOf st-1024)=some st.Cells[(yOf st-1024).toNat]:=getI_int (by omega) hlt
   have hh:=has_l0 (l:=st.Vars) (v:=yOf st-1024) (by omega)
   cases hany:(st.Vars.any λ x=>yOf st-1024==x) with
   | true =>
    rw[hany]at hh
    refine both_of h hf nm14 rfl wa14 ta14 (by omega) (l:=[]) (f:=0) (st2:=cellS st (yOf st-1024) (xOf st)) (by simp) (λ _ => ?_) rfl rfl (λ _ _=>⟨h.cell,λ x hx=>by simp at hx⟩) (by omega) (λ hn x y ey ex=>notpure rfl ?_)
    ·show (((g_impl_St_place_rd (yOf st) st).bind _:Option (GSt ⊕ (List Int×Int×GSt)))).bind _=_
     rw[p2,Option.bind_some]
     show ((((g_slices_Contains_int st.Vars (yOf st-1024)).bind λ y_17=>some (!y_17):Option Bool).bind _:Option (GSt ⊕ (List Int×Int×GSt)))).bind _=_
     rw[hh]
     show (((getI st.Cells (yOf st-1024)).bind _:Option (GSt ⊕ (List Int×Int×GSt)))).bind _=_
     rw[e];rfl
    ·rw[ey (by omega),ex (by omega)]
     show ((g_spec_l08Place st (yOf st)).bind _).bind _=_
     rw[p1,Option.bind_some,put_2 h.b hn (by simp),put0 h.b hn (.inl (by omega)),put0' h.b hn,Option.bind_some,specIn_eq,decide_eq_false (p:=(0:Int)<=yOf st-992/\yOf st-992<=31) (by omega),Option.bind_some,cond_false,
      lp (yOf st-992) _ (by omega) (by omega) (λ _=>by show (yOf st-992-32).toNat < st.Cells.length;omega) (by omega),show yOf st-992-32=yOf st-1024 by omega,hany,if_pos ⟨by omega,rfl⟩]
     rfl
   | false =>
    rw[hany]at hh
    refine both_of h hf nm14 rfl wa14 ta14 (by omega) (l:=[]) (f:=4) (st2:=st) (by simp) (λ _ => ?_) rfl rfl (λ _ e=>by cases e) (by omega) (λ hn x y ey ex=>notpure rfl ?_)
    ·show (((g_impl_St_place_rd (yOf st) st).bind _:Option (GSt ⊕ (List Int×Int×GSt)))).bind _=_
     rw[p2,Option.bind_some]
     show ((((g_slices_Contains_int st.Vars (yOf st-1024)).bind λ y_17=>some (!y_17):Option Bool).bind _:Option (GSt ⊕ (List Int×Int×GSt)))).bind _=_
     rw[hh];rfl
    ·rw[ey (by omega),ex (by omega)]
     show ((g_spec_l08Place st (yOf st)).bind _).bind _=_
     rw[p1,Option.bind_some,put_2 h.b hn (by simp),put0 h.b hn (.inl (by omega)),Option.bind_some,specIn_eq,decide_eq_false (p:=(0:Int)<=yOf st-992/\yOf st-992<=31) (by omega),Option.bind_some,cond_false,
      lp (yOf st-992) _ (by omega) (by omega) (λ _=>by show (yOf st-992-32).toNat < st.Cells.length;omega) (by omega),show yOf st-992-32=yOf st-1024 by omega,hany,if_neg (by simp)]
     show ((g_spec_l08Fault st 4).bind _).bind _=_
     rw[spec_flt h.b];rfl
  ·obtain ⟨p1,p2⟩:=place_no h.b h.y ha hb
   refine both_of h hf nm14 rfl wa14 ta14 (by omega) (l:=[]) (f:=4) (st2:=st) (by simp) (λ _ => ?_) rfl rfl (λ _ e=>by cases e) (by omega) (λ hn x y ey ex=>notpure rfl ?_)
   ·show (((g_impl_St_place_rd (yOf st) st).bind _:Option (GSt ⊕ (List Int×Int×GSt)))).bind _=_
    rw[p2];rfl
   ·rw[ey (by omega),ex (by omega)]
    show ((g_spec_l08Place st (yOf st)).bind _).bind _=_
    rw[p1,Option.bind_some,put_2 h.b hn (by simp),put0 h.b hn (.inl (by omega)),Option.bind_some,specIn_eq,decide_eq_false (p:=(0:Int) ≤ -1/\(-1:Int)<=31) (by omega),Option.bind_some,cond_false,
     lp (-1) _ (by omega) (by omega) (by omega) (λ _=>rfl),if_neg (by omega)]
    show ((g_spec_l08Fault st 4).bind _).bind _=_
    rw[spec_flt h.b];rfl
theorem word_back {st:GSt} (h:SG st) (hf:st.Fault=0) {k:Int} {name:List UInt8} {b:Bool} (hk:g_spec_PrimName k=some name) (hne:(name==[])=false) (hw:g_impl_wants k=some ((0:Nat):Int)) (ht:g_spec_l08Takes name=some ((0:Nat):Int)) (hp:∀ x y,g_spec_l08Pure name x y=some ([],false))
  (ho:∀ x y,g_spec_l08Other st name x y=(g_spec_l08Back st b).bind λ y=>some y)
  (hi:∀ t,st.Ret.getLast? = some t->g_impl_St_effect name (xOf st) (yOf st) st=some (if t.Kind=2\/(b=true/\t.Kind≠0) then ([],11,st) else ([t.N],0,if b=true then retS st st.Ret.dropLast else st))) (hi0:st.Ret=[]->g_impl_St_effect name (xOf st) (yOf st) st=some ([],3,st)):Both st k:=by
 have hr:=h.b.r
 cases hl:st.Ret.getLast? with
 | none =>
  have h0:st.Ret=[]:=by rwa [List.getLast?_eq_none_iff]at hl
  refine both_of h hf hk hne hw ht (by omega) (l:=[]) (f:=3) (st2:=st) (by simp) (λ _=>hi0 h0) rfl rfl (λ _ e=>by cases e) (by omega) (λ hn x y ey ex=>notpure (hp _ _) ?_)
  rw[ho]
  unfold g_spec_l08Back
  rw[h0]
  show ((g_spec_l08Fault st 3).bind _).bind _=_
  rw[spec_flt h.b];rfl
 | some t =>
  have hpos:0 < st.Ret.length:=by cases hR:st.Ret with
   | nil=>rw[hR]at hl;cases hl
   | cons a r=>simp
  have hmem:t ∈ st.Ret:=List.mem_of_getLast? hl
  have hw1:IntKind.wrap .i64 ((st.Ret.length:Int)-1)=((st.Ret.length-1:Nat):Int):=by rw[wI64 (by omega) (by omega)];omega
  have eg:getI st.Ret ((st.Ret.length-1:Nat):Int)=some t:=by rw[getI_nat,<-List.getLast?_eq_getElem?,hl]
  have es:subL st.Ret 0 ((st.Ret.length-1:Nat):Int)=some st.Ret.dropLast:=by rw[subL_take (by omega) (by omega),Int.toNat_natCast,List.dropLast_eq_take]
  have eb:(cond (t.Kind==2) (some true) (cond b (some (t.Kind != 0)) (some false)):Option Bool)=some (decide (t.Kind=2\/(b=true/\t.Kind≠0))):=by
   by_cases h2:t.Kind=2
   ·rw[show (t.Kind==2)=true by simp[h2],cond_true,decide_eq_true (.inl h2)]
   ·rw[show (t.Kind==2)=false by simp[h2],cond_false]
    cases b with
    | false=>simp[h2]
    | true=>by_cases h3:t.Kind=0<;>simp[h3,h2]
  have hi:=hi t hl
  by_cases hb:t.Kind=2\/(b=true/\t.Kind≠0)
  ·rw[if_pos hb]at hi
   refine both_of h hf hk hne hw ht (by omega) (l:=[]) (f:=11) (st2:=st) (by simp) (λ _=>hi) rfl rfl (λ _ e=>by cases e) (by omega) (λ hn x y ey ex=>notpure (hp _ _) ?_)
   rw[ho]
   unfold g_spec_l08Back
   rw[show ((st.Ret.length:Int)==0)=false by rw[beq_eq_false_iff_ne];omega,cond_false,hw1,eg,Option.bind_some,eb,decide_eq_true hb,Option.bind_some,cond_true,spec_flt h.b];rfl
  ·rw[if_neg hb]at hi
   refine both_of h hf hk hne hw ht (by omega) (l:=[t.N]) (f:=0) (st2:=if b=true then retS st st.Ret.dropLast else st) (by simp) (λ _=>hi) (by split<;>rfl) (by split<;>rfl) (λ _ _=>⟨?_,λ x hx=>by rw[List.mem_singleton]at hx;subst hx;exact h.r t hmem⟩) (by omega) (λ hn x y ey ex=>notpure (hp _ _) ?_)
   ·split
    ·exact h.ret (by rw[List.length_dropLast];omega) (λ s hs=>h.b.rk s (List.dropLast_subset _ hs)) (λ s hs=>h.r s (List.dropLast_subset _ hs))
    ·exact h
   ·rw[ho]
    unfold g_spec_l08Back
    rw[show ((st.Ret.length:Int)==0)=false by rw[beq_eq_false_iff_ne];omega,cond_false,hw1,eg,Option.bind_some,eb,decide_eq_false hb,Option.bind_some,cond_false,put_0 h.b (by simp),Option.bind_some,if_neg (by simp)]
    unfold putS
    by_cases hx:st.Data.length-0+[t.N].length > 16
    ·rw[if_pos hx,if_pos hx]
     cases b<;>rfl
    ·rw[if_neg hx,if_neg hx]
     cases b with
     | false=>rfl
     | true =>
      show ((((cond true (some (st.Fault==0)) (some false):Option Bool).bind _:Option GSt)).bind _).bind _=_
      rw[hf,cond_true,show ((0:Int)==0)=true from rfl,Option.bind_some,cond_true]
      show (((subL st.Ret 0 ((st.Ret.length-1:Nat):Int)).bind _).bind _).bind _=_
      rw[es]
      simp[dat,retS,hf]
end Go.Proofs.YtofjeimkphojaaaGreatDoor
namespace Go.Proofs.YtofjeimkphojaaaGreatDoor
open Go Go.Fm
set_option maxRecDepth 100000
theorem last_some {st:GSt} {t:GSlot} (hl:st.Ret.getLast? = some t) (hr:st.Ret.length<=24):0 < st.Ret.length/\IntKind.wrap .i64 ((st.Ret.length:Int)-1)=((st.Ret.length-1:Nat):Int)/\getI st.Ret ((st.Ret.length-1:Nat):Int)=some t/\subL st.Ret 0 ((st.Ret.length-1:Nat):Int)=some st.Ret.dropLast:=by
 have hpos:0 < st.Ret.length:=by cases hR:st.Ret with
  | nil=>rw[hR]at hl;cases hl
  | cons a r=>simp
 exact ⟨hpos,by rw[wI64 (by omega) (by omega)];omega,by rw[getI_nat,<-List.getLast?_eq_getElem?,hl],by rw[subL_take (by omega) (by omega),Int.toNat_natCast,List.dropLast_eq_take]⟩
theorem word20 {st:GSt} (h:SG st) (hf:st.Fault=0):Both st 20:=by
 refine word_back h hf (b:=true) nm20 rfl wa20 ta20 (λ _ _=>rfl) (λ _ _=>rfl) (λ t hl => ?_) (λ h0 => ?_)
 ·obtain ⟨hpos,hw1,eg,es⟩:=last_some hl h.b.r
  have e:g_impl_St_effect [112,111,112] (xOf st) (yOf st) st=((cond (decide ((IntKind.wrap .i64 ((st.Ret.length:Int)-1)) < 0)) (some (Sum.inr ([],3,st))) (((getI st.Ret (IntKind.wrap .i64 ((st.Ret.length:Int)-1))).bind λ v_29=>cond (v_29.Kind != 0) (some true) ((getI st.Ret (IntKind.wrap .i64 ((st.Ret.length:Int)-1))).bind λ v_30=>some (v_30.Kind==2)):Option Bool).bind λ v_28=>cond v_28 (some (Sum.inr ([],11,st))) ((getI st.Ret (IntKind.wrap .i64 ((st.Ret.length:Int)-1))).bind λ v_32=>(((subL st.Ret 0 (IntKind.wrap .i64 ((st.Ret.length:Int)-1))).bind λ v_41=>some (retS st v_41):Option GSt)).bind λ x_40=>some (Sum.inr ([v_32.N],0,x_40)))):Option (GSt ⊕ (List Int×Int×GSt))).bind λ o=>match o with | .inl x_8=>some ([],0,x_8) | .inr (v_9,v_10,x_11)=>some (v_9,v_10,x_11)):=rfl
  rw[e,hw1,decide_eq_false (by omega),cond_false,eg,es]
  simp only[Option.bind_some]
  by_cases h0:t.Kind=0
  ·rw[show (t.Kind != 0)=false by simp[h0],cond_false,Option.bind_some,show (t.Kind==2)=false by simp[h0],cond_false,if_neg (by omega)]
   rfl
  ·rw[show (t.Kind != 0)=true by simp[h0],cond_true,Option.bind_some,cond_true,if_pos (by simp[h0])]
   rfl
 ·show ((cond (decide ((IntKind.wrap .i64 ((st.Ret.length:Int)-1)) < 0)) _ _:Option (GSt ⊕ (List Int×Int×GSt)))).bind _=_
  rw[h0];rfl
theorem word21 {st:GSt} (h:SG st) (hf:st.Fault=0):Both st 21:=by
 refine word_back h hf (b:=false) nm21 rfl wa21 ta21 (λ _ _=>rfl) (λ _ _=>rfl) (λ t hl => ?_) (λ h0 => ?_)
 ·obtain ⟨hpos,hw1,eg,es⟩:=last_some hl h.b.r
  have e:g_impl_St_effect [105] (xOf st) (yOf st) st=((cond (decide ((IntKind.wrap .i64 ((st.Ret.length:Int)-1)) < 0)) (some (Sum.inr ([],3,st))) (((getI st.Ret (IntKind.wrap .i64 ((st.Ret.length:Int)-1))).bind λ v_31=>some (v_31.Kind==2):Option Bool).bind λ v_28=>cond v_28 (some (Sum.inr ([],11,st))) ((getI st.Ret (IntKind.wrap .i64 ((st.Ret.length:Int)-1))).bind λ v_32=>(some st:Option GSt).bind λ x_40=>some (Sum.inr ([v_32.N],0,x_40)))):Option (GSt ⊕ (List Int×Int×GSt))).bind λ o=>match o with | .inl x_8=>some ([],0,x_8) | .inr (v_9,v_10,x_11)=>some (v_9,v_10,x_11)):=rfl
  rw[e,hw1,decide_eq_false (by omega),cond_false,eg]
  simp only[Option.bind_some]
  by_cases h0:t.Kind=2
  ·rw[show (t.Kind==2)=true by simp[h0],cond_true,if_pos (.inl h0)]
   rfl
  ·rw[show (t.Kind==2)=false by simp[h0],cond_false,if_neg (by simp[h0])]
   rfl
 ·show ((cond (decide ((IntKind.wrap .i64 ((st.Ret.length:Int)-1)) < 0)) _ _:Option (GSt ⊕ (List Int×Int×GSt)))).bind _=_
  rw[h0];rfl
theorem words {st:GSt} (h:SG st) (hf:st.Fault=0) {k:Int} (h0:0<=k) (h1:k<=23):Both st k:=by
 obtain ⟨n,rfl⟩:∃ n:Nat,k=n:=⟨k.toNat,by omega⟩
 have hn:n < 24:=by omega
 match n,hn with
 | 0,_=>exact word0 h hf
 | 1,_=>exact word1 h hf
 | 2,_=>exact word2 h hf
 | 3,_=>exact word3 h hf
 | 4,_=>exact word4 h hf
 | 5,_=>exact word5 h hf
 | 6,_=>exact word6 h hf
 | 7,_=>exact word7 h hf
 | 8,_=>exact word8 h hf
 | 9,_=>exact word9 h hf
 | 10,_=>exact word10 h hf
 | 11,_=>exact word11 h hf
 | 12,_=>exact word12 h hf
 | 13,_=>exact word13 h hf
 | 14,_=>exact word14 h hf
 | 15,_=>exact word15 h hf
 | 16,_=>exact word16 h hf
 | 17,_=>exact word17 h hf
 | 18,_=>exact word18 h hf
 | 19,_=>exact word19 h hf
 | 20,_=>exact word20 h hf
 | 21,_=>exact word21 h hf
 | 22,_=>exact word22 h hf
 | 23,_=>exact word23 h hf
def nameB (k:Int):Bool:=decide (0<=k/\k<=23)
theorem name_ne (k:Int):∃ s,g_spec_PrimName k=some s/\(s==[]) = !nameB k:=by
 unfold nameB
 by_cases h:0<=k/\k<=23
 ·rw[decide_eq_true h]
  obtain ⟨n,rfl⟩:∃ n:Nat,k=n:=⟨k.toNat,by omega⟩
  have hn:n < 24:=by omega
  match n,hn with
  | 0,_=>exact ⟨_,nm0,rfl⟩
  | 1,_=>exact ⟨_,nm1,rfl⟩
  | 2,_=>exact ⟨_,nm2,rfl⟩
  | 3,_=>exact ⟨_,nm3,rfl⟩
  | 4,_=>exact ⟨_,nm4,rfl⟩
  | 5,_=>exact ⟨_,nm5,rfl⟩
  | 6,_=>exact ⟨_,nm6,rfl⟩
  | 7,_=>exact ⟨_,nm7,rfl⟩
  | 8,_=>exact ⟨_,nm8,rfl⟩
  | 9,_=>exact ⟨_,nm9,rfl⟩
  | 10,_=>exact ⟨_,nm10,rfl⟩
  | 11,_=>exact ⟨_,nm11,rfl⟩
  | 12,_=>exact ⟨_,nm12,rfl⟩
  | 13,_=>exact ⟨_,nm13,rfl⟩
  | 14,_=>exact ⟨_,nm14,rfl⟩
  | 15,_=>exact ⟨_,nm15,rfl⟩
  | 16,_=>exact ⟨_,nm16,rfl⟩
  | 17,_=>exact ⟨_,nm17,rfl⟩
  | 18,_=>exact ⟨_,nm18,rfl⟩
  | 19,_=>exact ⟨_,nm19,rfl⟩
  | 20,_=>exact ⟨_,nm20,rfl⟩
  | 21,_=>exact ⟨_,nm21,rfl⟩
  | 22,_=>exact ⟨_,nm22,rfl⟩
  | 23,_=>exact ⟨_,nm23,rfl⟩
 ·rw[decide_eq_false h]
  refine ⟨[],?_,rfl⟩
  unfold g_spec_PrimName g_spec_l08Names
  simp only[Option.bind_some]
  rw[specIn_eq]
  have:¬(0<=k/\k<=IntKind.wrap .i64 ((24:Int)-1)):=by rw[wI64 (by omega) (by omega)];omega
  show (some (decide (0<=k/\k<=IntKind.wrap .i64 ((24:Int)-1)))).bind _=_
  rw[decide_eq_false this];rfl
instance (x:Int):Decidable (i32B x):=inferInstanceAs (Decidable (_/\_))
def insB (n:Int) (i:GIns):Bool :=
 if i.Op=0 then decide (i32B i.N) else if i.Op=1 then nameB i.N else if i.Op=2\/i.Op=3\/i.Op=4\/i.Op=5\/i.Op=7 then decide (0<=i.N/\i.N<=n-1) else if i.Op=6\/i.Op=8\/i.Op=9 then decide (i.N=0) else false
end Go.Proofs.YtofjeimkphojaaaGreatDoor
namespace Go.Proofs.YtofjeimkphojaaaGreatDoor
open Go Go.Fm
set_option maxRecDepth 100000
def codeB (l:List GIns):Bool:=decide (1<=l.length/\l.length<=1500)&&(decide ((l.getLast?.map (·.Op))=some 9)&&l.all (insB l.length))
theorem beqD (a b:Int):(a==b)=decide (a=b):=by
 by_cases h:a=b<;>simp[h]
theorem spec_ins {n:Int} (hn:n<=1500) (h0:1<=n) (i:GIns):((cond (i.Op==0) ((g_spec_l01In i.N (-2147483648) 2147483647).bind λ y_13=>some y_13) (cond (i.Op==1) ((g_spec_PrimName i.N).bind λ y_14=>some (y_14 != [])) ((cond (i.Op==2) (some (i.Op==2)) (cond (i.Op==3) (some (i.Op==3)) (cond (i.Op==4) (some (i.Op==4)) (cond (i.Op==5) (some (i.Op==5)) (some (i.Op==7))))):Option (Bool)).bind λ v_15=>cond v_15 ((g_spec_l01In i.N 0 (IntKind.wrap .i64 (n-1))).bind λ y_16=>some y_16) ((cond (i.Op==6) (some (i.Op==6)) (cond (i.Op==8) (some (i.Op==8)) (some (i.Op==9))):Option (Bool)).bind λ v_17=>cond v_17 (some (i.N==0)) (some false)))):Option (Bool)))=some (insB n i):=by
 obtain ⟨s,e1,e2⟩:=name_ne i.N
 unfold insB
 rw[specIn_eq,specIn_eq,e1,wI64 (by omega) (by omega),beqD,beqD,beqD,beqD,beqD,beqD,beqD,beqD,beqD,beqD,beqD]
 by_cases o0:i.Op=0
 ·rw[decide_eq_true o0,if_pos o0];rfl
 rw[decide_eq_false o0,if_neg o0,cond_false]
 by_cases o1:i.Op=1
 ·rw[decide_eq_true o1,if_pos o1,cond_true,Option.bind_some,bne,e2,Bool.not_not]
 rw[decide_eq_false o1,if_neg o1,cond_false]
 by_cases o2:i.Op=2\/i.Op=3\/i.Op=4\/i.Op=5\/i.Op=7
 ·rw[if_pos o2]
  have:(cond (decide (i.Op=2)) (some (decide (i.Op=2))) (cond (decide (i.Op=3)) (some (decide (i.Op=3))) (cond (decide (i.Op=4)) (some (decide (i.Op=4))) (cond (decide (i.Op=5)) (some (decide (i.Op=5))) (some (decide (i.Op=7)))))):Option Bool)=some true:=by
   rcases o2 with h|h|h|h|h<;>rw[h]<;>rfl
  rw[this];rfl
 ·rw[if_neg o2]
  have:(cond (decide (i.Op=2)) (some (decide (i.Op=2))) (cond (decide (i.Op=3)) (some (decide (i.Op=3))) (cond (decide (i.Op=4)) (some (decide (i.Op=4))) (cond (decide (i.Op=5)) (some (decide (i.Op=5))) (some (decide (i.Op=7)))))):Option Bool)=some false:=by
   rw[decide_eq_false (by omega),decide_eq_false (by omega),decide_eq_false (by omega),decide_eq_false (by omega),decide_eq_false (by omega)];rfl
  rw[this,Option.bind_some,cond_false]
  by_cases o6:i.Op=6\/i.Op=8\/i.Op=9
  ·rw[if_pos o6]
   have:(cond (decide (i.Op=6)) (some (decide (i.Op=6))) (cond (decide (i.Op=8)) (some (decide (i.Op=8))) (some (decide (i.Op=9)))):Option Bool)=some true:=by
    rcases o6 with h|h|h<;>rw[h]<;>rfl
   rw[this];rfl
  ·rw[if_neg o6,decide_eq_false (by omega),decide_eq_false (by omega),decide_eq_false (by omega)];rfl
theorem impl_ins {n:Int} (hn:n<=1500) (h0:1<=n) (i:GIns) (hi:i64B i.N):g_impl_CodeOkc1 i n=some (!insB n i):=by
 obtain ⟨s,e1,e2⟩:=name_ne i.N
 unfold insB g_impl_CodeOkc1
 rw[within_eq,name_eq,e1,wI64 (x:=n-1) (by omega) (by omega),beqD,beqD,beqD,beqD,beqD,beqD,beqD,beqD,beqD,beqD]
 have c2:(cond (decide (i.Op=2)) (some (decide (i.Op=2))) (cond (decide (i.Op=3)) (some (decide (i.Op=3))) (cond (decide (i.Op=4)) (some (decide (i.Op=4))) (cond (decide (i.Op=5)) (some (decide (i.Op=5))) (some (decide (i.Op=7)))))):Option Bool)=some (decide (i.Op=2\/i.Op=3\/i.Op=4\/i.Op=5\/i.Op=7)):=by
  by_cases o2:i.Op=2\/i.Op=3\/i.Op=4\/i.Op=5\/i.Op=7
  ·rw[decide_eq_true o2];rcases o2 with h|h|h|h|h<;>rw[h]<;>rfl
  ·rw[decide_eq_false o2,decide_eq_false (by omega),decide_eq_false (by omega),decide_eq_false (by omega),decide_eq_false (by omega),decide_eq_false (by omega)];rfl
 have c6:(cond (decide (i.Op=6)) (some (decide (i.Op=6))) (cond (decide (i.Op=8)) (some (decide (i.Op=8))) (some (decide (i.Op=9)))):Option Bool)=some (decide (i.Op=6\/i.Op=8\/i.Op=9)):=by
  by_cases o6:i.Op=6\/i.Op=8\/i.Op=9
  ·rw[decide_eq_true o6];rcases o6 with h|h|h<;>rw[h]<;>rfl
  ·rw[decide_eq_false o6,decide_eq_false (by omega),decide_eq_false (by omega),decide_eq_false (by omega)];rfl
 rw[c2,c6]
 simp only[Option.bind_some]
 by_cases o2:i.Op=2\/i.Op=3\/i.Op=4\/i.Op=5\/i.Op=7
 ·rw[decide_eq_true o2,cond_true,if_neg (by omega),if_neg (by omega),if_pos o2];rfl
 rw[decide_eq_false o2,cond_false,if_neg o2]
 by_cases o0:i.Op=0
 ·rw[decide_eq_true o0,if_pos o0,cond_true]
  have:(i.N != IntKind.wrap .i64 (IntKind.wrap .i32 i.N)) = !decide (i32B i.N):=by
   have hb:=wI32_bd i.N
   rw[wI64 (by omega) (by omega)]
   by_cases hh:i32B i.N
   ·rw[decide_eq_true hh,wI32 (by unfold i32B at hh;omega) (by unfold i32B at hh;omega)];simp
   ·rw[decide_eq_false hh]
    have:i.N≠IntKind.wrap .i32 i.N:=λ e=>hh (e▸i32w _)
    simp[this]
  rw[this];rfl
 rw[decide_eq_false o0,if_neg o0,cond_false]
 by_cases o1:i.Op=1
 ·rw[decide_eq_true o1,if_pos o1,cond_true,e2];rfl
 rw[decide_eq_false o1,if_neg o1,cond_false]
 by_cases o6:i.Op=6\/i.Op=8\/i.Op=9
 ·rw[decide_eq_true o6,if_pos o6,cond_true]
  by_cases hz:i.N=0<;>simp[hz]
 ·rw[decide_eq_false o6,if_neg o6];rfl
theorem last_op {l:List GIns} (h0:1<=l.length) (h1:l.length<=1500):∃ t,l.getLast? = some t/\getI l (IntKind.wrap .i64 ((l.length:Int)-1))=some t:=by
 refine ⟨l[l.length-1],?_,?_⟩
 ·rw[List.getLast?_eq_getElem?,List.getElem?_eq_getElem (by omega)]
 ·rw[wI64 (by omega) (by omega),show (l.length:Int)-1=((l.length-1:Nat):Int) by omega,getI_nat,List.getElem?_eq_getElem (by omega)]
theorem spec_code {l:List GIns} (hl:l.length<=1048576):g_spec_CodeOk l=some (codeB l):=by
 unfold g_spec_CodeOk codeB
 rw[specIn_eq]
 by_cases h:1<=l.length/\l.length<=1500
 ·obtain ⟨t,e1,e2⟩:=last_op h.1 h.2
  rw[decide_eq_true (p:=(1:Int)<=(l.length:Int)/\(l.length:Int)<=1500) (by omega),decide_eq_true h,e2,e1]
  simp only[Option.bind_some,Bool.not_true,cond_false,Option.map_some,Bool.true_and]
  by_cases h9:t.Op=9
  ·rw[show (t.Op != 9)=false by simp[h9],cond_false,decide_eq_true (by rw[h9]),Bool.true_and]
   have:=allLoop (L:=l) (bad:=false) (λ _ i=>insB l.length i) (g_spec_CodeOk_l0 l (l.length:Int)) (λ k n x hx hn=>by
    rw[g_spec_CodeOk_l0,decide_eq_true (by omega),cond_true,getI_nat,hx,Option.bind_some,spec_ins (by omega) (by omega),Option.bind_some,nxt (by omega)]
    cases insB l.length x<;>rfl) (λ k n hn=>by rw[g_spec_CodeOk_l0,decide_eq_false (by omega),cond_false]) (by omega)
   rw[this,allN_const]
   cases l.all (insB l.length)<;>rfl
  ·rw[show (t.Op != 9)=true by simp[h9],cond_true,decide_eq_false (by simpa using h9)];rfl
 ·rw[decide_eq_false (p:=(1:Int)<=(l.length:Int)/\(l.length:Int)<=1500) (by omega),decide_eq_false h];rfl
theorem impl_code {l:List GIns} (hl:l.length<=1048576) (hi:∀ i ∈ l,i64B i.N):g_impl_CodeOk l=some (codeB l):=by
 unfold g_impl_CodeOk codeB
 rw[within_eq]
 by_cases h:1<=l.length/\l.length<=1500
 ·obtain ⟨t,e1,e2⟩:=last_op h.1 h.2
  rw[decide_eq_true (p:=(1:Int)<=(l.length:Int)/\(l.length:Int)<=1500) (by omega),decide_eq_true h,e2,e1]
  simp only[Option.bind_some,Bool.not_true,cond_false,Option.map_some,Bool.true_and]
  by_cases h9:t.Op=9
  ·rw[show (t.Op != 9)=false by simp[h9],cond_false,decide_eq_true (by rw[h9]),Bool.true_and]
   have key:∀ (k n:Nat),n<=l.length->l.length-n < k->∃ o:Unit ⊕ Int,g_slices_IndexFunc_Ins_impl_CodeOkc1_l0 l (l.length:Int) (l.length:Int) k n=some o/\(match o with | .inl _=>(l.drop n).all (insB l.length)=true | .inr i=>0<=i/\(l.drop n).all (insB l.length)=false):=by
    intro k
    induction k with
    | zero=>intro n h0 h1;omega
    | succ k ih =>
     intro n h0 h1
     rw[g_slices_IndexFunc_Ins_impl_CodeOkc1_l0]
     by_cases hn:n < l.length
     ·have hd:l.drop n=l[n]::l.drop (n+1):=List.drop_eq_getElem_cons hn
      rw[decide_eq_true (by omega),cond_true,getI_nat,List.getElem?_eq_getElem hn,Option.bind_some,impl_ins (by omega) (by omega) _ (hi _ (List.getElem_mem hn)),Option.bind_some]
      cases hb:insB l.length l[n] with
      | false =>
       refine ⟨_,rfl,by omega,?_⟩
       rw[hd,List.all_cons,hb];rfl
      | true =>
       rw[Bool.not_true,cond_false,nxt (by omega)]
       obtain ⟨o,g1,g2⟩:=ih (n+1) (by omega) (by omega)
       refine ⟨o,g1,?_⟩
       rw[hd,List.all_cons,hb,Bool.true_and];exact g2
     ·rw[decide_eq_false (by omega),cond_false,List.drop_eq_nil_of_le (by omega)]
      exact ⟨_,rfl,rfl⟩
   obtain ⟨o,g1,g2⟩:=key bigK 0 (Nat.zero_le _) (by unfold bigK;omega)
   rw[Int.natCast_zero]at g1
   rw[List.drop_zero]at g2
   unfold g_slices_ContainsFunc_Ins_impl_CodeOkc1 g_slices_IndexFunc_Ins_impl_CodeOkc1
   rw[g1]
   cases o with
   | inl u=>rw[show l.all (insB l.length)=true from g2];rfl
   | inr i=>simp only[Option.bind_some];rw[g2.2,decide_eq_true g2.1];rfl
  ·rw[show (t.Op != 9)=true by simp[h9],cond_true,decide_eq_false (by simpa using h9)];rfl
 ·rw[decide_eq_false (p:=(1:Int)<=(l.length:Int)/\(l.length:Int)<=1500) (by omega),decide_eq_false h];rfl
structure CG (l:List GIns):Prop where
 n:1<=l.length/\l.length<=1500
 last:l.getLast?.map (·.Op)=some 9
 all:∀ i ∈ l,insB l.length i=true
theorem CG.of {l:List GIns} (h:codeB l=true):CG l:=by
 unfold codeB at h
 simp only[Bool.and_eq_true,decide_eq_true_eq,List.all_eq_true]at h
 exact ⟨h.1,h.2.1,h.2.2⟩
end Go.Proofs.YtofjeimkphojaaaGreatDoor
namespace Go.Proofs.YtofjeimkphojaaaGreatDoor
open Go Go.Fm
set_option maxRecDepth 100000
def fuelS (st:GSt):GSt:=⟨st.Data,st.Ret,st.A,st.Mem,st.Cells,st.Vars,st.Out,st.In,st.Fault,st.Fuel-1⟩
theorem SG.fuel {st:GSt} (h:SG st) (hu:st.Fuel≠0):SG (fuelS st) :=
 ⟨⟨h.b.d,h.b.r,h.b.m,h.b.v,h.b.o,h.b.i,h.b.rk,h.b.vb,h.b.c,h.b.cl,h.b.f,by have:=h.b.u;exact ⟨by show 0<=st.Fuel-1;omega,by show st.Fuel-1<=4000;omega⟩⟩,h.d,h.m,h.a,h.r⟩
def goM (m:GMach) (st:GSt) (next:Int):GMach:=⟨st,if st.Fault=0 then next else m.At,false⟩
theorem to_eq (m:GMach) (st:GSt) (n:Int):g_spec_l12To m st n=some (goM m st n):=by
 unfold g_spec_l12To goM
 by_cases h:st.Fault=0
 ·rw[show (st.Fault != 0)=false by simp[h],if_pos h];rfl
 ·rw[show (st.Fault != 0)=true by simp[h],if_neg h];rfl
theorem fin_eq {m:GMach} {st:GSt} {n:Int}:(cond (st.Fault==0) (some (⟨st,n,false⟩:GMach)) (some (⟨st,m.At,false⟩:GMach)):Option GMach)=some (goM m st n):=by
 unfold goM
 by_cases h:st.Fault=0
 ·rw[show (st.Fault==0)=true by simp[h],if_pos h];rfl
 ·rw[show (st.Fault==0)=false by simp[h],if_neg h];rfl
theorem goM_flt (m:GMach) (st:GSt) {f:Int} (hf:f≠0) (a b:Int):goM m (flt st f) a=goM m (flt st f) b:=by
 unfold goM
 rw[if_neg (by exact hf),if_neg (by exact hf)]
theorem l12put_eq {st:GSt} (h:SB st) (s:GSlot):g_spec_l12Put st s=some (if st.Ret.length=24 then flt st 3 else retS st (st.Ret++[s])):=by
 have:=h.r
 unfold g_spec_l12Put
 rw[spec_flt h,copyS h]
 by_cases h0:st.Ret.length=24
 ·rw[show ((st.Ret.length:Int)==24)=true by rw[h0];rfl,if_pos h0];rfl
 ·rw[show ((st.Ret.length:Int)==24)=false by rw[beq_eq_false_iff_ne];omega,if_neg h0,cond_false,Option.bind_some,app_eq (by simp;omega)];rfl
theorem drop_eq {st:GSt} (h:SB st) (hp:0 < st.Ret.length):g_spec_l12Drop st=some (retS st st.Ret.dropLast):=by
 have:=h.r
 unfold g_spec_l12Drop
 rw[copyS h,Option.bind_some,show IntKind.wrap .i64 ((st.Ret.length:Int)-1)=((st.Ret.length-1:Nat):Int) by rw[wI64 (by omega) (by omega)];omega,subL_take (by omega) (by omega),Int.toNat_natCast,<-List.dropLast_eq_take];rfl
theorem pushes_eq {st:GSt} (h:SB st) (n a:Int) (d:Bool):g_impl_St_pushes_inGMach_0 n (⟨st,a,d⟩:GMach)=some ⟨putS st st 0 [n],a,d⟩:=by
 have:=h.d
 unfold g_impl_St_pushes_inGMach_0 putS
 by_cases h0:st.Data.length=16
 ·rw[if_pos (by simp;omega)]
  show cond ((st.Data.length:Int)==16) _ _=_
  rw[show ((st.Data.length:Int)==16)=true by rw[h0];rfl];rfl
 ·rw[if_neg (by simp;omega)]
  show cond ((st.Data.length:Int)==16) _ ((app st.Data [n]).bind _)=_
  rw[show ((st.Data.length:Int)==16)=false by rw[beq_eq_false_iff_ne];omega,cond_false,app_eq (by simp;omega),Nat.sub_zero,List.take_length];rfl
theorem back_eq {st:GSt} (h:SB st) (n a:Int) (d:Bool):g_impl_Mach_back n (⟨st,a,d⟩:GMach)=some (if st.Ret.length=24 then (false,⟨flt st 3,a,d⟩) else (true,⟨retS st (st.Ret++[⟨2,IntKind.wrap .i32 n⟩]),a,d⟩)):=by
 have:=h.r
 unfold g_impl_Mach_back
 by_cases h0:st.Ret.length=24
 ·rw[if_pos h0]
  show cond ((st.Ret.length:Int)==24) _ _=_
  rw[show ((st.Ret.length:Int)==24)=true by rw[h0];rfl];rfl
 ·rw[if_neg h0]
  show cond ((st.Ret.length:Int)==24) _ ((app st.Ret [(⟨2,IntKind.wrap .i32 n⟩:GSlot)]).bind _)=_
  rw[show ((st.Ret.length:Int)==24)=false by rw[beq_eq_false_iff_ne];omega,cond_false,app_eq (by simp;omega)];rfl
def forS (st:GSt):GSt:=if st.Data.length=0 then flt st 2 else if st.Ret.length=24 then flt st 3 else ⟨st.Data.dropLast,st.Ret++[⟨1,yOf st⟩],st.A,st.Mem,st.Cells,st.Vars,st.Out,st.In,st.Fault,st.Fuel⟩
theorem sub_last {st:GSt} (h:SB st) (hp:0 < st.Data.length):subL st.Data 0 (IntKind.wrap .i64 ((st.Data.length:Int)-1))=some st.Data.dropLast:=by
 have:=h.d
 rw[wI64 (by omega) (by omega),show (st.Data.length:Int)-1=((st.Data.length-1:Nat):Int) by omega,subL_take (by omega) (by omega),Int.toNat_natCast,<-List.dropLast_eq_take]
theorem begin_eq {st:GSt} (h:SB st) (a:Int) (d:Bool):g_impl_St_begin_inGMach_0 (⟨st,a,d⟩:GMach)=some ⟨forS st,a,d⟩:=by
 have:=h.d;have:=h.r
 unfold g_impl_St_begin_inGMach_0 forS
 show cond (decide ((IntKind.wrap .i64 ((st.Data.length:Int)-1)) < 0)) _ (cond ((st.Ret.length:Int)==24) _ ((getI st.Data (IntKind.wrap .i64 ((st.Data.length:Int)-1))).bind λ v_3=>(app st.Ret [(⟨1,v_3⟩:GSlot)]).bind λ v_4=>(subL st.Data 0 (IntKind.wrap .i64 ((st.Data.length:Int)-1))).bind _))=_
 by_cases h0:st.Data.length=0
 ·rw[if_pos h0,h0];rfl
 ·rw[if_neg h0,sub_last h (by omega),get_y h (by omega),wI64 (by omega) (by omega),decide_eq_false (by omega),cond_false]
  by_cases h1:st.Ret.length=24
  ·rw[if_pos h1,show ((st.Ret.length:Int)==24)=true by rw[h1];rfl];rfl
  ·rw[if_neg h1,show ((st.Ret.length:Int)==24)=false by rw[beq_eq_false_iff_ne];omega,cond_false,Option.bind_some,app_eq (by simp;omega)];rfl
theorem for_eq {st:GSt} (h:SB st) (hf:st.Fault=0) (m:GMach):∃ b,g_spec_l12For m st=some (goM m (forS st) b)/\((forS st).Fault=0->b=IntKind.wrap .i64 (m.At+1)):=by
 have:=h.d;have:=h.r
 unfold g_spec_l12For forS
 by_cases h0:st.Data.length=0
 ·rw[if_pos h0,h0,spec_flt h]
  exact ⟨0,by show ((some (flt st 2)).bind λ y_4=>(g_spec_l12To m y_4 0).bind λ y_5=>some y_5)=_;rw[Option.bind_some,to_eq];rfl,λ e=>by cases e⟩
 ·rw[if_neg h0,show ((st.Data.length:Int)==0)=false by rw[beq_eq_false_iff_ne];omega,cond_false,get_y h (by omega),Option.bind_some,l12put_eq h,Option.bind_some]
  by_cases h1:st.Ret.length=24
  ·rw[if_pos h1,if_pos h1]
   refine ⟨IntKind.wrap .i64 (m.At+1),?_,λ _=>rfl⟩
   show ((some (flt st 3):Option GSt).bind _)=_
   rw[Option.bind_some,to_eq];rfl
  ·rw[if_neg h1,if_neg h1]
   refine ⟨IntKind.wrap .i64 (m.At+1),?_,λ _=>rfl⟩
   show (((cond (st.Fault==0) ((subL st.Data 0 (IntKind.wrap .i64 ((st.Data.length:Int)-1))).bind _) _:Option GSt)).bind _)=_
   rw[hf,show ((0:Int)==0)=true from rfl,cond_true,sub_last h (by omega),Option.bind_some,Option.bind_some,to_eq,Option.bind_some]
   simp[retS,hf]
def lastR (st:GSt):GSlot:=if h:0 < st.Ret.length then st.Ret[st.Ret.length-1] else ⟨0,0⟩
theorem get_r {st:GSt} (h:SB st) (hp:0 < st.Ret.length):getI st.Ret (IntKind.wrap .i64 ((st.Ret.length:Int)-1))=some (lastR st):=by
 have:=h.r
 rw[wI64 (by omega) (by omega),show (st.Ret.length:Int)-1=((st.Ret.length-1:Nat):Int) by omega,getI_nat,List.getElem?_eq_getElem (by omega)]
 unfold lastR;rw[dif_pos hp]
theorem sub_r {st:GSt} (h:SB st) (hp:0 < st.Ret.length):subL st.Ret 0 (IntKind.wrap .i64 ((st.Ret.length:Int)-1))=some st.Ret.dropLast:=by
 have:=h.r
 rw[wI64 (by omega) (by omega),show (st.Ret.length:Int)-1=((st.Ret.length-1:Nat):Int) by omega,subL_take (by omega) (by omega),Int.toNat_natCast,<-List.dropLast_eq_take]
theorem lastR_mem {st:GSt} (hp:0 < st.Ret.length):lastR st ∈ st.Ret:=by unfold lastR;rw[dif_pos hp];exact List.getElem_mem _
def decR (st:GSt):GSt:=retS st (st.Ret.set (st.Ret.length-1) ⟨(lastR st).Kind,IntKind.wrap .i32 ((lastR st).N-1)⟩)
def nextS (st:GSt):Bool×GSt:=if st.Ret.length=0 then (false,flt st 3) else if (lastR st).Kind≠1 then (false,flt st 11) else if IntKind.wrap .i32 ((lastR st).N-1) > 0 then (true,decR st) else (false,retS st st.Ret.dropLast)
theorem again_eq {st:GSt} (h:SB st) (a:Int) (d:Bool):g_impl_St_again_inGMach_0 (⟨st,a,d⟩:GMach)=some ((nextS st).1,⟨(nextS st).2,a,d⟩):=by
 have:=h.r
 unfold g_impl_St_again_inGMach_0 nextS
 show cond (decide ((IntKind.wrap .i64 ((st.Ret.length:Int)-1)) < 0)) _ ((getI st.Ret (IntKind.wrap .i64 ((st.Ret.length:Int)-1))).bind λ v_4=>cond (v_4.Kind != 1) _ ((getI st.Ret (IntKind.wrap .i64 ((st.Ret.length:Int)-1))).bind λ v_5=>cond (decide ((IntKind.wrap .i32 (v_5.N-1)) > 0)) ((getI st.Ret (IntKind.wrap .i64 ((st.Ret.length:Int)-1))).bind λ v_6=>some (true,(⟨(⟨st.Data,st.Ret.set (IntKind.wrap .i64 ((st.Ret.length:Int)-1)).toNat (⟨v_6.Kind,IntKind.wrap .i32 (v_5.N-1)⟩:GSlot),st.A,st.Mem,st.Cells,st.Vars,st.Out,st.In,st.Fault,st.Fuel⟩:GSt),a,d⟩:GMach))) ((subL st.Ret 0 (IntKind.wrap .i64 ((st.Ret.length:Int)-1))).bind _)))=_
 by_cases h0:st.Ret.length=0
 ·rw[if_pos h0,h0];rfl
 ·rw[if_neg h0,get_r h (by omega),sub_r h (by omega),wI64 (by omega) (by omega),decide_eq_false (by omega),cond_false,Option.bind_some]
  by_cases h1:(lastR st).Kind=1
  ·rw[if_neg (by simp[h1]),show ((lastR st).Kind != 1)=false by simp[h1],cond_false,Option.bind_some]
   by_cases h2:IntKind.wrap .i32 ((lastR st).N-1) > 0
   ·rw[if_pos h2,decide_eq_true h2,cond_true,Option.bind_some]
    unfold decR
    rw[show ((st.Ret.length:Int)-1).toNat=st.Ret.length-1 by omega];rfl
   ·rw[if_neg h2,decide_eq_false h2,cond_false];rfl
  ·rw[if_pos h1,show ((lastR st).Kind != 1)=true by simp[h1]];rfl
theorem dropLast_set {α:Type} (l:List α) (x:α):(l.set (l.length-1) x).dropLast=l.dropLast:=by
 rw[List.dropLast_eq_take,List.dropLast_eq_take,List.length_set,List.take_set_of_le (Nat.le_refl _)]
theorem SG.dec {st:GSt} (h:SG st) (hp:0 < st.Ret.length):SG (decR st):=by
 refine h.ret (by rw[List.length_set];exact h.b.r) (λ s hs => ?_) (λ s hs => ?_)
 ·rcases List.mem_or_eq_of_mem_set hs with hs|rfl
  ·exact h.b.rk s hs
  ·show 0<=(lastR st).Kind/\(lastR st).Kind<=2
   exact h.b.rk (lastR st) (lastR_mem hp)
 ·rcases List.mem_or_eq_of_mem_set hs with hs|rfl
  ·exact h.r s hs
  ·exact i32w _
theorem next_eq {st:GSt} (h:SG st) (hf:st.Fault=0) (m:GMach) (to:Int):∃ b,g_spec_l12Next m st to=some (goM m (nextS st).2 b)/\((nextS st).2.Fault=0->b=if (nextS st).1=true then to else IntKind.wrap .i64 (m.At+1)):=by
 have:=h.b.r
 unfold g_spec_l12Next nextS
 by_cases h0:st.Ret.length=0
 ·rw[if_pos h0,h0,spec_flt h.b]
  exact ⟨0,by show ((some (flt st 3)).bind λ y_4=>(g_spec_l12To m y_4 0).bind λ y_5=>some y_5)=_;rw[Option.bind_some,to_eq];rfl,λ e=>by cases e⟩
 ·rw[if_neg h0,show ((st.Ret.length:Int)==0)=false by rw[beq_eq_false_iff_ne];omega,cond_false,get_r h.b (by omega),Option.bind_some]
  by_cases h1:(lastR st).Kind=1
  ·rw[if_neg (by simp[h1]),show ((lastR st).Kind != 1)=false by simp[h1],cond_false,copyS h.b,Option.bind_some,get_r h.b (by omega),Option.bind_some,Option.bind_some]
   have hw:IntKind.wrap .i64 ((st.Ret.length:Int)-1)=((st.Ret.length-1:Nat):Int):=by rw[wI64 (by omega) (by omega)];omega
   rw[hw,Int.toNat_natCast,getI_nat,List.getElem?_set_self (by omega),Option.bind_some]
   show ∃ b,cond (decide (IntKind.wrap .i32 ((lastR st).N-1) > 0)) ((g_spec_l12To m (decR st) to).bind λ y_14=>some y_14) ((g_spec_l12Drop (decR st)).bind λ y_15=>(g_spec_l12To m y_15 (IntKind.wrap .i64 (m.At+1))).bind λ y_16=>some y_16)=_/\_
   by_cases h2:IntKind.wrap .i32 ((lastR st).N-1) > 0
   ·rw[if_pos h2,decide_eq_true h2,cond_true,to_eq]
    exact ⟨to,rfl,λ _=>rfl⟩
   ·rw[if_neg h2,decide_eq_false h2,cond_false,drop_eq (h.dec (by omega)).b (by show 0 < (st.Ret.set _ _).length;rw[List.length_set];omega),Option.bind_some,to_eq]
    refine ⟨IntKind.wrap .i64 (m.At+1),?_,λ _=>rfl⟩
    show some (goM m (retS (decR st) (st.Ret.set (st.Ret.length-1) _).dropLast) _)=_
    rw[dropLast_set];rfl
  ·rw[if_pos h1,show ((lastR st).Kind != 1)=true by simp[h1],cond_true,spec_flt h.b]
   exact ⟨0,by show ((some (flt st 11)).bind λ y_4=>(g_spec_l12To m y_4 0).bind λ y_5=>some y_5)=_;rw[Option.bind_some,to_eq];rfl,λ e=>by cases e⟩
def retR (n at_:Int) (st:GSt):GSt×Int×Bool:=if st.Ret.length=0\/(lastR st).Kind≠2 then (flt st 11,at_,false) else if (lastR st).N = -1 then (retS st st.Ret.dropLast,at_,true) else if 0<=(lastR st).N/\(lastR st).N<=n-1 then (retS st st.Ret.dropLast,(lastR st).N,false) else (flt st 11,at_,false)
theorem leave_eq {st:GSt} (h:SG st) {code:List GIns} (hn:code.length<=1500) (a:Int):g_impl_Mach_leave_own code (⟨st,a,false⟩:GMach)=some ((retR code.length a st).2.1,⟨(retR code.length a st).1,a,(retR code.length a st).2.2⟩):=by
 have:=h.b.r
 unfold g_impl_Mach_leave_own retR
 show ((cond (decide ((IntKind.wrap .i64 ((st.Ret.length:Int)-1)) < 0)) (some true) ((getI st.Ret (IntKind.wrap .i64 ((st.Ret.length:Int)-1))).bind λ v_6=>some (v_6.Kind != 2)):Option Bool).bind λ v_5=>cond v_5 _ ((getI st.Ret (IntKind.wrap .i64 ((st.Ret.length:Int)-1))).bind λ v_7=>(cond ((IntKind.wrap .i64 v_7.N) != (-1)) ((g_impl_within (IntKind.wrap .i64 v_7.N) 0 (IntKind.wrap .i64 ((code.length:Int)-1))).bind λ y_9=>some (!y_9)) (some false):Option (Bool)).bind λ v_8=>cond v_8 _ ((subL st.Ret 0 (IntKind.wrap .i64 ((st.Ret.length:Int)-1))).bind _)))=_
 by_cases h0:st.Ret.length=0
 ·rw[if_pos (.inl h0),h0];rfl
 have hN:=h.r _ (lastR_mem (st:=st) (by omega))
 unfold i32B at hN
 rw[get_r h.b (by omega),sub_r h.b (by omega),wI64 (x:=(st.Ret.length:Int)-1) (by omega) (by omega),decide_eq_false (by omega),cond_false,Option.bind_some,Option.bind_some]
 by_cases h1:(lastR st).Kind=2
 ·rw[if_neg (by simp[h0,h1]),show ((lastR st).Kind != 2)=false by simp[h1],cond_false,Option.bind_some,wI64 (x:=(lastR st).N) (by omega) (by omega),within_eq,wI64 (by omega) (by omega)]
  by_cases h2:(lastR st).N = -1
  ·rw[if_pos h2,h2];rfl
  ·rw[if_neg h2,show ((lastR st).N != -1)=true by simp[h2],cond_true,Option.bind_some,Option.bind_some,show ((lastR st).N == -1)=false by simp[h2]]
   by_cases h3:0<=(lastR st).N/\(lastR st).N<=(code.length:Int)-1
   ·rw[if_pos h3,decide_eq_true h3];rfl
   ·rw[if_neg h3,decide_eq_false h3];rfl
 ·rw[if_pos (.inr h1),show ((lastR st).Kind != 2)=true by simp[h1]];rfl
theorem retS_eq {st:GSt} (h:SG st) (hf:st.Fault=0) {n:Int} (hn:1<=n/\n<=1500) (m:GMach):g_spec_l12Ret m st n=some ⟨(retR n m.At st).1,(if (retR n m.At st).1.Fault=0 then (retR n m.At st).2.1 else m.At),(retR n m.At st).2.2⟩:=by
 have:=h.b.r
 unfold g_spec_l12Ret retR
 by_cases h0:st.Ret.length=0
 ·rw[if_pos (.inl h0),h0]
  show ((g_spec_l08Fault st 11).bind λ y_7=>(g_spec_l12To m y_7 0).bind λ y_8=>some y_8)=_
  rw[spec_flt h.b,Option.bind_some,to_eq]
  rfl
 have hN:=h.r _ (lastR_mem (st:=st) (by omega))
 unfold i32B at hN
 rw[show ((st.Ret.length:Int)==0)=false by rw[beq_eq_false_iff_ne];omega,cond_false,get_r h.b (by omega),Option.bind_some,Option.bind_some,Option.bind_some]
 by_cases h1:(lastR st).Kind=2
 ·rw[if_neg (by simp[h0,h1]),show ((lastR st).Kind != 2)=false by simp[h1],cond_false,wI64 (x:=(lastR st).N) (by omega) (by omega),specIn_eq,wI64 (by omega) (by omega),drop_eq h.b (by omega),spec_flt h.b]
  by_cases h2:(lastR st).N = -1
  ·rw[if_pos h2,h2,show ((-1:Int) == -1)=true from rfl,cond_true,Option.bind_some]
   simp only[ite_self]
  ·rw[if_neg h2,show ((lastR st).N == -1)=false by simp[h2],cond_false,Option.bind_some]
   by_cases h3:0<=(lastR st).N/\(lastR st).N<=n-1
   ·rw[if_pos h3,decide_eq_true h3,Bool.not_true,cond_false,Option.bind_some,to_eq];rfl
   ·rw[if_neg h3,decide_eq_false h3,Bool.not_false,cond_true,Option.bind_some,to_eq];rfl
 ·rw[if_pos (.inr h1),show ((lastR st).Kind != 2)=true by simp[h1],cond_true,spec_flt h.b,Option.bind_some,to_eq];rfl
structure MG (code:List GIns) (m:GMach):Prop where
 s:SG m.St
 a:0<=m.At/\m.At < code.length
 d:m.Done=false
structure Step (code:List GIns) (m m':GMach):Prop where
 spec:g_spec_l12Step code m=some m'
 impl:g_impl_Mach_step code m=some m'
 s:SG m'.St
 a:0<=m'.At/\m'.At < code.length
 u:m'.St.Fault≠0\/m'.St.Fuel < m.St.Fuel
 f:∀ i,getI code m.At=some i->m'.St.Fuel=if i.Op≠9/\m.St.Fuel > 0 then m.St.Fuel-1 else m.St.Fuel
theorem step_both {code:List GIns} (hc:CG code) {m:GMach} (h:MG code m) (hf:m.St.Fault=0):∃ m',Step code m m':=by
 obtain ⟨hs,⟨ha0,ha1⟩,hd⟩:=h
 have hn:=hc.n
 have hlt:m.At.toNat < code.length:=by omega
 have eg:getI code m.At=some code[m.At.toNat]:=getI_int ha0 hlt
 have hmem:=hc.all _ (List.getElem_mem hlt)
 generalize hi:code[m.At.toNat]=i at eg hmem
 have hnext:i.Op≠9->m.At+1 < code.length:=λ h9=>by
  rcases Nat.lt_or_ge (m.At.toNat+1) code.length with g|g
  ·omega
  ·exfalso
   have hl:=hc.last
   rw[List.getLast?_eq_getElem?,show code.length-1=m.At.toNat by omega,List.getElem?_eq_getElem hlt,hi]at hl
   exact h9 (Option.some.inj hl)
 by_cases o9:i.Op=9
 ·refine ⟨goM m (flt m.St 10) 0,?_,?_,hs.flt (by omega) (by omega),?_, .inl (by show (10:Int)≠0;omega),λ x hx=>by
   rw[eg]at hx;cases hx
   rw[if_neg (λ h=>h.1 o9)];rfl⟩
  ·unfold g_spec_l12Step
   rw[eg,Option.bind_some,show (i.Op==9)=true by simp[o9],cond_true,spec_flt hs.b,Option.bind_some,to_eq];rfl
  ·unfold g_impl_Mach_step
   rw[eg,Option.bind_some,show (i.Op==9)=true by simp[o9],cond_true,hd];rfl
  ·show 0<=(if (10:Int)=0 then 0 else m.At)/\_
   rw[if_neg (by omega)];exact ⟨ha0,ha1⟩
 by_cases hu:m.St.Fuel=0
 ·refine ⟨goM m (flt m.St 6) 0,?_,?_,hs.flt (by omega) (by omega),?_, .inl (by show (6:Int)≠0;omega),λ x hx=>by
   rw[if_neg (λ h=>absurd h.2 (by omega))];rfl⟩
  ·unfold g_spec_l12Step
   rw[eg,Option.bind_some,show (i.Op==9)=false by simp[o9],cond_false,show (m.St.Fuel==0)=true by simp[hu],cond_true,spec_flt hs.b,Option.bind_some,to_eq];rfl
  ·unfold g_impl_Mach_step
   rw[eg,Option.bind_some,show (i.Op==9)=false by simp[o9],cond_false,show (m.St.Fuel==0)=true by simp[hu],cond_true,hd];rfl
  ·show 0<=(if (6:Int)=0 then 0 else m.At)/\_
   rw[if_neg (by omega)];exact ⟨ha0,ha1⟩
 have hs1:=hs.fuel hu
 have hub:=hs.b.u
 have hf1:(fuelS m.St).Fault=0:=hf
 have ew:IntKind.wrap .i64 (m.St.Fuel-1)=m.St.Fuel-1:=wI64 (by omega) (by omega)
 have ew1:IntKind.wrap .i64 (m.At+1)=m.At+1:=wI64 (by omega) (by omega)
 -- what is left: the state behind the step and the next place
 have close:∀ (st':GSt) (next:Int),SG st'->(st'.Fault=0->0<=next/\next < code.length)->st'.Fuel=m.St.Fuel-1->g_spec_l12Step code m=some (goM m st' next)->g_impl_Mach_step code m=some (goM m st' next)->∃ m',Step code m m':=λ st' next g1 g2 g3 g4 g5 =>
  ⟨goM m st' next,g4,g5,g1,by
   unfold goM;split
   ·rename_i h0;exact g2 h0
   ·exact ⟨ha0,ha1⟩, .inr (by show st'.Fuel < m.St.Fuel;omega),λ x hx=>by
    rw[eg]at hx;cases hx
    rw[if_pos ⟨o9,by omega⟩];exact g3⟩
 have specS:∀ R,((cond (i.Op==0) ((g_spec_PushN (fuelS m.St) (IntKind.wrap .i32 i.N)).bind λ y_10=>(g_spec_l12To m y_10 (m.At+1)).bind λ y_11=>some y_11) (cond (i.Op==1) ((g_spec_Do (fuelS m.St) i.N).bind λ y_12=>(g_spec_l12To m y_12 (m.At+1)).bind λ y_13=>some y_13) (cond (i.Op==2) ((g_spec_l12Put (fuelS m.St) (⟨2,IntKind.wrap .i32 (m.At+1)⟩:GSlot)).bind λ y_14=>(g_spec_l12To m y_14 i.N).bind λ y_15=>some y_15) (cond (i.Op==3) ((g_spec_l12To m (fuelS m.St) i.N).bind λ y_16=>some y_16) (cond (i.Op==6) ((g_spec_l12For m (fuelS m.St)).bind λ y_17=>some y_17) (cond (i.Op==7) ((g_spec_l12Next m (fuelS m.St) i.N).bind λ y_18=>some y_18) (cond (i.Op==8) ((g_spec_l12Ret m (fuelS m.St) (code.length:Int)).bind λ y_19=>some y_19) ((g_spec_l12Test m (fuelS m.St) i).bind λ y_20=>some y_20))))))):Option GMach))=R->g_spec_l12Step code m=R:=λ R hR=>by
  unfold g_spec_l12Step
  rw[eg,Option.bind_some,show (i.Op==9)=false by simp[o9],cond_false,show (m.St.Fuel==0)=false by simp[hu],cond_false,copyS hs.b,Option.bind_some,ew,ew1]
  exact hR
 have implS:∀ (st':GSt) (next:Int),((cond (i.Op==0) ((g_impl_St_pushes_inGMach_0 (IntKind.wrap .i32 i.N) (⟨fuelS m.St,m.At,false⟩:GMach)).bind λ y_7=>some (m.At+1,y_7)) (cond (i.Op==1) ((g_impl_does (fuelS m.St) i.N).bind λ y_8=>some (m.At+1,(⟨y_8,m.At,false⟩:GMach))) (cond (i.Op==2) ((g_impl_Mach_back (m.At+1) (⟨fuelS m.St,m.At,false⟩:GMach)).bind λ y_9=>cond y_9.1 (some (i.N,y_9.2)) (some (m.At+1,y_9.2))) (cond (i.Op==3) (some (i.N,(⟨fuelS m.St,m.At,false⟩:GMach))) ((cond (i.Op==4) (some (i.Op==4)) (some (i.Op==5)):Option (Bool)).bind λ v_10=>cond v_10 (cond (decide ((IntKind.wrap .i64 ((m.St.Data.length:Int)-1)) < 0)) (some (m.At+1,(⟨flt (fuelS m.St) 2,m.At,false⟩:GMach))) ((cond (i.Op==4) ((getI m.St.Data (IntKind.wrap .i64 ((m.St.Data.length:Int)-1))).bind λ v_12=>cond (v_12==0) (some true) (cond (i.Op==5) ((getI m.St.Data (IntKind.wrap .i64 ((m.St.Data.length:Int)-1))).bind λ v_13=>some (decide (v_13 ≥ 0))) (some false))) (cond (i.Op==5) ((getI m.St.Data (IntKind.wrap .i64 ((m.St.Data.length:Int)-1))).bind λ v_14=>some (decide (v_14 ≥ 0))) (some false)):Option (Bool)).bind λ v_11=>cond v_11 (some (i.N,(⟨fuelS m.St,m.At,false⟩:GMach))) (some (m.At+1,(⟨fuelS m.St,m.At,false⟩:GMach))))) (cond (i.Op==6) ((g_impl_St_begin_inGMach_0 (⟨fuelS m.St,m.At,false⟩:GMach)).bind λ y_15=>some (m.At+1,y_15)) (cond (i.Op==7) ((g_impl_St_again_inGMach_0 (⟨fuelS m.St,m.At,false⟩:GMach)).bind λ y_16=>cond y_16.1 (some (i.N,y_16.2)) (some (m.At+1,y_16.2))) (cond (i.Op==8) ((g_impl_Mach_leave_own code (⟨fuelS m.St,m.At,false⟩:GMach)).bind λ y_17=>some (y_17.1,y_17.2)) (some (m.At+1,(⟨fuelS m.St,m.At,false⟩:GMach)))))))))):Option (Int×GMach)))=some (next,⟨st',m.At,false⟩)->g_impl_Mach_step code m=some (goM m st' next):=λ st' next hR=>by
  unfold g_impl_Mach_step
  rw[eg,Option.bind_some,show (i.Op==9)=false by simp[o9],cond_false,show (m.St.Fuel==0)=false by simp[hu],cond_false,ew,ew1,hd]
  refine Eq.trans (congrArg (λ z:Option (Int×GMach)=>z.bind λ (next_5,x_6)=>cond (x_6.St.Fault==0) (some (⟨x_6.St,next_5,x_6.Done⟩:GMach)) (some x_6)) hR) ?_
  exact fin_eq
 have hN:∀ {α:Type} (x y:Option α),∀ c:Int,i.Op=c->∀ e:Int,cond (i.Op==e) x y=if c=e then x else y:=λ x y c hc e=>by
  rw[hc];by_cases h:c=e
  ·rw[if_pos h,h];simp
  ·rw[if_neg h,show (c==e)=false by simp[h]];rfl
 have hbN:i.Op=2\/i.Op=3\/i.Op=4\/i.Op=5\/i.Op=7->0<=i.N/\i.N < code.length:=λ ho=>by
  unfold insB at hmem
  rw[if_neg (by omega),if_neg (by omega),if_pos ho]at hmem
  have:=of_decide_eq_true hmem
  omega
 have hat:0<=m.At+1/\m.At+1 < code.length:=⟨by omega,hnext o9⟩
 have hop:i.Op=0\/i.Op=1\/i.Op=2\/i.Op=3\/(i.Op=4\/i.Op=5)\/i.Op=6\/i.Op=7\/i.Op=8:=by
  unfold insB at hmem
  by_cases a0:i.Op=0
  ·exact .inl a0
  rw[if_neg a0]at hmem
  by_cases a1:i.Op=1
  ·exact .inr (.inl a1)
  rw[if_neg a1]at hmem
  by_cases a2:i.Op=2\/i.Op=3\/i.Op=4\/i.Op=5\/i.Op=7
  ·omega
  rw[if_neg a2]at hmem
  by_cases a6:i.Op=6\/i.Op=8\/i.Op=9
  ·omega
  ·rw[if_neg a6]at hmem;cases hmem
 rcases hop with o|o|o|o|o|o|o|o
 ·-- CLit
  refine close (putS (fuelS m.St) (fuelS m.St) 0 [IntKind.wrap .i32 i.N]) (m.At+1) (hs1.put hs1 (λ x hx=>by rw[List.mem_singleton]at hx;subst hx;exact i32w _)) (λ _=>hat) (putS_fuel rfl _ _) (specS _ ?_) (implS _ _ ?_)
  ·rw[show (i.Op==0)=true by simp[o],cond_true]
   unfold g_spec_PushN
   rw[spec_st ⟨by have:=hs1.b.r;omega,by have:=hs1.b.v;omega⟩,stB_iff.2 hs1.b,Option.bind_some,Bool.not_true,cond_false,show ((fuelS m.St).Fault != 0)=false by simp[hf1],cond_false,put_0 hs1.b (by simp),Option.bind_some,Option.bind_some,to_eq];rfl
  ·rw[show (i.Op==0)=true by simp[o],cond_true,pushes_eq hs1.b];rfl
 ·-- CPrim
  have hk:nameB i.N=true:=by
   unfold insB at hmem
   rw[if_neg (by omega),if_pos o]at hmem;exact hmem
  unfold nameB at hk
  have hk:=of_decide_eq_true hk
  obtain ⟨st',e1,e2,e3,e4⟩:=words hs1 hf1 hk.1 hk.2
  refine close st' (m.At+1) e3 (λ _=>hat) e4 (specS _ ?_) (implS _ _ ?_)
  ·rw[show (i.Op==0)=false by simp[o],cond_false,show (i.Op==1)=true by simp[o],cond_true,e1,Option.bind_some,to_eq];rfl
  ·rw[show (i.Op==0)=false by simp[o],cond_false,show (i.Op==1)=true by simp[o],cond_true,e2];rfl
 ·-- CCall
  have hb:=hbN (.inl o)
  by_cases h24:(fuelS m.St).Ret.length=24
  ·refine close (flt (fuelS m.St) 3) (m.At+1) (hs1.flt (by omega) (by omega)) (λ _=>hat) rfl (specS _ ?_) (implS _ _ ?_)
   ·rw[show (i.Op==0)=false by simp[o],cond_false,show (i.Op==1)=false by simp[o],cond_false,show (i.Op==2)=true by simp[o],cond_true,l12put_eq hs1.b,if_pos h24,Option.bind_some,to_eq,goM_flt m _ (by omega) i.N (m.At+1)];rfl
   ·rw[show (i.Op==0)=false by simp[o],cond_false,show (i.Op==1)=false by simp[o],cond_false,show (i.Op==2)=true by simp[o],cond_true,back_eq hs1.b,if_pos h24];rfl
  ·refine close (retS (fuelS m.St) ((fuelS m.St).Ret++[⟨2,IntKind.wrap .i32 (m.At+1)⟩])) i.N (hs1.ret (by have:=hs1.b.r;simp;omega) (λ s hs => ?_) (λ s hs => ?_)) (λ _=>hb) rfl (specS _ ?_) (implS _ _ ?_)
   ·rcases List.mem_append.1 hs with hs|hs
    ·exact hs1.b.rk s hs
    ·rw[List.mem_singleton]at hs;subst hs;exact ⟨by show (0:Int)<=2;omega,by show (2:Int)<=2;omega⟩
   ·rcases List.mem_append.1 hs with hs|hs
    ·exact hs1.r s hs
    ·rw[List.mem_singleton]at hs;subst hs;exact i32w _
   ·rw[show (i.Op==0)=false by simp[o],cond_false,show (i.Op==1)=false by simp[o],cond_false,show (i.Op==2)=true by simp[o],cond_true,l12put_eq hs1.b,if_neg h24,Option.bind_some,to_eq];rfl
   ·rw[show (i.Op==0)=false by simp[o],cond_false,show (i.Op==1)=false by simp[o],cond_false,show (i.Op==2)=true by simp[o],cond_true,back_eq hs1.b,if_neg h24];rfl
 ·-- CJump
  refine close (fuelS m.St) i.N hs1 (λ _=>hbN (.inr (.inl o))) rfl (specS _ ?_) (implS _ _ ?_)
  ·rw[show (i.Op==0)=false by simp[o],cond_false,show (i.Op==1)=false by simp[o],cond_false,show (i.Op==2)=false by simp[o],cond_false,show (i.Op==3)=true by simp[o],cond_true,to_eq];rfl
  ·rw[show (i.Op==0)=false by simp[o],cond_false,show (i.Op==1)=false by simp[o],cond_false,show (i.Op==2)=false by simp[o],cond_false,show (i.Op==3)=true by simp[o],cond_true]
 ·-- CZero,CPos
  have hb:=hbN (by omega)
  have e45:(cond (i.Op==4) (some (i.Op==4)) (some (i.Op==5)):Option Bool)=some true:=by rcases o with o|o<;>rw[o]<;>rfl
  have hdl:=hs.b.d
  have sp:∀ R,g_spec_l12Test m (fuelS m.St) i=some R->g_spec_l12Step code m=some R:=λ R hR=>specS _ (by
   rw[show (i.Op==0)=false by rw[beq_eq_false_iff_ne];omega,cond_false,show (i.Op==1)=false by rw[beq_eq_false_iff_ne];omega,cond_false,show (i.Op==2)=false by rw[beq_eq_false_iff_ne];omega,cond_false,show (i.Op==3)=false by rw[beq_eq_false_iff_ne];omega,cond_false,
    show (i.Op==6)=false by rw[beq_eq_false_iff_ne];omega,cond_false,show (i.Op==7)=false by rw[beq_eq_false_iff_ne];omega,cond_false,show (i.Op==8)=false by rw[beq_eq_false_iff_ne];omega,cond_false,hR];rfl)
  by_cases h0:m.St.Data.length=0
  ·refine close (flt (fuelS m.St) 2) (m.At+1) (hs1.flt (by omega) (by omega)) (λ _=>hat) rfl (sp _ ?_) (implS _ _ ?_)
   ·unfold g_spec_l12Test
    rw[show (fuelS m.St).Data=m.St.Data from rfl,h0,spec_flt hs1.b]
    show ((some (flt (fuelS m.St) 2)).bind λ y_5=>(g_spec_l12To m y_5 0).bind λ y_6=>some y_6)=_
    rw[Option.bind_some,to_eq,goM_flt m _ (by omega) 0 (m.At+1)];rfl
   ·rw[show (i.Op==0)=false by rw[beq_eq_false_iff_ne];omega,cond_false,show (i.Op==1)=false by rw[beq_eq_false_iff_ne];omega,cond_false,show (i.Op==2)=false by rw[beq_eq_false_iff_ne];omega,cond_false,show (i.Op==3)=false by rw[beq_eq_false_iff_ne];omega,cond_false,e45,Option.bind_some,cond_true,h0];rfl
  ·have hy:=get_y hs.b (by omega)
   have hw:IntKind.wrap .i64 ((m.St.Data.length:Int)-1)=(m.St.Data.length:Int)-1:=wI64 (by omega) (by omega)
   obtain ⟨c,c1⟩:∃ c:Bool,(cond (i.Op==4) (cond (yOf m.St==0) (some true) (cond (i.Op==5) (some (decide (yOf m.St ≥ 0))) (some false))) (cond (i.Op==5) (some (decide (yOf m.St ≥ 0))) (some false)):Option Bool)=some c:=by
    cases i.Op==4
    ·cases i.Op==5<;>exact ⟨_,rfl⟩
    ·cases yOf m.St==0
     ·cases i.Op==5<;>exact ⟨_,rfl⟩
     ·exact ⟨_,rfl⟩
   have c2:(cond (i.Op==4) ((some (yOf m.St):Option Int).bind λ v_12=>cond (v_12==0) (some true) (cond (i.Op==5) ((some (yOf m.St):Option Int).bind λ v_13=>some (decide (v_13 ≥ 0))) (some false))) (cond (i.Op==5) ((some (yOf m.St):Option Int).bind λ v_14=>some (decide (v_14 ≥ 0))) (some false)):Option Bool)=some c:=c1
   refine close (fuelS m.St) (cond c i.N (m.At+1)) hs1 (λ _=>by
    cases c
    ·exact hat
    ·exact hb) rfl (sp _ ?_) (implS _ _ ?_)
   ·unfold g_spec_l12Test
    rw[show (fuelS m.St).Data=m.St.Data from rfl,show ((m.St.Data.length:Int)==0)=false by rw[beq_eq_false_iff_ne];omega,cond_false,hy,Option.bind_some,c1,Option.bind_some,to_eq,to_eq,ew1]
    cases c<;>rfl
   ·rw[show (i.Op==0)=false by rw[beq_eq_false_iff_ne];omega,cond_false,show (i.Op==1)=false by rw[beq_eq_false_iff_ne];omega,cond_false,show (i.Op==2)=false by rw[beq_eq_false_iff_ne];omega,cond_false,show (i.Op==3)=false by rw[beq_eq_false_iff_ne];omega,cond_false,e45,Option.bind_some,cond_true,hy,hw,decide_eq_false (by omega),cond_false,c2,Option.bind_some]
    cases c<;>rfl
 ·-- CFor
  obtain ⟨b,e1,e2⟩:=for_eq hs1.b hf1 m
  have hg:SG (forS (fuelS m.St)):=by
   unfold forS
   split
   ·exact hs1.flt (by omega) (by omega)
   ·rename_i h0
    split
    ·exact hs1.flt (by omega) (by omega)
    ·rename_i h24
     have hr:=hs1.b.r
     have hdd:=hs1.b.d
     refine ⟨⟨by rw[List.length_dropLast];omega,by simp;omega,hs1.b.m,hs1.b.v,hs1.b.o,hs1.b.i,λ s hs => ?_,hs1.b.vb,hs1.b.c,hs1.b.cl,hs1.b.f,hs1.b.u⟩,λ x hx=>hs1.d x (List.dropLast_subset _ hx),hs1.m,hs1.a,λ s hs => ?_⟩
     ·rcases List.mem_append.1 hs with hs|hs
      ·exact hs1.b.rk s hs
      ·rw[List.mem_singleton]at hs;subst hs;exact ⟨by show (0:Int)<=1;omega,by show (1:Int)<=2;omega⟩
     ·rcases List.mem_append.1 hs with hs|hs
      ·exact hs1.r s hs
      ·rw[List.mem_singleton]at hs;subst hs;exact hs1.y
  have hfu:(forS (fuelS m.St)).Fuel=m.St.Fuel-1:=by
   unfold forS
   repeat' split
   all_goals rfl
  have hgo:goM m (forS (fuelS m.St)) b=goM m (forS (fuelS m.St)) (m.At+1):=by
   unfold goM
   split
   ·rename_i h0;rw[e2 h0,ew1]
   ·rfl
  refine close (forS (fuelS m.St)) (m.At+1) hg (λ _=>hat) hfu (specS _ ?_) (implS _ _ ?_)
  ·rw[show (i.Op==0)=false by simp[o],cond_false,show (i.Op==1)=false by simp[o],cond_false,show (i.Op==2)=false by simp[o],cond_false,show (i.Op==3)=false by simp[o],cond_false,show (i.Op==6)=true by simp[o],cond_true,e1,hgo];rfl
  ·rw[show (i.Op==0)=false by simp[o],cond_false,show (i.Op==1)=false by simp[o],cond_false,show (i.Op==2)=false by simp[o],cond_false,show (i.Op==3)=false by simp[o],cond_false,show (i.Op==4)=false by simp[o],cond_false,show (i.Op==5)=false by simp[o],Option.bind_some,cond_false,show (i.Op==6)=true by simp[o],cond_true,begin_eq hs1.b];rfl
 ·-- CNext
  obtain ⟨b,e1,e2⟩:=next_eq hs1 hf1 m i.N
  have hg:SG (nextS (fuelS m.St)).2:=by
   unfold nextS
   split
   ·exact hs1.flt (by omega) (by omega)
   ·rename_i h0
    split
    ·exact hs1.flt (by omega) (by omega)
    ·split
     ·exact hs1.dec (by omega)
     ·exact hs1.ret (by rw[List.length_dropLast];have:=hs1.b.r;omega) (λ s hs=>hs1.b.rk s (List.dropLast_subset _ hs)) (λ s hs=>hs1.r s (List.dropLast_subset _ hs))
  have hfu:(nextS (fuelS m.St)).2.Fuel=m.St.Fuel-1:=by
   unfold nextS
   repeat' split
   all_goals rfl
  have hgo:goM m (nextS (fuelS m.St)).2 b=goM m (nextS (fuelS m.St)).2 (cond (nextS (fuelS m.St)).1 i.N (m.At+1)):=by
   unfold goM
   split
   ·rename_i h0;rw[e2 h0,ew1];cases (nextS (fuelS m.St)).1<;>rfl
   ·rfl
  refine close (nextS (fuelS m.St)).2 (cond (nextS (fuelS m.St)).1 i.N (m.At+1)) hg (λ _=>by
   cases (nextS (fuelS m.St)).1
   ·exact hat
   ·exact hbN (by omega)) hfu (specS _ ?_) (implS _ _ ?_)
  ·rw[show (i.Op==0)=false by simp[o],cond_false,show (i.Op==1)=false by simp[o],cond_false,show (i.Op==2)=false by simp[o],cond_false,show (i.Op==3)=false by simp[o],cond_false,show (i.Op==6)=false by simp[o],cond_false,show (i.Op==7)=true by simp[o],cond_true,e1,hgo];rfl
  ·rw[show (i.Op==0)=false by simp[o],cond_false,show (i.Op==1)=false by simp[o],cond_false,show (i.Op==2)=false by simp[o],cond_false,show (i.Op==3)=false by simp[o],cond_false,show (i.Op==4)=false by simp[o],cond_false,show (i.Op==5)=false by simp[o],Option.bind_some,cond_false,show (i.Op==6)=false by simp[o],cond_false,show (i.Op==7)=true by simp[o],cond_true,again_eq hs1.b]
   cases hx:(nextS (fuelS m.St)).1<;>(rw[Option.bind_some];simp only[hx];rfl)
 ·-- CRet
  have e1:=retS_eq hs1 hf1 (n:=code.length) (by omega) m
  have e2:=leave_eq hs1 hn.2 m.At
  have hg:SG (retR code.length m.At (fuelS m.St)).1:=by
   have hdr:SG (retS (fuelS m.St) (fuelS m.St).Ret.dropLast):=hs1.ret (by rw[List.length_dropLast];have:=hs1.b.r;omega) (λ s hs=>hs1.b.rk s (List.dropLast_subset _ hs)) (λ s hs=>hs1.r s (List.dropLast_subset _ hs))
   unfold retR
   split
   ·exact hs1.flt (by omega) (by omega)
   ·split
    ·exact hdr
    ·split
     ·exact hdr
     ·exact hs1.flt (by omega) (by omega)
  have hfu:(retR code.length m.At (fuelS m.St)).1.Fuel=m.St.Fuel-1:=by
   unfold retR
   repeat' split
   all_goals rfl
  have hnx:0<=(retR code.length m.At (fuelS m.St)).2.1/\(retR code.length m.At (fuelS m.St)).2.1 < code.length:=by
   unfold retR
   split
   ·exact ⟨ha0,ha1⟩
   ·split
    ·exact ⟨ha0,ha1⟩
    ·split
     ·rename_i h3;exact ⟨h3.1,by show (lastR (fuelS m.St)).N < _;omega⟩
     ·exact ⟨ha0,ha1⟩
  refine ⟨⟨(retR code.length m.At (fuelS m.St)).1,(if (retR code.length m.At (fuelS m.St)).1.Fault=0 then (retR code.length m.At (fuelS m.St)).2.1 else m.At),(retR code.length m.At (fuelS m.St)).2.2⟩,specS _ ?_,?_,hg,?_, .inr (by show (retR code.length m.At (fuelS m.St)).1.Fuel < _;omega),λ x hx=>by
   rw[eg]at hx;cases hx
   exact hfu.trans (if_pos ⟨o9,by omega⟩).symm⟩
  ·rw[show (i.Op==0)=false by simp[o],cond_false,show (i.Op==1)=false by simp[o],cond_false,show (i.Op==2)=false by simp[o],cond_false,show (i.Op==3)=false by simp[o],cond_false,show (i.Op==6)=false by simp[o],cond_false,show (i.Op==7)=false by simp[o],cond_false,show (i.Op==8)=true by simp[o],cond_true,e1];rfl
  ·unfold g_impl_Mach_step
   rw[eg,Option.bind_some,show (i.Op==9)=false by simp[o9],cond_false,show (m.St.Fuel==0)=false by simp[hu],cond_false,ew,ew1,hd,show (i.Op==0)=false by simp[o],cond_false,show (i.Op==1)=false by simp[o],cond_false,show (i.Op==2)=false by simp[o],cond_false,show (i.Op==3)=false by simp[o],cond_false,show (i.Op==4)=false by simp[o],cond_false,show (i.Op==5)=false by simp[o],Option.bind_some,cond_false,show (i.Op==6)=false by simp[o],cond_false,show (i.Op==7)=false by simp[o],cond_false,show (i.Op==8)=true by simp[o],cond_true]
   refine Eq.trans (congrArg (λ z:Option (Int×GMach)=>(z.bind λ y_17=>some (y_17.1,y_17.2)).bind λ (next_5,x_6)=>cond (x_6.St.Fault==0) (some (⟨x_6.St,next_5,x_6.Done⟩:GMach)) (some x_6)) e2) ?_
   show cond ((retR code.length m.At (fuelS m.St)).1.Fault==0) _ _=_
   by_cases h0:(retR code.length m.At (fuelS m.St)).1.Fault=0
   ·rw[show ((retR code.length m.At (fuelS m.St)).1.Fault==0)=true by simp[h0],if_pos h0];rfl
   ·rw[show ((retR code.length m.At (fuelS m.St)).1.Fault==0)=false by simp[h0],if_neg h0];rfl
  ·show 0<=(if (retR code.length m.At (fuelS m.St)).1.Fault=0 then _ else _)/\(if (retR code.length m.At (fuelS m.St)).1.Fault=0 then _ else _) < _
   split
   ·exact hnx
   ·exact ⟨ha0,ha1⟩
end Go.Proofs.YtofjeimkphojaaaGreatDoor
namespace Go.Proofs.YtofjeimkphojaaaGreatDoor
open Go Go.Fm
end Go.Proofs.YtofjeimkphojaaaGreatDoor
namespace Go.Proofs.YtofjeimkphojaaaGreatDoor
open Go Go.Fm
set_option maxRecDepth 100000
def startB (code:List GIns) (vat:Int) (st:GSt):Bool:=codeB code&&(decide (0<=vat/\vat<=(code.length:Int)-1)&&(StB st&&(st.Fault==0)))
def startM (vat:Int) (st:GSt):GMach:=⟨if st.Ret.length=24 then flt st 3 else retS st (st.Ret++[⟨2,-1⟩]),vat,false⟩
def zeroM:GMach:=⟨⟨[],[],0,[],[],[],[],[],0,0⟩,0,false⟩
theorem spec_start {code:List GIns} (hl:code.length<=1048576) (vat:Int) {st:GSt} (hst:StSz st):g_spec_Start code vat st=some (cond (startB code vat st) (startM vat st) zeroM):=by
 unfold g_spec_Start startB
 rw[spec_code hl,Option.bind_some,specIn_eq,wI64 (by omega) (by omega),Option.bind_some,spec_st hst,Option.bind_some]
 cases h1:codeB code
 ·rfl
 cases h2:decide (0<=vat/\vat<=(code.length:Int)-1)
 ·rfl
 cases h3:StB st
 ·rfl
 cases h4:(st.Fault==0)
 ·rw[show (st.Fault != 0)=true by simpa using h4];rfl
 ·rw[show (st.Fault != 0)=false by simpa using h4,l12put_eq (stB_iff.1 h3)];rfl
theorem impl_starts {code:List GIns} (hl:code.length<=1048576) (hi:∀ i ∈ code,i64B i.N) (vat:Int) {st:GSt} (hst:StSz st):g_impl_starts code vat st=some (startB code vat st):=by
 unfold g_impl_starts startB g_impl_goes
 rw[impl_code hl hi,Option.bind_some,within_eq,wI64 (by omega) (by omega),Option.bind_some,impl_st hst,Option.bind_some]
 cases codeB code
 ·rfl
 cases decide (0<=vat/\vat<=(code.length:Int)-1)
 ·rfl
 cases StB st<;>rfl
theorem impl_start (vat:Int) {st:GSt} (h:SB st):g_impl_start vat st=some (startM vat st):=by
 unfold g_impl_start startM
 rw[ownS h,Option.bind_some,back_eq h]
 split<;>rfl
theorem SG.start {st:GSt} (h:SG st) (vat:Int):SG (startM vat st).St:=by
 have:=h.b.r
 unfold startM
 split
 ·exact h.flt (by omega) (by omega)
 ·refine h.ret (by simp;omega) (λ s hs => ?_) (λ s hs => ?_)
  ·rcases List.mem_append.1 hs with hs|hs
   ·exact h.b.rk s hs
   ·rw[List.mem_singleton]at hs;subst hs;exact ⟨by show (0:Int)<=2;omega,by show (2:Int)<=2;omega⟩
  ·rcases List.mem_append.1 hs with hs|hs
   ·exact h.r s hs
   ·rw[List.mem_singleton]at hs;subst hs;unfold i32B;show -2147483648<=(-1:Int)/\(-1:Int)<=2147483647;omega
theorem goes_eq {m:GMach} (h:SG m.St):g_spec_l21Goes m=some (!m.Done&&(m.St.Fault==0)):=by
 unfold g_spec_l21Goes
 rw[h.b.m]
 cases m.Done<;>rfl
theorem over_eq (m:GMach):g_impl_Mach_over_rd m=some (!(!m.Done&&(m.St.Fault==0))):=by
 unfold g_impl_Mach_over_rd
 cases m.Done<;>simp[bne]
theorem prof_loop {code:List GIns} (hc:CG code):∀ (k:Nat) (m:GMach) (out:List Int),SG m.St->0<=m.At/\m.At < code.length->out.length=code.length->m.St.Fuel+1 < k →
  ∃ r,g_spec_Profile_l0 code k out m=some r/\g_impl_Profile_l0 code k out m=some r/\r.1.length=code.length:=by
 intro k
 induction k with
 | zero=>intro m out h _ _ h2;have:=h.b.u;omega
 | succ k ih =>
  intro m out h ha ho hu
  have stop:∀ (k:Nat) (m:GMach) (out:List Int),SG m.St->(!m.Done&&(m.St.Fault==0))=false->g_spec_Profile_l0 code (k+1) out m=some (out,m)/\g_impl_Profile_l0 code (k+1) out m=some (out,m):=λ k m out h hg=>by
   refine ⟨?_,?_⟩
   ·rw[g_spec_Profile_l0,goes_eq h,hg];rfl
   ·rw[g_impl_Profile_l0,over_eq,hg];rfl
  cases hg:(!m.Done&&(m.St.Fault==0))
  ·obtain ⟨e1,e2⟩:=stop k m out h hg
   exact ⟨_,e1,e2,ho⟩
  ·simp only[Bool.and_eq_true,Bool.not_eq_true',beq_iff_eq]at hg
   obtain ⟨m',hs⟩:=step_both hc ⟨h,ha,hg.1⟩ hg.2
   have hg':(!m.Done&&(m.St.Fault==0))=true:=by simp[hg.1,hg.2]
   have hat:m.At.toNat < code.length:=by omega
   obtain ⟨i,hi⟩:∃ i,getI code m.At=some i:=⟨code[m.At.toNat],by unfold getI;rw[if_pos (by omega)];exact List.getElem?_eq_getElem hat⟩
   obtain ⟨x,hx⟩:∃ x,getI out m.At=some x:=⟨out[m.At.toNat]'(by omega),by unfold getI;rw[if_pos (by omega)];exact List.getElem?_eq_getElem (by omega)⟩
   obtain ⟨c,hcc⟩:∃ c:Bool,(cond (i.Op != 9) (some (decide (m.St.Fuel > 0))) (some false):Option Bool)=some c:=by cases i.Op != 9<;>exact ⟨_,rfl⟩
   have e1:g_spec_Profile_l0 code (k+1) out m=g_spec_Profile_l0 code k (cond c (out.set m.At.toNat (IntKind.wrap .i64 (x+1))) out) m':=by
    rw[g_spec_Profile_l0,goes_eq h,hg',Option.bind_some,cond_true,hi,hx,hs.spec]
    simp only[Option.bind_some]
    rw[hcc]
    cases c<;>rfl
   have e2:g_impl_Profile_l0 code (k+1) out m=g_impl_Profile_l0 code k (cond c (out.set m.At.toNat (IntKind.wrap .i64 (x+1))) out) m':=by
    rw[g_impl_Profile_l0,over_eq,hg',Option.bind_some,Bool.not_true,Bool.not_false,cond_true,hi,hx,hs.impl]
    simp only[Option.bind_some]
    rw[hcc]
    cases c<;>rfl
   have ho':(cond c (out.set m.At.toNat (IntKind.wrap .i64 (x+1))) out).length=code.length:=by cases c<;>simp[ho]
   rw[e1,e2]
   rcases hs.u with hf|hf
   ·have hu0:=h.b.u
    obtain ⟨k',rfl⟩:∃ k',k=k'+1:=⟨k-1,by omega⟩
    obtain ⟨e1,e2⟩:=stop k' m' (cond c (out.set m.At.toNat (IntKind.wrap .i64 (x+1))) out) hs.s (by simp[hf])
    exact ⟨_,e1,e2,ho'⟩
   ·exact ih m' _ hs.s hs.a ho' (by omega)
structure StI (st:GSt):Prop where
 d:∀ x ∈ st.Data,i32B x
 m:∀ x ∈ st.Mem,i32B x
 a:i32B st.A
 r:∀ s ∈ st.Ret,i32B s.N
theorem SG.of {st:GSt} (h:StI st) (hb:SB st):SG st:=⟨hb,h.d,h.m,h.a,h.r⟩
theorem profile_both {code:List GIns} (hl:code.length<=1048576) (hi:∀ i ∈ code,i64B i.N) (vat:Int) {st:GSt} (hst:StSz st) (hn:StI st):∃ r,g_spec_Profile code vat st=some r/\g_impl_Profile code vat st=some r/\r.length<=1500:=by
 unfold g_spec_Profile g_impl_Profile
 rw[spec_start hl vat hst,impl_starts hl hi vat hst]
 cases hb:startB code vat st
 ·exact ⟨[],rfl,rfl,by simp⟩
 ·unfold startB at hb
  simp only[Bool.and_eq_true,decide_eq_true_eq]at hb
  obtain ⟨h1,h2,h3,h4⟩:=hb
  have hg:SG st:=.of hn (stB_iff.1 h3)
  have hs:=hg.start vat
  have hc:=CG.of h1
  obtain ⟨r,e1,e2,e3⟩:=prof_loop hc bigK (startM vat st) (List.replicate code.length 0) hs ⟨h2.1,by show vat < _;omega⟩ (by simp) (by have:=hs.b.u;unfold bigK;omega)
  simp only[Option.bind_some,cond_true,Bool.not_true,cond_false]
  rw[hs.b.m,show (((32:Nat):Int)==0)=false from rfl,cond_false,mk_eq (by omega) (by omega),impl_start vat hg.b]
  simp only[Option.bind_some,Int.toNat_natCast]
  rw[e1,e2]
  exact ⟨r.1,rfl,rfl,by have:=hc.n;omega⟩
end Go.Proofs.YtofjeimkphojaaaGreatDoor
namespace Go.Proofs.YtofjeimkphojaaaGreatDoor
open Go Go.Fm
set_option maxRecDepth 100000
theorem run_loop {code:List GIns} (hc:CG code) {stops:List Int} (hs:stops.length<=1048576) {M:List Bool} (hM:∀ a:Nat,a < code.length->M[a]? = some (stops.any λ x=>(a:Int)==x)) {n:Int} (hn:n<=4000) :
  ∀ (k j:Nat) (m:GMach),SG m.St->0<=m.At/\m.At < code.length->j<=4000->(j=0\/(stops.any λ x=>m.At==x)=false)->4002-j < k →
  ∃ r,g_spec_RunTo_l0 code n M k j m=some r/\g_impl_RunTo_l0 code stops n k j m=some r/\SG r.2.St:=by
 intro k
 induction k with
 | zero=>intro j m h _ _ _ h2;omega
 | succ k ih =>
  intro j m h ha hj hst hk
  have mark:∀ m:GMach,0<=m.At/\m.At < code.length->getI M m.At=some (stops.any λ x=>m.At==x):=λ m ha=>by
   have:=hM m.At.toNat (by omega)
   rw[show ((m.At.toNat:Nat):Int)=m.At by omega]at this
   unfold getI;rw[if_pos ha.1];exact this
  cases hg:((!m.Done&&(m.St.Fault==0))&&decide ((j:Int) < n))
  ·refine ⟨(j,m),?_,?_,h⟩
   ·rw[g_spec_RunTo_l0,goes_eq h]
    revert hg
    cases decide ((j:Int) < n)<;>cases (!m.Done&&(m.St.Fault==0))<;>intro hg<;>first|rfl|cases hg
   ·rw[g_impl_RunTo_l0,over_eq]
    revert hg
    cases decide ((j:Int) < n)<;>cases (!m.Done&&(m.St.Fault==0))<;>intro hg<;>first|rfl|cases hg
  ·rw[Bool.and_eq_true]at hg
   obtain ⟨hg',hlt⟩:=hg
   have hg:=hg'
   simp only[Bool.and_eq_true,Bool.not_eq_true',beq_iff_eq]at hg
   obtain ⟨m',hs'⟩:=step_both hc ⟨h,ha,hg.1⟩ hg.2
   have hlt':=of_decide_eq_true hlt
   have hw:IntKind.wrap .i64 ((j:Int)+1)=((j+1:Nat):Int):=by rw[wI64 (by omega) (by omega)];omega
   have e1:g_spec_RunTo_l0 code n M (k+1) j m=g_spec_RunTo_l0 code n M k ((j+1:Nat):Int) m':=by
    rw[g_spec_RunTo_l0,goes_eq h,hg',hlt,cond_true,Option.bind_some,cond_true,mark m ha,hs'.spec,hw]
    rcases hst with h0|h0
    ·subst h0;rfl
    ·rw[h0]
     cases ((j:Int)==0)<;>rfl
   have e2:g_impl_RunTo_l0 code stops n (k+1) j m=cond (stops.any λ x=>m'.At==x) (some (((j+1:Nat):Int),m')) (g_impl_RunTo_l0 code stops n k ((j+1:Nat):Int) m'):=by
    rw[g_impl_RunTo_l0,over_eq,hg',hlt,Option.bind_some,Bool.not_true,Bool.not_false,cond_true,Option.bind_some,cond_true,hs'.impl,Option.bind_some,has_l0 hs,Option.bind_some,hw]
   rw[e1,e2]
   cases hm:stops.any λ x=>m'.At==x
   ·rw[cond_false]
    exact ih (j+1) m' hs'.s hs'.a (by omega) (.inr hm) (by omega)
   ·rw[cond_true]
    refine ⟨_,?_,rfl,hs'.s⟩
    obtain ⟨k',rfl⟩:∃ k',k=k'+1:=⟨k-1,by omega⟩
    rw[g_spec_RunTo_l0,goes_eq hs'.s,mark m' hs'.a,hm,show (((j+1:Nat):Int)==0)=false by rw[beq_eq_false_iff_ne];omega]
    cases decide (((j+1:Nat):Int) < n)<;>cases (!m'.Done&&(m'.St.Fault==0))<;>rfl
end Go.Proofs.YtofjeimkphojaaaGreatDoor
namespace Go.Proofs.YtofjeimkphojaaaGreatDoor
open Go Go.Fm
set_option maxRecDepth 100000
end Go.Proofs.YtofjeimkphojaaaGreatDoor
namespace Go.Proofs.YtofjeimkphojaaaGreatDoor
open Go Go.Fm
set_option maxRecDepth 100000
def Cok (c:GL01Cur):Prop:=0<=c.i/\c.b.length<=1048576
theorem byte_ok {c:GL01Cur} (h:Cok c):Tot (g_spec_l01Byte c) λ r=>0<=r.1/\r.1<=255/\Cok r.2:=by
 unfold g_spec_l01Byte
 refine Tot.bind (Q:=λ r=>0<=r.1/\r.1<=255/\Cok r.2) (.condD (λ hi => ?_) (λ hi => ?_)) λ r hr=>.some hr
 ·obtain ⟨v,hv,_⟩:=getI_ex h.1 hi
  refine .bindE hv (.some ⟨(and_le (by decide) (by decide)).1,(and_le (by decide) (by decide)).2,?_,h.2⟩)
  have:=h.1
  have:=h.2
  show 0<=IntKind.wrap .i64 (c.i+1)
  rw[wI64 (by omega) (by omega)]
  omega
 ·exact .some ⟨(and_le (by decide) (by decide)).1,(and_le (by decide) (by decide)).2,h⟩
theorem below_ok {c:GL01Cur} (h:Cok c) {n:Int} (hn:0 < n):Tot (g_spec_l01Below n c) λ r=>0<=r.1/\r.1 < n/\Cok r.2:=by
 unfold g_spec_l01Below
 refine .condD (λ h0=>by omega) λ _=>.condD (λ h1 => ?_) λ h1 => ?_
 ·refine .bind (byte_ok h) λ a ha => ?_
  obtain ⟨e,g1,g2⟩:=remI_ex (k:=.i64) ha.1 hn
  exact .bindE e (.some ⟨g1,g2,ha.2.2⟩)
 ·refine .bind (byte_ok h) λ a ha=>.bind (byte_ok ha.2.2) λ b hb=>.bind (byte_ok hb.2.2) λ d hd=>.bind (byte_ok hd.2.2) λ x hx => ?_
  rw[wI64 (x:=a.1*16777216) (by omega) (by omega),wI64 (x:=b.1*65536) (by omega) (by omega),wI64 (x:=d.1*256) (by omega) (by omega),wI64 (x:=a.1*16777216+b.1*65536) (by omega) (by omega),
   wI64 (x:=a.1*16777216+b.1*65536+d.1*256) (by omega) (by omega),wI64 (x:=a.1*16777216+b.1*65536+d.1*256+x.1) (by omega) (by omega)]
  obtain ⟨e,g1,g2⟩:=remI_ex (k:=.i64) (a:=a.1*16777216+b.1*65536+d.1*256+x.1) (by omega) hn
  exact .bindE e (.some ⟨g1,g2,hx.2.2⟩)
theorem once_ok {c:GL01Cur} (h:Cok c) {n:Int} (hn:0 < n):Tot (g_spec_l01Once n c) λ r=>Cok r.2 :=
 .bind (below_ok h hn) λ a ha=>.some ha.2.2
theorem pickInt_ok {c:GL01Cur} (h:Cok c) {l:List Int} (hl:0 < l.length):Tot (g_spec_l01PickInt l c) λ r=>r.1 ∈ l/\Cok r.2 :=
 .bind (below_ok h (by omega)) λ a ha=>by
  obtain ⟨v,hv,hm,_⟩:=getI_ex (xs:=l) ha.1 ha.2.1
  exact .bindE hv (.some ⟨hm,ha.2.2⟩)
theorem pick_ok {c:GL01Cur} (h:Cok c) {l:List Bs} (hl:0 < l.length):Tot (g_spec_l01Pick l c) λ r=>r.1 ∈ l/\Cok r.2 :=
 .bind (below_ok h (by omega)) λ a ha=>by
  obtain ⟨v,hv,hm,_⟩:=getI_ex (xs:=l) ha.1 ha.2.1
  exact .bindE hv (.some ⟨hm,ha.2.2⟩)
theorem new_ok {code:List Int} (h:code.length<=1048576):Tot (g_spec_l01New code) Cok:=by
 have key:∀ (k:Nat) (hh i:Int),0<=i->i<=4000->4000-i < k->Tot (g_spec_l01New_l0 code k hh i) λ _=>True:=by
  intro k
  induction k with
  | zero=>intro hh i h0 h1 h2;omega
  | succ k ih =>
   intro hh i h0 h1 h2
   unfold g_spec_l01New_l0
   refine .bind (Q:=λ b=>b=true->i < code.length/\i < 4000) (.condD (λ hi=>.some λ hb=>⟨hi,of_decide_eq_true hb⟩) λ _=>.some λ hb=>nomatch hb) λ b hb => ?_
   refine .cond (λ hc => ?_) λ _=>.some trivial
   obtain ⟨g1,g2⟩:=hb hc
   obtain ⟨v,hv,_⟩:=getI_ex h0 g1
   refine .bindE hv ?_
   rw[wI64 (x:=i+1) (by omega) (by omega)]
   exact ih _ _ (by omega) (by omega) (by omega)
 exact .bind (.bind (key bigK _ 0 (by decide) (by decide) (by decide)) λ a ha=>.some (Q:=λ _=>True) trivial) λ a ha=>.some ⟨Int.le_refl _,h⟩
theorem forLoop {S:Type} {n:Int} {F:Nat->Int->S->Option S} (I:Int->S->Prop) (hn:n<=1000000)
  (hs:∀ k i s,0<=i->i < n->I i s->(∀ s',I (i+1) s'->Tot (F k (i+1) s') (I (max 0 n)))->Tot (F (k+1) i s) (I (max 0 n)))
  (he:∀ k i s,n<=i->I i s->F (k+1) i s=some s) {s:S} (h0:I 0 s):Tot (F bigK 0 s) (I (max 0 n)):=by
 have key:∀ (k:Nat) (i:Int) (s:S),0<=i->i<=max 0 n->I i s->(max 0 n)-i < k->Tot (F k i s) (I (max 0 n)):=by
  intro k
  induction k with
  | zero=>intro i s h0 h1 h2 h3;omega
  | succ k ih =>
   intro i s h0 h1 h2 h3
   by_cases hi:i < n
   ·exact hs k i s h0 hi h2 λ s' hs'=>ih _ _ (by omega) (by omega) hs' (by omega)
   ·rw[he k i s (by omega) h2]
    have:i=max 0 n:=by omega
    subst this
    exact .some h2
 exact key bigK 0 s (Int.le_refl _) (by omega) h0 (by unfold bigK;omega)
theorem i32w' (x:Int) : -2147483648<=IntKind.wrap .i32 x/\IntKind.wrap .i32 x<=2147483647:=by
 unfold IntKind.wrap
 simp only[IntKind.signed,IntKind.bits,if_true]
 constructor<;>(have:=Int.emod_lt_of_pos (x+2147483648) (b:=4294967296) (by decide);have:=Int.emod_nonneg (x+2147483648) (b:=4294967296) (by decide);first|omega|(simp;omega))
theorem int_ok {c:GL01Cur} (h:Cok c):Tot (g_spec_l04Int c) λ r=>(-2147483648<=r.1/\r.1<=2147483647)/\Cok r.2:=by
 unfold g_spec_l04Int
 refine .bind (once_ok h (by decide)) λ a ha=>.cond (λ _ => ?_) λ _ => ?_
 ·exact .bind (below_ok ha (by decide)) λ b hb=>.some ⟨i32w' _,hb.2.2⟩
 ·exact .bind (pickInt_ok ha (by decide)) λ b hb=>.some ⟨i32w' _,hb.2⟩
theorem letterAt_ok {k:Int}:Tot (g_spec_LetterAt k) λ v=>0<=v/\v < 256:=by
 unfold g_spec_LetterAt
 rw[specIn_eq,Option.bind_some]
 refine .cond (λ _=>.some (by decide)) λ hc => ?_
 have hk:0<=k/\k<=47:=by simpa using hc
 obtain ⟨v,hv,h0,h1,_⟩:=idxS_ex (l:=[32,114,116,111,101,97,110,105,115,109,99,121,108,103,102,119,100,118,112,98,104,120,117,113,48,49,50,51,52,53,54,55,56,57,106,45,107,46,122,47,59,39,33,43,64,42,44,63]) (i:=k) hk.1 (by simp;omega)
 exact .bindE (a:=_) rfl (.bindE hv (.some ⟨h0,h1⟩))
theorem name_ok {c:GL01Cur} (h:Cok c):Tot (g_spec_l02Name c) λ r=>r.1.length<=10/\Cok r.2:=by
 unfold g_spec_l02Name
 refine .bind (once_ok h (by decide)) λ a ha=>.cond (λ _ => ?_) λ _ => ?_
 ·refine .bind (pick_ok ha (by decide)) λ b hb=>.some ⟨?_,hb.2⟩
  have:=hb.1
  revert this
  generalize b.1=x
  intro hx
  have:∀ y ∈ ([[100,117,112],[111,118,101,114],[115,113,117,97,114,101],[97,33],[50,42],[103,111],[45,105,102],[59],[63],[114,114,114,114,114,114,114],[114,116,111,101,97,110,105],[119,119,119,119,119,119],[113,113,113,113,113],[120]]:List Bs),y.length<=10:=by decide
  exact this x hx
 ·refine .bind (below_ok ha (by decide)) λ b hb => ?_
  rw[wI64 (by omega) (by omega)]
  have:=forLoop (n:=1+b.1) (F:=λ k i s=>g_spec_l02Name_l0 (1+b.1) k s.1 i s.2) (λ i s=>(s.1.length:Int)<=i/\Cok s.2) (by omega) (λ k i s h0 h1 hI hk=>by
   show Tot (g_spec_l02Name_l0 _ (k+1) s.1 i s.2) _
   unfold g_spec_l02Name_l0
   rw[decide_eq_true (by omega),cond_true]
   refine .bind (below_ok hI.2 (by decide)) λ x hx=>.bind letterAt_ok λ y hy=>.bindE (app_eq (by simp;omega)) ?_
   rw[wI64 (x:=i+1) (by omega) (by omega)]
   exact hk (_,_) ⟨by simp;omega,hx.2.2⟩) (λ k i s hi _=>by
   show g_spec_l02Name_l0 _ (k+1) s.1 i s.2=_
   unfold g_spec_l02Name_l0
   rw[decide_eq_false (by omega),cond_false]) (s:=([],b.2)) ⟨by simp,hb.2.2⟩
  refine .bind (.bind this λ x hx=>.some (Q:=λ (x:List Int×GL01Cur)=>x.1.length<=10/\Cok x.2) ⟨by have:=hx.1;show x.1.length<=10;omega,hx.2⟩) λ x hx=>.some ⟨?_,hx.2⟩
  unfold strOf;rw[List.length_map];exact hx.1
theorem some_ok {c:GL01Cur} (h:Cok c):Tot (g_spec_l04Some c) λ r=>(r.1.Name.length<=10/\r.1.Raw=0)/\Cok r.2:=by
 unfold g_spec_l04Some
 refine .bind (below_ok h (by decide)) λ a ha=>.cond (λ _ => ?_) λ _=>.cond (λ _ => ?_) λ _=>.cond (λ _ => ?_) λ _ => ?_
 ·exact .bind (int_ok ha.2.2) λ b hb=>.bind (once_ok hb.2 (by decide)) λ d hd=>.some ⟨⟨by simp,rfl⟩,hd⟩
 ·exact .bind (int_ok ha.2.2) λ b hb=>.bind (once_ok hb.2 (by decide)) λ d hd=>.some ⟨⟨by simp,rfl⟩,hd⟩
 ·refine .bind (pick_ok ha.2.2 (by decide)) λ b hb=>.bind (int_ok hb.2) λ d hd=>.some ⟨⟨?_,rfl⟩,hd.2⟩
  have:=hb.1
  revert this
  generalize b.1=x
  intro hx
  have:∀ y ∈ ([[120],[97,116],[113,113,113,113],[116,101,110]]:List Bs),y.length<=10:=by decide
  exact this x hx
 ·exact .bind (below_ok ha.2.2 (by decide)) λ b hb=>.bind (name_ok hb.2.2) λ d hd=>.some ⟨⟨hd.1,rfl⟩,hd.2⟩
theorem word_ok {c:GL01Cur} (h:Cok c):Tot (g_spec_l01Word c) λ r=>Cok r.2:=by
 unfold g_spec_l01Word
 refine .bind (below_ok h (by decide)) λ a ha=>.cond (λ _ => ?_) λ _=>.cond (λ _ => ?_) λ _ => ?_
 ·exact .bind (pickInt_ok ha.2.2 (by decide)) λ b hb=>.some hb.2
 ·exact .bind (below_ok ha.2.2 (by decide)) λ b hb=>.some hb.2.2
 ·exact .bind (below_ok ha.2.2 (by decide)) λ b hb=>.bind (below_ok hb.2.2 (by decide)) λ d hd=>.some hd.2.2
end Go.Proofs.YtofjeimkphojaaaGreatDoor
namespace Go.Proofs.YtofjeimkphojaaaGreatDoor
open Go Go.Fm
def U32 (xs:List Int):Prop:=∀ x ∈ xs,0<=x/\x < 4294967296
theorem U32.app {xs ys:List Int} (h1:U32 xs) (h2:U32 ys):U32 (xs++ys):=λ x hx=>by
 rcases List.mem_append.1 hx with h|h
 ·exact h1 x h
 ·exact h2 x h
theorem U32.one {x:Int} (h:0<=x/\x < 4294967296):U32 [x]:=λ y hy=>by simp at hy;subst hy;exact h
theorem U32.nil:U32 []:=λ x hx=>by simp at hx
theorem U32.set {xs:List Int} {x:Int} {i:Nat} (h1:U32 xs) (h:0<=x/\x < 4294967296):U32 (xs.set i x):=λ y hy=>by
 rcases List.mem_or_eq_of_mem_set hy with h2|h2
 ·exact h1 y h2
 ·subst h2;exact h
theorem specNum_ok {n:Int} {hex:Bool} {s l:Int}:Tot (g_spec_l04Num n hex s l) λ r=>U32 r/\r.length<=2:=by
 unfold g_spec_l04Num
 refine .bind (Q:=λ _=>True) (.cond (λ _=>.some trivial) λ _=>.some trivial) λ a _=>.bind (Q:=λ _=>True) (.condD (λ _=>.some trivial) λ _=>.some trivial) λ b _=>.cond (λ _=>.some ⟨.one (wU32_bd _),by simp⟩) λ _=>.some ⟨?_,by simp⟩
 exact (U32.one (wU32_bd _)).app (.one (wU32_bd _))
theorem specLetterOf_ok {b:Int}:Tot (g_spec_LetterOf b) λ r => -1<=r/\r<=47:=by
 unfold g_spec_LetterOf
 refine .bindE (a:=_) rfl ?_
 have key:∀ (k:Nat) (i:Int),0<=i->i<=48->48-i < k->Tot (g_spec_LetterOf_l0 b [32,114,116,111,101,97,110,105,115,109,99,121,108,103,102,119,100,118,112,98,104,120,117,113,48,49,50,51,52,53,54,55,56,57,106,45,107,46,122,47,59,39,33,43,64,42,44,63] k i)
   λ r=>match r with | .inl _=>True | .inr x=>0<=x/\x<=47:=by
  intro k
  induction k with
  | zero=>intro i h0 h1 h2;omega
  | succ k ih =>
   intro i h0 h1 h2
   unfold g_spec_LetterOf_l0
   refine .condD (λ hi => ?_) λ _=>.some trivial
   have hi:i < 48:=by simpa using hi
   obtain ⟨v,hv,_⟩:=idxS_ex (l:=[32,114,116,111,101,97,110,105,115,109,99,121,108,103,102,119,100,118,112,98,104,120,117,113,48,49,50,51,52,53,54,55,56,57,106,45,107,46,122,47,59,39,33,43,64,42,44,63]) h0 (by simpa using hi)
   refine .bindE hv (.cond (λ _=>.some ⟨h0,by omega⟩) λ _ => ?_)
   rw[wI64 (x:=i+1) (by omega) (by omega)]
   exact ih _ (by omega) (by omega) (by omega)
 refine .bind (Q:=λ r=>match r with | .inl _=>True | .inr x=>0<=x/\x<=47) (.bind (key bigK 0 (by decide) (by decide) (by decide)) λ o ho => ?_) λ o ho => ?_
 ·cases o with
  | inl _=>exact .some trivial
  | inr x=>exact .some ho
 ·cases o with
  | inl _=>exact .some ⟨by decide,by decide⟩
  | inr x=>exact .some ⟨by have:=ho.1;omega,ho.2⟩
theorem specNameOk_ok {s:Bs} (hs:s.length<=1048576):Tot (g_spec_NameOk s) λ r=>r=true->1<=s.length/\s.length<=24:=by
 unfold g_spec_NameOk
 refine .bindE specIn_eq (.cond (λ _=>.some λ h=>nomatch h) λ hc => ?_)
 have hl:1<=s.length/\s.length<=24:=by
  have:(1:Int)<=s.length/\(s.length:Int)<=24:=by simpa using hc
  omega
 have key:∀ (k:Nat) (i:Int),0<=i->i<=s.length->s.length-i < k->Tot (g_spec_NameOk_l0 s k i) λ _=>True:=by
  intro k
  induction k with
  | zero=>intro i h0 h1 h2;omega
  | succ k ih =>
   intro i h0 h1 h2
   unfold g_spec_NameOk_l0
   refine .condD (λ hi => ?_) λ _=>.some trivial
   obtain ⟨v,hv,_⟩:=idxS_ex h0 hi
   refine .bindE hv (.bind specLetterOf_ok λ x hx=>.condD (λ _=>.some trivial) λ _ => ?_)
   rw[wI64 (x:=i+1) (by omega) (by omega)]
   exact ih _ (by omega) (by omega) (by omega)
 refine .bind (Q:=λ _=>True) (.bind (key bigK 0 (by decide) (by omega) (by unfold bigK;omega)) λ o ho => ?_) λ o ho => ?_
 ·cases o<;>exact .some trivial
 ·cases o<;>exact .some λ _=>hl
theorem specWidth_ok {k:Int}:Tot (g_spec_WidthOf k) λ w=>0<=w/\w<=7:=by
 unfold g_spec_WidthOf
 exact .bindE specIn_eq (.cond (λ _=>.some (by decide)) λ _=>.bindE specIn_eq (.cond (λ _=>.some (by decide)) λ _=>.bindE specIn_eq (.cond (λ _=>.some (by decide)) λ _=>.some (by decide))))
theorem specBits_ok {k:Int}:Tot (g_spec_BitsOf k) λ w=>True:=by
 unfold g_spec_BitsOf
 exact .bind specWidth_ok λ _ _=>.cond (λ _=>.some trivial) λ _=>.cond (λ _=>.some trivial) λ _=>.cond (λ _=>.some trivial) λ _=>.some trivial
theorem shl_ok {k:IntKind} {a b:Int} (h:0<=b):Tot (shlI k a b) λ _=>True:=by unfold shlI;rw[if_pos h];exact .some trivial
theorem wU64_nn (x:Int):0<=IntKind.wrap .u64 x:=by simp[IntKind.wrap,IntKind.bits,IntKind.signed];omega
theorem specOne_ok {s:Bs} (hs:1<=s.length/\s.length<=24):Tot (g_spec_l03One s) λ r=>(0<=r.1/\r.1 < 4294967296)/\1<=r.2/\r.2<=s.length:=by
 unfold g_spec_l03One
 have key:∀ (k:Nat) (f left n:Int),0<=n->n<=s.length->0<=left->left<=28->(n=0->left=28)->s.length-n < k->Tot (g_spec_l03One_l0 s k f left n) λ r=>1<=r.2/\r.2<=s.length:=by
  intro k
  induction k with
  | zero=>intro f left n h0 h1 h2 h3 h4 h5;omega
  | succ k ih =>
   intro f left n h0 h1 h2 h3 h4 h5
   unfold g_spec_l03One_l0
   refine .condD (λ hi => ?_) λ hi=>.some ⟨by omega,by omega⟩
   obtain ⟨v,hv,_⟩:=idxS_ex h0 hi
   refine .bindE hv (.bind specLetterOf_ok λ x hx=>.bind specWidth_ok λ w hw=>.condD (λ hc=>.some ⟨?_,by omega⟩) λ hc=>.bind specBits_ok λ b _=>.bind (shl_ok (wU64_nn _)) λ d _ => ?_)
   ·by_cases hn:n=0
    ·have:=h4 hn;omega
    ·show 1<=n;omega
   ·rw[wI64 (x:=n+1) (by omega) (by omega),wI64 (x:=left-w) (by omega) (by omega)]
    exact ih _ _ _ (by omega) (by omega) (by omega) (by omega) (by omega) (by omega)
 exact .bind (key bigK 0 28 0 (by decide) (by omega) (by decide) (by decide) (λ _=>rfl) (by unfold bigK;omega)) λ r hr=>.some ⟨wU32_bd _,hr.1,hr.2⟩
theorem specPack_ok {s:Bs} (hs:s.length<=1048576):Tot (g_spec_Pack s) λ r=>U32 r/\r.length<=24:=by
 unfold g_spec_Pack
 refine .bind (specNameOk_ok hs) λ a ha=>.cond (λ _=>.some ⟨.nil,by simp⟩) λ hc => ?_
 have hl:=ha (by simpa using hc)
 have key:∀ (k:Nat) (x:Bs) (out:List Int),x.length<=24->U32 out->out.length+x.length<=24->x.length < k->Tot (g_spec_Pack_l0 k x out) λ r=>U32 r/\r.length<=24:=by
  intro k
  induction k with
  | zero=>intro x out h0 h1 h2 h3;omega
  | succ k ih =>
   intro x out h0 h1 h2 h3
   unfold g_spec_Pack_l0
   refine .cond (λ hx => ?_) λ _=>.some ⟨h1,by omega⟩
   have hx1:1<=x.length:=by
    have:x≠[]:=by simpa using hx
    have:=List.length_pos_iff.2 this
    omega
   refine .bind (specOne_ok ⟨hx1,h0⟩) λ r hr=>.bindE (app_eq (by simp;omega)) (.bindE (subL_drop (by omega) hr.2.2) ?_)
   have hd:(x.drop r.2.toNat).length=x.length-r.2.toNat:=List.length_drop
   exact ih _ _ (by omega) (h1.app (.one hr.1)) (by rw[List.length_append,hd,List.length_singleton];omega) (by omega)
 exact .bind (key bigK s [] hl.2 .nil (by simp;omega) (by unfold bigK;omega)) λ r hr=>.some hr
theorem specWord_ok {tag:Int} {s:Bs} (hs:s.length<=1048576):Tot (g_spec_l04Word tag s) λ r=>U32 r/\r.length<=24:=by
 unfold g_spec_l04Word
 refine .bind (specPack_ok hs) λ a ha => ?_
 have key:∀ (k:Nat) (out:List Int) (i:Int),U32 out->out.length<=24->0<=i->i<=out.length->out.length-i < k->Tot (g_spec_l04Word_l0 tag k out i) λ r=>U32 r/\r.length<=24:=by
  intro k
  induction k with
  | zero=>intro out i h0 h1 h2 h3 h4;omega
  | succ k ih =>
   intro out i h0 h1 h2 h3 h4
   unfold g_spec_l04Word_l0
   refine .condD (λ hi => ?_) λ _=>.some ⟨h0,h1⟩
   obtain ⟨v,hv,_⟩:=getI_ex h2 hi
   refine .bind (Q:=λ o=>U32 o/\o.length=out.length) (.bindE hv (.bindE hv (.cond (λ _ => ?_) λ _=>.some ⟨h0.set (wU32_bd _),by simp⟩))) λ o ho => ?_
   ·obtain ⟨u,hu,_⟩:=getI_ex (xs:=out.set i.toNat (IntKind.wrap .u32 (v*16))) h2 (by simpa using hi)
    exact .bindE hu (.bindE hu (.some ⟨(h0.set (wU32_bd _)).set (wU32_bd _),by simp⟩))
   ·rw[wI64 (x:=i+1) (by omega) (by omega)]
    exact ih _ _ ho.1 (by omega) (by omega) (by omega) (by omega)
 exact .bind (.bind (key bigK a 0 ha.1 ha.2 (by decide) (by omega) (by unfold bigK;omega)) λ r hr=>.some hr) λ r hr=>.some hr
end Go.Proofs.YtofjeimkphojaaaGreatDoor
namespace Go.Proofs.YtofjeimkphojaaaGreatDoor
open Go Go.Fm
theorem specTag_ok {k:Int}:Tot (g_spec_l04Tag k) λ _=>True:=by
 unfold g_spec_l04Tag
 exact .cond (λ _=>.some trivial) λ _=>.cond (λ _=>.some trivial) λ _=>.cond (λ _=>.some trivial) λ _=>.cond (λ _=>.some trivial) λ _=>.cond (λ _=>.some trivial) λ _=>.cond (λ _=>.some trivial) λ _=>.some trivial
def EC (o:Unit ⊕ List Int):Prop:=match o with | .inl _=>True | .inr r=>U32 r/\r.length<=25
theorem specCells_ok {it:GItem} (hs:it.Name.length<=1048576) (hr:0<=it.Raw/\it.Raw < 4294967296):Tot (g_spec_CellsOf it) λ r=>U32 r/\r.length<=25:=by
 unfold g_spec_CellsOf
 have t3:∀ {a b c:Bool} {d:Bool},Tot (_root_.cond a (_root_.cond b (some c) (some false)) (some d)) λ _=>True:=λ {a b c d}=>by cases a<;>cases b<;>exact .some trivial
 have t2:∀ {a c d:Bool},Tot (_root_.cond a (some c) (some d)) λ _=>True:=λ {a c d}=>by cases a<;>exact .some trivial
 refine .bind t3 λ p _=>.bind (Q:=EC) ?_ λ o ho => ?_
 ·refine .cond (λ _=>.bind t3 λ a _=>.cond (λ _=>.some ⟨.one hr,by simp⟩) λ _=>.some trivial) λ _=>.cond (λ _=>.bind t2 λ a _=>.cond (λ _=>.bind specNum_ok λ r h=>.some ⟨h.1,by omega⟩) λ _=>.some trivial) λ _ =>
   .cond (λ _=>.bind t2 λ a _=>.cond (λ _=>.bind specNum_ok λ r h=>.some ⟨h.1,by omega⟩) λ _=>.some trivial) λ _ =>
   .cond (λ _=>.bind (specWord_ok hs) λ r h=>.bind t3 λ a _=>.cond (λ _=>.bindE (app_eq (by simp;omega)) (.some ⟨h.1.app (.one (wU32_bd _)),by simp;omega⟩)) λ _=>.some trivial) λ _ =>
   .bind specTag_ok λ t _=>.bind t2 λ a _=>.cond (λ _=>.bind (specWord_ok hs) λ r h=>.some ⟨h.1,by omega⟩) λ _=>.some trivial
 ·cases o with
  | inl _=>exact .some ⟨.nil,by simp⟩
  | inr r=>exact .some ho
end Go.Proofs.YtofjeimkphojaaaGreatDoor
namespace Go.Proofs.YtofjeimkphojaaaGreatDoor
open Go Go.Fm
set_option maxRecDepth 100000
theorem cells_ok {c:GL01Cur} (h:Cok c):Tot (g_spec_l04Cells c) λ r=>r.1.length<=1000/\Cok r.2:=by
 unfold g_spec_l04Cells
 refine .bind (below_ok h (by decide)) λ a ha => ?_
 have:=forLoop (n:=a.1) (F:=λ k i s=>g_spec_l04Cells_l0 a.1 k s.1 i s.2) (λ i s=>(s.1.length:Int)<=27*i/\Cok s.2) (by omega) (λ k i s h0 h1 hI hk=>by
  show Tot (g_spec_l04Cells_l0 _ (k+1) s.1 i s.2) _
  unfold g_spec_l04Cells_l0
  rw[decide_eq_true (by omega),cond_true]
  refine .bind (Q:=λ r=>(r.1.length:Int)<=27*(i+1)/\Cok r.2) ?_ λ r hr => ?_
  ·refine .bind (some_ok hI.2) λ x hx=>.bind (specCells_ok (by have:=hx.1.1;omega) (by have:=hx.1.2;omega)) λ y hy=>.bindE (app_eq (by omega)) (.bind (below_ok hx.2 (by decide)) λ z hz => ?_)
   have hl:((s.1++y).length:Int)<=27*i+26:=by rw[List.length_append];omega
   have one:∀ v:Int,Tot (app (s.1++y) [v]) λ r=>(r.length:Int)<=27*(i+1):=λ v=>by
    rw[app_eq (by simp at hl ⊢;omega)];exact .some (by simp at hl ⊢;omega)
   refine .cond (λ _ => ?_) λ _=>.cond (λ _ => ?_) λ _=>.cond (λ _ => ?_) λ _=>.cond (λ _ => ?_) λ _ => ?_
   ·exact .bind (word_ok hz.2.2) λ w hw=>.bind (one _) λ u hu=>.some ⟨hu,hw⟩
   ·exact .bind (one _) λ u hu=>.some ⟨hu,hz.2.2⟩
   ·exact .bind (below_ok hz.2.2 (by decide)) λ w hw=>.bind (one _) λ u hu=>.some ⟨hu,hw.2.2⟩
   ·exact .bind (pickInt_ok hz.2.2 (by decide)) λ w hw=>.bind (one _) λ u hu=>.some ⟨hu,hw.2⟩
   ·exact .some ⟨by show ((s.1++y).length:Int)<=_;omega,hz.2.2⟩
  ·rw[wI64 (x:=i+1) (by omega) (by omega)]
   exact hk (_,_) hr) (λ k i s hi _=>by
  show g_spec_l04Cells_l0 _ (k+1) s.1 i s.2=_
  unfold g_spec_l04Cells_l0
  rw[decide_eq_false (by omega),cond_false]) (s:=([],a.2)) ⟨by simp,ha.2.2⟩
 refine .bind (.bind this λ x hx=>.some (Q:=λ (x:List Int×GL01Cur)=>x.1.length<=1000/\Cok x.2) ⟨by have:=hx.1;show x.1.length<=1000;omega,hx.2⟩) λ x hx => ?_
 refine .bind (Q:=λ r=>(r.1=true->64 < x.1.length)/\Cok r.2) (.condD (λ hx2=>.bind (once_ok hx.2 (by decide)) λ y hy=>.some ⟨λ _=>by omega,hy⟩) λ _=>.some ⟨(λ e=>nomatch e),hx.2⟩) λ r hr=>.cond (λ hc => ?_) λ _=>.some ⟨hx.1,hr.2⟩
 have:=hr.1 hc
 refine .bindE (subL_take (b:=64) (by omega) (by omega)) (.some ⟨by simp;omega,hr.2⟩)
theorem newStore_ok {n:Int} (h0:0<=n) (h1:n<=12):Tot (g_spec_NewStore n) λ s=>(s.Cells.length:Int)=n*64:=by
 unfold g_spec_NewStore
 rw[specIn_eq,decide_eq_true ⟨h0,h1⟩,Option.bind_some,Bool.not_true,cond_false,wI64 (by omega) (by omega),mk_eq (by omega) (by omega)]
 exact .bindE rfl (.some (by simp;omega))
theorem fill_ok {b:Int} {cells:List Int} {m:Int} (hm:0<=b/\b < m/\m<=12) {s:GStore} (hs:(s.Cells.length:Int)=m*64) (hc:cells.length<=1000):Tot (g_spec_l05Make_l1 b cells bigK 0 s) λ r=>(r.Cells.length:Int)=m*64:=by
 have key:∀ (k:Nat) (i:Int) (s:GStore),0<=i->i<=64->(s.Cells.length:Int)=m*64->64-i < k->Tot (g_spec_l05Make_l1 b cells k i s) λ r=>(r.Cells.length:Int)=m*64:=by
  intro k
  induction k with
  | zero=>intro i s h0 h1 h2 h3;omega
  | succ k ih =>
   intro i s h0 h1 h2 h3
   unfold g_spec_l05Make_l1
   refine .bind (Q:=λ b=>b=true->i < cells.length/\i < 64) (.condD (λ hi=>.some λ hb=>⟨hi,of_decide_eq_true hb⟩) λ _=>.some λ hb=>nomatch hb) λ r hr=>.cond (λ hc => ?_) λ _=>.some h2
   obtain ⟨g1,g2⟩:=hr hc
   obtain ⟨v,hv,_⟩:=getI_ex h0 g1
   rw[wI64 (x:=b*64) (by omega) (by omega),wI64 (x:=b*64+i) (by omega) (by omega),wI64 (x:=i+1) (by omega) (by omega)]
   obtain ⟨w,hw,_⟩:=getI_ex (xs:=s.Cells) (i:=b*64+i) (by omega) (by omega)
   exact .bindE hv (.bindE hw (ih _ _ (by omega) (by omega) (by show ((s.Cells.set _ _).length:Int)=_;rw[List.length_set];exact h2) (by omega)))
 exact key bigK 0 s (Int.le_refl _) (by decide) hs (by unfold bigK;omega)
theorem make5_ok {c:GL01Cur} (h:Cok c):Tot (g_spec_l05Make c) λ r=>(∃ m:Int,1<=m/\m<=3/\(r.1.Cells.length:Int)=m*64)/\Cok r.2:=by
 unfold g_spec_l05Make
 refine .bind (below_ok h (by decide)) λ a ha => ?_
 rw[wI64 (by omega) (by omega)]
 refine .bind (newStore_ok (by omega) (by omega)) λ s hs => ?_
 have:=forLoop (n:=1+a.1) (F:=λ k i (t:GL01Cur×GStore)=>g_spec_l05Make_l0 k i t.1 t.2) (λ i t=>(t.2.Cells.length:Int)=(1+a.1)*64/\Cok t.1) (by omega) (λ k i t h0 h1 hI hk=>by
  show Tot (g_spec_l05Make_l0 (k+1) i t.1 t.2) _
  unfold g_spec_l05Make_l0
  have e:Int.tdiv (t.2.Cells.length:Int) 64=1+a.1:=by rw[hI.1,Int.tdiv_eq_ediv_of_nonneg (by omega)];omega
  rw[e,wI64 (x:=1+a.1) (by omega) (by omega),decide_eq_true h1,cond_true]
  refine .bind (Q:=λ r=>(r.2.Cells.length:Int)=(1+a.1)*64/\Cok r.1) (.bind (cells_ok hI.2) λ x hx=>.bind (fill_ok (m:=1+a.1) ⟨h0,h1,by omega⟩ hI.1 hx.1) λ y hy=>.some ⟨hy,hx.2⟩) λ r hr => ?_
  rw[wI64 (x:=i+1) (by omega) (by omega)]
  exact hk (_,_) hr) (λ k i t hi hI=>by
  show g_spec_l05Make_l0 (k+1) i t.1 t.2=_
  unfold g_spec_l05Make_l0
  have e:Int.tdiv (t.2.Cells.length:Int) 64=1+a.1:=by rw[hI.1,Int.tdiv_eq_ediv_of_nonneg (by omega)];omega
  rw[e,wI64 (x:=1+a.1) (by omega) (by omega),decide_eq_false (by omega),cond_false]) (s:=(a.2,s)) ⟨hs,ha.2.2⟩
 exact .bind (.bind this λ x hx=>.some (Q:=λ (x:GL01Cur×GStore)=>(x.2.Cells.length:Int)=(1+a.1)*64/\Cok x.1) hx) λ x hx=>.some ⟨⟨1+a.1,by omega,by omega,hx.1⟩,hx.2⟩
end Go.Proofs.YtofjeimkphojaaaGreatDoor
namespace Go.Proofs.YtofjeimkphojaaaGreatDoor
open Go Go.Fm
set_option maxRecDepth 100000
structure DS (st:GSt):Prop where
 d:st.Data.length<=20
 r:st.Ret.length<=30
 m:st.Mem.length<=32
 c:st.Cells.length<=800
 v:st.Vars.length<=30
 o:st.Out.length<=500
 i:st.In.length<=100
 g:StI st
theorem s2b_some {l:Bs} (h:l.length<=1000):s2b l=some (bsOf l):=by
 unfold s2b;rw[if_pos (by have:(1000:Nat)<=maxN:=(by decide);omega)]
theorem newSt_ok {s:GStore} {v:List Int} {f m:Int} (hm:1<=m/\m<=3) (hs:(s.Cells.length:Int)=m*64) (hv:v.length<=100) (hf:0<=f/\f<=4000):Tot (g_spec_NewSt s v f) λ r=>r=⟨[],[],0,List.replicate 32 0,s.Cells,[],[],v,0,f⟩:=by
 unfold g_spec_NewSt
 rw[mk_eq (n:=32) (by omega) (by omega),Option.bind_some,decide_eq_false (by omega),cond_false]
 unfold g_spec_StoreOk
 rw[specIn_eq,decide_eq_true hf,show (Int.tmod (s.Cells.length:Int) 64==0)=true by rw[hs,beq_iff_eq,Int.tmod_eq_emod_of_nonneg (by omega)];omega,cond_true,decide_eq_true (by omega)]
 simp only[Option.bind_some,Bool.not_true,cond_false]
 rw[app_eq (by simp;omega),app_eq (by simp;omega)]
 exact .bindE rfl (.bindE rfl (.some rfl))
theorem make8_ok {c:GL01Cur} (h:Cok c):Tot (g_spec_l08Make c) λ r=>(DS r.1/\r.1.Mem.length=32/\r.1.Vars.length<=2/\r.1.Ret.length<=24/\r.1.Cells.length<=192)/\Cok r.2:=by
 unfold g_spec_l08Make
 refine .bind (make5_ok h) λ a ha=>.bind (pick_ok ha.2 (by decide)) λ b hb => ?_
 obtain ⟨⟨m,m1,m2,m3⟩,_⟩:=ha
 have hb1:b.1.length<=5:=by
  have:∀ y ∈ ([[],[97],[104,101,108,108,111],[0,255]]:List Bs),y.length<=5:=by decide
  exact this _ hb.1
 refine .bindE (a:=bsOf b.1) (s2b_some (by omega)) (.bind (below_ok hb.2 (by decide)) λ d hd => ?_)
 rw[wI64 (x:=1+d.1) (by omega) (by omega)]
 refine .bind (newSt_ok ⟨m1,m2⟩ m3 (by rw[bsOf_len];omega) (by omega)) λ s hs=>.bind (below_ok hd.2.2 (by decide)) λ e he => ?_
 -- how many numbers
 refine .bind (Q:=λ r=>(0<=r.1/\r.1<=16)/\Cok r.2) (.bind (once_ok he.2.2 (by decide)) λ x hx=>.cond (λ _=>.bind (below_ok hx (by decide)) λ y hy=>.some ⟨?_,hy.2.2⟩) λ _=>.some ⟨by show 0<=e.1/\e.1<=16;omega,hx⟩) λ n hn => ?_
 ·show 0<=IntKind.wrap .i64 (14+y.1)/\IntKind.wrap .i64 (14+y.1)<=16
  rw[wI64 (by omega) (by omega)];omega
 have base:DS s/\s.Mem.length=32:=by
  subst hs
  refine ⟨⟨by simp,by simp,by simp,by show a.1.Cells.length<=800;omega,by simp,by simp,by show (bsOf b.1).length<=100;rw[bsOf_len];omega,⟨by simp,?_,?_,by simp⟩⟩,by simp⟩
  ·intro x hx
   have:x=0:=List.eq_of_mem_replicate hx
   subst this;unfold i32B;omega
  ·unfold i32B;show -2147483648<=(0:Int)/\(0:Int)<=2147483647;omega
 have hc0:s.Cells.length<=192/\s.Vars.length=0/\s.Ret.length=0/\s.Data.length=0/\s.Out.length=0:=by subst hs;exact ⟨by show a.1.Cells.length<=192;omega,rfl,rfl,rfl,rfl⟩
 have L0:=forLoop (n:=n.1) (F:=λ k i (t:GL01Cur×GSt)=>g_spec_l08Make_l0 n.1 k i t.1 t.2) (λ i t=>Cok t.1/\DS t.2/\t.2.Mem.length=32/\t.2.Cells.length<=192/\t.2.Vars.length=0/\t.2.Ret.length=0/\(t.2.Data.length:Int)=i/\t.2.Out.length=0) (by omega) (λ k i t h0 h1 hI hk=>by
  show Tot (g_spec_l08Make_l0 _ (k+1) i t.1 t.2) _
  unfold g_spec_l08Make_l0
  obtain ⟨i1,i2,i3,i4,i5,i6,i7,i8⟩:=hI
  rw[decide_eq_true h1,cond_true]
  refine .bind (int_ok i1) λ x hx=>.bindE (app_eq (by simp;omega)) ?_
  rw[wI64 (x:=i+1) (by omega) (by omega)]
  refine hk (_,_) ⟨hx.2,⟨by show (t.2.Data++[x.1]).length<=20;simp;omega,i2.r,i2.m,i2.c,i2.v,i2.o,i2.i,⟨λ y hy => ?_,i2.g.m,i2.g.a,i2.g.r⟩⟩,i3,i4,i5,i6,by show ((t.2.Data++[x.1]).length:Int)=i+1;simp;omega,i8⟩
  rcases List.mem_append.1 hy with hy|hy
  ·exact i2.g.d y hy
  ·rw[List.mem_singleton.1 hy];exact hx.1) (λ k i t hi _=>by
  show g_spec_l08Make_l0 _ (k+1) i t.1 t.2=_
  unfold g_spec_l08Make_l0
  rw[decide_eq_false (by omega),cond_false]) (s:=(n.2,s)) ⟨hn.2,base.1,base.2,hc0.1,hc0.2.1,hc0.2.2.1,by rw[hc0.2.2.2.1];rfl,hc0.2.2.2.2⟩
 refine .bind (.bind L0 λ x hx=>.some (Q:=λ (t:GL01Cur×GSt)=>Cok t.1/\DS t.2/\t.2.Mem.length=32/\t.2.Cells.length<=192/\t.2.Vars.length=0/\t.2.Ret.length=0/\t.2.Out.length=0) ⟨hx.1,hx.2.1,hx.2.2.1,hx.2.2.2.1,hx.2.2.2.2.1,hx.2.2.2.2.2.1,hx.2.2.2.2.2.2.2⟩) λ p hp => ?_
 refine .bind (below_ok hp.1 (by decide)) λ q hq => ?_
 refine .bind (Q:=λ r=>(0<=r.1/\r.1<=24)/\Cok r.2) (.bind (once_ok hq.2.2 (by decide)) λ x hx=>.cond (λ _=>.bind (below_ok hx (by decide)) λ y hy=>.some ⟨?_,hy.2.2⟩) λ _=>.some ⟨by show 0<=q.1/\q.1<=24;omega,hx⟩) λ n2 hn2 => ?_
 ·show 0<=IntKind.wrap .i64 (22+y.1)/\IntKind.wrap .i64 (22+y.1)<=24
  rw[wI64 (by omega) (by omega)];omega
 have L1:=forLoop (n:=n2.1) (F:=λ k i (t:GL01Cur×GSt)=>g_spec_l08Make_l1 n2.1 k i t.1 t.2) (λ i t=>Cok t.1/\DS t.2/\t.2.Mem.length=32/\t.2.Cells.length<=192/\t.2.Vars.length=0/\(t.2.Ret.length:Int)=i/\t.2.Out.length=0) (by omega) (λ k i t h0 h1 hI hk=>by
  show Tot (g_spec_l08Make_l1 _ (k+1) i t.1 t.2) _
  unfold g_spec_l08Make_l1
  obtain ⟨i1,i2,i3,i4,i5,i6,i7⟩:=hI
  rw[decide_eq_true h1,cond_true]
  refine .bind (pickInt_ok i1 (by decide)) λ w hw=>.bind (int_ok hw.2) λ x hx=>.bindE (app_eq (by simp;omega)) ?_
  rw[wI64 (x:=i+1) (by omega) (by omega)]
  refine hk (_,_) ⟨hx.2,⟨i2.d,by show (t.2.Ret++[(⟨w.1,x.1⟩:GSlot)]).length<=30;simp;omega,i2.m,i2.c,i2.v,i2.o,i2.i,⟨i2.g.d,i2.g.m,i2.g.a,λ y hy => ?_⟩⟩,i3,i4,i5,by show ((t.2.Ret++[(⟨w.1,x.1⟩:GSlot)]).length:Int)=i+1;simp;omega,i7⟩
  rcases List.mem_append.1 hy with hy|hy
  ·exact i2.g.r y hy
  ·rw[List.mem_singleton.1 hy];exact hx.1) (λ k i t hi _=>by
  show g_spec_l08Make_l1 _ (k+1) i t.1 t.2=_
  unfold g_spec_l08Make_l1
  rw[decide_eq_false (by omega),cond_false]) (s:=(n2.2,p.2)) ⟨hn2.2,hp.2.1,hp.2.2.1,hp.2.2.2.1,hp.2.2.2.2.1,by rw[hp.2.2.2.2.2.1];rfl,hp.2.2.2.2.2.2⟩
 refine .bind (.bind L1 λ x hx=>.some (Q:=λ (t:GL01Cur×GSt)=>Cok t.1/\DS t.2/\t.2.Mem.length=32/\t.2.Cells.length<=192/\t.2.Vars.length=0/\t.2.Ret.length<=24/\t.2.Out.length=0) ⟨hx.1,hx.2.1,hx.2.2.1,hx.2.2.2.1,hx.2.2.2.2.1,by have:=hx.2.2.2.2.2.1;show x.2.Ret.length<=24;omega,hx.2.2.2.2.2.2⟩) λ u hu => ?_
 refine .bind (below_ok hu.1 (by decide)) λ n3 hn3 => ?_
 have L2:=forLoop (n:=n3.1) (F:=λ k i (t:GL01Cur×GSt)=>g_spec_l08Make_l2 n3.1 k i t.1 t.2) (λ i t=>Cok t.1/\DS t.2/\t.2.Mem.length=32/\t.2.Cells.length<=192/\(t.2.Vars.length:Int)=i/\t.2.Ret.length<=24/\t.2.Out.length=0) (by omega) (λ k i t h0 h1 hI hk=>by
  show Tot (g_spec_l08Make_l2 _ (k+1) i t.1 t.2) _
  unfold g_spec_l08Make_l2
  obtain ⟨i1,i2,i3,i4,i5,i6,i7⟩:=hI
  rw[decide_eq_true h1,cond_true]
  refine .bind (below_ok i1 (by decide)) λ w hw=>.bindE (app_eq (by simp;omega)) ?_
  rw[wI64 (x:=i+1) (by omega) (by omega)]
  exact hk (_,_) ⟨hw.2.2,⟨i2.d,i2.r,i2.m,i2.c,by show (t.2.Vars++[_]).length<=30;simp;omega,i2.o,i2.i,⟨i2.g.d,i2.g.m,i2.g.a,i2.g.r⟩⟩,i3,i4,by show ((t.2.Vars++[_]).length:Int)=i+1;simp;omega,i6,i7⟩) (λ k i t hi _=>by
  show g_spec_l08Make_l2 _ (k+1) i t.1 t.2=_
  unfold g_spec_l08Make_l2
  rw[decide_eq_false (by omega),cond_false]) (s:=(n3.2,u.2)) ⟨hn3.2.2,hu.2.1,hu.2.2.1,hu.2.2.2.1,by rw[hu.2.2.2.2.1];rfl,hu.2.2.2.2.2.1,hu.2.2.2.2.2.2⟩
 refine .bind (.bind L2 λ x hx=>.some (Q:=λ (t:GL01Cur×GSt)=>Cok t.1/\DS t.2/\t.2.Mem.length=32/\t.2.Cells.length<=192/\t.2.Vars.length<=2/\t.2.Ret.length<=24/\t.2.Out.length=0) ⟨hx.1,hx.2.1,hx.2.2.1,hx.2.2.2.1,by have:=hx.2.2.2.2.1;show x.2.Vars.length<=2;omega,hx.2.2.2.2.2.1,hx.2.2.2.2.2.2⟩) λ w hw => ?_
 obtain ⟨w1,w2,w3,w4,w5,w6,w7⟩:=hw
 refine .bind (Q:=λ (t:GL01Cur×GSt)=>Cok t.1/\DS t.2/\t.2.Mem.length=32/\t.2.Cells.length<=192/\t.2.Vars.length<=2/\t.2.Ret.length<=24/\t.2.Out.length=0) ?_ λ x hx => ?_
 ·refine .bind (Q:=λ (r:Bool×GL01Cur)=>(r.1=true->0 < w.2.Data.length)/\Cok r.2) (.bind (once_ok w1 (by decide)) λ x hx=>.cond (λ _=>.some ⟨λ e=>by have:=of_decide_eq_true e;omega,hx⟩) λ _=>.some ⟨(λ e=>nomatch e),hx⟩) λ r hr=>.cond (λ hc => ?_) λ _=>.some ⟨hr.2,w2,w3,w4,w5,w6,w7⟩
  have hp:=hr.1 hc
  have hd:=w2.d
  refine .bind (Q:=λ _=>True) ?_ λ f _=>.bind (pickInt_ok hr.2 (by simp)) λ y hy => ?_
  ·unfold g_spec_l08First
   by_cases h0:w.2.Vars.length=0
   ·rw[h0];exact .some trivial
   ·rw[show ((w.2.Vars.length:Int)==0)=false by rw[beq_eq_false_iff_ne];omega,cond_false]
    obtain ⟨z,hz,_⟩:=getI_ex (xs:=w.2.Vars) (i:=0) (by omega) (by omega)
    exact .bindE hz (.some trivial)
  ·rw[wI64 (x:=(w.2.Data.length:Int)-1) (by omega) (by omega)]
   obtain ⟨z,hz,_⟩:=getI_ex (xs:=w.2.Data) (i:=(w.2.Data.length:Int)-1) (by omega) (by omega)
   refine .bindE hz (.some ⟨hy.2,⟨by show (w.2.Data.set _ _).length<=20;rw[List.length_set];exact hd,w2.r,w2.m,w2.c,w2.v,w2.o,w2.i,⟨λ v hv => ?_,w2.g.m,w2.g.a,w2.g.r⟩⟩,w3,w4,w5,w6,w7⟩)
   rcases List.mem_or_eq_of_mem_set hv with hv|rfl
   ·exact w2.g.d v hv
   ·exact i32w' _
 ·obtain ⟨w1,w2,w3,w4,w5,w6,w7⟩:=hx
  refine .bind (Q:=λ (t:GL01Cur×GSt)=>Cok t.1/\DS t.2/\t.2.Mem.length=32/\t.2.Cells.length<=192/\t.2.Vars.length<=2/\t.2.Ret.length<=24) (.bind (once_ok w1 (by decide)) λ y hy=>.cond (λ _=>.bind (below_ok hy (by decide)) λ z hz => ?_) λ _=>.some ⟨hy,w2,w3,w4,w5,w6⟩) λ r hr=>.some ⟨⟨hr.2.1,hr.2.2.1,hr.2.2.2.2.1,hr.2.2.2.2.2,hr.2.2.2.1⟩,hr.1⟩
  rw[wI64 (x:=395+z.1) (by omega) (by omega)]
  have L3:=forLoop (n:=395+z.1) (F:=λ k i t=>g_spec_l08Make_l3 (395+z.1) k i t) (λ i t=>DS t/\t.Mem.length=32/\t.Cells.length<=192/\t.Vars.length<=2/\t.Ret.length<=24/\(t.Out.length:Int)=i) (by omega) (λ k i t h0 h1 hI hk=>by
   show Tot (g_spec_l08Make_l3 _ (k+1) i t) _
   unfold g_spec_l08Make_l3
   obtain ⟨i2,i3,i4,i5,i6,i7⟩:=hI
   rw[decide_eq_true h1,cond_true]
   refine .bindE (app_eq (by simp;omega)) ?_
   rw[wI64 (x:=i+1) (by omega) (by omega)]
   exact hk _ ⟨⟨i2.d,i2.r,i2.m,i2.c,i2.v,by show (t.Out++[_]).length<=500;simp;omega,i2.i,⟨i2.g.d,i2.g.m,i2.g.a,i2.g.r⟩⟩,i3,i4,i5,i6,by show ((t.Out++[_]).length:Int)=i+1;simp;omega⟩) (λ k i t hi _=>by
   show g_spec_l08Make_l3 _ (k+1) i t=_
   unfold g_spec_l08Make_l3
   rw[decide_eq_false (by omega),cond_false]) (s:=x.2) ⟨w2,w3,w4,w5,w6,by rw[w7];rfl⟩
  exact .bind L3 λ t ht=>.some ⟨hz.2.2,ht.1,ht.2.1,ht.2.2.1,ht.2.2.2.1,ht.2.2.2.2.1⟩
theorem any8_ok {c:GL01Cur} (h:Cok c):Tot (g_spec_l08Any c) λ r=>DS r.1/\Cok r.2:=by
 unfold g_spec_l08Any
 refine .bind (make8_ok h) λ a ha => ?_
 obtain ⟨⟨s,m,v,r,cc⟩,hc⟩:=ha
 refine .bind (Q:=λ (t:GL01Cur×GSt)=>DS t.2/\Cok t.1) (.bind (below_ok hc (by decide)) λ b hb => ?_) λ x hx=>.some hx
 refine .cond (λ _ => ?_) λ _=>.cond (λ _ => ?_) λ _=>.cond (λ _ => ?_) λ _=>.cond (λ _ => ?_) λ _=>.cond (λ _ => ?_) λ _=>.cond (λ _ => ?_) λ _ => ?_
 ·exact .bind (below_ok hb.2.2 (by decide)) λ d hd=>.some ⟨⟨s.d,s.r,s.m,s.c,s.v,s.o,s.i,⟨s.g.d,s.g.m,s.g.a,s.g.r⟩⟩,hd.2.2⟩
 ·exact .bind (pickInt_ok hb.2.2 (by simp)) λ d hd=>.bindE (app_eq (by simp;omega)) (.some ⟨⟨s.d,s.r,s.m,s.c,by show (a.1.Vars++[_]).length<=30;simp;omega,s.o,s.i,⟨s.g.d,s.g.m,s.g.a,s.g.r⟩⟩,hd.2⟩)
 ·exact .bindE (subL_take (b:=31) (by omega) (by omega)) (.some ⟨⟨s.d,s.r,by show (a.1.Mem.take _).length<=32;rw[List.length_take];omega,s.c,s.v,s.o,s.i,⟨s.g.d,λ y hy=>s.g.m y (List.take_subset _ _ hy),s.g.a,s.g.r⟩⟩,hb.2.2⟩)
 ·exact .bind (pickInt_ok hb.2.2 (by simp)) λ d hd=>.some ⟨⟨s.d,s.r,s.m,s.c,s.v,s.o,s.i,⟨s.g.d,s.g.m,s.g.a,s.g.r⟩⟩,hd.2⟩
 ·refine .bind (below_ok hb.2.2 (by decide)) λ d hd=>.bindE (app_eq (by simp;omega)) (.some ⟨⟨s.d,by show (a.1.Ret++[_]).length<=30;simp;omega,s.m,s.c,s.v,s.o,s.i,⟨s.g.d,s.g.m,s.g.a,λ y hy => ?_⟩⟩,hd.2.2⟩)
  rcases List.mem_append.1 hy with hy|hy
  ·exact s.g.r y hy
  ·rw[List.mem_singleton.1 hy];unfold i32B;show -2147483648<=(0:Int)/\(0:Int)<=2147483647;omega
 ·exact .bindE (app_eq (by simp;omega)) (.some ⟨⟨s.d,s.r,s.m,by show (a.1.Cells++[_]).length<=800;simp;omega,s.v,s.o,s.i,⟨s.g.d,s.g.m,s.g.a,s.g.r⟩⟩,hb.2.2⟩)
 ·exact .some ⟨s,hb.2.2⟩
end Go.Proofs.YtofjeimkphojaaaGreatDoor
namespace Go.Proofs.YtofjeimkphojaaaGreatDoor
open Go Go.Fm
set_option maxRecDepth 100000
theorem op_tot (o:GOp):∃ b,g_spec_l09Op o=some b:=by
 unfold g_spec_l09Op
 obtain ⟨s,hs⟩:=name_tot (IntKind.wrap .i64 o.N)
 rw[hs,specIn_eq,specIn_eq]
 simp only[Option.bind_some]
 cases o.Kind==0
 ·cases o.Kind==1
  ·cases o.Kind==2
   ·simp only[cond_false]
    by_cases h:3<=o.Kind/\o.Kind<=8
    ·rw[decide_eq_true h,cond_true]
     exact ⟨_,rfl⟩
    ·rw[decide_eq_false h,cond_false]
     exact ⟨_,rfl⟩
   ·exact ⟨_,rfl⟩
  ·exact ⟨_,rfl⟩
 ·exact ⟨_,rfl⟩
def okB (o:GOp):Bool:=(g_spec_l09Op o).getD false
theorem okB_eq (o:GOp):g_spec_l09Op o=some (okB o):=by
 obtain ⟨b,h⟩:=op_tot o
 unfold okB
 rw[h]
 rfl
def stepF (v:List Int) (o:GOp):Option (List Int) :=
 if o.Kind=3\/o.Kind=4\/o.Kind=6 then some (v++[o.Kind])
 else if o.Kind=5\/o.Kind=7 then (match v.getLast? with|none=>none|some l=>if decide (l=6)=decide (o.Kind=7) then some v.dropLast else none)
 else some v
def openF:List GOp->List Int->Option (List Int)
 | [],v=>some v
 | o::r,v=>(stepF v o).bind (openF r)
theorem stepF_len {v w:List Int} {o:GOp} (h:stepF v o=some w):w.length<=v.length+1:=by
 unfold stepF at h
 split at h
 ·cases h;simp
 ·split at h
  ·split at h
   ·cases h
   ·split at h
    ·cases h;simp;omega
    ·cases h
  ·cases h;omega
def sumE {β:Type} (e:β) (o:Option (List Int)):List Int ⊕ β:=match o with|some w=>.inl w|none=>.inr e
theorem kinds (k:Int):(k==3)=decide (k=3)/\(k==4)=decide (k=4)/\(k==5)=decide (k=5)/\(k==6)=decide (k=6)/\(k==7)=decide (k=7):=by
 refine ⟨?_,?_,?_,?_,?_⟩<;>rw[Bool.eq_iff_iff]<;>simp
theorem last_get {v:List Int} (h:v≠[]) (hl:v.length<=16777216):getI v (IntKind.wrap .i64 ((v.length:Int)-1))=v.getLast? ∧ subL v 0 (IntKind.wrap .i64 ((v.length:Int)-1))=some v.dropLast:=by
 have h0:0 < v.length:=by
  cases v with
  | nil=>exact absurd rfl h
  | cons a r=>simp
 rw[wI64 (by omega) (by omega),show (v.length:Int)-1=((v.length-1:Nat):Int) by omega,getI_nat,subL_take (by omega) (by omega),Int.toNat_natCast,List.getLast?_eq_getElem?,List.dropLast_eq_take]
 exact ⟨rfl,rfl⟩
theorem spec_step {β:Type} (e:β) (v:List Int) (o:GOp) (hl:v.length<=16777216) :
  ((cond (o.Kind==3) (some (o.Kind==3)) (cond (o.Kind==4) (some (o.Kind==4)) (some (o.Kind==6))):Option (Bool)).bind λ v_17=>cond v_17 ((app v [o.Kind]).bind λ v_23=>some (Sum.inl v_23)) ((cond (o.Kind==5) (some (o.Kind==5)) (some (o.Kind==7)):Option (Bool)).bind λ v_24=>cond v_24 ((cond ((v.length:Int)==0) (some true) ((getI v (IntKind.wrap .i64 ((v.length:Int)-1))).bind λ v_33=>some ((v_33==6) != (o.Kind==7))):Option (Bool)).bind λ v_29=>cond v_29 (some (Sum.inr e)) ((subL v 0 (IntKind.wrap .i64 ((v.length:Int)-1))).bind λ v_35=>some (Sum.inl v_35))) (some (Sum.inl v))):Option ((List Int) ⊕ β))=some (sumE e (stepF v o)):=by
 obtain ⟨e3,e4,e5,e6,e7⟩:=kinds o.Kind
 rw[e3,e4,e5,e6,e7]
 unfold stepF
 by_cases h3:o.Kind=3
 ·simp only[h3,decide_true,cond_true,Option.bind_some]
  rw[app_eq (by simp;omega)]
  rfl
 ·by_cases h4:o.Kind=4
  ·rw[decide_eq_false h3,cond_false,decide_eq_true h4,cond_true,Option.bind_some,cond_true,app_eq (by simp;omega),if_pos (.inr (.inl h4))]
   rfl
  ·by_cases h6:o.Kind=6
   ·rw[decide_eq_false h3,cond_false,decide_eq_false h4,cond_false,Option.bind_some,decide_eq_true h6,cond_true,app_eq (by simp;omega),if_pos (.inr (.inr h6))]
    rfl
   ·rw[decide_eq_false h3,cond_false,decide_eq_false h4,cond_false,Option.bind_some,decide_eq_false h6,cond_false,if_neg (by omega)]
    by_cases h57:o.Kind=5\/o.Kind=7
    ·have hc:(cond (decide (o.Kind=5)) (some (decide (o.Kind=5))) (some (decide (o.Kind=7))):Option Bool)=some true:=by
      rcases h57 with h|h
      ·rw[decide_eq_true h];rfl
      ·rw[decide_eq_true h,decide_eq_false (by omega)];rfl
     rw[hc,Option.bind_some,cond_true,if_pos h57]
     cases v with
     | nil=>rfl
     | cons a r =>
      obtain ⟨g1,g2⟩:=last_get (v:=a::r) (by simp) hl
      have hz:(((a::r).length:Int)==0)=false:=by simp;omega
      rw[hz,cond_false,g1,g2]
      obtain ⟨x,hx⟩:∃ x,(a::r).getLast? = some x:=by rw[List.getLast?_cons];exact ⟨_,rfl⟩
      rw[hx]
      simp only[Option.bind_some]
      have ex:(x==6)=decide (x=6):=(kinds x).2.2.2.1
      rw[ex]
      by_cases hq:decide (x=6)=decide (o.Kind=7)
      ·rw[hq,if_pos rfl]
       simp[sumE]
      ·rw[if_neg hq]
       have:(decide (x=6) != decide (o.Kind=7))=true:=by simpa using hq
       rw[this,cond_true]
       rfl
    ·have hc:(cond (decide (o.Kind=5)) (some (decide (o.Kind=5))) (some (decide (o.Kind=7))):Option Bool)=some false:=by
      rw[decide_eq_false (by omega),decide_eq_false (by omega)];rfl
     rw[hc,Option.bind_some,cond_false,if_neg h57]
     rfl
theorem spec_l0 {body:List GOp} (hb:body.length<=1048576):∀ (k n:Nat) (v:List Int),n<=body.length->body.length-n < k->v.length<=n->g_spec_l09Open_l0 body k v n=some (sumE false (openF (body.drop n) v)):=by
 intro k
 induction k with
 | zero=>intro n v h0 h1;omega
 | succ k ih =>
  intro n v h0 h1 h2
  rw[g_spec_l09Open_l0]
  by_cases hn:n < body.length
  ·rw[decide_eq_true (by omega),cond_true,getI_nat,List.getElem?_eq_getElem hn,List.drop_eq_getElem_cons hn]
   simp only[Option.bind_some]
   rw[spec_step _ v body[n] (by omega)]
   simp only[Option.bind_some,openF]
   cases hs:stepF v body[n] with
   | none=>rfl
   | some w =>
    have:=stepF_len hs
    simp only[sumE,Option.bind_some]
    rw[wI64 (by omega) (by omega),show (n:Int)+1=((n+1:Nat):Int) by omega,ih (n+1) w (by omega) (by omega) (by omega)]
    rfl
  ·rw[decide_eq_false (by omega),cond_false,List.drop_eq_nil_of_le (by omega)]
   rfl
theorem spec_open {body:List GOp} (hb:body.length<=1048576):g_spec_l09Open body=some (match openF body [] with|none=>([],false)|some w=>(w,true)):=by
 unfold g_spec_l09Open
 have h1:=spec_l0 hb bigK 0 [] (Nat.zero_le _) (by unfold bigK;omega) (Nat.le_refl _)
 rw[Int.natCast_zero,List.drop_zero]at h1
 rw[h1]
 cases openF body []<;>rfl
def shapeB (body:List GOp):Bool:=decide (body.length<=60)&&body.all okB&&decide (openF body []=some [])
theorem specShape {body:List GOp} (hb:body.length<=1048576):g_spec_ShapeOk body=some (shapeB body):=by
 unfold g_spec_ShapeOk shapeB
 by_cases h60:body.length<=60
 ·rw[decide_eq_false (by omega),cond_false,decide_eq_true h60,spec_open hb]
  have:=allLoop (L:=body) (bad:=false) (λ _ o=>okB o) (g_spec_ShapeOk_l0 body) (λ k n x hx hn=>by
   rw[g_spec_ShapeOk_l0,decide_eq_true (by omega),cond_true,getI_nat,hx,Option.bind_some,okB_eq,Option.bind_some,wI64 (by omega) (by omega),show ((n:Int)+1)=((n+1:Nat):Int) by omega]
   cases okB x<;>rfl) (λ k n hn=>by rw[g_spec_ShapeOk_l0,decide_eq_false (by omega),cond_false]) (by omega)
  rw[this,allN_const,Bool.true_and]
  cases body.all okB with
  | false=>rfl
  | true =>
   simp only[cond_true,Option.bind_some,Bool.true_and]
   cases openF body [] with
   | none=>rfl
   | some w=>cases w<;>simp<;>omega
 ·rw[decide_eq_true (by omega),cond_true,decide_eq_false h60];rfl
end Go.Proofs.YtofjeimkphojaaaGreatDoor
namespace Go.Proofs.YtofjeimkphojaaaGreatDoor
open Go Go.Fm
set_option maxRecDepth 100000
def GO (n:Int) (o:GOp):Prop:=okB o=true/\(o.Kind=2->0<=o.N/\o.N < n)
theorem okB_of {o:GOp} {b:Bool} (h:g_spec_l09Op o=some b):okB o=b:=by unfold okB;rw[h];rfl
theorem GO.lit {n:Int} (m:Int):GO n ⟨0,m⟩:=⟨okB_of rfl,λ e=>by cases e⟩
theorem GO.prim {n m:Int} (h:0<=m/\m<=23):GO n ⟨1,m⟩:=by
 refine ⟨okB_of ?_,λ e=>by cases e⟩
 have hk:nameB m=true:=by unfold nameB;exact decide_eq_true h
 obtain ⟨s,e1,e2⟩:=name_ne m
 unfold g_spec_l09Op
 show ((g_spec_PrimName (IntKind.wrap .i64 m)).bind λ y_3=>some (y_3 != []))=_
 rw[wI64 (by omega) (by omega),e1,Option.bind_some]
 rw[hk]at e2
 rw[bne,e2];rfl
theorem GO.call {n m:Int} (h:0<=m/\m < n) (hn:n<=24):GO n ⟨2,m⟩:=by
 refine ⟨okB_of ?_,λ _=>h⟩
 unfold g_spec_l09Op
 show ((g_spec_l01In (IntKind.wrap .i64 m) 0 23).bind λ y_4=>some y_4)=_
 rw[wI64 (by omega) (by omega),specIn_eq,decide_eq_true (by omega)];rfl
theorem GO.ctl {n k:Int} (h:3<=k/\k<=8):GO n ⟨k,0⟩:=by
 refine ⟨okB_of ?_,λ e=>by have:k=2:=e;omega⟩
 unfold g_spec_l09Op
 show cond (k==0) _ (cond (k==1) _ (cond (k==2) _ ((g_spec_l01In k 3 8).bind λ y_5=>cond y_5 (some ((0:Int)==0)) (some false))))=_
 rw[show (k==0)=false by rw[beq_eq_false_iff_ne];omega,show (k==1)=false by rw[beq_eq_false_iff_ne];omega,show (k==2)=false by rw[beq_eq_false_iff_ne];omega,@specIn_eq k 3 8,decide_eq_true h];rfl
theorem GO.mono {n m:Int} {o:GOp} (h:GO n o) (hn:n<=m):GO m o:=⟨h.1,λ e=>⟨(h.2 e).1,by have:=(h.2 e).2;omega⟩⟩
theorem openF_app:∀ (a b:List GOp) (v:List Int),openF (a++b) v=(openF a v).bind (openF b)
 | [],b,v=>rfl
 | o::r,b,v=>by
  show (stepF v o).bind (openF (r++b))=((stepF v o).bind (openF r)).bind (openF b)
  cases stepF v o with
  | none=>rfl
  | some w=>exact openF_app r b w
structure GB (n:Int) (l:List GOp):Prop where
 ok:∀ o ∈ l,GO n o
 bal:∀ v,openF l v=some v
theorem GB.nil {n:Int}:GB n []:=⟨(λ o h=>by cases h),λ v=>rfl⟩
theorem GB.app {n:Int} {a b:List GOp} (ha:GB n a) (hb:GB n b):GB n (a++b) :=
 ⟨λ o h=>(List.mem_append.1 h).elim (ha.ok o) (hb.ok o),λ v=>by rw[openF_app,ha.bal];exact hb.bal v⟩
theorem GB.one {n:Int} {o:GOp} (h:GO n o) (hk:¬(3<=o.Kind/\o.Kind<=7)):GB n [o]:=by
 refine ⟨λ x hx=>by rw[List.mem_singleton.1 hx];exact h,λ v => ?_⟩
 show (stepF v o).bind (openF [])=_
 unfold stepF
 rw[if_neg (by omega),if_neg (by omega)];rfl
theorem GB.mono {n m:Int} {l:List GOp} (h:GB n l) (hn:n<=m):GB m l:=⟨λ o ho=>(h.ok o ho).mono hn,h.bal⟩
theorem GB.wrap {n k e:Int} {l:List GOp} (h:GB n l) (hk:k=3\/k=4\/k=6) (he:(k=6/\e=7)\/(k≠6/\e=5)):GB n ([⟨k,0⟩]++l++[⟨e,0⟩]):=by
 refine ⟨λ o ho => ?_,λ v => ?_⟩
 ·rcases List.mem_append.1 ho with ho|ho
  ·rcases List.mem_append.1 ho with ho|ho
   ·rw[List.mem_singleton.1 ho];exact .ctl (by omega)
   ·exact h.ok o ho
  ·rw[List.mem_singleton.1 ho];exact .ctl (by omega)
 ·rw[openF_app,openF_app]
  have e1:openF [(⟨k,0⟩:GOp)] v=some (v++[k]):=by
   show (stepF v ⟨k,0⟩).bind (openF [])=_
   unfold stepF
   rw[if_pos hk];rfl
  rw[e1,Option.bind_some,h.bal,Option.bind_some]
  show (stepF (v++[k]) ⟨e,0⟩).bind (openF [])=_
  unfold stepF
  rw[if_neg (by show ¬(e=3\/e=4\/e=6);omega),if_pos (by show e=5\/e=7;omega),List.getLast?_concat]
  show (if decide (k=6)=decide (e=7) then some (v++[k]).dropLast else none).bind (openF [])=_
  rw[if_pos (by rw[decide_eq_decide];omega),List.dropLast_concat];rfl
theorem plain_ok {n:Int} {c:GL01Cur} (h:Cok c) (hn:n<=24):Tot (g_spec_l09Plain n c) λ r=>GB n [r.1]/\Cok r.2:=by
 unfold g_spec_l09Plain
 refine .bind (Q:=λ o=>match o with | .inl (x,_)=>Cok x | .inr (x,o)=>GB n [o]/\Cok x) (.bind (below_ok h (by decide)) λ a ha=>.bind (Q:=λ _=>True) (by cases a.1==0<;>exact .some trivial) λ b _=>.cond (λ _ => ?_) λ _=>.cond (λ _=>.condD (λ hp => ?_) λ _=>.some ha.2.2) λ _=>.some ha.2.2) λ o ho => ?_
 ·exact .bind (below_ok ha.2.2 (by decide)) λ d hd=>.some ⟨.one (.lit _) (by show ¬(3<=(0:Int)/\_);omega),hd.2.2⟩
 ·refine .bind (below_ok ha.2.2 (by omega)) λ d hd=>.some ⟨.one ?_ (by show ¬(3<=(2:Int)/\_);omega),hd.2.2⟩
  rw[wI32 (by omega) (by omega)]
  exact .call ⟨hd.1,hd.2.1⟩ hn
 ·rcases o with ⟨x,y⟩|⟨x,y⟩
  ·refine .bind (pickInt_ok ho (by decide)) λ d hd=>.some ⟨.one ?_ (by show ¬(3<=(1:Int)/\_);omega),hd.2⟩
   have:∀ y ∈ ([0,0,1,2,3,4,5,5,6,7,8,9,10,11,12,13,14,15,16,17,18,19,20,21,22,22,23]:List Int),0<=y/\y<=23:=by decide
   have:=this _ hd.1
   rw[wI32 (by omega) (by omega)]
   exact .prim this
  ·exact .some ⟨ho.1,ho.2⟩
def bodyL:Nat->Nat
 | 0=>5
 | d+1=>4*(bodyL d+4)+1
theorem body_ok:∀ (d k:Nat),d < k->∀ {n:Int} {c:GL01Cur},n<=24->Cok c->d<=4->Tot (g_spec_l09Body_r k n d c) λ r=>(GB n r.1/\r.1.length<=bodyL d)/\Cok r.2:=by
 intro d
 induction d with
 | zero =>
  intro k hk n c hn h _
  obtain ⟨k,rfl⟩:∃ k',k=k'+1:=⟨k-1,by omega⟩
  show Tot (g_spec_l09Body_b (g_spec_l09Body_r k) n 0 c) _
  unfold g_spec_l09Body_b
  refine .bind (below_ok h (by decide)) λ a ha => ?_
  have L:=forLoop (n:=a.1) (F:=λ k' i (s:List GOp×GL01Cur)=>g_spec_l09Body_l0 (g_spec_l09Body_r k) n 0 a.1 k' s.1 i s.2) (λ i s=>(GB n s.1/\(s.1.length:Int)<=i)/\Cok s.2) (by omega) (λ k' i s h0 h1 hI hk=>by
   show Tot (g_spec_l09Body_l0 _ _ _ _ (k'+1) s.1 i s.2) _
   unfold g_spec_l09Body_l0
   rw[decide_eq_true h1,cond_true]
   refine .bind (Q:=λ r=>(GB n r.1/\(r.1.length:Int)<=i+1)/\Cok r.2) (.bind (plain_ok hI.2 hn) λ x hx=>.bindE (app_eq (by simp;omega)) (.bind (Q:=λ r=>r.1=true/\Cok r.2) (.some ⟨rfl,hx.2⟩) λ r hr => ?_)) λ r hr => ?_
   ·obtain ⟨r1,r2⟩:=r
    obtain ⟨e,hr2⟩:=hr
    have e:r1=true:=e
    subst e
    exact .some ⟨⟨hI.1.1.app hx.1,by have:=hI.1.2;simp;omega⟩,hr2⟩
   ·rw[wI64 (x:=i+1) (by omega) (by omega)]
    exact hk (_,_) hr) (λ k' i s hi _=>by
   show g_spec_l09Body_l0 _ _ _ _ (k'+1) s.1 i s.2=_
   unfold g_spec_l09Body_l0
   rw[decide_eq_false (by omega),cond_false]) (s:=([],a.2)) ⟨⟨.nil,by simp⟩,ha.2.2⟩
  refine .bind (.bind L λ x hx=>.some (Q:=λ (r:List GOp×GL01Cur)=>(GB n r.1/\r.1.length<=4)/\Cok r.2) ⟨⟨hx.1.1,by have:=hx.1.2;show x.1.length<=4;omega⟩,hx.2⟩) λ x hx => ?_
  refine .bind (Q:=λ r=>(GB n r.1/\r.1.length<=5)/\Cok r.2) (.bind (once_ok hx.2 (by decide)) λ y hy=>.cond (λ _=>.bindE (app_eq (by simp;omega)) (.some ⟨⟨hx.1.1.app (.one (.ctl (by decide)) (by show ¬(3<=(8:Int)/\(8:Int)<=7);omega)),by simp;omega⟩,hy⟩)) λ _=>.some ⟨⟨hx.1.1,by show x.1.length<=5;omega⟩,hy⟩) λ r hr=>.some hr
 | succ d ih =>
  intro k hk n c hn h hd
  obtain ⟨k,rfl⟩:∃ k',k=k'+1:=⟨k-1,by omega⟩
  show Tot (g_spec_l09Body_b (g_spec_l09Body_r k) n _ c) _
  unfold g_spec_l09Body_b
  have hL:bodyL d<=100000:=by
   match d,hd with
   | 0,_=>decide
   | 1,_=>decide
   | 2,_=>decide
   | 3,_=>decide
  refine .bind (below_ok h (by decide)) λ a ha => ?_
  have L:=forLoop (n:=a.1) (F:=λ k' i (s:List GOp×GL01Cur)=>g_spec_l09Body_l0 (g_spec_l09Body_r k) n ((d+1:Nat):Int) a.1 k' s.1 i s.2) (λ i s=>(GB n s.1/\(s.1.length:Int)<=i*(bodyL d+4))/\Cok s.2) (by omega) (λ k' i s h0 h1 hI hk2=>by
   show Tot (g_spec_l09Body_l0 _ _ _ _ (k'+1) s.1 i s.2) _
   unfold g_spec_l09Body_l0
   have hi:i*((bodyL d:Int)+4)<=4*100004:=by
    have:i<=4:=by omega
    exact Int.le_trans (Int.mul_le_mul_of_nonneg_right this (by omega)) (by omega)
   have hi1:(i+1)*((bodyL d:Int)+4)=i*((bodyL d:Int)+4)+(bodyL d+4):=by rw[Int.add_mul,Int.one_mul]
   have hIl:=hI.1.2
   rw[decide_eq_true h1,cond_true]
   refine .bind (Q:=λ r=>(GB n r.1/\(r.1.length:Int)<=(i+1)*(bodyL d+4))/\Cok r.2) (.bind (plain_ok hI.2 hn) λ x hx=>.bindE (app_eq (by simp;omega)) (.bind (Q:=λ r=>Cok r.2) (.condD (λ hz=>.some hx.2) λ _=>.bind (once_ok hx.2 (by decide)) λ y hy=>.some hy) λ r hr => ?_)) λ r hr => ?_
   ·have g1:=hI.1.1.app hx.1
    refine .cond (λ _=>.some ⟨⟨g1,by simp only[List.length_append,List.length_singleton];omega⟩,hr⟩) λ _ => ?_
    rw[show IntKind.wrap .i64 (((d+1:Nat):Int)-1)=(d:Int) by rw[wI64 (by omega) (by omega)];omega]
    refine .bind (ih k (by omega) hn hr (by omega)) λ u hu=>.bind (below_ok hu.2 (by decide)) λ w hw => ?_
    have hul:=hu.1.2
    refine .cond (λ _=>.bind (below_ok hw.2.2 (by decide)) λ z hz => ?_) λ _=>.cond (λ _ => ?_) λ _ => ?_
    ·rw[app_eq (by simp;omega),Option.bind_some,app_eq (by simp;omega),Option.bind_some,app_eq (by simp;omega),Option.bind_some]
     refine .some ⟨⟨?_,by simp only[List.length_append,List.length_cons,List.length_nil];omega⟩,hz.2.2⟩
     have g2:GB n [(⟨0,IntKind.wrap .i32 z.1⟩:GOp)]:=.one (.lit _) (by show ¬(3<=(0:Int)/\_);omega)
     have:=(g1.app g2).app (hu.1.1.wrap (k:=6) (e:=7) (by omega) (by omega))
     simpa [List.append_assoc] using this
    ·rw[app_eq (by simp;omega),Option.bind_some,app_eq (by simp;omega),Option.bind_some,app_eq (by simp;omega),Option.bind_some]
     refine .some ⟨⟨?_,by simp only[List.length_append,List.length_cons,List.length_nil];omega⟩,hw.2.2⟩
     have:=g1.app (hu.1.1.wrap (k:=3) (e:=5) (by omega) (by omega))
     simpa [List.append_assoc] using this
    ·rw[app_eq (by simp;omega),Option.bind_some,app_eq (by simp;omega),Option.bind_some,app_eq (by simp;omega),Option.bind_some]
     refine .some ⟨⟨?_,by simp only[List.length_append,List.length_cons,List.length_nil];omega⟩,hw.2.2⟩
     have:=g1.app (hu.1.1.wrap (k:=4) (e:=5) (by omega) (by omega))
     simpa [List.append_assoc] using this
   ·rw[wI64 (x:=i+1) (by omega) (by omega)]
    exact hk2 (_,_) hr) (λ k' i s hi _=>by
   show g_spec_l09Body_l0 _ _ _ _ (k'+1) s.1 i s.2=_
   unfold g_spec_l09Body_l0
   rw[decide_eq_false (by omega),cond_false]) (s:=([],a.2)) ⟨⟨.nil,by simp⟩,ha.2.2⟩
  have hm:max 0 a.1*((bodyL d:Int)+4)<=4*((bodyL d:Int)+4):=Int.mul_le_mul_of_nonneg_right (by omega) (by omega)
  refine .bind (.bind L λ x hx=>.some (Q:=λ (r:List GOp×GL01Cur)=>(GB n r.1/\r.1.length<=4*(bodyL d+4))/\Cok r.2) ⟨⟨hx.1.1,by have:=hx.1.2;show x.1.length<=4*(bodyL d+4);omega⟩,hx.2⟩) λ x hx => ?_
  refine .bind (Q:=λ r=>(GB n r.1/\r.1.length<=4*(bodyL d+4)+1)/\Cok r.2) (.bind (once_ok hx.2 (by decide)) λ y hy=>.cond (λ _=>.bindE (app_eq (by simp;omega)) (.some ⟨⟨hx.1.1.app (.one (.ctl (by decide)) (by show ¬(3<=(8:Int)/\(8:Int)<=7);omega)),by simp;omega⟩,hy⟩)) λ _=>.some ⟨⟨hx.1.1,by show x.1.length<=4*(bodyL d+4)+1;omega⟩,hy⟩) λ r hr=>.some hr
end Go.Proofs.YtofjeimkphojaaaGreatDoor
namespace Go.Proofs.YtofjeimkphojaaaGreatDoor
open Go Go.Fm
set_option maxRecDepth 100000
def names5:List Bs:=[[103,111],[120],[115,113,117,97,114,101],[97,33,97],[116,101,110]]
structure DD (n:Int) (d:GDef):Prop where
 nm:d.Name ∈ names5
 b:GB n d.Body
 l:d.Body.length<=52
theorem exit_gb {n:Int}:GB n [⟨8,0⟩]:=.one (.ctl (by decide)) (by show ¬(3<=(8:Int)/\(8:Int)<=7);omega)
theorem make9_ok {c:GL01Cur} (h:Cok c):Tot (g_spec_l09Make c) λ r=>((1<=r.1.length/\r.1.length<=4)/\∀ d ∈ r.1,DD r.1.length d)/\Cok r.2:=by
 unfold g_spec_l09Make
 refine .bind (below_ok h (by decide)) λ a ha => ?_
 rw[wI64 (x:=1+a.1) (by omega) (by omega)]
 have L:=forLoop (n:=1+a.1) (F:=λ k i (s:List GDef×GL01Cur)=>g_spec_l09Make_l0 (1+a.1) k s.1 i s.2) (λ i s=>((s.1.length:Int)=i/\∀ d ∈ s.1,DD (1+a.1) d)/\Cok s.2) (by omega) (λ k i s h0 h1 hI hk=>by
  show Tot (g_spec_l09Make_l0 _ (k+1) s.1 i s.2) _
  unfold g_spec_l09Make_l0
  rw[decide_eq_true h1,cond_true]
  refine .bind (Q:=λ r=>((r.1.length:Int)=i+1/\∀ d ∈ r.1,DD (1+a.1) d)/\Cok r.2) ?_ λ r hr => ?_
  ·refine .bind (Q:=λ r=>(0<=r.1/\r.1<=1+a.1)/\Cok r.2) (.bind (once_ok hI.2 (by decide)) λ x hx=>.cond (λ _=>.some ⟨⟨by show 0<=1+a.1;omega,Int.le_refl _⟩,hx⟩) λ _=>.some ⟨⟨h0,by show i<=1+a.1;omega⟩,hx⟩) λ q hq => ?_
   obtain ⟨⟨q0,q1⟩,q2⟩:=hq
   refine .bind (body_ok 2 bigK (by unfold bigK;omega) (by omega) q2 (by omega)) λ b hb => ?_
   refine .bind (Q:=λ r=>GB q.1 r/\r.length<=50) (.condD (λ _=>.some ⟨.nil,by simp⟩) λ hl=>.some ⟨hb.1.1,by omega⟩) λ bd hbd => ?_
   refine .bind (Q:=λ r=>(GB (1+a.1) r.1/\r.1.length<=52)/\Cok r.2) (.bind (below_ok hb.2 (by decide)) λ w hw=>.cond (λ _=>.some ⟨⟨hbd.1.mono q1,by show bd.length<=52;omega⟩,hw.2.2⟩) λ _=>.cond (λ _ => ?_) λ _=>.bindE (app_eq (by simp;omega)) (.some ⟨⟨(hbd.1.app exit_gb).mono q1,by simp;omega⟩,hw.2.2⟩)) λ e he => ?_
   ·refine .bind (Q:=λ r=>(GB q.1 r.1/\r.1.length<=51)/\Cok r.2) (.condD (λ hp=>.bind (below_ok hw.2.2 (by omega)) λ z hz=>.bindE (app_eq (by simp;omega)) (.some ⟨⟨hbd.1.app (.one ?_ (by show ¬(3<=(2:Int)/\_);omega)),by simp;omega⟩,hz.2.2⟩)) λ _=>.some ⟨⟨hbd.1,by show bd.length<=51;omega⟩,hw.2.2⟩) λ u hu=>.bindE (app_eq (by have:=hu.1.2;simp;omega)) (.some ⟨⟨(hu.1.1.app exit_gb).mono q1,by have:=hu.1.2;simp;omega⟩,hu.2⟩)
    rw[wI32 (by omega) (by omega)]
    exact .call ⟨hz.1,hz.2.1⟩ (by omega)
   ·refine .bind (pick_ok he.2 (by decide)) λ z hz=>.bindE (app_eq (by simp;omega)) (.some ⟨⟨by have:=hI.1.1;simp;omega,λ d hd => ?_⟩,hz.2⟩)
    rcases List.mem_append.1 hd with hd|hd
    ·exact hI.1.2 d hd
    ·rw[List.mem_singleton.1 hd];exact ⟨hz.1,he.1.1,he.1.2⟩
  ·rw[wI64 (x:=i+1) (by omega) (by omega)]
   exact hk (_,_) hr) (λ k i s hi _=>by
  show g_spec_l09Make_l0 _ (k+1) s.1 i s.2=_
  unfold g_spec_l09Make_l0
  rw[decide_eq_false (by omega),cond_false]) (s:=([],a.2)) ⟨⟨rfl,λ d hd=>by cases hd⟩,ha.2.2⟩
 refine .bind (.bind L λ x hx=>.some (Q:=λ (r:List GDef×GL01Cur)=>((r.1.length:Int)=1+a.1/\∀ d ∈ r.1,DD (1+a.1) d)/\Cok r.2) ⟨⟨by have:=hx.1.1;show (x.1.length:Int)=_;omega,hx.1.2⟩,hx.2⟩) λ x hx=>.some ⟨⟨⟨by have:=hx.1.1;show 1<=x.1.length;omega,by have:=hx.1.1;show x.1.length<=4;omega⟩,λ d hd => ?_⟩,hx.2⟩
 have e:((x.1.length:Nat):Int)=1+a.1:=hx.1.1
 show DD (x.1.length:Int) d
 rw[e];exact hx.1.2 d hd
theorem names5_ok:∀ s ∈ names5,g_spec_NameOk s=some true:=by
 intro s hs
 unfold names5 at hs
 simp only[List.mem_cons,List.not_mem_nil,or_false]at hs
 rcases hs with rfl|rfl|rfl|rfl|rfl<;>decide +kernel
theorem GB.shape {n:Int} {l:List GOp} (h:GB n l) (hl:l.length<=60):shapeB l=true:=by
 unfold shapeB
 rw[decide_eq_true hl,Bool.true_and,Bool.and_eq_true]
 exact ⟨List.all_eq_true.2 λ o ho=>(h.ok o ho).1,decide_eq_true (h.bal [])⟩
theorem i32_op {n:Int} (hn:n<=24) {o:GOp} (h:GO n o) (hk:o.Kind=2):IntKind.wrap .i64 o.N=o.N:=by have:=h.2 hk;exact wI64 (by omega) (by omega)
theorem defsOk_true {defs:List GDef} (hl:defs.length<=4) (h:∀ d ∈ defs,DD defs.length d):g_spec_DefsOk defs=some true:=by
 unfold g_spec_DefsOk
 rw[decide_eq_false (by omega),cond_false]
 have h0:=allLoop (L:=defs) (bad:=false) (λ _ _=>true) (g_spec_DefsOk_l0 defs) (λ k n d hx hn=>by
   have hd:=h d (List.mem_of_getElem? hx)
   have h1:=allLoop (L:=d.Body) (bad:=false) (λ _ _=>true) (g_spec_DefsOk_l1 defs (n:Int)) (λ k m o ho hm=>by
    rw[g_spec_DefsOk_l1,getI_nat,hx,Option.bind_some,decide_eq_true (by omega),cond_true,Option.bind_some,getI_nat,ho,Option.bind_some]
    have hg:=hd.b.ok o (List.mem_of_getElem? ho)
    by_cases hk:o.Kind=2
    ·have:=hg.2 hk
     rw[show (o.Kind==2)=true by simp[hk],cond_true,i32_op (by omega) hg hk,decide_eq_false (by omega),Option.bind_some,cond_false,nxt (by have:=hd.l;omega)];rfl
    ·rw[show (o.Kind==2)=false by simp[hk],cond_false,Option.bind_some,cond_false,nxt (by have:=hd.l;omega)];rfl) (λ k m hm=>by rw[g_spec_DefsOk_l1,getI_nat,hx,Option.bind_some,decide_eq_false (by omega),cond_false]) (by have:=hd.l;omega)
   have e:∀ (n:Nat) (l:List GOp),allN (λ _ _=>true) n l=true:=λ n l=>by rw[allN_const (λ _=>true)];simp
   rw[e]at h1
   rw[g_spec_DefsOk_l0,decide_eq_true (by omega),cond_true,getI_nat,hx]
   simp only[Option.bind_some]
   rw[names5_ok _ hd.nm,specShape (by have:=hd.l;omega),hd.b.shape (by have:=hd.l;omega)]
   simp only[Option.bind_some,Bool.not_true,cond_false]
   rw[h1]
   simp only[Option.bind_some,cond_true]
   rw[nxt (by omega)]) (λ k n hn=>by rw[g_spec_DefsOk_l0,decide_eq_false (by omega),cond_false]) (by omega)
 have e:∀ (n:Nat) (l:List GDef),allN (λ _ _=>true) n l=true:=λ n l=>by rw[allN_const (λ _=>true)];simp
 rw[e]at h0
 rw[h0];rfl
end Go.Proofs.YtofjeimkphojaaaGreatDoor
namespace Go.Proofs.YtofjeimkphojaaaGreatDoor
open Go Go.Fm
set_option maxRecDepth 100000
mutual
def szT:GTree->Nat
 | ⟨_,_,ks⟩=>1+szS ks
def szS:List GTree->Nat
 | []=>0
 | t::r=>szT t+szS r
end
mutual
def cgT (n:Int):GTree->Prop
 | ⟨k,m,ks⟩=>(k=2->0<=m/\m < n)/\cgS n ks
def cgS (n:Int):List GTree->Prop
 | []=>True
 | t::r=>cgT n t/\cgS n r
end
theorem szS_app:∀ a b:List GTree,szS (a++b)=szS a+szS b
 | [],b=>by simp[szS]
 | t::r,b=>by rw[List.cons_append,szS,szS_app r b,szS];omega
theorem szT_eq (t:GTree):szT t=1+szS t.Kids:=by cases t;rfl
theorem szS_len:∀ ts:List GTree,ts.length<=szS ts
 | []=>Nat.le_refl _
 | t::r=>by rw[List.length_cons,szS,szT_eq];have:=szS_len r;omega
theorem szS_mem:∀ {ts:List GTree} {t:GTree},t ∈ ts->szS t.Kids < szS ts
 | x::r,t,h=>by
  rw[szS,szT_eq]
  rcases List.mem_cons.1 h with rfl|h
  ·omega
  ·have:=szS_mem h;omega
theorem cgS_mem {n:Int}:∀ {ts:List GTree} {t:GTree},cgS n ts->t ∈ ts->(t.Kind=2->0<=t.N/\t.N < n)/\cgS n t.Kids
 | x::r,t,hc,h=>by
  rw[cgS]at hc
  rcases List.mem_cons.1 h with rfl|h
  ·obtain ⟨k,m,ks⟩:=t
   have:=hc.1
   rw[cgT]at this
   exact this
  ·exact cgS_mem hc.2 h
theorem tree_ok {n:Int} {body:List GOp} (hb:body.length<=1000) (hg:∀ o ∈ body,o.Kind=2->0<=o.N/\o.N < n):∀ (m i:Nat),body.length-i<=m->i<=2*body.length->∀ (rk k:Nat),m<=rk->m < k->∀ out:List GTree,out.length+m<=2000 →
  ∃ (ts:List GTree) (j:Nat),g_spec_l09Trees_l0 (g_spec_l09Trees_r rk) body k (i:Int) out=some ((j:Int),out++ts)/\i<=j/\j<=max i (2*body.length-i)/\szS ts<=j-i/\cgS n ts:=by
 intro m
 induction m with
 | zero =>
  intro i hm hi rk k h1 h2 out ho
  obtain ⟨k,rfl⟩:∃ k',k=k'+1:=⟨k-1,by omega⟩
  refine ⟨[],i,?_,Nat.le_refl _,by omega,by simp[szS],trivial⟩
  rw[g_spec_l09Trees_l0,decide_eq_false (by omega)]
  simp
 | succ m ih =>
  intro i hm hi rk k h1 h2 out ho
  obtain ⟨k,rfl⟩:∃ k',k=k'+1:=⟨k-1,by omega⟩
  obtain ⟨rk,rfl⟩:∃ k',rk=k'+1:=⟨rk-1,by omega⟩
  by_cases hn:i < body.length
  case neg =>
   refine ⟨[],i,?_,Nat.le_refl _,by omega,by simp[szS],trivial⟩
   rw[g_spec_l09Trees_l0,decide_eq_false (by omega)]
   simp
  have hget:getI body (i:Int)=some body[i]:=by rw[getI_nat,List.getElem?_eq_getElem hn]
  have hgo:=hg body[i] (List.getElem_mem hn)
  generalize body[i]=o at hget hgo
  obtain ⟨c,e1⟩:∃ c:Bool,(cond (decide ((i:Int) < (body.length:Int))) ((getI body (i:Int)).bind λ v_11=>cond (v_11.Kind != 5) ((getI body (i:Int)).bind λ v_12=>some (v_12.Kind != 7)) (some false)) (some false):Option Bool)=some c:=by
   rw[decide_eq_true (by omega),cond_true,hget]
   simp only[Option.bind_some]
   cases (o.Kind != 5)<;>exact ⟨_,rfl⟩
  rw[g_spec_l09Trees_l0,e1,Option.bind_some]
  cases c
  ·refine ⟨[],i,by simp,Nat.le_refl _,by omega,by simp[szS],trivial⟩
  ·rw[cond_true,hget]
   simp only[Option.bind_some]
   obtain ⟨c2,e2⟩:∃ c:Bool,(cond (o.Kind==3) (some true) (cond (o.Kind==4) (some true) (some (o.Kind==6))):Option Bool)=some c:=by
    cases o.Kind==3<;>cases o.Kind==4<;>exact ⟨_,rfl⟩
   rw[e2,Option.bind_some,show IntKind.wrap .i64 ((i:Int)+1)=((i+1:Nat):Int) by rw[wI64 (by omega) (by omega)];omega]
   cases c2
   ·rw[cond_false,Option.bind_some,app_eq (by simp;omega),Option.bind_some]
    obtain ⟨ts,j,f1,f2,f3,f4,f5⟩:=ih (i+1) (by omega) (by omega) (rk+1) k (by omega) (by omega) (out++[⟨o.Kind,o.N,[]⟩]) (by simp;omega)
    refine ⟨⟨o.Kind,o.N,[]⟩::ts,j,?_,by omega,by omega,?_,?_⟩
    ·rw[f1,List.append_assoc];rfl
    ·rw[szS,szT_eq];show 1+szS []+szS ts<=_;rw[szS];omega
    ·rw[cgS,cgT];exact ⟨⟨hgo,trivial⟩,f5⟩
   ·rw[cond_true]
    obtain ⟨ts,j,g1,g2,g3,g4,g5⟩:=ih (i+1) (by omega) (by omega) rk bigK (by omega) (by unfold bigK;omega) [] (by simp;omega)
    have e5:g_spec_l09Trees_r (rk+1) body ((i+1:Nat):Int)=some (ts,(j:Int)):=by
     rw[g_spec_l09Trees_r,g_spec_l09Trees_b,g1];rfl
    rw[e5]
    simp only[Option.bind_some]
    rw[app_eq (by simp;omega),Option.bind_some,show IntKind.wrap .i64 ((j:Int)+1)=((j+1:Nat):Int) by rw[wI64 (by omega) (by omega)];omega]
    obtain ⟨ts2,j2,f1,f2,f3,f4,f5⟩:=ih (j+1) (by omega) (by omega) (rk+1) k (by omega) (by omega) (out++[⟨o.Kind,o.N,ts⟩]) (by simp;omega)
    refine ⟨⟨o.Kind,o.N,ts⟩::ts2,j2,?_,by omega,by omega,?_,?_⟩
    ·rw[f1,List.append_assoc];rfl
    ·rw[szS,szT_eq];show 1+szS ts+szS ts2<=_;omega
    ·rw[cgS,cgT];exact ⟨⟨hgo,g5⟩,f5⟩
theorem treeOf_ok {n:Int} {d:List GOp} (hg:GB n d) (hl:d.length<=52):Tot (g_spec_TreeOf d) λ r=>szS r<=104/\cgS n r:=by
 unfold g_spec_TreeOf
 rw[specShape (by omega),hg.shape (by omega),Option.bind_some,Bool.not_true,cond_false]
 obtain ⟨ts,j,e1,e2,e3,e4,e5⟩:=tree_ok (n:=n) (body:=d) (by omega) (λ o ho=>(hg.ok o ho).2) d.length 0 (by omega) (by omega) (bigK-1) bigK (by unfold bigK;omega) (by unfold bigK;omega) [] (by simp;omega)
 rw[g_spec_l09Trees,show bigK=(bigK-1)+1 from rfl,g_spec_l09Trees_r,g_spec_l09Trees_b]
 rw[show ((0:Nat):Int)=0 from rfl]at e1
 rw[e1]
 exact .bindE rfl (.some ⟨by show szS ([]++ts)<=104;rw[List.nil_append];omega,by show cgS n ([]++ts);exact e5⟩)
end Go.Proofs.YtofjeimkphojaaaGreatDoor
namespace Go.Proofs.YtofjeimkphojaaaGreatDoor
open Go Go.Fm
set_option maxRecDepth 100000
theorem wide_ok:∀ (rk:Nat) (list:List GTree) (tail:Bool),szS list < rk->szS list<=1000->Tot (g_spec_l11Wide_r rk list tail) λ _=>True:=by
 intro rk
 induction rk with
 | zero=>intro l t h;omega
 | succ rk ih =>
  intro list tail h hz
  have hl:=szS_len list
  show Tot (g_spec_l11Wide_b (g_spec_l11Wide_r rk) list tail) _
  unfold g_spec_l11Wide_b
  have L:=forLoop (n:=(list.length:Int)) (F:=λ k i (s:Int)=>g_spec_l11Wide_l0 (g_spec_l11Wide_r rk) list tail k s i) (λ i s=>True) (by omega) (λ k i s h0 h1 hI hk=>by
   show Tot (g_spec_l11Wide_l0 _ _ _ (k+1) s i) _
   unfold g_spec_l11Wide_l0
   obtain ⟨t,ht,hm,_⟩:=getI_ex (xs:=list) h0 h1
   rw[decide_eq_true h1,cond_true,ht]
   refine .bind (Q:=λ _=>True) ?_ λ r hr => ?_
   ·simp only[Option.bind_some]
    refine .bind (ih t.Kids tail (by have:=szS_mem hm;omega) (by have:=szS_mem hm;omega)) λ x _=>.bind (Q:=λ _=>True) (by cases t.Kind==6<;>exact .some trivial) λ y _=>.bind (Q:=λ _=>True) ?_ λ z _=>by cases z<;>exact .some trivial
    refine .cond (λ _=>.condD (λ hp=>.cond (λ _ => ?_) λ _=>.some trivial) λ _=>.some trivial) λ _=>.some trivial
    rw[wI64 (by omega) (by omega)]
    obtain ⟨u,hu,_⟩:=getI_ex (xs:=list) (i:=i-1) (by omega) (by omega)
    exact .bindE hu (.some trivial)
   ·rw[wI64 (x:=i+1) (by omega) (by omega)]
    exact hk _ trivial) (λ k i s hi _=>by
   show g_spec_l11Wide_l0 _ _ _ (k+1) s i=_
   unfold g_spec_l11Wide_l0
   rw[decide_eq_false (by omega),cond_false]) (s:=0) trivial
  exact .bind (.bind L λ x hx=>.some (Q:=λ _=>True) trivial) λ x _=>.some trivial
def IB (l:List GIns):Prop:=∀ i ∈ l,i64B i.N
theorem IB.app {a b:List GIns} (ha:IB a) (hb:IB b):IB (a++b):=λ i h=>(List.mem_append.1 h).elim (ha i) (hb i)
theorem i64wB (x:Int):i64B (IntKind.wrap .i64 x):=by
 unfold i64B IntKind.wrap
 simp only[IntKind.signed,IntKind.bits,if_true]
 have:=Int.emod_lt_of_pos (x+9223372036854775808) (b:=18446744073709551616) (by decide)
 have:=Int.emod_nonneg (x+9223372036854775808) (b:=18446744073709551616) (by decide)
 constructor<;>first|omega|(simp;omega)
theorem IB.one {o n:Int} (h:i64B n):IB [⟨o,n⟩]:=λ i hi=>by rw[List.mem_singleton.1 hi];exact h
theorem zB:i64B 0:=by unfold i64B;omega
theorem codeTrees_ok:∀ (rk:Nat) (out:List GIns) (list:List GTree) (starts:List Int) (tail:Bool),szS list < rk->szS list<=1000->cgS starts.length list->out.length+2*szS list<=10000->IB out->(∀ x ∈ starts,i64B x) →
  Tot (g_spec_l11Trees_r rk out list starts tail) λ r=>r.length<=out.length+2*szS list/\IB r:=by
 intro rk
 induction rk with
 | zero=>intro _ _ _ _ h;omega
 | succ rk ih =>
  intro out list starts tail h hz hc ho hi hs
  have hl:=szS_len list
  show Tot (g_spec_l11Trees_b (g_spec_l11Trees_r rk) out list starts tail) _
  unfold g_spec_l11Trees_b
  have key:∀ (k i:Nat) (o:List GIns),i<=list.length+1->list.length+1-i < k->o.length<=out.length+2*szS (list.take i)->IB o->Tot (g_spec_l11Trees_l0 (g_spec_l11Trees_r rk) list starts tail k o (i:Int)) λ r=>r.length<=out.length+2*szS list/\IB r:=by
   intro k
   induction k with
   | zero=>intro i o h0 h1;omega
   | succ k ihk =>
    intro i o h0 h1 h2 h3
    unfold g_spec_l11Trees_l0
    by_cases hi2:i < list.length
    ·rw[decide_eq_true (by omega),cond_true]
     have hget:getI list (i:Int)=some list[i]:=by rw[getI_nat,List.getElem?_eq_getElem hi2]
     have hmem:=List.getElem_mem hi2
     have htake:szS (list.take (i+1))=szS (list.take i)+(1+szS list[i].Kids):=by rw[List.take_succ_eq_append_getElem hi2,szS_app,szS,szS,szT_eq];omega
     have htot:szS (list.take (i+1))<=szS list:=by
      have:=szS_app (list.take (i+1)) (list.drop (i+1));rw[List.take_append_drop]at this;omega
     have hcg:=cgS_mem hc hmem
     have hsz:=szS_mem hmem
     have next:∀ (o':List GIns) (j:Nat),(j=i\/j=i+1/\i+1 < list.length)->o'.length<=out.length+2*szS (list.take (i+1))->IB o'->Tot (g_spec_l11Trees_l0 (g_spec_l11Trees_r rk) list starts tail k o' (IntKind.wrap .i64 ((j:Int)+1))) λ r=>r.length<=out.length+2*szS list/\IB r:=λ o' j hj hl' hb'=>by
      rw[wI64 (by omega) (by omega),show (j:Int)+1=((j+1:Nat):Int) by omega]
      refine ihk (j+1) o' (by omega) (by omega) ?_ hb'
      rcases hj with rfl|⟨rfl,hj⟩
      ·exact hl'
      ·have:szS (list.take (i+1))<=szS (list.take (i+1+1)):=by rw[List.take_succ_eq_append_getElem hj,szS_app];omega
       omega
     generalize list[i]=t at hget hcg htake hsz
     rw[hget]
     refine .bind (Q:=λ r=>(∃ j:Nat,r.2=(j:Int)/\(j=i\/j=i+1/\i+1 < list.length))/\r.1.length<=out.length+2*szS (list.take (i+1))/\IB r.1) ?_ λ r hr => ?_
     ·simp only[Option.bind_some]
      have one:∀ (op m:Int),i64B m->Tot (app o [(⟨op,m⟩:GIns)]) λ r=>r.length=o.length+1/\IB r:=λ op m hm=>by rw[app_eq (by simp;omega)];exact .some ⟨by simp,h3.app (.one hm)⟩
      refine .cond (λ _=>.bind (one _ _ (i64wB _)) λ x hx=>.some ⟨⟨i,rfl, .inl rfl⟩,by show x.length<=_;omega,hx.2⟩) λ _=>.cond (λ _=>.bind (one _ _ (i64wB _)) λ x hx=>.some ⟨⟨i,rfl, .inl rfl⟩,by show x.length<=_;omega,hx.2⟩) λ _=>.cond (λ h2 => ?_) λ _=>.cond (λ _ => ?_) λ _=>.cond (λ _=>.bind (one _ _ zB) λ x hx=>.some ⟨⟨i,rfl, .inl rfl⟩,by show x.length<=_;omega,hx.2⟩) λ _ => ?_
      ·have hN:=hcg.1 (by simpa using h2)
       obtain ⟨v,hv,hvm,_⟩:=getI_ex (xs:=starts) hN.1 hN.2
       refine .bind (Q:=λ b=>b=true->i+1 < list.length) (.cond (λ _=>.condD (λ hp => ?_) λ _=>.some λ e=>nomatch e) λ _=>.some λ e=>nomatch e) λ b hb=>.cond (λ hbt => ?_) λ _ => ?_
       ·rw[wI64 (by omega) (by omega)]at hp ⊢
        obtain ⟨u,hu,_⟩:=getI_ex (xs:=list) (i:=(i:Int)+1) (by omega) hp
        exact .bindE hu (.some λ _=>by omega)
       ·rw[wI64 (by omega) (by omega),show (i:Int)+1=((i+1:Nat):Int) by omega]
        exact .bindE hv (.bind (one _ _ (hs _ hvm)) λ x hx=>.some ⟨⟨i+1,rfl, .inr ⟨rfl,hb hbt⟩⟩,by show x.length<=_;omega,hx.2⟩)
       ·exact .bindE hv (.bind (one _ _ (hs _ hvm)) λ x hx=>.some ⟨⟨i,rfl, .inl rfl⟩,by show x.length<=_;omega,hx.2⟩)
      ·refine .bind (one _ _ zB) λ x hx=>.bind (ih x t.Kids starts tail (by omega) (by omega) hcg.2 (by omega) hx.2 hs) λ y hy=>.bindE (app_eq (by have:=hy.1;simp;omega)) (.some ⟨⟨i,rfl, .inl rfl⟩,by have:=hy.1;simp;omega,hy.2.app (.one (i64wB _))⟩)
      ·refine .bind (Q:=λ _=>True) (by cases t.Kind==4<;>exact .some trivial) λ op _=>.bind (wide_ok bigK t.Kids tail (by unfold bigK;omega) (by omega)) λ w _=>.bind (one _ _ (i64wB _)) λ x hx=>.bind (ih x t.Kids starts tail (by omega) (by omega) hcg.2 (by omega) hx.2 hs) λ y hy=>.some ⟨⟨i,rfl, .inl rfl⟩,by have:=hy.1;show y.length<=_;omega,hy.2⟩
     ·obtain ⟨⟨j,hj,hj2⟩,hr2,hr3⟩:=hr
      obtain ⟨r1,r2⟩:=r
      have hj:r2=(j:Int):=hj
      subst hj
      exact next r1 j hj2 hr2 hr3
    ·rw[decide_eq_false (by omega),cond_false]
     rw[List.take_of_length_le (by omega)]at h2
     exact .some ⟨h2,h3⟩
  have k0:=key bigK 0 out (by omega) (by unfold bigK;omega) (by simp[szS]) hi
  rw[Int.natCast_zero]at k0
  exact .bind (.bind k0 λ x hx=>.some (Q:=λ (r:List GIns)=>r.length<=out.length+2*szS list/\IB r) hx) λ x hx=>.some hx
theorem codeOf_ok {defs:List GDef} {tail:Bool} (hl:1<=defs.length/\defs.length<=4) (h:∀ d ∈ defs,DD defs.length d):Tot (g_spec_CodeOf defs tail) λ r=>(1<=r.1.length/\r.1.length<=1000/\IB r.1)/\r.2.length=defs.length:=by
 unfold g_spec_CodeOf
 rw[defsOk_true hl.2 h,Option.bind_some,Bool.not_true,cond_false]
 have key:∀ (k i:Nat) (st:List Int) (n:Int),i<=defs.length->st.length=i->(∀ x ∈ st,i64B x)->i64B n->defs.length-i < k->Tot (g_spec_CodeOf_l0 defs tail k st n (i:Int)) λ r=>r.length=defs.length/\∀ x ∈ r,i64B x:=by
  intro k
  induction k with
  | zero=>intro i st n h0 h1 h2 h3 h4;omega
  | succ k ih =>
   intro i st n h0 h1 h2 h3 h4
   unfold g_spec_CodeOf_l0
   by_cases hi:i < defs.length
   ·have hD:=h _ (List.getElem_mem hi)
    rw[decide_eq_true (by omega),cond_true,app_eq (by simp;omega),Option.bind_some,getI_nat,List.getElem?_eq_getElem hi,Option.bind_some]
    refine .bind (treeOf_ok hD.b hD.l) λ t ht=>.bind (wide_ok bigK t tail (by unfold bigK;omega) (by omega)) λ w _ => ?_
    rw[wI64 (x:=(i:Int)+1) (by omega) (by omega),show (i:Int)+1=((i+1:Nat):Int) by omega]
    refine ih (i+1) _ _ (by omega) (by simp;omega) (λ x hx => ?_) (i64wB _) (by omega)
    rcases List.mem_append.1 hx with hx|hx
    ·exact h2 x hx
    ·rw[List.mem_singleton.1 hx];exact h3
   ·rw[decide_eq_false (by omega),cond_false]
    exact .some ⟨by omega,h2⟩
 have k0:=key bigK 0 [] 0 (by omega) rfl (λ x hx=>by cases hx) zB (by unfold bigK;omega)
 rw[Int.natCast_zero]at k0
 refine .bind (.bind k0 λ x hx=>.some (Q:=λ (r:List Int)=>r.length=defs.length/\∀ x ∈ r,i64B x) hx) λ starts hst => ?_
 have L1:=forLoop (n:=(defs.length:Int)) (F:=λ k i (s:List GIns)=>g_spec_CodeOf_l1 defs tail starts k s i) (λ i s=>(s.length:Int)<=208*i/\IB s) (by omega) (λ k i s h0 h1 hI hk=>by
  show Tot (g_spec_CodeOf_l1 _ _ _ (k+1) s i) _
  unfold g_spec_CodeOf_l1
  obtain ⟨d,hd,hm,_⟩:=getI_ex (xs:=defs) h0 h1
  have hD:=h d hm
  rw[decide_eq_true h1,cond_true,hd,Option.bind_some]
  refine .bind (treeOf_ok hD.b hD.l) λ t ht=>.bind (codeTrees_ok bigK s t starts tail (by unfold bigK;omega) (by omega) (by rw[hst.1];exact ht.2) (by omega) hI.2 hst.2) λ y hy => ?_
  rw[wI64 (x:=i+1) (by omega) (by omega)]
  exact hk _ ⟨by omega,hy.2⟩) (λ k i s hi _=>by
  show g_spec_CodeOf_l1 _ _ _ (k+1) s i=_
  unfold g_spec_CodeOf_l1
  rw[decide_eq_false (by omega),cond_false]) (s:=[]) ⟨by simp,λ x hx=>by cases hx⟩
 refine .bind (.bind L1 λ x hx=>.some (Q:=λ (r:List GIns)=>r.length<=900/\IB r) ⟨by omega,hx.2⟩) λ x hx=>.bindE (app_eq (by simp;omega)) (.some ⟨⟨by simp,by simp;omega,hx.2.app (.one zB)⟩,hst.1⟩)
theorem any11_ok {c:GL01Cur} (h:Cok c):Tot (g_spec_l11Any c) λ r=>(r.1.length<=1000/\IB r.1)/\Cok r.2:=by
 unfold g_spec_l11Any
 refine .bind (make9_ok h) λ a ha=>.bind (once_ok ha.2 (by decide)) λ b hb=>.bind (codeOf_ok ha.1.1 ha.1.2) λ x hx => ?_
 obtain ⟨⟨x1,x2,x3⟩,_⟩:=hx
 refine .bind (Q:=λ o=>match o with | .inl (l,c)=>(l.length<=1000/\IB l)/\Cok c | .inr (l,c)=>(l.length<=1000/\IB l)/\Cok c) (.bind (below_ok hb (by decide)) λ y hy=>.cond (λ _ => ?_) λ _=>.cond (λ _ => ?_) λ _=>.some ⟨⟨x2,x3⟩,hy.2.2⟩) λ o ho => ?_
 ·refine .bind (below_ok hy.2.2 (by omega)) λ z hz=>.bind (below_ok hz.2.2 (by decide)) λ w hw=>.bind (pickInt_ok hw.2.2 (by simp)) λ v hv => ?_
  obtain ⟨u,hu,_⟩:=getI_ex (xs:=x.1) hz.1 hz.2.1
  refine .bindE hu (.some ⟨⟨by rw[List.length_set];exact x2,λ i hi => ?_⟩,hv.2⟩)
  rcases List.mem_or_eq_of_mem_set hi with hi|rfl
  ·exact x3 i hi
  ·have:=hv.1
   simp only[List.mem_cons,List.not_mem_nil,or_false]at this
   show i64B v.1
   rcases this with e|e|e|e|e|e|e|e<;>rw[e]<;>first|exact i64wB _|(unfold i64B;omega)
 ·refine .bind (below_ok hy.2.2 (by omega)) λ z hz => ?_
  obtain ⟨n,hn⟩:∃ n:Nat,z.1=n:=⟨z.1.toNat,by omega⟩
  rw[hn]
  refine .bindE (subL_take (by omega) (by omega)) (.some ⟨⟨by rw[List.length_take];omega,λ i hi=>x3 i (List.take_subset _ _ hi)⟩,hz.2.2⟩)
 ·rcases o with ⟨l,c⟩|⟨l,c⟩
  ·exact .some ho
  ·exact .some ho
structure DA (list:List GIns) (st:GSt):Prop where
 n:list.length<=1000
 i:IB list
 s:DS st
theorem ask_ok {c:GL01Cur} (h:Cok c):Tot (g_spec_l12Ask c) λ r=>DA r.1 r.2.2.1/\Cok r.2.2.2:=by
 unfold g_spec_l12Ask
 refine .bind (make9_ok h) λ a ha=>.bind (once_ok ha.2 (by decide)) λ b hb=>.bind (codeOf_ok ha.1.1 ha.1.2) λ x hx => ?_
 obtain ⟨⟨x1,x2,x3⟩,x4⟩:=hx
 have:=ha.1.1
 refine .bind (below_ok hb (by omega)) λ y hy => ?_
 obtain ⟨u,hu,_⟩:=getI_ex (xs:=x.2) hy.1 hy.2.1
 refine .bindE hu (.bind (make8_ok hy.2.2) λ st hst => ?_)
 refine .bind (Q:=λ r=>DA r.1 r.2.2.2/\Cok r.2.2.1) (.bind (below_ok hst.2 (by decide)) λ z hz=>.cond (λ _ => ?_) λ _=>.cond (λ _ => ?_) λ _=>.cond (λ _ => ?_) λ _ => ?_) λ r hr=>.some hr
 ·exact .bind (any11_ok hz.2.2) λ w hw=>.some ⟨⟨hw.1.1,hw.1.2,hst.1.1⟩,hw.2⟩
 ·rw[wI64 (by omega) (by omega)]
  exact .bind (below_ok hz.2.2 (by omega)) λ w hw=>.some ⟨⟨x2,x3,hst.1.1⟩,hw.2.2⟩
 ·exact .bind (any8_ok hz.2.2) λ w hw=>.some ⟨⟨x2,x3,hw.1⟩,hw.2⟩
 ·exact .some ⟨⟨x2,x3,hst.1.1⟩,hz.2.2⟩
end Go.Proofs.YtofjeimkphojaaaGreatDoor
namespace Go.Proofs.YtofjeimkphojaaaGreatDoor
open Go Go.Fm
set_option maxRecDepth 100000
def goesB (m:GMach):Bool := !m.Done&&(m.St.Fault==0)
def runs (code:List GIns):Nat->GMach->Nat×GMach
 | 0,m=>(0,m)
 | n+1,m=>cond (goesB m) (match g_impl_Mach_step code m with|some m'=>((runs code n m').1+1,(runs code n m').2)|none=>(0,m)) (0,m)
structure MO (code:List GIns) (m:GMach):Prop where
 s:SG m.St
 a:0<=m.At/\m.At < code.length
theorem MO.step {code:List GIns} (hc:CG code) {m:GMach} (h:MO code m) (hg:goesB m=true):∃ m',Step code m m'/\MO code m':=by
 unfold goesB at hg
 simp only[Bool.and_eq_true,Bool.not_eq_true',beq_iff_eq]at hg
 obtain ⟨m',hs⟩:=step_both hc ⟨h.s,h.a,hg.1⟩ hg.2
 exact ⟨m',hs,hs.s,hs.a⟩
end Go.Proofs.YtofjeimkphojaaaGreatDoor
namespace Go.Proofs.YtofjeimkphojaaaGreatDoor
open Go Go.Fm
set_option maxRecDepth 100000
theorem big_eq {code:List Int} {K:Bool->Option Bool}:((g_laws_big code).bind K)=K (decide ((code.length:Int) > 1048576)):=rfl
theorem DS.sz {st:GSt} (h:DS st):StSz st:=⟨by have:=h.r;omega,by have:=h.v;omega⟩
theorem start_mo {code:List GIns} {vat:Int} {st:GSt} (h:DS st) (hb:startB code vat st=true):codeB code=true/\SG st/\MO code (startM vat st):=by
 unfold startB at hb
 simp only[Bool.and_eq_true,decide_eq_true_eq]at hb
 obtain ⟨h1,h2,h3,h4⟩:=hb
 have hg:SG st:=.of h.g (stB_iff.1 h3)
 exact ⟨h1,hg,hg.start vat,h2.1,by show vat < _;omega⟩
end Go.Proofs.YtofjeimkphojaaaGreatDoor
namespace Go.Proofs.YtofjeimkphojaaaGreatDoor
open Go Go.Fm
set_option maxRecDepth 100000
theorem sameNums {a:List Int} (h:a.length<=1048576):g_laws_sameNums a a=some true :=
 eqRefl (g_laws_sameNums_l0 a a) _ rfl (λ k n x hx hn=>by
  rw[g_laws_sameNums_l0,decide_eq_true (by omega),cond_true,getI_nat,hx]
  simp only[Option.bind_some,bne_self',cond_false]
  rw[nxt (by omega)]) (λ k n hn=>by rw[g_laws_sameNums_l0,decide_eq_false (by omega),cond_false]) (by omega)
theorem sameInts {a:List Int} (h:a.length<=1048576):g_laws_sameInts a a=some true :=
 eqRefl (g_laws_sameInts_l0 a a) _ rfl (λ k n x hx hn=>by
  rw[g_laws_sameInts_l0,decide_eq_true (by omega),cond_true,getI_nat,hx]
  simp only[Option.bind_some,bne_self',cond_false]
  rw[nxt (by omega)]) (λ k n hn=>by rw[g_laws_sameInts_l0,decide_eq_false (by omega),cond_false]) (by omega)
structure DM (m:GMach):Prop where
 z:StSz m.St
 g:StI m.St
end Go.Proofs.YtofjeimkphojaaaGreatDoor
namespace Go.Proofs.YtofjeimkphojaaaGreatDoor
open Go Go.Fm
set_option maxRecDepth 100000
def sumI:List Int->Int
 | []=>0
 | x::r=>x+sumI r
theorem sumI_nn:∀ {l:List Int},(∀ x ∈ l,0<=x)->0<=sumI l
 | [],_=>Int.le_refl _
 | x::r,h=>by
  have:=sumI_nn (l:=r) λ y hy=>h y (List.mem_cons_of_mem _ hy)
  have:=h x (by simp)
  show 0<=x+sumI r
  omega
theorem sumI_mem:∀ {l:List Int} {x:Int},(∀ x ∈ l,0<=x)->x ∈ l->x<=sumI l
 | y::r,x,h,hx=>by
  have h0:=sumI_nn (l:=r) λ y hy=>h y (List.mem_cons_of_mem _ hy)
  have h1:=h y (by simp)
  show x<=y+sumI r
  rcases List.mem_cons.1 hx with rfl|hx
  ·omega
  ·have:=sumI_mem (λ z hz=>h z (List.mem_cons_of_mem _ hz)) hx
   omega
theorem sumI_set:∀ {l:List Int} {i:Nat} {v:Int},l[i]? = some v->sumI (l.set i (v+1))=sumI l+1
 | [],i,v,h=>by simp at h
 | x::r,0,v,h=>by
  have:x=v:=by simpa using h
  subst this
  show x+1+sumI r=x+sumI r+1
  omega
 | x::r,i+1,v,h=>by
  have:=sumI_set (l:=r) (i:=i) (v:=v) (by simpa using h)
  show x+sumI (r.set i (v+1))=x+sumI r+1
  omega
theorem sumI_app:∀ (a:List Int) (x:Int),sumI (a++[x])=sumI a+x
 | [],x=>by show x+0=0+x;omega
 | y::r,x=>by show y+sumI (r++[x])=y+sumI r+x;rw[sumI_app r x];omega
theorem sum_loop {l:List Int} (hl:l.length<=1000000) (h0:∀ x ∈ l,0<=x) (hs:sumI l<=4000):g_laws_FnProfile_l0 l bigK 0 0=some (sumI l):=by
 have key:∀ (k i:Nat),i<=l.length->l.length-i < k->g_laws_FnProfile_l0 l k (sumI (l.take i)) i=some (sumI l):=by
  intro k
  induction k with
  | zero=>intro i g0 g1;omega
  | succ k ih =>
   intro i g0 g1
   rw[g_laws_FnProfile_l0]
   by_cases hi:i < l.length
   ·rw[decide_eq_true (by omega),cond_true,getI_nat,List.getElem?_eq_getElem hi,Option.bind_some]
    have e:sumI (l.take (i+1))=sumI (l.take i)+l[i]:=by rw[List.take_succ_eq_append_getElem hi,sumI_app]
    have n1:=sumI_nn (l:=l.take i) λ x hx=>h0 x (List.take_subset _ _ hx)
    have n2:=h0 _ (List.getElem_mem hi)
    have n3:=sumI_mem h0 (List.getElem_mem hi)
    have n4:sumI (l.take i)<=sumI l:=by
     have:∀ (a b:List Int),(∀ x ∈ b,0<=x)->sumI a<=sumI (a++b):=λ a b hb=>by
      induction a with
      | nil=>exact sumI_nn hb
      | cons y r ih=>show y+sumI r<=y+sumI (r++b);omega
     have h:=this (l.take i) (l.drop i) λ x hx=>h0 x (List.drop_subset _ _ hx)
     rwa [List.take_append_drop]at h
    rw[wI64 (x:=sumI (l.take i)+l[i]) (by omega) (by omega),<-e,wI64 (by omega) (by omega),show (i:Int)+1=((i+1:Nat):Int) by omega]
    exact ih (i+1) (by omega) (by omega)
   ·rw[decide_eq_false (by omega),cond_false,List.take_of_length_le (by omega)]
 have k0:=key bigK 0 (by omega) (by unfold bigK;omega)
 exact k0
structure PO (code:List GIns) (out:List Int) (m:GMach) (T:Int):Prop where
 mo:MO code m
 n:out.length=code.length
 p:∀ x ∈ out,0<=x
 t:sumI out+m.St.Fuel=T
theorem prof_play {code:List GIns} (hc:CG code) {T:Int} (hT:T<=4000):∀ (k:Nat) (m:GMach) (out:List Int),PO code out m T->m.St.Fuel+1 < k →
  ∃ out' m',g_impl_Profile_l0 code k out m=some (out',m')/\g_impl_Play_l0 code k m=some m'/\PO code out' m' T:=by
 intro k
 induction k with
 | zero=>intro m out h h2;have:=h.mo.s.b.u;omega
 | succ k ih =>
  intro m out h hu
  have stop:∀ (k:Nat) (m:GMach) (out:List Int),goesB m=false->g_impl_Profile_l0 code (k+1) out m=some (out,m)/\g_impl_Play_l0 code (k+1) m=some m:=λ k m out hg=>by
   have hg:(!m.Done&&(m.St.Fault==0))=false:=hg
   refine ⟨?_,?_⟩
   ·rw[g_impl_Profile_l0,over_eq,hg];rfl
   ·rw[g_impl_Play_l0,over_eq,hg];rfl
  cases hg:goesB m
  ·obtain ⟨e1,e2⟩:=stop k m out hg
   exact ⟨_,_,e1,e2,h⟩
  ·obtain ⟨m',hs,hm'⟩:=h.mo.step hc hg
   have hg':(!m.Done&&(m.St.Fault==0))=true:=hg
   have ha:=h.mo.a
   have hat:m.At.toNat < code.length:=by omega
   obtain ⟨i,hi⟩:∃ i,getI code m.At=some i:=⟨code[m.At.toNat],by unfold getI;rw[if_pos (by omega)];exact List.getElem?_eq_getElem hat⟩
   have hx? : out[m.At.toNat]? = some (out[m.At.toNat]'(by have:=h.n;omega)):=List.getElem?_eq_getElem (by have:=h.n;omega)
   obtain ⟨x,hx,hxm⟩:∃ x,out[m.At.toNat]? = some x/\x ∈ out:=⟨_,hx?,List.getElem_mem _⟩
   have hxg:getI out m.At=some x:=by unfold getI;rw[if_pos (by omega)];exact hx
   have hfu:=hs.f i hi
   have hx0:=h.p x hxm
   have hx1:=sumI_mem h.p hxm
   have hub:=h.mo.s.b.u
   have ht:=h.t
   have hw:IntKind.wrap .i64 (x+1)=x+1:=wI64 (by omega) (by omega)
   have e1:g_impl_Profile_l0 code (k+1) out m=g_impl_Profile_l0 code k (if i.Op≠9/\m.St.Fuel > 0 then out.set m.At.toNat (x+1) else out) m':=by
    rw[g_impl_Profile_l0,over_eq,hg',Option.bind_some,Bool.not_true,Bool.not_false,cond_true,hi,hxg,hs.impl]
    simp only[Option.bind_some]
    rw[hw]
    by_cases h9:i.Op=9
    ·rw[show (i.Op != 9)=false by simp[h9],if_neg (λ e=>e.1 h9)];rfl
    ·rw[show (i.Op != 9)=true by simp[h9],cond_true,Option.bind_some]
     by_cases h0:m.St.Fuel > 0
     ·rw[decide_eq_true h0,if_pos ⟨h9,h0⟩];rfl
     ·rw[decide_eq_false h0,if_neg (λ e=>h0 e.2)];rfl
   have e2:g_impl_Play_l0 code (k+1) m=g_impl_Play_l0 code k m':=by
    rw[g_impl_Play_l0,over_eq,hg',Option.bind_some,Bool.not_true,Bool.not_false,cond_true,hs.impl];rfl
   have hPO:PO code (if i.Op≠9/\m.St.Fuel > 0 then out.set m.At.toNat (x+1) else out) m' T:=by
    refine ⟨hm',?_,?_,?_⟩
    ·split
     ·rw[List.length_set];exact h.n
     ·exact h.n
    ·split
     ·intro y hy
      rcases List.mem_or_eq_of_mem_set hy with hy|rfl
      ·exact h.p y hy
      ·omega
     ·exact h.p
    ·rw[hfu]
     split
     ·rw[sumI_set hx];omega
     ·exact ht
   rw[e1,e2]
   rcases hs.u with hf|hf
   ·obtain ⟨k',rfl⟩:∃ k',k=k'+1:=⟨k-1,by omega⟩
    obtain ⟨e1,e2⟩:=stop k' m' (if i.Op≠9/\m.St.Fuel > 0 then out.set m.At.toNat (x+1) else out) (by unfold goesB;simp[hf])
    exact ⟨_,_,e1,e2,hPO⟩
   ·exact ih m' _ hPO (by omega)
theorem sum_zero (n:Nat):sumI (List.replicate n 0)=0:=by
 induction n with
 | zero=>rfl
 | succ n ih=>rw[List.replicate_succ];show 0+sumI _=0;rw[ih];rfl
set_option maxHeartbeats 4000000 in
theorem law_fnProfile (code:List Int):g_laws_FnProfile code=some true:=by
 unfold g_laws_FnProfile
 rw[big_eq]
 by_cases hbig:code.length<=1048576
 ·rw[decide_eq_false (by omega),cond_false]
  obtain ⟨c,ec,hcok⟩:=new_ok hbig
  obtain ⟨⟨list,vat,st,cc⟩,ea,hA,hc2⟩:=ask_ok hcok
  unfold g_spec_DrawProfile
  rw[ec,Option.bind_some,ea,Option.bind_some,Option.bind_some]
  have hl:list.length<=1000:=hA.n
  have hi:IB list:=hA.i
  have hst:DS st:=hA.s
  obtain ⟨r,e1,e2,e3⟩:=profile_both (code:=list) (by omega) hi vat hst.sz hst.g
  show ((g_impl_Profile list vat st).bind λ y_5=>(g_spec_Profile list vat st).bind λ y_6=>(g_laws_sameInts y_5 y_6).bind λ y_7=>cond (!y_7) (some false) (((g_laws_FnProfile_l0 y_5 bigK 0 0).bind λ sum_16=>some sum_16:Option (Int)).bind λ sum_8=>(g_impl_Play list vat st).bind λ y_18=>cond ((y_18.Mem.length:Int)==0) (cond ((y_5.length:Int)==0) (some true) (cond ((y_5.length:Int)==(list.length:Int)) (some (sum_8==(IntKind.wrap .i64 (st.Fuel-y_18.Fuel)))) (some false))) (cond ((y_5.length:Int)==(list.length:Int)) (some (sum_8==(IntKind.wrap .i64 (st.Fuel-y_18.Fuel)))) (some false))))=_
  rw[e2,e1,Option.bind_some,Option.bind_some,sameInts (by omega),Option.bind_some,Bool.not_true,cond_false]
  cases hb:startB list vat st
  ·have hr:r=[]:=by
    have:g_impl_Profile list vat st=some []:=by unfold g_impl_Profile;rw[impl_starts (by omega) hi vat hst.sz,hb];rfl
    exact Option.some.inj (e2.symm.trans this)
   subst hr
   rw[sum_loop (by simp) (λ x hx=>by cases hx) (by decide)]
   unfold g_impl_Play
   rw[impl_starts (by omega) hi vat hst.sz,hb];rfl
  ·obtain ⟨hcb,hsg,hmo⟩:=start_mo hst hb
   have hfuel:(startM vat st).St.Fuel=st.Fuel:=by unfold startM;split<;>rfl
   have hub:=hsg.b.u
   obtain ⟨out',m',f1,f2,f3⟩:=prof_play (CG.of hcb) (T:=st.Fuel) (by omega) bigK (startM vat st) (List.replicate list.length 0) ⟨hmo,by simp,λ x hx=>by rw[List.eq_of_mem_replicate hx];exact Int.le_refl _,by rw[sum_zero,hfuel];omega⟩ (by rw[hfuel];unfold bigK;omega)
   have hr:r=out':=by
    have:g_impl_Profile list vat st=some out':=by
     unfold g_impl_Profile
     rw[impl_starts (by omega) hi vat hst.sz,hb]
     simp only[Option.bind_some,Bool.not_true,cond_false]
     rw[impl_start vat hsg.b,Option.bind_some,mk_eq (by omega) (by omega),Option.bind_some,Int.toNat_natCast,f1];rfl
    exact Option.some.inj (e2.symm.trans this)
   subst hr
   have hu':=f3.mo.s.b.u
   have ht:=f3.t
   have hnn:=sumI_nn f3.p
   rw[sum_loop (by omega) f3.p (by omega)]
   have hp:g_impl_Play list vat st=some m'.St:=by
    unfold g_impl_Play
    rw[impl_starts (by omega) hi vat hst.sz,hb]
    simp only[Option.bind_some,Bool.not_true,cond_false]
    rw[impl_start vat hsg.b,Option.bind_some,f2,Option.bind_some,ownS f3.mo.s.b];rfl
   rw[hp]
   simp only[Option.bind_some]
   rw[f3.mo.s.b.m,show (((32:Nat):Int)==0)=false from rfl,cond_false,f3.n,show ((list.length:Int)==(list.length:Int))=true by simp,cond_true,wI64 (by omega) (by omega),show (sumI r==st.Fuel-m'.St.Fuel)=true by rw[beq_iff_eq];omega]
 ·rw[decide_eq_true (by omega)];rfl
end Go.Proofs.YtofjeimkphojaaaGreatDoor

namespace Go.Proofs.YtofjeimkphojaaaGreatDoor
open Go Go.Fm
set_option maxRecDepth 100000
theorem ans_FnProfile (x0:List Int) (g0:(λ xs:List Int=>xs.length<=maxLen/\∀ x ∈ xs,(λ n:Int=>(Lit.int .u8 n).wf=true) x) x0) :
  Ans Tryz.prog 5 [.one (.imm 1 x0.length (x0.flatMap (eI .u8)))] [] λ v _=>v=Go.Fm.one (.bool true):=λ hm=>by
 obtain ⟨r,h1,a,b,c,_⟩:=ce_laws_FnProfile (x0) true (good_pure rfl rfl) (law_fnProfile x0) hm
 exact ⟨r,h1,a,b⟩
end Go.Proofs.YtofjeimkphojaaaGreatDoor
