import Derived.Test.YtmedombacbpofaaDoorCS
import Derived.KernelRfl
set_option linter.all false
namespace Go.Proofs.YtmedombacbpofaaDoor
open Go Go.Fm
set_option maxRecDepth 100000
abbrev Bs:=List UInt8
structure GOp where
 Kind:Int
 N:Int
 deriving DecidableEq,Inhabited
def GOp.cs (x:GOp):List CV:=[.int .i64 x.Kind, .int .i32 x.N]
instance:StTy:=⟨λ n=>match n with|0=>GOp|_=>Unit,λ n=>match n with|0=>2|_=>0,lkA [(49,0),(51,0)]⟩
noncomputable instance:StCs:=⟨λ n=>match n with|0=>GOp.cs|_=>λ _=>[]⟩
noncomputable def GOp.lv (x:GOp):List TC:=[.int .i64 x.Kind, .int .i32 x.N]
noncomputable def GOp.of:List TC->Option GOp
 | [c0,c1]=>(tInt .i64 c0).bind λ x0=>(tInt .i32 c1).bind λ x1=>some ⟨x0,x1⟩
 | _=>none
theorem GOp.made {l:List TC} {v:GOp} (h:GOp.of l=some v):CRs l v.lv:=by
 match l,h with
 | [c0,c1],h =>
  obtain ⟨x0,e0,h⟩:=bS h
  obtain ⟨x1,e1,h⟩:=bS h
  cases h
  exact ⟨tInt_cr e0,tInt_cr e1,trivial⟩
noncomputable instance:Structs where
 leaves:=λ n=>match n with|0=>GOp.lv|_=>λ _=>[]
 make:=λ n=>match n with|0=>GOp.of|_=>λ _=>none
 plain:=λ n=>match n with|0=>true|_=>false
 lt:=λ n=>match n with|0=>[.bool, .bool]|_=>[]
 len:=λ n v=>match n,v with|0,_=>rfl|_+1,_=>rfl
 conc:=λ n v=>match n,v with|0,_=>rfl|_+1,_=>rfl
 pure:=λ n v=>match n,v with|0,_=>rfl|_+1,_=>rfl
 made:=λ n l v h=>match n,v,h with|0,v,h=>GOp.made h|_+1,_,h=>nomatch h
 flat:=λ n v h=>match n,v,h with|0,_,_=>rfl|_+1,_,h=>nomatch h
noncomputable instance:Tabs:=⟨λ g=>match g with|0=>some ⟨.int .u8,gtAscii⟩|_=>none,λ g=>match g with|0=>rfl|_+1=>rfl⟩
abbrev K0:Ty:=.int .i64
abbrev K1:Ty:=.int .i32
abbrev K2:Ty:=.st 0
abbrev K3:Ty:=.list K2
abbrev K4:Ty:=.str
abbrev K5:Ty:=.list K4
abbrev K6:Ty:=.bool
abbrev K7:Ty:=.list K0
abbrev K8:Ty:=.list K1
abbrev K9:Ty:=.int .u8
end Go.Proofs.YtmedombacbpofaaDoor
namespace Go.Proofs.YtmedombacbpofaaDoor
open Go Go.Fm
set_option maxRecDepth 1000000
def g_laws_szOpS (a_1:List GOp) (left_2:Int):Option Int:=cond (decide ((IntKind.wrap .i64 (left_2-(a_1.length:Int))) < 0)) (some (-1)) (some (IntKind.wrap .i64 (left_2-(a_1.length:Int))))
def g_laws_toOp (a_1:GOp):Option GOp:=some a_1
def g_laws_toOpS_l0 (a_1:List GOp):Nat->(List GOp)->Int->Option (List GOp)
 | 0,_,_=>none
 | k+1,out_5,i_6=>cond (decide (i_6 < (a_1.length:Int))) ((getI a_1 i_6).bind λ v_8=>(g_laws_toOp v_8).bind λ y_9=>(getI out_5 i_6).bind λ v_10=>g_laws_toOpS_l0 a_1 k (out_5.set i_6.toNat y_9) (IntKind.wrap .i64 (i_6+1))) (some out_5)
def g_laws_toOpS (a_1:List GOp):Option (List GOp):=(mk ((⟨0,0⟩:GOp):GOp) (a_1.length:Int)).bind λ v_3=>((g_laws_toOpS_l0 a_1 bigK v_3 0).bind λ out_7=>some out_7:Option ((List GOp))).bind λ out_4=>some out_4
def g_spec_l08Names:Option (List Bs):=some [[100,117,112],[100,114,111,112],[111,118,101,114],[110,105,112],[115,119,97,112],[43],[45],[42],[97,110,100],[111,114],[50,42],[50,47],[47,109,111,100],[64],[33],[97],[97,33],[101,109,105,116],[107,101,121],[112,117,115,104],[112,111,112],[105],[46],[110,111,112]]
def g_spec_l01In (x_1:Int) (a_2:Int) (b_3:Int):Option Bool:=cond (decide (x_1 ≥ a_2)) (some (decide (x_1<=b_3))) (some false)
def g_spec_PrimName (k_1:Int):Option Bs:=(g_spec_l08Names).bind λ y_3=>(g_spec_l01In k_1 0 (IntKind.wrap .i64 ((y_3.length:Int)-1))).bind λ y_4=>cond (!y_4) (some []) ((getI y_3 k_1).bind λ v_5=>some v_5)
def g_spec_l09Op (o_1:GOp):Option Bool:=cond (o_1.Kind==0) (some true) (cond (o_1.Kind==1) ((g_spec_PrimName (IntKind.wrap .i64 o_1.N)).bind λ y_3=>some (y_3 != [])) (cond (o_1.Kind==2) ((g_spec_l01In (IntKind.wrap .i64 o_1.N) 0 23).bind λ y_4=>some y_4) ((g_spec_l01In o_1.Kind 3 8).bind λ y_5=>cond y_5 (some (o_1.N==0)) (some false))))
def g_spec_l09Open_l0 (body_1:List GOp):Nat->(List Int)->Int->Option ((List Int) ⊕ Bool)
 | 0,_,_=>none
 | k+1,vopen_6,i_7=>cond (decide (i_7 < (body_1.length:Int))) (((getI body_1 i_7).bind λ v_12=>(cond (v_12.Kind==3) (some (v_12.Kind==3)) (cond (v_12.Kind==4) (some (v_12.Kind==4)) (some (v_12.Kind==6))):Option (Bool)).bind λ v_13=>cond v_13 ((app vopen_6 [v_12.Kind]).bind λ v_14=>some (.inl v_14)) ((cond (v_12.Kind==5) (some (v_12.Kind==5)) (some (v_12.Kind==7)):Option (Bool)).bind λ v_15=>cond v_15 ((cond ((vopen_6.length:Int)==0) (some true) ((getI vopen_6 (IntKind.wrap .i64 ((vopen_6.length:Int)-1))).bind λ v_17=>some ((v_17==6) != (v_12.Kind==7))):Option (Bool)).bind λ v_16=>cond v_16 (some (.inr false)) ((subL vopen_6 0 (IntKind.wrap .i64 ((vopen_6.length:Int)-1))).bind λ v_18=>some (.inl v_18))) (some (.inl vopen_6))):Option ((List Int) ⊕ Bool)).bind λ o=>match o with | .inl vopen_10=>g_spec_l09Open_l0 body_1 k vopen_10 (IntKind.wrap .i64 (i_7+1)) | .inr v_11=>some (.inr v_11)) (some (.inl vopen_6))
def g_spec_l09Open (body_1:List GOp):Option ((List Int)×Bool):=((g_spec_l09Open_l0 body_1 bigK ([]:List Int) 0).bind λ o=>match o with | .inl vopen_8=>some (.inl vopen_8) | .inr v_9=>some (.inr v_9):Option ((List Int) ⊕ Bool)).bind λ o=>match o with | .inl vopen_4=>some (vopen_4,true) | .inr v_5=>some ([],v_5)
def g_spec_ShapeOk_l0 (body_1:List GOp):Nat->Int->Option (Unit ⊕ Bool)
 | 0,_=>none
 | k+1,i_4=>cond (decide (i_4 < (body_1.length:Int))) ((getI body_1 i_4).bind λ v_6=>(g_spec_l09Op v_6).bind λ y_7=>cond (!y_7) (some (.inr false)) (g_spec_ShapeOk_l0 body_1 k (IntKind.wrap .i64 (i_4+1)))) (some (.inl ()))
def g_spec_ShapeOk (body_1:List GOp):Option Bool:=cond (decide ((body_1.length:Int) > 60)) (some false) (((g_spec_ShapeOk_l0 body_1 bigK 0).bind λ o=>match o with | .inl ()=>some (.inl ()) | .inr v_5=>some (.inr v_5):Option (Unit ⊕ Bool)).bind λ o=>match o with | .inl ()=>(g_spec_l09Open body_1).bind λ y_8=>cond y_8.2 (some ((y_8.1.length:Int)==0)) (some false) | .inr v_3=>some v_3)
def g_spec_l15Is (o_1:GOp) (name_2:Bs):Option Bool:=cond (o_1.Kind==1) ((g_spec_PrimName (IntKind.wrap .i64 o_1.N)).bind λ y_4=>some (y_4==name_2)) (some false)
def g_spec_l08Pure (name_1:Bs) (x_2:Int) (y_3:Int):Option ((List Int)×Bool):=(cond (name_1==[100,117,112]) (some (.inr ([y_3,y_3],true))) ((cond (name_1==[100,114,111,112]) (some (name_1==[100,114,111,112])) (some (name_1==[110,111,112])):Option (Bool)).bind λ v_8=>cond v_8 (some (.inr (([]:List Int),true))) (cond (name_1==[111,118,101,114]) (some (.inr ([x_2,y_3,x_2],true))) (cond (name_1==[110,105,112]) (some (.inr ([y_3],true))) (cond (name_1==[115,119,97,112]) (some (.inr ([y_3,x_2],true))) (cond (name_1==[43]) (some (.inr ([IntKind.wrap .i32 (x_2+y_3)],true))) (cond (name_1==[45]) (some (.inr ([IntKind.wrap .i32 ((-1)-y_3)],true))) (cond (name_1==[42]) (some (.inr ([IntKind.wrap .i32 (x_2*y_3)],true))) (cond (name_1==[97,110,100]) (some (.inr ([andI .i32 x_2 y_3],true))) (cond (name_1==[111,114]) (some (.inr ([xorI .i32 x_2 y_3],true))) (cond (name_1==[50,42]) (some (.inr ([IntKind.wrap .i32 (y_3+y_3)],true))) (cond (name_1==[50,47]) (some (.inr ([y_3 / 2],true))) (some (.inl ()))))))))))))):Option (Unit ⊕ ((List Int)×Bool))).bind λ o=>match o with | .inl ()=>some ([],false) | .inr (v_6,v_7)=>some (v_6,v_7)
def g_spec_l15Two (o_1:GOp) (x_2:Int) (y_3:Int):Option (Int×Bool):=((g_spec_l15Is o_1 [43]).bind λ y_7=>cond (!y_7) ((g_spec_l15Is o_1 [42]).bind λ y_8=>cond (!y_8) ((g_spec_l15Is o_1 [97,110,100]).bind λ y_9=>cond (!y_9) ((g_spec_l15Is o_1 [111,114]).bind λ y_10=>some (!y_10)) (some false)) (some false)) (some false):Option (Bool)).bind λ v_6=>cond v_6 (some (0,false)) ((g_spec_PrimName (IntKind.wrap .i64 o_1.N)).bind λ y_11=>(g_spec_l08Pure y_11 x_2 y_3).bind λ y_12=>(getI y_12.1 0).bind λ v_13=>some (v_13,true))
def g_spec_l15One (o_1:GOp) (x_2:Int):Option (Int×Bool):=((g_spec_l15Is o_1 [45]).bind λ y_6=>cond (!y_6) ((g_spec_l15Is o_1 [50,42]).bind λ y_7=>cond (!y_7) ((g_spec_l15Is o_1 [50,47]).bind λ y_8=>some (!y_8)) (some false)) (some false):Option (Bool)).bind λ v_5=>cond v_5 (some (0,false)) ((g_spec_PrimName (IntKind.wrap .i64 o_1.N)).bind λ y_9=>(g_spec_l08Pure y_9 0 x_2).bind λ y_10=>(getI y_10.1 0).bind λ v_11=>some (v_11,true))
def g_spec_l15At (l_1:List GOp):Option ((List GOp)×Int):=((cond (decide ((l_1.length:Int) > 2)) ((getI l_1 0).bind λ v_7=>cond (v_7.Kind==0) ((getI l_1 1).bind λ v_8=>some (v_8.Kind==0)) (some false)) (some false):Option (Bool)).bind λ v_6=>cond v_6 ((getI l_1 2).bind λ v_9=>(getI l_1 0).bind λ v_10=>(getI l_1 1).bind λ v_11=>(g_spec_l15Two v_9 v_10.N v_11.N).bind λ y_12=>cond y_12.2 (some (.inr ([(⟨0,y_12.1⟩:GOp)],3))) (some (.inl ()))) (some (.inl ())):Option (Unit ⊕ ((List GOp)×Int))).bind λ o=>match o with | .inl ()=>((cond (decide ((l_1.length:Int) > 1)) ((getI l_1 0).bind λ v_15=>(getI l_1 1).bind λ v_16=>(g_spec_l15One v_16 v_15.N).bind λ y_17=>(cond y_17.2 (some (v_15.Kind==0)) (some false):Option (Bool)).bind λ v_18=>cond v_18 (some (.inr ([(⟨0,y_17.1⟩:GOp)],2))) ((cond (v_15.Kind==0) ((g_spec_l15Is v_16 [100,114,111,112]).bind λ y_20=>cond y_20 (some true) ((g_spec_l15Is v_15 [100,117,112]).bind λ y_21=>cond y_21 ((g_spec_l15Is v_16 [100,114,111,112]).bind λ y_22=>cond y_22 (some true) ((g_spec_l15Is v_15 [115,119,97,112]).bind λ y_23=>cond y_23 ((g_spec_l15Is v_16 [115,119,97,112]).bind λ y_24=>cond y_24 (some true) ((g_spec_l15Is v_15 [45]).bind λ y_25=>cond y_25 ((g_spec_l15Is v_16 [45]).bind λ y_26=>some y_26) (some false))) ((g_spec_l15Is v_15 [45]).bind λ y_27=>cond y_27 ((g_spec_l15Is v_16 [45]).bind λ y_28=>some y_28) (some false)))) ((g_spec_l15Is v_15 [115,119,97,112]).bind λ y_29=>cond y_29 ((g_spec_l15Is v_16 [115,119,97,112]).bind λ y_30=>cond y_30 (some true) ((g_spec_l15Is v_15 [45]).bind λ y_31=>cond y_31 ((g_spec_l15Is v_16 [45]).bind λ y_32=>some y_32) (some false))) ((g_spec_l15Is v_15 [45]).bind λ y_33=>cond y_33 ((g_spec_l15Is v_16 [45]).bind λ y_34=>some y_34) (some false))))) ((g_spec_l15Is v_15 [100,117,112]).bind λ y_35=>cond y_35 ((g_spec_l15Is v_16 [100,114,111,112]).bind λ y_36=>cond y_36 (some true) ((g_spec_l15Is v_15 [115,119,97,112]).bind λ y_37=>cond y_37 ((g_spec_l15Is v_16 [115,119,97,112]).bind λ y_38=>cond y_38 (some true) ((g_spec_l15Is v_15 [45]).bind λ y_39=>cond y_39 ((g_spec_l15Is v_16 [45]).bind λ y_40=>some y_40) (some false))) ((g_spec_l15Is v_15 [45]).bind λ y_41=>cond y_41 ((g_spec_l15Is v_16 [45]).bind λ y_42=>some y_42) (some false)))) ((g_spec_l15Is v_15 [115,119,97,112]).bind λ y_43=>cond y_43 ((g_spec_l15Is v_16 [115,119,97,112]).bind λ y_44=>cond y_44 (some true) ((g_spec_l15Is v_15 [45]).bind λ y_45=>cond y_45 ((g_spec_l15Is v_16 [45]).bind λ y_46=>some y_46) (some false))) ((g_spec_l15Is v_15 [45]).bind λ y_47=>cond y_47 ((g_spec_l15Is v_16 [45]).bind λ y_48=>some y_48) (some false)))):Option (Bool)).bind λ v_19=>cond v_19 (some (.inr ([],2))) (some (.inl ())))) (some (.inl ())):Option (Unit ⊕ ((List GOp)×Int))).bind λ o=>match o with | .inl ()=>(getI l_1 0).bind λ v_49=>(g_spec_l15Is v_49 [110,111,112]).bind λ y_50=>cond y_50 (some ([],1)) (some ([],0)) | .inr (v_13,v_14)=>some (v_13,v_14)) | .inr (v_4,v_5)=>some (v_4,v_5)
def g_spec_Fold_l0:Nat->(List GOp)->Int->Option (List GOp)
 | 0,_,_=>none
 | k+1,out_6,i_7=>cond (decide (i_7 < (out_6.length:Int))) (((subL out_6 i_7 ((out_6.length:Nat):Int)).bind λ v_11=>(g_spec_l15At v_11).bind λ y_12=>cond (decide (y_12.2 > 0)) ((subL out_6 0 i_7).bind λ v_13=>(app ([]:List GOp) v_13).bind λ v_14=>(app v_14 y_12.1).bind λ v_15=>(subL out_6 (IntKind.wrap .i64 (i_7+y_12.2)) ((out_6.length:Nat):Int)).bind λ v_16=>(app v_15 v_16).bind λ v_17=>some (v_17,(-1))) (some (out_6,i_7)):Option (((List GOp)×Int))).bind λ (out_9,i_10)=>g_spec_Fold_l0 k out_9 (IntKind.wrap .i64 (i_10+1))) (some out_6)
def g_spec_Fold (body_1:List GOp):Option (List GOp):=(g_spec_ShapeOk body_1).bind λ y_3=>cond (!y_3) (some []) ((app ([]:List GOp) body_1).bind λ v_4=>((g_spec_Fold_l0 bigK v_4 0).bind λ out_8=>some out_8:Option ((List GOp))).bind λ out_5=>some out_5)
def g_strings_Fields_l0 (s_1:Bs):Nat->Int->Int->Int->Int->Option (Int×Int)
 | 0,_,_,_,_=>none
 | k+1,n_5,wasSpace_6,setBits_7,i_8=>cond (decide (i_8 < (s_1.length:Int))) ((idxS s_1 i_8).bind λ v_11=>(getI gtAscii v_11).bind λ v_12=>g_strings_Fields_l0 s_1 k (IntKind.wrap .i64 (n_5+(andI .i64 wasSpace_6 (notI .i64 (IntKind.wrap .i64 v_12))))) (IntKind.wrap .i64 v_12) (orI .u8 setBits_7 v_11) (IntKind.wrap .i64 (i_8+1))) (some (n_5,setBits_7))
def g_strings_Fields_l1 (s_1:Bs):Nat->Int->Option Int
 | 0,_=>none
 | k+1,i_15=>(cond (decide (i_15 < (s_1.length:Int))) ((idxS s_1 i_15).bind λ v_18=>(getI gtAscii v_18).bind λ v_19=>some (v_19 != 0)) (some false):Option (Bool)).bind λ v_17=>cond v_17 (g_strings_Fields_l1 s_1 k (IntKind.wrap .i64 (i_15+1))) (some i_15)
def g_strings_Fields_l3 (s_1:Bs):Nat->Int->Option Int
 | 0,_=>none
 | k+1,i_33=>(cond (decide (i_33 < (s_1.length:Int))) ((idxS s_1 i_33).bind λ v_36=>(getI gtAscii v_36).bind λ v_37=>some (v_37 != 0)) (some false):Option (Bool)).bind λ v_35=>cond v_35 (g_strings_Fields_l3 s_1 k (IntKind.wrap .i64 (i_33+1))) (some i_33)
def g_strings_Fields_l2 (s_1:Bs):Nat->(List Bs)->Int->Int->Int->Option ((List Bs)×Int×Int)
 | 0,_,_,_,_=>none
 | k+1,a_20,na_21,fieldStart_22,i_23=>cond (decide (i_23 < (s_1.length:Int))) ((idxS s_1 i_23).bind λ v_27=>(getI gtAscii v_27).bind λ v_28=>cond (v_28==0) (g_strings_Fields_l2 s_1 k a_20 na_21 fieldStart_22 (IntKind.wrap .i64 (i_23+1))) ((subL s_1 fieldStart_22 i_23).bind λ v_29=>(getI a_20 na_21).bind λ v_30=>(g_strings_Fields_l3 s_1 bigK (IntKind.wrap .i64 (i_23+1))).bind λ i_34=>g_strings_Fields_l2 s_1 k (a_20.set na_21.toNat v_29) (IntKind.wrap .i64 (na_21+1)) i_34 i_34)) (some (a_20,na_21,fieldStart_22))
def g_strings_Fields (s_1:Bs):Option (List Bs):=((g_strings_Fields_l0 s_1 bigK 0 1 0 0).bind λ (n_9,setBits_10)=>some (n_9,setBits_10):Option ((Int×Int))).bind λ (n_3,setBits_4)=>cond (decide (setBits_4 ≥ 128)) (none) ((mk ([]:Bs) n_3).bind λ v_13=>(g_strings_Fields_l1 s_1 bigK 0).bind λ i_16=>(g_strings_Fields_l2 s_1 bigK v_13 0 i_16 i_16).bind λ (a_24,na_25,fieldStart_26)=>(cond (decide (fieldStart_26 < (s_1.length:Int))) ((subL s_1 fieldStart_26 (s_1.length:Int)).bind λ v_39=>(getI a_24 na_25).bind λ v_40=>some (a_24.set na_25.toNat v_39)) (some a_24):Option ((List Bs))).bind λ a_38=>some a_38)
def g_impl_prims:Option (List Bs):=(g_strings_Fields [100,117,112,32,100,114,111,112,32,111,118,101,114,32,110,105,112,32,115,119,97,112,32,43,32,45,32,42,32,97,110,100,32,111,114,32,50,42,32,50,47,32,47,109,111,100,32,64,32,33,32,97,32,97,33,32,101,109,105,116,32,107,101,121,32,112,117,115,104,32,112,111,112,32,105,32,46,32,110,111,112]).bind λ y_2=>some y_2
def g_impl_within (n_1:Int) (low_2:Int) (high_3:Int):Option Bool:=cond (decide (low_2<=n_1)) (some (decide (n_1<=high_3))) (some false)
def g_impl_PrimName (k_1:Int):Option Bs:=(g_impl_prims).bind λ y_3=>(g_impl_within k_1 0 (IntKind.wrap .i64 ((y_3.length:Int)-1))).bind λ y_4=>cond y_4 ((getI y_3 k_1).bind λ v_5=>some v_5) (some [])
def g_impl_opOk (o_1:GOp):Option Bool:=cond (o_1.Kind==0) (some true) (cond (o_1.Kind==1) ((g_impl_PrimName (IntKind.wrap .i64 o_1.N)).bind λ y_3=>some (y_3 != [])) (cond (o_1.Kind==2) ((g_impl_within (IntKind.wrap .i64 o_1.N) 0 23).bind λ y_4=>some y_4) ((g_impl_within o_1.Kind 3 8).bind λ y_5=>cond y_5 (some (o_1.N==0)) (some false))))
def g_impl_openIn_l0 (v_7:List GOp) (v_8:Int):Nat->(List Int)->Int->Option ((List Int) ⊕ ((List Int)×Bool))
 | 0,_,_=>none
 | k+1,vopen_9,v_10=>cond (decide (v_10 < v_8)) (((getI v_7 v_10).bind λ v_17=>(g_impl_opOk v_17).bind λ y_18=>cond (!y_18) (some (.inr ([],false))) ((cond (v_17.Kind==3) (some true) (cond (v_17.Kind==4) (some true) (some (v_17.Kind==6))):Option (Bool)).bind λ v_19=>cond v_19 ((app vopen_9 [v_17.Kind]).bind λ v_20=>some (.inl v_20)) ((cond (v_17.Kind==5) (some true) (some (v_17.Kind==7)):Option (Bool)).bind λ v_21=>cond v_21 ((cond (decide ((IntKind.wrap .i64 ((vopen_9.length:Int)-1)) < 0)) (some true) ((getI vopen_9 (IntKind.wrap .i64 ((vopen_9.length:Int)-1))).bind λ v_23=>some ((v_23==6) != (v_17.Kind==7))):Option (Bool)).bind λ v_22=>cond v_22 (some (.inr ([],false))) ((subL vopen_9 0 (IntKind.wrap .i64 ((vopen_9.length:Int)-1))).bind λ v_24=>some (.inl v_24))) (some (.inl vopen_9)))):Option ((List Int) ⊕ ((List Int)×Bool))).bind λ o=>match o with | .inl vopen_14=>g_impl_openIn_l0 v_7 v_8 k vopen_14 (IntKind.wrap .i64 (v_10+1)) | .inr (v_15,v_16)=>some (.inr (v_15,v_16))) (some (.inl vopen_9))
def g_impl_openIn (body_1:List GOp):Option ((List Int)×Bool):=((g_impl_openIn_l0 body_1 (body_1.length:Int) bigK ([]:List Int) 0).bind λ o=>match o with | .inl vopen_11=>some (.inl vopen_11) | .inr (v_12,v_13)=>some (.inr (v_12,v_13)):Option ((List Int) ⊕ ((List Int)×Bool))).bind λ o=>match o with | .inl vopen_4=>some (vopen_4,decide ((body_1.length:Int)<=60)) | .inr (v_5,v_6)=>some (v_5,v_6)
def g_impl_ShapeOk (body_1:List GOp):Option Bool:=(g_impl_openIn body_1).bind λ y_3=>cond y_3.2 (some ((y_3.1.length:Int)==0)) (some false)
def g_slices_Clone_Op (s_1:List GOp):Option (List GOp):=app ([]:List GOp) s_1
def g_impl_foldedc1 (k_1:Int) (a_2:List GOp):Option GOp:=cond (decide (k_1 < (a_2.length:Int))) ((getI a_2 k_1).bind λ v_4=>some v_4) (some (⟨8,0⟩:GOp))
def g_slices_Index_string_l0 (s_1:List Bs) (v_2:Bs) (v_5:Int):Nat->Int->Option (Unit ⊕ Int)
 | 0,_=>none
 | k+1,v_6=>cond (decide (v_6 < v_5)) ((getI s_1 v_6).bind λ v_8=>cond (v_2==v_8) (some (.inr v_6)) (g_slices_Index_string_l0 s_1 v_2 v_5 k (IntKind.wrap .i64 (v_6+1)))) (some (.inl ()))
def g_slices_Index_string (s_1:List Bs) (v_2:Bs):Option Int:=((g_slices_Index_string_l0 s_1 v_2 (s_1.length:Int) bigK 0).bind λ o=>match o with | .inl ()=>some (.inl ()) | .inr v_7=>some (.inr v_7):Option (Unit ⊕ Int)).bind λ o=>match o with | .inl ()=>some (-1) | .inr v_4=>some v_4
def g_slices_Contains_string (s_1:List Bs) (v_2:Bs):Option Bool:=(g_slices_Index_string s_1 v_2).bind λ y_4=>some (decide (y_4 ≥ 0))
def g_impl_isPrim (o_1:GOp) (names_2:List Bs):Option Bool:=cond (o_1.Kind==1) ((g_impl_PrimName (IntKind.wrap .i64 o_1.N)).bind λ y_4=>(g_slices_Contains_string names_2 y_4).bind λ y_5=>some y_5) (some false)
def g_impl_result (name_1:Bs) (x_2:Int) (y_3:Int):Option ((List Int)×Int):=cond (name_1==[100,117,112]) (some ([y_3,y_3],0)) (cond (name_1==[100,114,111,112]) (some ([],0)) (cond (name_1==[111,118,101,114]) (some ([x_2,y_3,x_2],0)) (cond (name_1==[110,105,112]) (some ([y_3],0)) (cond (name_1==[115,119,97,112]) (some ([y_3,x_2],0)) (cond (name_1==[43]) (some ([IntKind.wrap .i32 (x_2+y_3)],0)) (cond (name_1==[45]) (some ([notI .i32 y_3],0)) (cond (name_1==[42]) (some ([IntKind.wrap .i32 (x_2*y_3)],0)) (cond (name_1==[97,110,100]) (some ([andI .i32 x_2 y_3],0)) (cond (name_1==[111,114]) (some ([xorI .i32 x_2 y_3],0)) (cond (name_1==[50,42]) (some ([IntKind.wrap .i32 (2*y_3)],0)) (cond (name_1==[50,47]) (some ([y_3 / 2],0)) (cond (name_1==[47,109,111,100]) (cond (y_3==0) (some ([],5)) ((quoI .i64 (IntKind.wrap .i64 x_2) (IntKind.wrap .i64 y_3)).bind λ v_6=>(remI .i64 (IntKind.wrap .i64 x_2) (IntKind.wrap .i64 y_3)).bind λ v_7=>some ([IntKind.wrap .i32 v_7,IntKind.wrap .i32 v_6],0))) (some ([],0))))))))))))))
def g_impl_foldedc2 (name_1:Bs) (x_2:Int) (y_3:Int):Option (List GOp):=(g_impl_result name_1 x_2 y_3).bind λ y_5=>(getI y_5.1 0).bind λ v_6=>some [(⟨0,v_6⟩:GOp)]
def g_impl_folded (body_1:List GOp):Option ((List GOp)×Int):=(g_impl_foldedc1 0 body_1).bind λ y_4=>(g_impl_foldedc1 1 body_1).bind λ y_5=>(g_impl_foldedc1 2 body_1).bind λ y_6=>((cond (y_4.Kind==0) (cond (y_5.Kind==0) ((g_impl_isPrim y_6 [[43],[42],[97,110,100],[111,114]]).bind λ y_10=>some y_10) (some false)) (some false):Option (Bool)).bind λ v_9=>cond v_9 ((g_impl_PrimName (IntKind.wrap .i64 y_6.N)).bind λ y_11=>(g_impl_foldedc2 y_11 y_4.N y_5.N).bind λ y_12=>some (.inr (y_12,3))) ((cond (y_4.Kind==0) ((g_impl_isPrim y_5 [[45],[50,42],[50,47]]).bind λ y_14=>some y_14) (some false):Option (Bool)).bind λ v_13=>cond v_13 ((g_impl_PrimName (IntKind.wrap .i64 y_5.N)).bind λ y_15=>(g_impl_foldedc2 y_15 0 y_4.N).bind λ y_16=>some (.inr (y_16,2))) (((cond (y_4.Kind==0) ((g_impl_isPrim y_5 [[100,114,111,112]]).bind λ y_19=>some y_19) (some false):Option (Bool)).bind λ v_18=>cond v_18 (some v_18) (((g_impl_isPrim y_4 [[100,117,112]]).bind λ y_21=>cond y_21 ((g_impl_isPrim y_5 [[100,114,111,112]]).bind λ y_22=>some y_22) (some false):Option (Bool)).bind λ v_20=>cond v_20 (some v_20) (((g_impl_isPrim y_4 [[115,119,97,112]]).bind λ y_24=>cond y_24 ((g_impl_isPrim y_5 [[115,119,97,112]]).bind λ y_25=>some y_25) (some false):Option (Bool)).bind λ v_23=>cond v_23 (some v_23) ((g_impl_isPrim y_4 [[45]]).bind λ y_26=>cond y_26 ((g_impl_isPrim y_5 [[45]]).bind λ y_27=>some y_27) (some false)))):Option (Bool)).bind λ v_17=>cond v_17 (some (.inr ([],2))) ((g_impl_isPrim y_4 [[110,111,112]]).bind λ y_28=>cond y_28 (some (.inr ([],1))) (some (.inl ()))))):Option (Unit ⊕ ((List GOp)×Int))).bind λ o=>match o with | .inl ()=>some ([],0) | .inr (v_7,v_8)=>some (v_7,v_8)
def g_slices_Replace_Op (s_1:List GOp) (i_2 j_3:Int) (v_4:List GOp):Option (List GOp):=gRep s_1 i_2 j_3 v_4
def g_impl_Fold_l0:Nat->(List GOp)->Int->Option (List GOp)
 | 0,_,_=>none
 | k+1,out_6,i_7=>cond (decide (i_7 < (out_6.length:Int))) ((subL out_6 i_7 ((out_6.length:Nat):Int)).bind λ v_9=>(g_impl_folded v_9).bind λ y_10=>cond (y_10.2==0) (g_impl_Fold_l0 k out_6 (IntKind.wrap .i64 (i_7+1))) ((g_slices_Replace_Op out_6 i_7 (IntKind.wrap .i64 (i_7+y_10.2)) y_10.1).bind λ y_11=>g_impl_Fold_l0 k y_11 0)) (some out_6)
def g_impl_Fold (body_1:List GOp):Option (List GOp):=(g_impl_ShapeOk body_1).bind λ y_3=>cond (!y_3) (some []) ((g_slices_Clone_Op body_1).bind λ y_4=>((g_impl_Fold_l0 bigK y_4 0).bind λ out_8=>some out_8:Option ((List GOp))).bind λ out_5=>some out_5)
def g_laws_eqOp (a_1:GOp) (b_2:GOp):Option Bool:=cond (a_1.Kind != b_2.Kind) (some false) (cond (a_1.N != b_2.N) (some false) (some true))
def g_laws_eqOpS_l0 (a_1:List GOp) (b_2:List GOp):Nat->Int->Option (Unit ⊕ Bool)
 | 0,_=>none
 | k+1,i_5=>cond (decide (i_5 < (a_1.length:Int))) ((getI a_1 i_5).bind λ v_7=>(getI b_2 i_5).bind λ v_8=>(g_laws_eqOp v_7 v_8).bind λ y_9=>cond (!y_9) (some (.inr false)) (g_laws_eqOpS_l0 a_1 b_2 k (IntKind.wrap .i64 (i_5+1)))) (some (.inl ()))
def g_laws_eqOpS (a_1:List GOp) (b_2:List GOp):Option Bool:=cond ((a_1.length:Int) != (b_2.length:Int)) (some false) (((g_laws_eqOpS_l0 a_1 b_2 bigK 0).bind λ o=>match o with | .inl ()=>some (.inl ()) | .inr v_6=>some (.inr v_6):Option (Unit ⊕ Bool)).bind λ o=>match o with | .inl ()=>some true | .inr v_4=>some v_4)
def g_laws_markOpS_l0:Nat->(List GOp)->Int->Int->Option (Int×(List GOp))
 | 0,_,_,_=>none
 | k+1,a_8,k_9,i_10=>cond (decide (i_10 < (a_8.length:Int))) ((getI a_8 i_10).bind λ v_13=>(getI (a_8.set i_10.toNat (⟨k_9,v_13.N⟩:GOp)) i_10).bind λ v_14=>g_laws_markOpS_l0 k ((a_8.set i_10.toNat (⟨k_9,v_13.N⟩:GOp)).set i_10.toNat (⟨v_14.Kind,IntKind.wrap .i32 (IntKind.wrap .i64 (k_9+1))⟩:GOp)) (IntKind.wrap .i64 ((IntKind.wrap .i64 (k_9+1))+1)) (IntKind.wrap .i64 (i_10+1))) (some (k_9,a_8))
def g_laws_markOpS (a_1:List GOp) (k_2:Int):Option (Int×(List GOp)):=((g_laws_markOpS_l0 bigK a_1 k_2 0).bind λ (k_11,p_12)=>some (k_11,p_12):Option ((Int×(List GOp)))).bind λ (k_5,p_6)=>some (k_5,p_6)
def g_laws_heldOpS_l0 (a_1:List GOp):Nat->Int->Int->Option (Int ⊕ Int)
 | 0,_,_=>none
 | k+1,k_6,i_7=>cond (decide (i_7 < (a_1.length:Int))) ((getI a_1 i_7).bind λ v_10=>cond (v_10.Kind != k_6) (some (.inr (-1))) ((getI a_1 i_7).bind λ v_11=>cond (v_11.N != (IntKind.wrap .i32 (IntKind.wrap .i64 (k_6+1)))) (some (.inr (-1))) (g_laws_heldOpS_l0 a_1 k (IntKind.wrap .i64 ((IntKind.wrap .i64 (k_6+1))+1)) (IntKind.wrap .i64 (i_7+1))))) (some (.inl k_6))
def g_laws_heldOpS (a_1:List GOp) (k_2:Int):Option Int:=((g_laws_heldOpS_l0 a_1 bigK k_2 0).bind λ o=>match o with | .inl k_8=>some (.inl k_8) | .inr v_9=>some (.inr v_9):Option (Int ⊕ Int)).bind λ o=>match o with | .inl k_4=>some k_4 | .inr v_5=>some v_5
def g_laws_FnExactFold (aBody_1:List GOp):Option Bool:=(g_laws_szOpS aBody_1 1048576).bind λ y_3=>cond (decide (y_3 < 0)) (some true) ((g_laws_toOpS aBody_1).bind λ y_4=>(g_spec_Fold y_4).bind λ y_5=>(g_laws_toOpS aBody_1).bind λ y_6=>(g_impl_Fold y_6).bind λ y_7=>(g_laws_eqOpS y_7 y_5).bind λ y_8=>cond (!y_8) (some false) ((g_laws_toOpS aBody_1).bind λ y_9=>(g_laws_eqOpS y_6 y_9).bind λ y_10=>cond (!y_10) (some false) ((g_laws_markOpS y_6 1).bind λ y_11=>(cond (decide (y_11.1 < 0)) (some true) ((g_laws_eqOpS y_7 y_5).bind λ y_13=>some (!y_13)):Option (Bool)).bind λ v_12=>cond v_12 (some false) ((g_laws_markOpS y_7 1).bind λ y_14=>(g_laws_heldOpS y_14.2 1).bind λ y_15=>cond (decide (y_15 < 0)) (some false) (cond (y_15 != y_14.1) (some false) ((g_laws_toOpS aBody_1).bind λ y_16=>(g_impl_Fold y_16).bind λ y_17=>(g_laws_eqOpS y_17 y_5).bind λ y_18=>cond (!y_18) (some false) ((g_laws_heldOpS y_14.2 1).bind λ y_19=>cond (decide (y_19 < 0)) (some false) (cond (y_19 != y_14.1) (some false) (some true)))))))))
def bodyOf (f:Func):Code:=match f.body with|some c=>c|none=>.skip
end Go.Proofs.YtmedombacbpofaaDoor
namespace Go.Proofs.YtmedombacbpofaaDoor
open Go Go.Fm Go.Proofs Go.Shelf Go.RowKit Go.Lib
set_option maxHeartbeats 4000000 in
set_option maxRecDepth 1000000 in
theorem rep_end_34 (b off i m d c vc:Nat) (A:Option Addr) (w W1 W2:World) (hd:0 < d) (hc:i+m+d<=c) (hn:i+m+d<=4294967296)
  (happ:(Builtin.append_ #[24,24] 24 #[.slice (some ⟨b,off,none⟩) i c, .slice A m vc]).run Tryd.prog w=.ok (.slice (some ⟨b,off,none⟩) (i+m) c) W1)
  (hclr:(Builtin.clear_ #[24] 0 #[.slice (some ⟨b,off+(i+m)*2,none⟩) d (c-(i+m))]).run Tryd.prog W1=.ok (.tuple #[]) W2) :
  Calls Tryd.prog 34 #[.slice (some ⟨b,off,none⟩) (i+m+d) c, .int .i64 i, .int .i64 ((i:Int)+m+d), .slice A m vc] w λ e w'=>e=.returned (.slice (some ⟨b,off,none⟩) (i+m) c)/\w'=W2:=by
 have hw1:¬ ((i:Int)=(i:Int)+m+d):=by omega
 have hb1:(0:Int)<=(i:Int)+m+d:=by omega
 have hb2:(i:Int)<=(i:Int)+m+d:=by omega
 have hb3:(i:Int)+m+d<=(c:Int):=by omega
 have hb4:((i:Int)+m+d).toNat=i+m+d:=by omega
 have hb5:¬ (c=i):=by omega
 have hb6:¬ (c=i+m):=by omega
 have hb7:(i:Int)<=(c:Int):=by omega
 have hb8:i+m < i+m+d:=by omega
 have hb9:(i:Int)+m < (i:Int)+m+d:=by omega
 have hb10:(i:Int)+m<=(i:Int)+m+d:=by omega
 go_enter Tryd.func34,Tryd.ntmps34
 go_wp2_with (first
  | (at_builtin;refine Lib.wpList_append_run _ rfl _ _ _ _ rfl _ _ rfl rfl _ _ happ ?_)
  | (at_builtin;refine wpList_clearI _ rfl _ _ rfl _ rfl hclr ?_))
 go_ret
 exact ⟨rfl,rfl⟩
set_option maxHeartbeats 4000000 in
set_option maxRecDepth 1000000 in
theorem rep_mid_34 (b off i m d q c vc:Nat) (A:Option Addr) (w W1 W2 W3:World) (hd:0 < d) (hq:0 < q) (hc:i+m+d+q<=c) (hn:i+m+d+q<=4294967296)
  (hcp1:∀ dl dc,dl=m+q->(Builtin.copy_ #[24,24] 3 #[.slice (some ⟨b,off+i*2,none⟩) dl dc, .slice A m vc]).run Tryd.prog w.drew=.ok (goInt m) W1)
  (hcp2:∀ dl dc sl sc,dl=q->sl=q->(Builtin.copy_ #[24,24] 3 #[.slice (some ⟨b,off+(i+m)*2,none⟩) dl dc, .slice (some ⟨b,off+(i+m+d)*2,none⟩) sl sc]).run Tryd.prog W1.drew=.ok (goInt q) W2)
  (hclr:∀ dl dc,dl=d->(Builtin.clear_ #[24] 0 #[.slice (some ⟨b,off+(i+m+q)*2,none⟩) dl dc]).run Tryd.prog W2=.ok (.tuple #[]) W3) :
  Calls Tryd.prog 34 #[.slice (some ⟨b,off,none⟩) (i+m+d+q) c, .int .i64 i, .int .i64 ((i:Int)+m+d), .slice A m vc] w λ e w'=>e=.returned (.slice (some ⟨b,off,none⟩) (i+m+q) c)/\w'=W3:=by
 have hw1:¬ ((i:Int)=(i:Int)+m+d):=by omega
 have hw2:¬ ((i:Int)+m+d=(i:Int)+m+d+q):=by omega
 have hb1:(0:Int)<=(i:Int)+m+d:=by omega
 have hb2:(i:Int)<=(i:Int)+m+d:=by omega
 have hb3:(i:Int)+m+d<=(c:Int):=by omega
 have hb4:((i:Int)+m+d).toNat=i+m+d:=by omega
 have hb5:¬ (c=i):=by omega
 have hb6:¬ (c=i+m):=by omega
 have hb7:(i:Int)<=(c:Int):=by omega
 have hb11:(i:Int)+m+d<=(i:Int)+m+d+q:=by omega
 have hb12:¬ (c=i+m+d):=by omega
 have hb13:¬ (c=i+m+q):=by omega
 have hb14:¬ ((c:Int) < (i:Int)+m+q):=by omega
 have hb15:(i:Int)+m+q<=(c:Int):=by omega
 have hb16:(0:Int)<=(i:Int)+m+q:=by omega
 have hb17:((i:Int)+m+q).toNat=i+m+q:=by omega
 have hb18:(i:Int)<=(i:Int)+m+q:=by omega
 have hb19:(i:Int)+m<=(i:Int)+m+d:=by omega
 have hb20:(i:Int)+m<=(i:Int)+m+q:=by omega
 have hb21:(0:Int)<=(i:Int)+m:=by omega
 have hb22:((i:Int)+m).toNat=i+m:=by omega
 have hb23:(i:Int)+m+q<=(i:Int)+m+d+q:=by omega
 have hb24:IntKind.i64.wrap ((i:Int)+m)=(i:Int)+m:=by rw[IntKind.wrap_i64];omega
 have hb25:IntKind.i64.wrap ((i:Int)+m+q)=(i:Int)+m+q:=by rw[IntKind.wrap_i64];omega
 have mixed:Tryd.prog.follows .mixedOrders=true:=by kernel_rfl
 go_enter Tryd.func34,Tryd.ntmps34
 go_wp2
 go_big_region_o
 have h1:=hcp1 (i+m+q-i) (c-i) (by omega)
 have h3:=hclr (i+m+d+q-(i+m+q)) (c-(i+m+q)) (by omega)
 go_wp2
 go_region_law_o (refine step_copy_runI rfl _ _ 24 24 rfl _ _ (by simp[Act.eval,Act.put]) (by simp[Act.eval,Act.put]) (hcp2 _ _ _ _ (by omega) (by omega)) ?_)
 go_wp2
 go_ret
 exact ⟨rfl,rfl⟩
end Go.Proofs.YtmedombacbpofaaDoor
namespace Go.Proofs.YtmedombacbpofaaDoor
open Go Go.Fm
set_option maxRecDepth 1000000
noncomputable def e_laws_szOpS:Con:=⟨7,⟨[(0, .s K3 []),(1, .s K0 [])],[]⟩,⟨[(0, .s K0 [])],[]⟩,false,[],λ (a_1,left_2)=>g_laws_szOpS a_1 left_2⟩
noncomputable def e_laws_toOp:Con:=⟨30,⟨[(0, .s K2 [])],[]⟩,⟨[(0, .s K2 [])],[]⟩,false,[],λ a_1=>g_laws_toOp a_1⟩
noncomputable def e_laws_toOpS:Con:=⟨9,⟨[(0, .s K3 [])],[]⟩,⟨[(0, .s K3 [(0,0)])],[.o]⟩,false,[],λ a_1=>g_laws_toOpS a_1⟩
noncomputable def e_spec_l08Names:Con:=⟨109,⟨[],[]⟩,⟨[(0, .s K5 [(0,0)])],[.o]⟩,false,[],λ _=>g_spec_l08Names⟩
noncomputable def e_spec_l01In:Con:=⟨38,⟨[(0, .s K0 []),(1, .s K0 []),(2, .s K0 [])],[]⟩,⟨[(0, .s K6 [])],[]⟩,false,[],λ (x_1,a_2,b_3)=>g_spec_l01In x_1 a_2 b_3⟩
noncomputable def e_spec_PrimName:Con:=⟨83,⟨[(0, .s K0 [])],[]⟩,⟨[(0, .s K4 [])],[]⟩,false,[],λ k_1=>g_spec_PrimName k_1⟩
noncomputable def e_spec_l09Op:Con:=⟨55,⟨[(0, .s K2 [])],[]⟩,⟨[(0, .s K6 [])],[]⟩,false,[],λ o_1=>g_spec_l09Op o_1⟩
noncomputable def e_spec_l09Open:Con:=⟨56,⟨[(0, .s K3 [])],[]⟩,⟨[(0, .s K7 [(0,0)]),(1, .s K6 [])],[.o]⟩,false,[],λ body_1=>g_spec_l09Open body_1⟩
noncomputable def e_spec_ShapeOk:Con:=⟨28,⟨[(0, .s K3 [])],[]⟩,⟨[(0, .s K6 [])],[]⟩,false,[],λ body_1=>g_spec_ShapeOk body_1⟩
noncomputable def e_spec_l15Is:Con:=⟨59,⟨[(0, .s K2 []),(1, .s K4 [])],[]⟩,⟨[(0, .s K6 [])],[]⟩,false,[],λ (o_1,name_2)=>g_spec_l15Is o_1 name_2⟩
noncomputable def e_spec_l08Pure:Con:=⟨84,⟨[(0, .s K4 []),(1, .s K1 []),(2, .s K1 [])],[]⟩,⟨[(0, .s K8 [(0,0)]),(1, .s K6 [])],[.o]⟩,false,[],λ (name_1,x_2,y_3)=>g_spec_l08Pure name_1 x_2 y_3⟩
noncomputable def e_spec_l15Two:Con:=⟨57,⟨[(0, .s K2 []),(1, .s K1 []),(2, .s K1 [])],[]⟩,⟨[(0, .s K1 []),(1, .s K6 [])],[]⟩,false,[],λ (o_1,x_2,y_3)=>g_spec_l15Two o_1 x_2 y_3⟩
noncomputable def e_spec_l15One:Con:=⟨58,⟨[(0, .s K2 []),(1, .s K1 [])],[]⟩,⟨[(0, .s K1 []),(1, .s K6 [])],[]⟩,false,[],λ (o_1,x_2)=>g_spec_l15One o_1 x_2⟩
noncomputable def e_spec_l15At:Con:=⟨29,⟨[(0, .s K3 [])],[]⟩,⟨[(0, .s K3 [(0,0)]),(1, .s K0 [])],[.o]⟩,false,[],λ l_1=>g_spec_l15At l_1⟩
noncomputable def e_spec_Fold:Con:=⟨8,⟨[(0, .s K3 [])],[]⟩,⟨[(0, .s K3 [(0,0)])],[.o]⟩,false,[],λ body_1=>g_spec_Fold body_1⟩
noncomputable def e_strings_Fields:Con:=⟨111,⟨[(0, .s K4 [])],[]⟩,⟨[(0, .s K5 [(0,0)])],[.o]⟩,false,[],λ s_1=>g_strings_Fields s_1⟩
noncomputable def e_impl_prims:Con:=⟨87,⟨[],[]⟩,⟨[(0, .s K5 [(0,0)])],[.o]⟩,false,[],λ _=>g_impl_prims⟩
noncomputable def e_impl_within:Con:=⟨44,⟨[(0, .s K0 []),(1, .s K0 []),(2, .s K0 [])],[]⟩,⟨[(0, .s K6 [])],[]⟩,false,[],λ (n_1,low_2,high_3)=>g_impl_within n_1 low_2 high_3⟩
noncomputable def e_impl_PrimName:Con:=⟨65,⟨[(0, .s K0 [])],[]⟩,⟨[(0, .s K4 [])],[]⟩,false,[],λ k_1=>g_impl_PrimName k_1⟩
noncomputable def e_impl_opOk:Con:=⟨85,⟨[(0, .s K2 [])],[]⟩,⟨[(0, .s K6 [])],[]⟩,false,[],λ o_1=>g_impl_opOk o_1⟩
noncomputable def e_impl_openIn:Con:=⟨60,⟨[(0, .s K3 [])],[]⟩,⟨[(0, .s K7 [(0,0)]),(1, .s K6 [])],[.o]⟩,false,[],λ body_1=>g_impl_openIn body_1⟩
noncomputable def e_impl_ShapeOk:Con:=⟨31,⟨[(0, .s K3 [])],[]⟩,⟨[(0, .s K6 [])],[]⟩,false,[],λ body_1=>g_impl_ShapeOk body_1⟩
noncomputable def e_slices_Clone_Op:Con:=⟨32,⟨[(0, .s K3 [])],[]⟩,⟨[(0, .s K3 [(0,0)])],[.o]⟩,false,[],λ s_1=>g_slices_Clone_Op s_1⟩
noncomputable def e_impl_foldedc1:Con:=⟨61,⟨[(0, .s K0 []),(1, .c (.one (.ptr 0 0)))],[.v K3 []]⟩,⟨[(0, .s K2 [])],[.f]⟩,false,[0],λ (k_1,a_2)=>g_impl_foldedc1 k_1 a_2⟩
noncomputable def e_slices_Index_string:Con:=⟨110,⟨[(0, .s K5 []),(1, .s K4 [])],[]⟩,⟨[(0, .s K0 [])],[]⟩,false,[],λ (s_1,v_2)=>g_slices_Index_string s_1 v_2⟩
noncomputable def e_slices_Contains_string:Con:=⟨86,⟨[(0, .s K5 []),(1, .s K4 [])],[]⟩,⟨[(0, .s K6 [])],[]⟩,false,[],λ (s_1,v_2)=>g_slices_Contains_string s_1 v_2⟩
noncomputable def e_impl_isPrim:Con:=⟨64,⟨[(0, .s K2 []),(1, .s K5 [])],[]⟩,⟨[(0, .s K6 [])],[]⟩,false,[],λ (o_1,names_2)=>g_impl_isPrim o_1 names_2⟩
noncomputable def e_impl_result:Con:=⟨63,⟨[(0, .s K4 []),(1, .s K1 []),(2, .s K1 [])],[]⟩,⟨[(0, .s K8 [(0,0)]),(1, .s K0 [])],[.o]⟩,false,[],λ (name_1,x_2,y_3)=>g_impl_result name_1 x_2 y_3⟩
noncomputable def e_impl_foldedc2:Con:=⟨62,⟨[(0, .s K4 []),(1, .s K1 []),(2, .s K1 [])],[]⟩,⟨[(0, .s K3 [(0,0)])],[.o]⟩,false,[],λ (name_1,x_2,y_3)=>g_impl_foldedc2 name_1 x_2 y_3⟩
noncomputable def e_impl_folded:Con:=⟨33,⟨[(0, .s K3 [])],[]⟩,⟨[(0, .s K3 [(0,0)]),(1, .s K0 [])],[.o]⟩,false,[],λ body_1=>g_impl_folded body_1⟩
noncomputable def e_slices_Replace_Op:Con:=⟨34,⟨[(0, .s K3 [(0,0)]),(1, .s K0 []),(2, .s K0 []),(3, .s K3 [(0,1)])],[.o, .o]⟩,⟨[(0, .s K3 [(0,2)])],[.d, .d, .o]⟩,false,[],λ a=>g_slices_Replace_Op a.1 a.2.1 a.2.2.1 a.2.2.2⟩
noncomputable def e_impl_Fold:Con:=⟨10,⟨[(0, .s K3 [])],[]⟩,⟨[(0, .s K3 [(0,0)])],[.o]⟩,false,[],λ body_1=>g_impl_Fold body_1⟩
noncomputable def e_laws_eqOp:Con:=⟨35,⟨[(0, .s K2 []),(1, .s K2 [])],[]⟩,⟨[(0, .s K6 [])],[]⟩,false,[],λ (a_1,b_2)=>g_laws_eqOp a_1 b_2⟩
noncomputable def e_laws_eqOpS:Con:=⟨11,⟨[(0, .s K3 []),(1, .s K3 [])],[]⟩,⟨[(0, .s K6 [])],[]⟩,false,[],λ (a_1,b_2)=>g_laws_eqOpS a_1 b_2⟩
noncomputable def e_laws_markOpS:Con:=⟨12,⟨[(0, .s K3 [(0,0)]),(1, .s K0 [])],[.o]⟩,⟨[(0, .s K0 [])],[.r K2]⟩,false,[],λ (a_1,k_2)=>g_laws_markOpS a_1 k_2⟩
noncomputable def e_laws_heldOpS:Con:=⟨13,⟨[(0, .s K3 []),(1, .s K0 [])],[]⟩,⟨[(0, .s K0 [])],[]⟩,false,[],λ (a_1,k_2)=>g_laws_heldOpS a_1 k_2⟩
noncomputable def e_laws_FnExactFold:Con:=⟨3,⟨[(0, .s K3 [])],[]⟩,⟨[(0, .s K6 [])],[]⟩,false,[],λ aBody_1=>g_laws_FnExactFold aBody_1⟩
abbrev CO (c:Con):Prop:=ConOk Tryd.prog c
abbrev CK (Γ:List Con) (n:Nat) (an:An) (f:Func) (e:Con):Prop:=AnOk TrydT Γ n an (bodyOf f)/\∀ a,fnRun TrydT Γ an (bodyOf f) f.results.toList e.ro e.ps e.rs a=e.g a
theorem fnc {Γ:List Con} {n:Nat} {an:An} {fn:Func} {C:Con} (h:Tryd.prog.follows .mixedOrders=true->∀ c ∈ Γ,CO c) (hf:Tryd.prog.funcs[C.f]? = some fn) (hk:CK Γ n an fn C) (h1:(!(fn.name == "runtime.NumGoroutine")&&okC fn.ntmps (bodyOf fn))=true)
  (h2:∀ a,entB C n fn.ntmps a=true) (h3:∀ r,endB C fn.results.toList.length r=true) (hb:fn.body=some (bodyOf fn)):CO C:=by
 rw[Bool.and_eq_true,Bool.not_eq_true']at h1
 exact fn_ok (P:=λ _=>Tryd.prog) (n:=n) TrydT_eq h hf hb h1.1 rfl rfl h1.2 rfl h2 h3 hk.1 λ a r e=>(hk.2 a).trans e
end Go.Proofs.YtmedombacbpofaaDoor
namespace Go.Proofs.YtmedombacbpofaaDoor
open Go Go.Fm
set_option maxRecDepth 1000000
noncomputable def ane_laws_szOpS:An:=.z
theorem ke_laws_szOpS:CK [] 0 ane_laws_szOpS Tryd.f7 e_laws_szOpS:=⟨trivial,λ _=>by kernel_rfl⟩
noncomputable def ane_laws_toOp:An:=.z
theorem ke_laws_toOp:CK [] 0 ane_laws_toOp Tryd.f30 e_laws_toOp:=⟨trivial,λ _=>by kernel_rfl⟩
noncomputable def ane_laws_toOpS:An:=.q .z (.q .z (.m [(.normal,⟨[(3, .s K3 [(0,0)])],[.o]⟩)] [0,2] [] (.q .z (.b (.l ⟨[(0, .s K3 []),(2, .c (.one (.emp)))],[.n]⟩ ⟨[(3, .s K3 [(0,0)]),(4, .s K0 [])],[.o]⟩ [(.exit 0,⟨[(3, .s K3 [(0,0)])],[.o]⟩)] (λ a_1 k (out_5,i_6)=>g_laws_toOpS_l0 a_1 k out_5 i_6) .z))) .z))
theorem ke_laws_toOpS:CK [e_laws_toOp] 0 ane_laws_toOpS Tryd.f9 e_laws_toOpS:=⟨⟨trivial,⟨trivial,⟨⟨trivial,⟨λ _ _=>rfl,λ _ _ _ _=>by kernel_rfl,trivial⟩⟩,trivial⟩⟩⟩,λ _=>by kernel_rfl⟩
noncomputable def ane_spec_l08Names:An:=.z
theorem ke_spec_l08Names:CK [] 0 ane_spec_l08Names Tryd.f109 e_spec_l08Names:=⟨trivial,λ _=>by kernel_rfl⟩
noncomputable def ane_spec_l01In:An:=.z
theorem ke_spec_l01In:CK [] 0 ane_spec_l01In Tryd.f38 e_spec_l01In:=⟨trivial,λ _=>by kernel_rfl⟩
noncomputable def ane_spec_PrimName:An:=.z
theorem ke_spec_PrimName:CK [e_spec_l08Names,e_spec_l01In] 0 ane_spec_PrimName Tryd.f83 e_spec_PrimName:=⟨trivial,λ _=>by kernel_rfl⟩
noncomputable def ane_spec_l09Op:An:=.z
theorem ke_spec_l09Op:CK [e_spec_PrimName,e_spec_l01In] 0 ane_spec_l09Op Tryd.f55 e_spec_l09Op:=⟨trivial,λ _=>by kernel_rfl⟩
noncomputable def ane_spec_l09Open:An:=.q .z (.q .z (.m [(.normal,⟨[(4, .s K7 [(0,1)])],[.d, .o]⟩),(.ret,⟨[(2, .c (.one (.emp))),(3, .s K6 [])],[.d]⟩)] [0] [] (.q .z (.b (.l ⟨[(0, .s K3 [])],[.n, .n]⟩ ⟨[(4, .s K7 [(0,1)]),(5, .s K0 [])],[.d, .o]⟩ [(.exit 0,⟨[(4, .s K7 [(0,1)])],[.d, .o]⟩),(.ret,⟨[(2, .c (.one (.emp))),(3, .s K6 [])],[.d, .d]⟩)] (λ body_1 k (vopen_6,i_7)=>g_spec_l09Open_l0 body_1 k vopen_6 i_7) (.q .z (.m [(.normal,⟨[(4, .s K7 [(0,2)])],[.d, .d, .o]⟩),(.ret,⟨[(2, .c (.one (.emp))),(3, .s K6 [])],[.d, .d]⟩)] [5] [] (.b (.q .z (.q .z (.b (.m [(.normal,⟨[(21, .s K6 [])],[.d, .f]⟩)] [4,6,20] [1] .z (.q .z (.m [(.normal,⟨[(29, .s K6 [])],[.d, .f]⟩)] [4,6,20] [1] .z (.q (.q .z (.q (.m [(.normal,⟨[(46, .s K6 [])],[.d, .f]⟩)] [4,6,7] [1] .z .z) .z)) .z)))))))) .z))))) .z))
theorem ke_spec_l09Open:CK [] 0 ane_spec_l09Open Tryd.f56 e_spec_l09Open:=⟨⟨trivial,⟨trivial,⟨⟨trivial,⟨λ _ _=>rfl,λ _ _ _ _=>by kernel_rfl,⟨trivial,⟨⟨trivial,⟨trivial,⟨trivial,⟨trivial,⟨trivial,⟨⟨trivial,⟨⟨trivial,trivial⟩,trivial⟩⟩,trivial⟩⟩⟩⟩⟩⟩,trivial⟩⟩⟩⟩,trivial⟩⟩⟩,λ _=>by kernel_rfl⟩
end Go.Proofs.YtmedombacbpofaaDoor
namespace Go.Proofs.YtmedombacbpofaaDoor
open Go Go.Fm
set_option maxRecDepth 1000000
noncomputable def ane_spec_ShapeOk:An:=.q .z (.q .z (.m [(.normal,⟨[],[]⟩),(.ret,⟨[(2, .s K6 [])],[]⟩)] [0] [] (.q .z (.b (.l ⟨[(0, .s K3 [])],[]⟩ ⟨[(3, .s K0 [])],[]⟩ [(.exit 0,⟨[],[]⟩),(.ret,⟨[(2, .s K6 [])],[]⟩)] (λ body_1 k i_4=>g_spec_ShapeOk_l0 body_1 k i_4) .z))) .z))
theorem ke_spec_ShapeOk:CK [e_spec_l09Op,e_spec_l09Open] 0 ane_spec_ShapeOk Tryd.f28 e_spec_ShapeOk:=⟨⟨trivial,⟨trivial,⟨⟨trivial,⟨λ _ _=>rfl,λ _ _ _ _=>by kernel_rfl,trivial⟩⟩,trivial⟩⟩⟩,λ _=>by kernel_rfl⟩
noncomputable def ane_spec_l15Is:An:=.z
theorem ke_spec_l15Is:CK [e_spec_PrimName] 0 ane_spec_l15Is Tryd.f59 e_spec_l15Is:=⟨trivial,λ _=>by kernel_rfl⟩
noncomputable def ane_spec_l08Pure:An:=.q .z (.m [(.normal,⟨[],[]⟩),(.ret,⟨[(6, .s K8 [(0,0)]),(7, .s K6 [])],[.o]⟩)] [0,1,2] [] (.q .z (.b (.q .z (.q .z (.m [(.normal,⟨[(14, .s K6 [])],[]⟩)] [6,7,8] [] .z .z))))) .z)
theorem ke_spec_l08Pure:CK [] 0 ane_spec_l08Pure Tryd.f84 e_spec_l08Pure:=⟨⟨trivial,⟨⟨trivial,⟨trivial,⟨trivial,⟨trivial,trivial⟩⟩⟩⟩,trivial⟩⟩,λ _=>by kernel_rfl⟩
noncomputable def ane_spec_l15Two:An:=.q .z (.q (.m [(.normal,⟨[(27, .s K6 [])],[.f]⟩)] [1,2,3,6,7] [0] .z .z) .z)
theorem ke_spec_l15Two:CK [e_spec_l15Is,e_spec_PrimName,e_spec_l08Pure] 0 ane_spec_l15Two Tryd.f57 e_spec_l15Two:=⟨⟨trivial,⟨⟨trivial,trivial⟩,trivial⟩⟩,λ _=>by kernel_rfl⟩
noncomputable def ane_spec_l15One:An:=.q .z (.q (.m [(.normal,⟨[(20, .s K6 [])],[.f]⟩)] [1,2,4,5] [0] .z .z) .z)
theorem ke_spec_l15One:CK [e_spec_l15Is,e_spec_PrimName,e_spec_l08Pure] 0 ane_spec_l15One Tryd.f58 e_spec_l15One:=⟨⟨trivial,⟨⟨trivial,trivial⟩,trivial⟩⟩,λ _=>by kernel_rfl⟩
noncomputable def ane_spec_l15At:An:=.q .z (.m [(.normal,⟨[],[]⟩),(.ret,⟨[(2, .s K3 [(0,0)]),(3, .s K0 [])],[.o]⟩)] [0] [] (.m [(.normal,⟨[(26, .s K6 [])],[]⟩)] [2,3] [] .z .z) (.m [(.normal,⟨[],[]⟩),(.ret,⟨[(2, .s K3 [(0,0)]),(3, .s K0 [])],[.o]⟩)] [0] [] (.q .z (.q (.q .z (.q (.q .z (.m [(.normal,⟨[(67, .s K6 [])],[.f, .f]⟩)] [6,7,8,9] [0,1] .z .z)) (.m [(.normal,⟨[(101, .s K6 [])],[.f, .f]⟩)] [6,7] [0,1] .z .z))) .z)) .z))
theorem ke_spec_l15At:CK [e_spec_l15Two,e_spec_l15One,e_spec_l15Is] 0 ane_spec_l15At Tryd.f29 e_spec_l15At:=⟨⟨trivial,⟨⟨trivial,trivial⟩,⟨⟨trivial,⟨⟨trivial,⟨⟨trivial,⟨trivial,trivial⟩⟩,⟨trivial,trivial⟩⟩⟩,trivial⟩⟩,trivial⟩⟩⟩,λ _=>by kernel_rfl⟩
noncomputable def ane_spec_Fold:An:=.q .z (.q .z (.q .z (.m [(.normal,⟨[(3, .s K3 [(0,2)])],[.d, .d, .o]⟩)] [2] [] (.q .z (.b (.l ⟨[(2, .c (.one (.emp)))],[.n, .n, .n]⟩ ⟨[(3, .s K3 [(0,2)]),(4, .s K0 [])],[.d, .d, .o]⟩ [(.exit 0,⟨[(3, .s K3 [(0,2)])],[.d, .d, .o]⟩)] (λ _ k (out_6,i_7)=>g_spec_Fold_l0 k out_6 i_7) (.q .z (.m [(.normal,⟨[(3, .s K3 [(0,3)]),(4, .s K0 [])],[.d, .d, .d, .o]⟩)] [] [] .z .z))))) .z)))
theorem ke_spec_Fold:CK [e_spec_ShapeOk,e_spec_l15At] 0 ane_spec_Fold Tryd.f8 e_spec_Fold:=⟨⟨trivial,⟨trivial,⟨trivial,⟨⟨trivial,⟨λ _ _=>rfl,λ _ _ _ _=>by kernel_rfl,⟨trivial,⟨trivial,trivial⟩⟩⟩⟩,trivial⟩⟩⟩⟩,λ _=>by kernel_rfl⟩
noncomputable def ane_strings_Fields:An:=.q .z (.q .z (.q .z (.q .z (.m [(.normal,⟨[(3, .s K0 []),(5, .s K9 [])],[]⟩)] [0,2] [] (.q .z (.b (.l ⟨[(0, .s K4 []),(2, .c (.one (.emp)))],[]⟩ ⟨[(3, .s K0 []),(4, .s K0 []),(5, .s K9 []),(6, .s K0 [])],[]⟩ [(.exit 0,⟨[(3, .s K0 []),(5, .s K9 [])],[]⟩)] (λ s_1 k (n_5,wasSpace_6,setBits_7,i_8)=>g_strings_Fields_l0 s_1 k n_5 wasSpace_6 setBits_7 i_8) .z))) (.q .z (.q .z (.q .z (.q .z (.q .z (.q (.b (.l ⟨[(0, .s K4 []),(2, .c (.one (.emp))),(9, .s K5 [(0,0)]),(10, .s K0 [])],[.o]⟩ ⟨[(12, .s K0 [])],[.f]⟩ [(.exit 2,⟨[(12, .s K0 [])],[.f]⟩)] (λ (s_1,_,_) k i_15=>g_strings_Fields_l1 s_1 k i_15) (.q (.m [(.normal,⟨[(53, .s K6 [])],[.f]⟩)] [12] [] .z .z) .z))) (.q .z (.q (.b (.l ⟨[(0, .s K4 []),(2, .c (.one (.emp)))],[.n]⟩ ⟨[(9, .s K5 [(0,0)]),(10, .s K0 []),(11, .s K0 []),(12, .s K0 [])],[.o]⟩ [(.exit 4,⟨[(9, .s K5 [(0,0)]),(10, .s K0 []),(11, .s K0 [])],[.o]⟩)] (λ s_1 k (a_20,na_21,fieldStart_22,i_23)=>g_strings_Fields_l2 s_1 k a_20 na_21 fieldStart_22 i_23) (.q .z (.b (.q .z (.q .z (.q .z (.q .z (.q (.b (.l ⟨[(0, .s K4 []),(2, .c (.one (.emp))),(9, .s K5 [(0,0)]),(10, .s K0 []),(11, .s K0 [])],[.o]⟩ ⟨[(12, .s K0 [])],[.f]⟩ [(.exit 6,⟨[(12, .s K0 [])],[.f]⟩)] (λ (s_1,_,_,_) k i_33=>g_strings_Fields_l3 s_1 k i_33) (.q (.m [(.normal,⟨[(91, .s K6 [])],[.f]⟩)] [12] [] .z .z) .z))) .z))))))))) (.m [(.normal,⟨[(9, .s K5 [(0,0)])],[.o]⟩)] [0,2,10,11] [] .z .z)))))))))))))
theorem ke_strings_Fields:CK [] 0 ane_strings_Fields Tryd.f111 e_strings_Fields:=⟨⟨trivial,⟨trivial,⟨trivial,⟨trivial,⟨⟨trivial,⟨λ _ _=>rfl,λ _ _ _ _=>by kernel_rfl,trivial⟩⟩,⟨trivial,⟨trivial,⟨trivial,⟨trivial,⟨trivial,⟨⟨λ _ _=>rfl,λ _ _ _ _=>by kernel_rfl,⟨⟨trivial,trivial⟩,trivial⟩⟩,⟨trivial,⟨⟨λ _ _=>rfl,λ _ _ _ _=>by kernel_rfl,⟨trivial,⟨trivial,⟨trivial,⟨trivial,⟨trivial,⟨⟨λ _ _=>rfl,λ _ _ _ _=>by kernel_rfl,⟨⟨trivial,trivial⟩,trivial⟩⟩,trivial⟩⟩⟩⟩⟩⟩⟩,⟨trivial,trivial⟩⟩⟩⟩⟩⟩⟩⟩⟩⟩⟩⟩⟩⟩,λ _=>by kernel_rfl⟩
end Go.Proofs.YtmedombacbpofaaDoor
namespace Go.Proofs.YtmedombacbpofaaDoor
open Go Go.Fm
set_option maxRecDepth 1000000
noncomputable def ane_impl_prims:An:=.z
theorem ke_impl_prims:CK [e_strings_Fields] 0 ane_impl_prims Tryd.f87 e_impl_prims:=⟨trivial,λ _=>by kernel_rfl⟩
noncomputable def ane_impl_within:An:=.z
theorem ke_impl_within:CK [] 0 ane_impl_within Tryd.f44 e_impl_within:=⟨trivial,λ _=>by kernel_rfl⟩
noncomputable def ane_impl_PrimName:An:=.z
theorem ke_impl_PrimName:CK [e_impl_prims,e_impl_within] 0 ane_impl_PrimName Tryd.f65 e_impl_PrimName:=⟨trivial,λ _=>by kernel_rfl⟩
noncomputable def ane_impl_opOk:An:=.z
theorem ke_impl_opOk:CK [e_impl_PrimName,e_impl_within] 0 ane_impl_opOk Tryd.f85 e_impl_opOk:=⟨trivial,λ _=>by kernel_rfl⟩
noncomputable def ane_impl_openIn:An:=.q .z (.q .z (.m [(.normal,⟨[(4, .s K7 [(0,1)])],[.d, .o]⟩),(.ret,⟨[(2, .s K7 [(0,1)]),(3, .s K6 [])],[.d, .o]⟩)] [0] [] (.q .z (.b (.l ⟨[(0, .s K3 []),(9, .s K3 []),(10, .s K0 [])],[.n, .n]⟩ ⟨[(4, .s K7 [(0,1)]),(11, .s K0 [])],[.d, .o]⟩ [(.exit 0,⟨[(4, .s K7 [(0,1)])],[.d, .o]⟩),(.ret,⟨[(2, .s K7 [(0,2)]),(3, .s K6 [])],[.d, .d, .o]⟩)] (λ (_,v_7,v_8) k (vopen_9,v_10)=>g_impl_openIn_l0 v_7 v_8 k vopen_9 v_10) (.q .z (.q .z (.m [(.normal,⟨[(4, .s K7 [(0,2)])],[.d, .d, .o]⟩),(.ret,⟨[(2, .s K7 [(0,2)]),(3, .s K6 [])],[.d, .d, .o]⟩)] [11] [] (.b (.q .z (.q .z (.b (.q .z (.q .z (.m [(.normal,⟨[(22, .s K6 [])],[.d, .f, .f]⟩)] [4,6,7] [1,2] .z (.q .z (.m [(.normal,⟨[(41, .s K6 [])],[.d, .f, .f]⟩)] [4,6,7] [1,2] .z (.q (.q (.m [(.normal,⟨[(62, .s K6 [])],[.d, .f, .f]⟩)] [4,6,7] [1,2] .z .z) .z) .z)))))))))) .z)))))) .z))
theorem ke_impl_openIn:CK [e_impl_opOk] 0 ane_impl_openIn Tryd.f60 e_impl_openIn:=⟨⟨trivial,⟨trivial,⟨⟨trivial,⟨λ _ _=>rfl,λ _ _ _ _=>by kernel_rfl,⟨trivial,⟨trivial,⟨⟨trivial,⟨trivial,⟨trivial,⟨trivial,⟨trivial,⟨trivial,⟨trivial,⟨⟨⟨trivial,trivial⟩,trivial⟩,trivial⟩⟩⟩⟩⟩⟩⟩⟩,trivial⟩⟩⟩⟩⟩,trivial⟩⟩⟩,λ _=>by kernel_rfl⟩
noncomputable def ane_impl_ShapeOk:An:=.z
theorem ke_impl_ShapeOk:CK [e_impl_openIn] 0 ane_impl_ShapeOk Tryd.f31 e_impl_ShapeOk:=⟨trivial,λ _=>by kernel_rfl⟩
theorem fe_slices_Clone_Op:ConOk Tryd.prog e_slices_Clone_Op:=clone_own (P:=λ _=>Tryd.prog) (τ:=K2) TrydT_eq Tryd.func32 rfl rfl ⟨by kernel_rfl,by kernel_rfl,by kernel_rfl⟩ (congrArg TyI.kind TrydT_24) (λ a=>by kernel_rfl)
noncomputable def ane_impl_foldedc1:An:=.z
theorem ke_impl_foldedc1:CK [] 1 ane_impl_foldedc1 Tryd.f61 e_impl_foldedc1:=⟨trivial,λ _=>by kernel_rfl⟩
end Go.Proofs.YtmedombacbpofaaDoor
namespace Go.Proofs.YtmedombacbpofaaDoor
open Go Go.Fm
set_option maxRecDepth 1000000
noncomputable def ane_slices_Index_string:An:=.q .z (.m [(.normal,⟨[],[]⟩),(.ret,⟨[(4, .s K0 [])],[]⟩)] [0,1] [] (.q .z (.b (.l ⟨[(0, .s K5 []),(1, .s K4 []),(7, .s K0 [])],[]⟩ ⟨[(8, .s K0 [])],[]⟩ [(.exit 0,⟨[],[]⟩),(.ret,⟨[(4, .s K0 [])],[]⟩)] (λ (s_1,v_2,v_5) k v_6=>g_slices_Index_string_l0 s_1 v_2 v_5 k v_6) .z))) .z)
theorem ke_slices_Index_string:CK [] 0 ane_slices_Index_string Tryd.f110 e_slices_Index_string:=⟨⟨trivial,⟨⟨trivial,⟨λ _ _=>rfl,λ _ _ _ _=>by kernel_rfl,trivial⟩⟩,trivial⟩⟩,λ _=>by kernel_rfl⟩
noncomputable def ane_slices_Contains_string:An:=.z
theorem ke_slices_Contains_string:CK [e_slices_Index_string] 0 ane_slices_Contains_string Tryd.f86 e_slices_Contains_string:=⟨trivial,λ _=>by kernel_rfl⟩
noncomputable def ane_impl_isPrim:An:=.z
theorem ke_impl_isPrim:CK [e_impl_PrimName,e_slices_Contains_string] 0 ane_impl_isPrim Tryd.f64 e_impl_isPrim:=⟨trivial,λ _=>by kernel_rfl⟩
noncomputable def ane_impl_result:An:=.z
theorem ke_impl_result:CK [] 0 ane_impl_result Tryd.f63 e_impl_result:=⟨trivial,λ _=>by kernel_rfl⟩
noncomputable def ane_impl_foldedc2:An:=.z
theorem ke_impl_foldedc2:CK [e_impl_result] 0 ane_impl_foldedc2 Tryd.f62 e_impl_foldedc2:=⟨trivial,λ _=>by kernel_rfl⟩
noncomputable def ane_impl_folded:An:=.q .z (.q .z (.q .z (.q .z (.m [(.normal,⟨[],[.d, .f, .f, .f]⟩),(.ret,⟨[(2, .s K3 [(0,4)]),(3, .s K0 [])],[.d, .f, .f, .f, .o]⟩)] [5,6,7,8] [1,2,3] (.b (.m [(.normal,⟨[(16, .s K6 [])],[.d, .f, .f, .f]⟩)] [2,3] [] .z (.q .z (.m [(.normal,⟨[(40, .s K6 [])],[.d, .f, .f, .f]⟩)] [2,3] [] .z (.q .z (.m [(.normal,⟨[(57, .s K6 [])],[.d, .f, .f, .f]⟩)] [2,3] [] (.m [(.normal,⟨[(57, .s K6 [])],[.d, .f, .f, .f]⟩)] [] [] .z (.q .z (.m [(.normal,⟨[(57, .s K6 [])],[.d, .f, .f, .f]⟩)] [] [] .z (.q .z (.m [(.normal,⟨[(57, .s K6 [])],[.d, .f, .f, .f]⟩)] [] [] .z .z))))) .z)))))) .z))))
theorem ke_impl_folded:CK [e_impl_foldedc1,e_impl_isPrim,e_impl_PrimName,e_impl_foldedc2] 0 ane_impl_folded Tryd.f33 e_impl_folded:=⟨⟨trivial,⟨trivial,⟨trivial,⟨trivial,⟨⟨trivial,⟨trivial,⟨trivial,⟨trivial,⟨⟨trivial,⟨trivial,⟨trivial,⟨trivial,⟨trivial,trivial⟩⟩⟩⟩⟩,trivial⟩⟩⟩⟩⟩,trivial⟩⟩⟩⟩⟩,λ _=>by kernel_rfl⟩
noncomputable def repZ_34:Value:=((Tryd.prog.info? 49).bind (·.zero)).getD (.bool false)
noncomputable def repB_34:Nat:=((Tryd.prog.info? 49).map (·.bytes)).getD 0
theorem repL_34:RepL Tryd.prog 34 Tryd.f34 24 49 (Ty.size K2) repB_34 repZ_34 where
 hf:=Tryd.func34
 hn:=by kernel_rfl
 hb:=⟨_,rfl⟩
 t:=Tryd.underlying24
 z:=Tryd.sizeOf49
 i:=insInfo (by kernel_rfl)
 fin:=rep_end_34
 mid:=rep_mid_34
theorem fe_slices_Replace_Op:ConOk Tryd.prog e_slices_Replace_Op:=rep_ok repL_34 (by kernel_rfl) (by kernel_rfl) (flat_len (encOk K2).len)
noncomputable def ane_impl_Fold:An:=.q .z (.q .z (.q .z (.m [(.normal,⟨[(3, .s K3 [(0,1)])],[.d, .o]⟩)] [2] [] (.q .z (.b (.l ⟨[(2, .c (.one (.emp)))],[.n, .n]⟩ ⟨[(3, .s K3 [(0,1)]),(4, .s K0 [])],[.d, .o]⟩ [(.exit 0,⟨[(3, .s K3 [(0,1)])],[.d, .o]⟩)] (λ _ k (out_6,i_7)=>g_impl_Fold_l0 k out_6 i_7) .z))) .z)))
theorem ke_impl_Fold:CK [e_impl_ShapeOk,e_slices_Clone_Op,e_impl_folded,e_slices_Replace_Op] 0 ane_impl_Fold Tryd.f10 e_impl_Fold:=⟨⟨trivial,⟨trivial,⟨trivial,⟨⟨trivial,⟨λ _ _=>rfl,λ _ _ _ _=>by kernel_rfl,trivial⟩⟩,trivial⟩⟩⟩⟩,λ _=>by kernel_rfl⟩
end Go.Proofs.YtmedombacbpofaaDoor
namespace Go.Proofs.YtmedombacbpofaaDoor
open Go Go.Fm
set_option maxRecDepth 1000000
noncomputable def ane_laws_eqOp:An:=.z
theorem ke_laws_eqOp:CK [] 0 ane_laws_eqOp Tryd.f35 e_laws_eqOp:=⟨trivial,λ _=>by kernel_rfl⟩
noncomputable def ane_laws_eqOpS:An:=.q .z (.q .z (.m [(.normal,⟨[],[]⟩),(.ret,⟨[(4, .s K6 [])],[]⟩)] [0,1] [] (.q .z (.b (.l ⟨[(0, .s K3 []),(1, .s K3 [])],[]⟩ ⟨[(5, .s K0 [])],[]⟩ [(.exit 0,⟨[],[]⟩),(.ret,⟨[(4, .s K6 [])],[]⟩)] (λ (a_1,b_2) k i_5=>g_laws_eqOpS_l0 a_1 b_2 k i_5) .z))) .z))
theorem ke_laws_eqOpS:CK [e_laws_eqOp] 0 ane_laws_eqOpS Tryd.f11 e_laws_eqOpS:=⟨⟨trivial,⟨trivial,⟨⟨trivial,⟨λ _ _=>rfl,λ _ _ _ _=>by kernel_rfl,trivial⟩⟩,trivial⟩⟩⟩,λ _=>by kernel_rfl⟩
noncomputable def ane_laws_markOpS:An:=.q .z (.m [(.normal,⟨[(1, .s K0 [])],[.r K2]⟩)] [4] [] (.q .z (.b (.l ⟨[(4, .s K0 [])],[.n]⟩ ⟨[(0, .s K3 [(0,0)]),(1, .s K0 []),(5, .s K0 [])],[.o]⟩ [(.exit 0,⟨[(1, .s K0 [])],[.r K2]⟩)] (λ _ k (a_8,k_9,i_10)=>g_laws_markOpS_l0 k a_8 k_9 i_10) .z))) .z)
theorem ke_laws_markOpS:CK [] 1 ane_laws_markOpS Tryd.f12 e_laws_markOpS:=⟨⟨trivial,⟨⟨trivial,⟨λ _ _=>rfl,λ _ _ _ _=>by kernel_rfl,trivial⟩⟩,trivial⟩⟩,λ _=>by kernel_rfl⟩
noncomputable def ane_laws_heldOpS:An:=.q .z (.m [(.normal,⟨[(1, .s K0 [])],[]⟩),(.ret,⟨[(4, .s K0 [])],[]⟩)] [0] [] (.q .z (.b (.l ⟨[(0, .s K3 [])],[]⟩ ⟨[(1, .s K0 []),(5, .s K0 [])],[]⟩ [(.exit 0,⟨[(1, .s K0 [])],[]⟩),(.ret,⟨[(4, .s K0 [])],[]⟩)] (λ a_1 k (k_6,i_7)=>g_laws_heldOpS_l0 a_1 k k_6 i_7) .z))) .z)
theorem ke_laws_heldOpS:CK [] 0 ane_laws_heldOpS Tryd.f13 e_laws_heldOpS:=⟨⟨trivial,⟨⟨trivial,⟨λ _ _=>rfl,λ _ _ _ _=>by kernel_rfl,trivial⟩⟩,trivial⟩⟩,λ _=>by kernel_rfl⟩
noncomputable def ane_laws_FnExactFold:An:=.q .z (.q .z (.q .z (.q .z (.q .z (.q .z (.q .z (.q .z (.q .z (.q .z (.q .z (.q (.m [(.normal,⟨[(42, .s K6 [])],[.d, .f, .d, .f, .d]⟩)] [0,2,4,6,7] [1,3] .z .z) .z)))))))))))
theorem ke_laws_FnExactFold:CK [e_laws_szOpS,e_laws_toOpS,e_spec_Fold,e_impl_Fold,e_laws_eqOpS,e_laws_markOpS,e_laws_heldOpS] 0 ane_laws_FnExactFold Tryd.f3 e_laws_FnExactFold:=⟨⟨trivial,⟨trivial,⟨trivial,⟨trivial,⟨trivial,⟨trivial,⟨trivial,⟨trivial,⟨trivial,⟨trivial,⟨trivial,⟨⟨trivial,trivial⟩,trivial⟩⟩⟩⟩⟩⟩⟩⟩⟩⟩⟩⟩,λ _=>by kernel_rfl⟩
end Go.Proofs.YtmedombacbpofaaDoor
namespace Go.Proofs.YtmedombacbpofaaDoor
open Go Go.Fm
set_option maxRecDepth 1000000
theorem ce_laws_szOpS:CO e_laws_szOpS:=fnc (λ _=>con_nil) Tryd.func7 ke_laws_szOpS (by kernel_rfl) (λ _=>by kernel_rfl) (λ _=>by kernel_rfl) rfl
theorem ce_laws_toOp:CO e_laws_toOp:=fnc (λ _=>con_nil) Tryd.func30 ke_laws_toOp (by kernel_rfl) (λ _=>by kernel_rfl) (λ _=>by kernel_rfl) rfl
theorem ce_laws_toOpS:CO e_laws_toOpS:=fnc (λ _=>con_cons ce_laws_toOp con_nil) Tryd.func9 ke_laws_toOpS (by kernel_rfl) (λ _=>by kernel_rfl) (λ _=>by kernel_rfl) rfl
theorem ce_spec_l08Names:CO e_spec_l08Names:=fnc (λ _=>con_nil) Tryd.func109 ke_spec_l08Names (by kernel_rfl) (λ _=>by kernel_rfl) (λ _=>by kernel_rfl) rfl
theorem ce_spec_l01In:CO e_spec_l01In:=fnc (λ _=>con_nil) Tryd.func38 ke_spec_l01In (by kernel_rfl) (λ _=>by kernel_rfl) (λ _=>by kernel_rfl) rfl
theorem ce_spec_PrimName:CO e_spec_PrimName:=fnc (λ _=>con_cons ce_spec_l08Names (con_cons ce_spec_l01In con_nil)) Tryd.func83 ke_spec_PrimName (by kernel_rfl) (λ _=>by kernel_rfl) (λ _=>by kernel_rfl) rfl
theorem ce_spec_l09Op:CO e_spec_l09Op:=fnc (λ _=>con_cons ce_spec_PrimName (con_cons ce_spec_l01In con_nil)) Tryd.func55 ke_spec_l09Op (by kernel_rfl) (λ _=>by kernel_rfl) (λ _=>by kernel_rfl) rfl
theorem ce_spec_l09Open:CO e_spec_l09Open:=fnc (λ _=>con_nil) Tryd.func56 ke_spec_l09Open (by kernel_rfl) (λ _=>by kernel_rfl) (λ _=>by kernel_rfl) rfl
theorem ce_spec_ShapeOk:CO e_spec_ShapeOk:=fnc (λ _=>con_cons ce_spec_l09Op (con_cons ce_spec_l09Open con_nil)) Tryd.func28 ke_spec_ShapeOk (by kernel_rfl) (λ _=>by kernel_rfl) (λ _=>by kernel_rfl) rfl
theorem ce_spec_l15Is:CO e_spec_l15Is:=fnc (λ _=>con_cons ce_spec_PrimName con_nil) Tryd.func59 ke_spec_l15Is (by kernel_rfl) (λ _=>by kernel_rfl) (λ _=>by kernel_rfl) rfl
theorem ce_spec_l08Pure:CO e_spec_l08Pure:=fnc (λ _=>con_nil) Tryd.func84 ke_spec_l08Pure (by kernel_rfl) (λ _=>by kernel_rfl) (λ _=>by kernel_rfl) rfl
theorem ce_spec_l15Two:CO e_spec_l15Two:=fnc (λ _=>con_cons ce_spec_l15Is (con_cons ce_spec_PrimName (con_cons ce_spec_l08Pure con_nil))) Tryd.func57 ke_spec_l15Two (by kernel_rfl) (λ _=>by kernel_rfl) (λ _=>by kernel_rfl) rfl
theorem ce_spec_l15One:CO e_spec_l15One:=fnc (λ _=>con_cons ce_spec_l15Is (con_cons ce_spec_PrimName (con_cons ce_spec_l08Pure con_nil))) Tryd.func58 ke_spec_l15One (by kernel_rfl) (λ _=>by kernel_rfl) (λ _=>by kernel_rfl) rfl
theorem ce_spec_l15At:CO e_spec_l15At:=fnc (λ _=>con_cons ce_spec_l15Two (con_cons ce_spec_l15One (con_cons ce_spec_l15Is con_nil))) Tryd.func29 ke_spec_l15At (by kernel_rfl) (λ _=>by kernel_rfl) (λ _=>by kernel_rfl) rfl
theorem ce_spec_Fold:CO e_spec_Fold:=fnc (λ _=>con_cons ce_spec_ShapeOk (con_cons ce_spec_l15At con_nil)) Tryd.func8 ke_spec_Fold (by kernel_rfl) (λ _=>by kernel_rfl) (λ _=>by kernel_rfl) rfl
theorem ce_strings_Fields:CO e_strings_Fields:=fnc (λ _=>con_nil) Tryd.func111 ke_strings_Fields (by kernel_rfl) (λ _=>by kernel_rfl) (λ _=>by kernel_rfl) rfl
theorem ce_impl_prims:CO e_impl_prims:=fnc (λ _=>con_cons ce_strings_Fields con_nil) Tryd.func87 ke_impl_prims (by kernel_rfl) (λ _=>by kernel_rfl) (λ _=>by kernel_rfl) rfl
theorem ce_impl_within:CO e_impl_within:=fnc (λ _=>con_nil) Tryd.func44 ke_impl_within (by kernel_rfl) (λ _=>by kernel_rfl) (λ _=>by kernel_rfl) rfl
theorem ce_impl_PrimName:CO e_impl_PrimName:=fnc (λ _=>con_cons ce_impl_prims (con_cons ce_impl_within con_nil)) Tryd.func65 ke_impl_PrimName (by kernel_rfl) (λ _=>by kernel_rfl) (λ _=>by kernel_rfl) rfl
theorem ce_impl_opOk:CO e_impl_opOk:=fnc (λ _=>con_cons ce_impl_PrimName (con_cons ce_impl_within con_nil)) Tryd.func85 ke_impl_opOk (by kernel_rfl) (λ _=>by kernel_rfl) (λ _=>by kernel_rfl) rfl
theorem ce_impl_openIn:CO e_impl_openIn:=fnc (λ _=>con_cons ce_impl_opOk con_nil) Tryd.func60 ke_impl_openIn (by kernel_rfl) (λ _=>by kernel_rfl) (λ _=>by kernel_rfl) rfl
theorem ce_impl_ShapeOk:CO e_impl_ShapeOk:=fnc (λ _=>con_cons ce_impl_openIn con_nil) Tryd.func31 ke_impl_ShapeOk (by kernel_rfl) (λ _=>by kernel_rfl) (λ _=>by kernel_rfl) rfl
theorem ce_slices_Clone_Op:ConOk Tryd.prog e_slices_Clone_Op:=fe_slices_Clone_Op
theorem ce_impl_foldedc1:CO e_impl_foldedc1:=fnc (λ _=>con_nil) Tryd.func61 ke_impl_foldedc1 (by kernel_rfl) (λ _=>by kernel_rfl) (λ _=>by kernel_rfl) rfl
theorem ce_slices_Index_string:CO e_slices_Index_string:=fnc (λ _=>con_nil) Tryd.func110 ke_slices_Index_string (by kernel_rfl) (λ _=>by kernel_rfl) (λ _=>by kernel_rfl) rfl
theorem ce_slices_Contains_string:CO e_slices_Contains_string:=fnc (λ _=>con_cons ce_slices_Index_string con_nil) Tryd.func86 ke_slices_Contains_string (by kernel_rfl) (λ _=>by kernel_rfl) (λ _=>by kernel_rfl) rfl
theorem ce_impl_isPrim:CO e_impl_isPrim:=fnc (λ _=>con_cons ce_impl_PrimName (con_cons ce_slices_Contains_string con_nil)) Tryd.func64 ke_impl_isPrim (by kernel_rfl) (λ _=>by kernel_rfl) (λ _=>by kernel_rfl) rfl
theorem ce_impl_result:CO e_impl_result:=fnc (λ _=>con_nil) Tryd.func63 ke_impl_result (by kernel_rfl) (λ _=>by kernel_rfl) (λ _=>by kernel_rfl) rfl
theorem ce_impl_foldedc2:CO e_impl_foldedc2:=fnc (λ _=>con_cons ce_impl_result con_nil) Tryd.func62 ke_impl_foldedc2 (by kernel_rfl) (λ _=>by kernel_rfl) (λ _=>by kernel_rfl) rfl
theorem ce_impl_folded:CO e_impl_folded:=fnc (λ _=>con_cons ce_impl_foldedc1 (con_cons ce_impl_isPrim (con_cons ce_impl_PrimName (con_cons ce_impl_foldedc2 con_nil)))) Tryd.func33 ke_impl_folded (by kernel_rfl) (λ _=>by kernel_rfl) (λ _=>by kernel_rfl) rfl
theorem ce_slices_Replace_Op:ConOk Tryd.prog e_slices_Replace_Op:=fe_slices_Replace_Op
theorem ce_impl_Fold:CO e_impl_Fold:=fnc (λ _=>con_cons ce_impl_ShapeOk (con_cons ce_slices_Clone_Op (con_cons ce_impl_folded (con_cons ce_slices_Replace_Op con_nil)))) Tryd.func10 ke_impl_Fold (by kernel_rfl) (λ _=>by kernel_rfl) (λ _=>by kernel_rfl) rfl
theorem ce_laws_eqOp:CO e_laws_eqOp:=fnc (λ _=>con_nil) Tryd.func35 ke_laws_eqOp (by kernel_rfl) (λ _=>by kernel_rfl) (λ _=>by kernel_rfl) rfl
theorem ce_laws_eqOpS:CO e_laws_eqOpS:=fnc (λ _=>con_cons ce_laws_eqOp con_nil) Tryd.func11 ke_laws_eqOpS (by kernel_rfl) (λ _=>by kernel_rfl) (λ _=>by kernel_rfl) rfl
theorem ce_laws_markOpS:CO e_laws_markOpS:=fnc (λ _=>con_nil) Tryd.func12 ke_laws_markOpS (by kernel_rfl) (λ _=>by kernel_rfl) (λ _=>by kernel_rfl) rfl
theorem ce_laws_heldOpS:CO e_laws_heldOpS:=fnc (λ _=>con_nil) Tryd.func13 ke_laws_heldOpS (by kernel_rfl) (λ _=>by kernel_rfl) (λ _=>by kernel_rfl) rfl
theorem ce_laws_FnExactFold:CO e_laws_FnExactFold:=fnc (λ _=>con_cons ce_laws_szOpS (con_cons ce_laws_toOpS (con_cons ce_spec_Fold (con_cons ce_impl_Fold (con_cons ce_laws_eqOpS (con_cons ce_laws_markOpS (con_cons ce_laws_heldOpS con_nil))))))) Tryd.func3 ke_laws_FnExactFold (by kernel_rfl) (λ _=>by kernel_rfl) (λ _=>by kernel_rfl) rfl
end Go.Proofs.YtmedombacbpofaaDoor

namespace Go.Fm
theorem wI64 {x:Int} (h1 : -9223372036854775808<=x) (h2:x < 9223372036854775808):IntKind.wrap .i64 x=x:=by
 simp[IntKind.wrap,IntKind.bits,IntKind.signed];omega
theorem wI32 {x:Int} (h1 : -2147483648<=x) (h2:x < 2147483648):IntKind.wrap .i32 x=x:=by
 simp[IntKind.wrap,IntKind.bits,IntKind.signed];omega
theorem wI32_bd (x:Int) : -2147483648<=IntKind.wrap .i32 x/\IntKind.wrap .i32 x < 2147483648:=by
 simp[IntKind.wrap,IntKind.bits,IntKind.signed];omega
theorem getI_ex {α:Type} {xs:List α} {i:Int} (h0:0<=i) (h1:i < xs.length):∃ x,getI xs i=some x/\x ∈ xs/\xs[i.toNat]? = some x:=by
 have hi:i.toNat < xs.length:=by omega
 unfold getI
 rw[if_pos h0,List.getElem?_eq_getElem hi]
 exact ⟨_,rfl,List.getElem_mem hi,rfl⟩
theorem getI_nat {α:Type} {xs:List α} {i:Nat}:getI xs (i:Int)=xs[i]? := by
 unfold getI;rw[if_pos (Int.natCast_nonneg i)];rfl
theorem app_eq {α:Type} {xs ys:List α} (h:xs.length+ys.length<=4294967296):app xs ys=some (xs++ys):=by
 unfold app
 rw[if_pos (by rw[List.length_append];exact h)]
theorem subL_eq {α:Type} {xs:List α} {a b:Int} (h0:0<=a) (h1:a<=b) (h2:b<=xs.length):subL xs a b=some ((xs.drop a.toNat).take (b.toNat-a.toNat)):=by
 unfold subL;rw[if_pos ⟨h0,h1,h2⟩]
theorem subL_drop {α:Type} {xs:List α} {a:Int} (h0:0<=a) (h2:a<=xs.length):subL xs a xs.length=some (xs.drop a.toNat):=by
 rw[subL_eq h0 h2 (Int.le_refl _),List.take_of_length_le]
 rw[List.length_drop];omega
theorem subL_take {α:Type} {xs:List α} {b:Int} (h0:0<=b) (h2:b<=xs.length):subL xs 0 b=some (xs.take b.toNat):=by
 rw[subL_eq (Int.le_refl _) h0 h2];rfl
theorem mk_eq {α:Type} {z:α} {n:Int} (h0:0<=n) (h1:n<=4294967296):mk z n=some (List.replicate n.toNat z):=by
 unfold mk;rw[if_pos ⟨h0,h1⟩]
section
variable {α β:Type} {Q Q':α->Prop} {R:β->Prop}
end
end Go.Fm
namespace Go.Fm
theorem nxt {n:Nat} (h:n < 16777216):IntKind.wrap .i64 ((n:Int)+1)=((n+1:Nat):Int):=by rw[wI64 (by omega) (by omega)];omega
def allN {α:Type} (p:Nat->α->Bool):Nat->List α->Bool
 | _,[]=>true
 | n,x::r=>p n x&&allN p (n+1) r
theorem allN_const {α:Type} (p:α->Bool):∀ (n:Nat) (l:List α),allN (λ _=>p) n l=l.all p
 | n,[]=>rfl
 | n,x::r=>by simp only[allN,List.all_cons,allN_const p (n+1) r]
theorem allLoop {α β:Type} {L:List α} {bad:β} (p:Nat->α->Bool) (F:Nat->Int->Option (Unit ⊕ β)) (step:∀ (k n:Nat) (x:α),L[n]? = some x->n < L.length->F (k+1) n=cond (p n x) (F k ((n+1:Nat):Int)) (some (.inr bad)))
  (fin:∀ k n:Nat,L.length<=n->F (k+1) n=some (.inl ())) (hm:L.length<=16777216):F bigK 0=some (cond (allN p 0 L) (.inl ()) (.inr bad)):=by
 have key:∀ (k n:Nat),n<=L.length->L.length-n < k->F k n=some (cond (allN p n (L.drop n)) (.inl ()) (.inr bad)):=by
  intro k
  induction k with
  | zero=>intro n h0 h1;omega
  | succ k ih =>
   intro n h0 h1
   by_cases hn:n < L.length
   ·rw[step k n L[n] (List.getElem?_eq_getElem hn) hn,List.drop_eq_getElem_cons hn]
    show _=some (cond (p n L[n]&&allN p (n+1) (L.drop (n+1))) _ _)
    cases p n L[n] with
    | false=>rfl
    | true=>rw[cond_true,ih (n+1) (by omega) (by omega),Bool.true_and]
   ·rw[fin k n (by omega),List.drop_eq_nil_of_le (by omega)];rfl
 have:=key bigK 0 (Nat.zero_le _) (by unfold bigK;omega)
 rw[List.drop_zero]at this
 exact this
theorem eqList {α:Type} [DecidableEq α] {a b:List α} (F:Nat->Int->Option (Unit ⊕ Bool)) (g:Option Bool) (hg:g=cond ((a.length:Int) != (b.length:Int)) (some false) (((F bigK 0).bind λ o=>match o with | .inl ()=>some (.inl ()) | .inr v=>some (.inr v):Option (Unit ⊕ Bool)).bind λ o=>match o with | .inl ()=>some true | .inr v=>some v))
  (hF:∀ (k:Nat) (i:Int),F (k+1) i=cond (decide (i < (a.length:Int))) ((getI a i).bind λ x=>(getI b i).bind λ y=>cond (!decide (x=y)) (some (.inr false)) (F k (IntKind.wrap .i64 (i+1)))) (some (.inl ()))) (hm:a.length<=1048576):g=some (decide (a=b)):=by
 rw[hg]
 by_cases hl:a.length=b.length
 ·have key:∀ (k n:Nat),n<=a.length->a.length-n < k->F k n=some (if a.drop n=b.drop n then .inl () else .inr false):=by
   intro k
   induction k with
   | zero=>intro n h0 h1;omega
   | succ k ih =>
    intro n h0 h1
    rw[hF]
    by_cases hn:n < a.length
    ·have hn':n < b.length:=by omega
     rw[decide_eq_true (by omega),getI_nat,getI_nat,List.getElem?_eq_getElem hn,List.getElem?_eq_getElem hn',List.drop_eq_getElem_cons hn,List.drop_eq_getElem_cons hn']
     simp only[cond_true,Option.bind_some]
     by_cases he:a[n]=b[n]
     ·rw[decide_eq_true he,Bool.not_true,cond_false,wI64 (by omega) (by omega),show ((n:Int)+1)=((n+1:Nat):Int) by omega,ih (n+1) (by omega) (by omega),he]
      simp only[List.cons.injEq,true_and]
     ·rw[decide_eq_false he,Bool.not_false,cond_true,if_neg (λ h=>he (List.cons.inj h).1)]
    ·rw[decide_eq_false (by omega),cond_false,List.drop_eq_nil_of_le (by omega),List.drop_eq_nil_of_le (by omega),if_pos rfl]
  have:((a.length:Int) != (b.length:Int))=false:=by rw[hl];simp
  rw[this,cond_false]
  have h:=key bigK 0 (Nat.zero_le _) (by unfold bigK;omega)
  rw[show ((0:Nat):Int)=0 from rfl]at h
  rw[h]
  by_cases he:a=b
  ·simp[he]
  ·simp[he]
 ·have:((a.length:Int) != (b.length:Int))=true:=by simp;omega
  rw[this,cond_true,decide_eq_false (λ h=>hl (by rw[h]))]
theorem copyM {α:Type} {a:List α} (F:Nat->List α->Int->Option (List α))
  (hs:∀ (k n:Nat) (out:List α) (x y:α),a[n]? = some x->n < a.length->out[n]? = some y->F (k+1) out n=F k (out.set n x) ((n+1:Nat):Int))
  (he:∀ (k n:Nat) (out:List α),a.length<=n->F (k+1) out n=some out) (hm:a.length<=16777216) {z:List α} (hz:z.length=a.length):F bigK z 0=some a:=by
 have key:∀ (k n:Nat) (rest:List α),n<=a.length->a.length-n < k->rest.length=a.length-n->F k (a.take n++rest) n=some a:=by
  intro k
  induction k with
  | zero=>intro n rest h0 h1;omega
  | succ k ih =>
   intro n rest h0 h1 h2
   by_cases hn:n < a.length
   ·cases rest with
    | nil=>simp at h2;omega
    | cons x r =>
     have hl:(a.take n).length=n:=by rw[List.length_take];omega
     rw[hs k n _ a[n] x (List.getElem?_eq_getElem hn) hn (by rw[List.getElem?_append_right (by omega),hl,Nat.sub_self];rfl)]
     have hset:(a.take n++x::r).set n a[n]=a.take (n+1)++r:=by
      rw[List.set_append_right _ _ (by omega),hl,Nat.sub_self,List.set_cons_zero,List.take_succ_eq_append_getElem hn,List.append_assoc]
      rfl
     rw[hset]
     exact ih (n+1) r (by omega) (by omega) (by simp at h2;omega)
   ·have hr:rest=[]:=List.length_eq_zero_iff.1 (by omega)
    rw[he k n _ (by omega),hr,List.append_nil,List.take_of_length_le (by omega)]
 have h:=key bigK 0 z (Nat.zero_le _) (by unfold bigK;omega) (by omega)
 rw[Int.natCast_zero,List.take_zero,List.nil_append]at h
 exact h
theorem copyLoop {α:Type} {a:List α} (F:Nat->List α->Int->Option (List α))
  (hs:∀ (k:Nat) (out:List α) (i:Int),F (k+1) out i=cond (decide (i < (a.length:Int))) ((getI a i).bind λ x=>(getI out i).bind λ _=>F k (out.set i.toNat x) (IntKind.wrap .i64 (i+1))) (some out))
  (hm:a.length<=16777216) {z:List α} (hz:z.length=a.length):F bigK z 0=some a:=by
 by_cases hb:a.length < 16777216
 ·exact copyM F (λ k n out x y hx hn hy=>by
   rw[hs,decide_eq_true (by omega),cond_true,getI_nat,hx]
   simp only[Option.bind_some]
   rw[getI_nat,hy,nxt (by omega)]
   rfl) (λ k n out hn=>by rw[hs,decide_eq_false (by omega),cond_false]) hm hz
 ·exact copyM F (λ k n out x y hx hn hy=>by
   rw[hs,decide_eq_true (by omega),cond_true,getI_nat,hx]
   simp only[Option.bind_some]
   rw[getI_nat,hy,nxt (by omega)]
   rfl) (λ k n out hn=>by rw[hs,decide_eq_false (by omega),cond_false]) hm hz
theorem eqRefl {α:Type} {a:List α} (F:Nat->Int->Option (Unit ⊕ Bool)) (f:Option Bool)
  (hf:f=cond ((a.length:Int) != (a.length:Int)) (some false) (((F bigK 0).bind λ o=>match o with | .inl ()=>some (.inl ()) | .inr v=>some (.inr v):Option (Unit ⊕ Bool)).bind λ o=>match o with | .inl ()=>some true | .inr v=>some v))
  (hs:∀ (k n:Nat) (x:α),a[n]? = some x->n < a.length->F (k+1) n=F k ((n+1:Nat):Int)) (he:∀ (k n:Nat),a.length<=n->F (k+1) n=some (.inl ())) (hm:a.length<=16777216):f=some true:=by
 have h:=allLoop (L:=a) (bad:=false) (λ _ _=>true) F (λ k n x hx hn=>by rw[hs k n x hx hn];rfl) he hm
 rw[hf,h]
 have e:∀ (n:Nat) (l:List α),allN (λ _ _=>true) n l=true:=λ n l=>by rw[allN_const (λ _=>true)];simp
 rw[e]
 simp
theorem bne_self' {α:Type} [BEq α] [LawfulBEq α] (x:α):(x != x)=false:=by simp
abbrev LN:Nat:=9223372036854775807
def marksN {β:Type} (val:Nat->β) (s:Nat):Nat->Nat->List β
 | _,0=>[]
 | k,n+1=>val k::marksN val s (k+s) n
theorem marksN_len {β:Type} (val:Nat->β) (s:Nat):∀ (n k:Nat),(marksN val s k n).length=n
 | 0,k=>rfl
 | n+1,k=>by rw[marksN,List.length_cons,marksN_len val s n]
theorem markL {β:Type} (val:Nat->β) (s N:Nat) (F:Nat->List β->Int->Int->Option (Int×List β)) 
  (hs:∀ (k:Nat) (a:List β) (kk n:Nat),n < a.length->a.length<=1048576->kk<=N->F (k+1) a kk n=F k (a.set n (val kk)) ((kk+s:Nat):Int) ((n+1:Nat):Int))
  (he:∀ (k:Nat) (a:List β) (kk n:Nat),a.length<=n->F (k+1) a kk n=some ((kk:Int),a)) :
  ∀ (k:Nat) (done rest:List β) (kk:Nat),kk+s*rest.length<=N->done.length+rest.length<=1048576->rest.length < k->F k (done++rest) kk done.length=some (((kk+s*rest.length:Nat):Int),done++marksN val s kk rest.length):=by
 intro k
 induction k with
 | zero=>intro done rest kk h0 h1 h2;omega
 | succ k ih =>
  intro done rest kk h0 h1 h2
  cases rest with
  | nil=>rw[he _ _ _ _ (by simp)];simp[marksN]
  | cons x r =>
   simp only[List.length_cons,Nat.mul_add,Nat.mul_one]at h0 h1 h2
   rw[hs _ _ _ _ (by simp) (by simp;omega) (by omega),List.set_append_right _ _ (Nat.le_refl _),Nat.sub_self,List.set_cons_zero]
   have:=ih (done++[val kk]) r (kk+s) (by omega) (by simp;omega) (by omega)
   simp only[List.append_assoc,List.singleton_append,List.length_append,List.length_singleton]at this
   rw[this]
   simp only[marksN,List.length_cons,Nat.mul_add,Nat.mul_one]
   congr 3
   omega
theorem heldL {β:Type} (val:Nat->β) (s N:Nat) {L:List β} (F:Nat->Int->Int->Option (Int ⊕ Int))
  (hs:∀ (k kk n:Nat) (h:n < L.length),n<=1048576->kk<=N->L[n]=val kk->F (k+1) kk n=F k ((kk+s:Nat):Int) ((n+1:Nat):Int))
  (he:∀ (k kk n:Nat),L.length<=n->F (k+1) kk n=some (.inl (kk:Int))) :
  ∀ (k:Nat) (done:List β) (kk m:Nat),L=done++marksN val s kk m->L.length<=1048576->kk+s*m<=N->m < k->F k kk done.length=some (.inl ((kk+s*m:Nat):Int)):=by
 intro k
 induction k with
 | zero=>intro done kk m h0 hL h1 h2;omega
 | succ k ih =>
  intro done kk m h0 hL h1 h2
  cases m with
  | zero=>rw[he _ _ _ (by rw[h0];simp[marksN])];simp
  | succ m =>
   have hl:done.length < L.length:=by rw[h0];simp[marksN]
   have hg:L[done.length]=val kk:=by
    have:L[done.length]? = some (val kk):=by rw[h0,List.getElem?_append_right (Nat.le_refl _),Nat.sub_self];rfl
    rw[List.getElem?_eq_getElem hl]at this
    exact Option.some.inj this
   simp only[Nat.mul_add,Nat.mul_one]at h1
   rw[hs _ _ _ hl (by omega) (by omega) hg]
   have:=ih (done++[val kk]) (kk+s) m (by rw[h0,List.append_assoc];rfl) hL (by omega) (by omega)
   rw[List.length_append,List.length_singleton]at this
   rw[this]
   simp only[Nat.mul_add,Nat.mul_one]
   congr 3
   omega
end Go.Fm
namespace Go.Proofs.YtmedombacbpofaaDoor
open Go Go.Fm
set_option maxRecDepth 100000
theorem specIn_eq {x a b:Int}:g_spec_l01In x a b=some (decide (a<=x/\x<=b)):=by
 unfold g_spec_l01In
 by_cases h:x ≥ a
 ·rw[decide_eq_true h]
  simp only[cond_true]
  congr 1
  exact decide_eq_decide.2 ⟨λ h2=>⟨h,h2⟩,λ h2=>h2.2⟩
 ·rw[decide_eq_false h]
  simp only[cond_false]
  congr 1
  exact (decide_eq_false λ h2=>h h2.1).symm
theorem within_eq {x a b:Int}:g_impl_within x a b=some (decide (a<=x/\x<=b)):=by
 unfold g_impl_within
 by_cases h:a<=x
 ·rw[decide_eq_true h]
  simp only[cond_true]
  congr 1
  exact decide_eq_decide.2 ⟨λ h2=>⟨h,h2⟩,λ h2=>h2.2⟩
 ·rw[decide_eq_false h]
  simp only[cond_false]
  congr 1
  exact (decide_eq_false λ h2=>h h2.1).symm
end Go.Proofs.YtmedombacbpofaaDoor
namespace Go.Proofs.YtmedombacbpofaaDoor
open Go Go.Fm
set_option maxRecDepth 100000
theorem prims_eq:g_impl_prims=g_spec_l08Names:=by kernel_rfl
theorem name_eq (k:Int):g_impl_PrimName k=g_spec_PrimName k:=by
 unfold g_impl_PrimName g_spec_PrimName
 rw[prims_eq]
 unfold g_spec_l08Names
 simp only[Option.bind_some]
 rw[within_eq,specIn_eq]
 simp only[Option.bind_some]
 have key:∀ (b:Bool) (x y:Option Bs),cond b x y=cond (!b) y x:=λ b x y=>by cases b<;>rfl
 exact key _ _ _
theorem op_eq (o:GOp):g_impl_opOk o=g_spec_l09Op o:=by
 unfold g_impl_opOk g_spec_l09Op
 simp only[name_eq,within_eq,specIn_eq]
theorem name_tot (k:Int):∃ s,g_spec_PrimName k=some s:=by
 unfold g_spec_PrimName
 unfold g_spec_l08Names
 simp only[Option.bind_some]
 rw[specIn_eq]
 simp only[Option.bind_some]
 by_cases h:(0:Int)<=k/\k<=IntKind.wrap .i64 (((([[100,117,112],[100,114,111,112],[111,118,101,114],[110,105,112],[115,119,97,112],[43],[45],[42],[97,110,100],[111,114],[50,42],[50,47],[47,109,111,100],[64],[33],[97],[97,33],[101,109,105,116],[107,101,121],[112,117,115,104],[112,111,112],[105],[46],[110,111,112]]:List Bs).length:Nat):Int)-1)
 ·rw[decide_eq_true h,Bool.not_true,cond_false]
  have h2:k<=23:=h.2
  obtain ⟨x,hx,_⟩:=getI_ex (xs:=([[100,117,112],[100,114,111,112],[111,118,101,114],[110,105,112],[115,119,97,112],[43],[45],[42],[97,110,100],[111,114],[50,42],[50,47],[47,109,111,100],[64],[33],[97],[97,33],[101,109,105,116],[107,101,121],[112,117,115,104],[112,111,112],[105],[46],[110,111,112]]:List Bs)) (i:=k) h.1 (by simp;omega)
  rw[hx]
  exact ⟨_,rfl⟩
 ·rw[decide_eq_false h,Bool.not_false,cond_true]
  exact ⟨_,rfl⟩
theorem op_tot (o:GOp):∃ b,g_spec_l09Op o=some b:=by
 unfold g_spec_l09Op
 obtain ⟨s,hs⟩:=name_tot (IntKind.wrap .i64 o.N)
 rw[hs,specIn_eq,specIn_eq]
 simp only[Option.bind_some]
 cases o.Kind==0
 ·cases o.Kind==1
  ·cases o.Kind==2
   ·simp only[cond_false]
    by_cases h:3<=o.Kind/\o.Kind<=8
    ·rw[decide_eq_true h,cond_true]
     exact ⟨_,rfl⟩
    ·rw[decide_eq_false h,cond_false]
     exact ⟨_,rfl⟩
   ·exact ⟨_,rfl⟩
  ·exact ⟨_,rfl⟩
 ·exact ⟨_,rfl⟩
def okB (o:GOp):Bool:=(g_spec_l09Op o).getD false
theorem okB_eq (o:GOp):g_spec_l09Op o=some (okB o):=by
 obtain ⟨b,h⟩:=op_tot o
 unfold okB
 rw[h]
 rfl
def stepF (v:List Int) (o:GOp):Option (List Int) :=
 if o.Kind=3\/o.Kind=4\/o.Kind=6 then some (v++[o.Kind])
 else if o.Kind=5\/o.Kind=7 then (match v.getLast? with|none=>none|some l=>if decide (l=6)=decide (o.Kind=7) then some v.dropLast else none)
 else some v
def openF:List GOp->List Int->Option (List Int)
 | [],v=>some v
 | o::r,v=>(stepF v o).bind (openF r)
def openG:List GOp->List Int->Option (List Int)
 | [],v=>some v
 | o::r,v=>cond (okB o) ((stepF v o).bind (openG r)) none
theorem openG_eq:∀ (l:List GOp) (v:List Int),openG l v=cond (l.all okB) (openF l v) none
 | [],v=>rfl
 | o::r,v=>by
  rw[List.all_cons]
  unfold openG openF
  cases ho:okB o
  ·rfl
  ·rw[Bool.true_and,cond_true]
   cases hs:stepF v o with
   | none=>cases r.all okB<;>rfl
   | some w=>simp only[Option.bind_some];exact openG_eq r w
theorem stepF_len {v w:List Int} {o:GOp} (h:stepF v o=some w):w.length<=v.length+1:=by
 unfold stepF at h
 split at h
 ·cases h;simp
 ·split at h
  ·split at h
   ·cases h
   ·split at h
    ·cases h;simp;omega
    ·cases h
  ·cases h;omega
def sumE {β:Type} (e:β) (o:Option (List Int)):List Int ⊕ β:=match o with|some w=>.inl w|none=>.inr e
theorem kinds (k:Int):(k==3)=decide (k=3)/\(k==4)=decide (k=4)/\(k==5)=decide (k=5)/\(k==6)=decide (k=6)/\(k==7)=decide (k=7):=by
 refine ⟨?_,?_,?_,?_,?_⟩<;>rw[Bool.eq_iff_iff]<;>simp
theorem last_get {v:List Int} (h:v≠[]) (hl:v.length<=16777216):getI v (IntKind.wrap .i64 ((v.length:Int)-1))=v.getLast? ∧ subL v 0 (IntKind.wrap .i64 ((v.length:Int)-1))=some v.dropLast:=by
 have h0:0 < v.length:=by
  cases v with
  | nil=>exact absurd rfl h
  | cons a r=>simp
 rw[wI64 (by omega) (by omega),show (v.length:Int)-1=((v.length-1:Nat):Int) by omega,getI_nat,subL_take (by omega) (by omega),Int.toNat_natCast,List.getLast?_eq_getElem?,List.dropLast_eq_take]
 exact ⟨rfl,rfl⟩
theorem spec_step {β:Type} (e:β) (v:List Int) (o:GOp) (hl:v.length<=16777216) :
  ((cond (o.Kind==3) (some (o.Kind==3)) (cond (o.Kind==4) (some (o.Kind==4)) (some (o.Kind==6))):Option (Bool)).bind λ v_17=>cond v_17 ((app v [o.Kind]).bind λ v_23=>some (Sum.inl v_23)) ((cond (o.Kind==5) (some (o.Kind==5)) (some (o.Kind==7)):Option (Bool)).bind λ v_24=>cond v_24 ((cond ((v.length:Int)==0) (some true) ((getI v (IntKind.wrap .i64 ((v.length:Int)-1))).bind λ v_33=>some ((v_33==6) != (o.Kind==7))):Option (Bool)).bind λ v_29=>cond v_29 (some (Sum.inr e)) ((subL v 0 (IntKind.wrap .i64 ((v.length:Int)-1))).bind λ v_35=>some (Sum.inl v_35))) (some (Sum.inl v))):Option ((List Int) ⊕ β))=some (sumE e (stepF v o)):=by
 obtain ⟨e3,e4,e5,e6,e7⟩:=kinds o.Kind
 rw[e3,e4,e5,e6,e7]
 unfold stepF
 by_cases h3:o.Kind=3
 ·simp only[h3,decide_true,cond_true,Option.bind_some]
  rw[app_eq (by simp;omega)]
  rfl
 ·by_cases h4:o.Kind=4
  ·rw[decide_eq_false h3,cond_false,decide_eq_true h4,cond_true,Option.bind_some,cond_true,app_eq (by simp;omega),if_pos (.inr (.inl h4))]
   rfl
  ·by_cases h6:o.Kind=6
   ·rw[decide_eq_false h3,cond_false,decide_eq_false h4,cond_false,Option.bind_some,decide_eq_true h6,cond_true,app_eq (by simp;omega),if_pos (.inr (.inr h6))]
    rfl
   ·rw[decide_eq_false h3,cond_false,decide_eq_false h4,cond_false,Option.bind_some,decide_eq_false h6,cond_false,if_neg (by omega)]
    by_cases h57:o.Kind=5\/o.Kind=7
    ·have hc:(cond (decide (o.Kind=5)) (some (decide (o.Kind=5))) (some (decide (o.Kind=7))):Option Bool)=some true:=by
      rcases h57 with h|h
      ·rw[decide_eq_true h];rfl
      ·rw[decide_eq_true h,decide_eq_false (by omega)];rfl
     rw[hc,Option.bind_some,cond_true,if_pos h57]
     cases v with
     | nil=>rfl
     | cons a r =>
      obtain ⟨g1,g2⟩:=last_get (v:=a::r) (by simp) hl
      have hz:(((a::r).length:Int)==0)=false:=by simp;omega
      rw[hz,cond_false,g1,g2]
      obtain ⟨x,hx⟩:∃ x,(a::r).getLast? = some x:=by rw[List.getLast?_cons];exact ⟨_,rfl⟩
      rw[hx]
      simp only[Option.bind_some]
      have ex:(x==6)=decide (x=6):=(kinds x).2.2.2.1
      rw[ex]
      by_cases hq:decide (x=6)=decide (o.Kind=7)
      ·rw[hq,if_pos rfl]
       simp[sumE]
      ·rw[if_neg hq]
       have:(decide (x=6) != decide (o.Kind=7))=true:=by simpa using hq
       rw[this,cond_true]
       rfl
    ·have hc:(cond (decide (o.Kind=5)) (some (decide (o.Kind=5))) (some (decide (o.Kind=7))):Option Bool)=some false:=by
      rw[decide_eq_false (by omega),decide_eq_false (by omega)];rfl
     rw[hc,Option.bind_some,cond_false,if_neg h57]
     rfl
theorem impl_step {β:Type} (e:β) (v:List Int) (o:GOp) (hl:v.length<=16777216) :
  ((cond (o.Kind==3) (some true) (cond (o.Kind==4) (some true) (some (o.Kind==6))):Option (Bool)).bind λ v_19=>cond v_19 ((app v [o.Kind]).bind λ v_25=>some (Sum.inl v_25)) ((cond (o.Kind==5) (some true) (some (o.Kind==7)):Option (Bool)).bind λ v_26=>cond v_26 ((cond (decide ((IntKind.wrap .i64 ((v.length:Int)-1)) < 0)) (some true) ((getI v (IntKind.wrap .i64 ((v.length:Int)-1))).bind λ v_35=>some ((v_35==6) != (o.Kind==7))):Option (Bool)).bind λ v_31=>cond v_31 (some (Sum.inr e)) ((subL v 0 (IntKind.wrap .i64 ((v.length:Int)-1))).bind λ v_37=>some (Sum.inl v_37))) (some (Sum.inl v))):Option ((List Int) ⊕ β))=some (sumE e (stepF v o)):=by
 rw[<-spec_step e v o hl]
 have c1:∀ b:Bool,∀ x:Option Bool,(cond b (some true) x:Option Bool)=cond b (some b) x:=λ b x=>by cases b<;>rfl
 have c2:decide ((IntKind.wrap .i64 ((v.length:Int)-1)) < 0)=((v.length:Int)==0):=by
  rw[wI64 (by omega) (by omega)]
  by_cases h0:v.length=0
  ·rw[h0];rfl
  ·rw[decide_eq_false (by omega),beq_eq_false_iff_ne.2 (by omega)]
 rw[c2,c1 (o.Kind==3),c1 (o.Kind==4),c1 (o.Kind==5)]
theorem spec_l0 {body:List GOp} (hb:body.length<=1048576):∀ (k n:Nat) (v:List Int),n<=body.length->body.length-n < k->v.length<=n->g_spec_l09Open_l0 body k v n=some (sumE false (openF (body.drop n) v)):=by
 intro k
 induction k with
 | zero=>intro n v h0 h1;omega
 | succ k ih =>
  intro n v h0 h1 h2
  rw[g_spec_l09Open_l0]
  by_cases hn:n < body.length
  ·rw[decide_eq_true (by omega),cond_true,getI_nat,List.getElem?_eq_getElem hn,List.drop_eq_getElem_cons hn]
   simp only[Option.bind_some]
   rw[spec_step _ v body[n] (by omega)]
   simp only[Option.bind_some,openF]
   cases hs:stepF v body[n] with
   | none=>rfl
   | some w =>
    have:=stepF_len hs
    simp only[sumE,Option.bind_some]
    rw[wI64 (by omega) (by omega),show (n:Int)+1=((n+1:Nat):Int) by omega,ih (n+1) w (by omega) (by omega) (by omega)]
    rfl
  ·rw[decide_eq_false (by omega),cond_false,List.drop_eq_nil_of_le (by omega)]
   rfl
theorem impl_l0 {body:List GOp} (hb:body.length<=1048576):∀ (k n:Nat) (v:List Int),n<=body.length->body.length-n < k->v.length<=n->g_impl_openIn_l0 body (body.length:Int) k v n=some (sumE (([]:List Int),false) (openG (body.drop n) v)):=by
 intro k
 induction k with
 | zero=>intro n v h0 h1;omega
 | succ k ih =>
  intro n v h0 h1 h2
  rw[g_impl_openIn_l0]
  by_cases hn:n < body.length
  ·rw[decide_eq_true (by omega),cond_true,getI_nat,List.getElem?_eq_getElem hn,List.drop_eq_getElem_cons hn]
   simp only[Option.bind_some]
   rw[op_eq,okB_eq]
   simp only[Option.bind_some,openG]
   cases ho:okB body[n]
   ·rw[Bool.not_false,cond_true,cond_false]
    rfl
   ·rw[Bool.not_true,cond_false,cond_true,impl_step _ v body[n] (by omega)]
    simp only[Option.bind_some]
    cases hs:stepF v body[n] with
    | none=>rfl
    | some w =>
     have:=stepF_len hs
     simp only[sumE,Option.bind_some]
     rw[wI64 (by omega) (by omega),show (n:Int)+1=((n+1:Nat):Int) by omega,ih (n+1) w (by omega) (by omega) (by omega)]
     rfl
  ·rw[decide_eq_false (by omega),cond_false,List.drop_eq_nil_of_le (by omega)]
   rfl
theorem spec_open {body:List GOp} (hb:body.length<=1048576):g_spec_l09Open body=some (match openF body [] with|none=>([],false)|some w=>(w,true)):=by
 unfold g_spec_l09Open
 have h1:=spec_l0 hb bigK 0 [] (Nat.zero_le _) (by unfold bigK;omega) (Nat.le_refl _)
 rw[Int.natCast_zero,List.drop_zero]at h1
 rw[h1]
 cases openF body []<;>rfl
theorem impl_open {body:List GOp} (hb:body.length<=1048576):g_impl_openIn body=some (match cond (body.all okB) (openF body []) none with|none=>([],false)|some w=>(w,decide ((body.length:Int)<=60))):=by
 unfold g_impl_openIn
 have h1:=impl_l0 hb bigK 0 [] (Nat.zero_le _) (by unfold bigK;omega) (Nat.le_refl _)
 rw[Int.natCast_zero,List.drop_zero]at h1
 rw[h1,openG_eq]
 cases cond (body.all okB) (openF body []) none<;>rfl
theorem toOpS {a:List GOp} (h:a.length<=1048576):g_laws_toOpS a=some a:=by
 unfold g_laws_toOpS
 rw[mk_eq (by omega) (by omega),Option.bind_some,copyLoop (g_laws_toOpS_l0 a) (λ _ _ _=>rfl) (by omega) (by simp)]
 rfl
theorem eqOpS {a:List GOp} (h:a.length<=1048576):g_laws_eqOpS a a=some true :=
 eqRefl (g_laws_eqOpS_l0 a a) _ rfl (λ k n x hx hn=>by
  rw[g_laws_eqOpS_l0,decide_eq_true (by omega),cond_true,getI_nat,hx]
  unfold g_laws_eqOp
  simp only[Option.bind_some,bne_self',cond_false,Bool.not_true]
  rw[nxt (by omega)]) (λ k n hn=>by rw[g_laws_eqOpS_l0,decide_eq_false (by omega),cond_false]) (by omega)
def opM (k:Nat):GOp:=⟨k,IntKind.wrap .i32 ((k+1:Nat):Int)⟩
theorem markOpS {a:List GOp} (h:a.length<=1048576) {k:Nat} (hk:k<=1000000000):g_laws_markOpS a (k:Int)=some (((k+2*a.length:Nat):Int),marksN opM 2 k a.length):=by
 have:=markL opM 2 2000000000 (g_laws_markOpS_l0) (λ f a kk n hn hl hk=>by
  rw[g_laws_markOpS_l0,decide_eq_true (by omega),cond_true,getI_nat,List.getElem?_eq_getElem hn,Option.bind_some,getI_nat,Int.toNat_natCast,List.getElem?_set_self (by omega)]
  simp only[Option.bind_some,List.set_set]
  rw[wI64 (x:=(kk:Int)+1) (by omega) (by omega),wI64 (x:=(kk:Int)+1+1) (by omega) (by omega),wI64 (x:=(n:Int)+1) (by omega) (by omega)]
  rfl) (λ f a kk n hn=>by rw[g_laws_markOpS_l0,decide_eq_false (by omega),cond_false]) bigK [] a k (by omega) (by simpa using h) (by unfold bigK;omega)
 unfold g_laws_markOpS
 rw[List.nil_append,List.length_nil,show ((0:Nat):Int)=0 from rfl]at this
 rw[this];rfl
theorem heldOpS {n k:Nat} (h:n<=1048576) (hk:k<=1000000000):g_laws_heldOpS (marksN opM 2 k n) (k:Int)=some ((k+2*n:Nat):Int):=by
 have:=heldL opM 2 2000000000 (L:=marksN opM 2 k n) (g_laws_heldOpS_l0 (marksN opM 2 k n)) (λ f kk i hi hl hk he=>by
  rw[g_laws_heldOpS_l0,decide_eq_true (by omega),cond_true,getI_nat,List.getElem?_eq_getElem hi,Option.bind_some,Option.bind_some,he]
  rw[wI64 (x:=(kk:Int)+1) (by omega) (by omega),wI64 (x:=(kk:Int)+1+1) (by omega) (by omega),wI64 (x:=(i:Int)+1) (by omega) (by omega)]
  show cond ((kk:Int) != kk) _ (cond (IntKind.wrap .i32 ((kk+1:Nat):Int) != IntKind.wrap .i32 ((kk:Int)+1)) _ _)=_
  rw[show ((kk:Int)+1)=((kk+1:Nat):Int) by omega,bne_self_eq_false,bne_self_eq_false]
  rfl) (λ f kk i hi=>by rw[g_laws_heldOpS_l0,decide_eq_false (by omega),cond_false]) bigK [] k n (by simp) (by rw[marksN_len];exact h) (by omega) (by unfold bigK;omega)
 unfold g_laws_heldOpS
 rw[List.length_nil,show ((0:Nat):Int)=0 from rfl]at this
 rw[this];rfl
theorem fitsOpS {a:List GOp} (hl:a.length<=LN):∀ {α:Type} (K:Int->Option α) (x:Option α),(∀ y,0<=y->a.length<=1048576->K y=x)->(∀ y,y < 0->K y=x)->(g_laws_szOpS a 1048576).bind K=x:=λ K x h1 h2=>by
 unfold g_laws_szOpS
 unfold LN at hl
 by_cases h:a.length<=1048576
 ·rw[wI64 (by omega) (by omega),decide_eq_false (by omega),cond_false,Option.bind_some,h1 _ (by omega) h]
 ·rw[wI64 (by omega) (by omega),decide_eq_true (by omega),cond_true,Option.bind_some,h2 _ (by omega)]
def shapeB (body:List GOp):Bool:=decide (body.length<=60)&&body.all okB&&decide (openF body []=some [])
theorem specShape {body:List GOp} (hb:body.length<=1048576):g_spec_ShapeOk body=some (shapeB body):=by
 unfold g_spec_ShapeOk shapeB
 by_cases h60:body.length<=60
 ·rw[decide_eq_false (by omega),cond_false,decide_eq_true h60,spec_open hb]
  have:=allLoop (L:=body) (bad:=false) (λ _ o=>okB o) (g_spec_ShapeOk_l0 body) (λ k n x hx hn=>by
   rw[g_spec_ShapeOk_l0,decide_eq_true (by omega),cond_true,getI_nat,hx,Option.bind_some,okB_eq,Option.bind_some,wI64 (by omega) (by omega),show ((n:Int)+1)=((n+1:Nat):Int) by omega]
   cases okB x<;>rfl) (λ k n hn=>by rw[g_spec_ShapeOk_l0,decide_eq_false (by omega),cond_false]) (by omega)
  rw[this,allN_const,Bool.true_and]
  cases body.all okB with
  | false=>rfl
  | true =>
   simp only[cond_true,Option.bind_some,Bool.true_and]
   cases openF body [] with
   | none=>rfl
   | some w=>cases w<;>simp<;>omega
 ·rw[decide_eq_true (by omega),cond_true,decide_eq_false h60];rfl
theorem implShape {body:List GOp} (hb:body.length<=1048576):g_impl_ShapeOk body=some (shapeB body):=by
 unfold g_impl_ShapeOk shapeB
 rw[impl_open hb]
 cases body.all okB with
 | false=>simp
 | true =>
  simp only[cond_true,Option.bind_some,Bool.and_true]
  cases openF body [] with
  | none=>simp
  | some w =>
   by_cases h60:body.length<=60
   ·rw[decide_eq_true (p:=(body.length:Int)<=60) (by omega),decide_eq_true h60]
    cases w<;>simp<;>omega
   ·rw[decide_eq_false (p:=(body.length:Int)<=60) (by omega),decide_eq_false h60];simp
end Go.Proofs.YtmedombacbpofaaDoor
namespace Go.Proofs.YtmedombacbpofaaDoor
open Go Go.Fm
def i32B (x:Int):Prop := -2147483648<=x/\x<=2147483647
theorem i32w (x:Int):i32B (IntKind.wrap .i32 x):=by have:=wI32_bd x;unfold i32B;omega
theorem bv_ofInt (y:Int):(BitVec.ofInt 32 y).toNat=(y % 4294967296).toNat:=by rw[BitVec.toNat_ofInt];rfl
theorem not32 {y:Int} (h:i32B y):notI .i32 y=IntKind.wrap .i32 ((-1)-y):=by
 unfold notI bytesB
 show IntKind.wrap .i32 ((BitVec.ofInt 32 (if true=true then -1 else _) ^^^ BitVec.ofInt 32 y).toNat:Int)=_
 rw[if_pos rfl,show BitVec.ofInt 32 (-1)=BitVec.allOnes 32 from rfl,BitVec.allOnes_xor,BitVec.toNat_not,bv_ofInt]
 unfold i32B at h
 rw[wI32 (x:=(-1)-y) (by omega) (by omega)]
 unfold IntKind.wrap
 simp[IntKind.signed,IntKind.bits]
 omega
theorem wfI32 {n:Int} (h:(Lit.int .i32 n).wf=true):i32B n:=by
 unfold Lit.wf at h
 simp[IntKind.min,IntKind.max,IntKind.signed,IntKind.bits]at h
 unfold i32B;omega
end Go.Proofs.YtmedombacbpofaaDoor
namespace Go.Proofs.YtmedombacbpofaaDoor
open Go Go.Fm
set_option maxRecDepth 100000
def pn (o:GOp):Bs:=(g_spec_PrimName (IntKind.wrap .i64 o.N)).getD []
theorem pn_eq (o:GOp):g_spec_PrimName (IntKind.wrap .i64 o.N)=some (pn o):=by
 obtain ⟨s,h⟩:=name_tot (IntKind.wrap .i64 o.N)
 unfold pn
 rw[h]
 rfl
def isB (o:GOp) (s:Bs):Bool:=o.Kind==1&&pn o==s
theorem specIs (o:GOp) (s:Bs):g_spec_l15Is o s=some (isB o s):=by
 unfold g_spec_l15Is isB
 rw[pn_eq]
 cases o.Kind==1<;>rfl
theorem findL {s:List Bs} {v:Bs} (hs:s.length<=1000):∀ (k n:Nat),n<=s.length->s.length-n < k->∃ o,g_slices_Index_string_l0 s v (s.length:Int) k n=some o/\(match o with | .inl _=>(s.drop n).any (v==·)=false | .inr i=>0<=i/\(s.drop n).any (v==·)=true):=by
 intro k
 induction k with
 | zero=>intro n h0 h1;omega
 | succ k ih =>
  intro n h0 h1
  rw[g_slices_Index_string_l0]
  by_cases hn:n < s.length
  ·rw[decide_eq_true (by omega),cond_true,getI_nat,List.getElem?_eq_getElem hn,List.drop_eq_getElem_cons hn,List.any_cons,Option.bind_some]
   cases hv:v==s[n] with
   | true=>exact ⟨_,rfl,by show 0<=(n:Int)/\_;exact ⟨by omega,rfl⟩⟩
   | false =>
    rw[cond_false,Bool.false_or,wI64 (by omega) (by omega),show ((n:Int)+1)=((n+1:Nat):Int) by omega]
    exact ih (n+1) (by omega) (by omega)
  ·rw[decide_eq_false (by omega),cond_false,List.drop_eq_nil_of_le (by omega)]
   exact ⟨_,rfl,rfl⟩
theorem contains_any {s:List Bs} {v:Bs} (hs:s.length<=1000):g_slices_Contains_string s v=some (s.any (v==·)):=by
 unfold g_slices_Contains_string g_slices_Index_string
 obtain ⟨o,h1,h2⟩:=findL (v:=v) hs bigK 0 (Nat.zero_le _) (by unfold bigK;omega)
 rw[List.drop_zero]at h2
 rw[show ((0:Nat):Int)=0 from rfl]at h1
 rw[h1]
 cases o with
 | inl u=>simp only[Option.bind_some];rw[h2];rfl
 | inr v=>simp only[Option.bind_some];rw[h2.2,decide_eq_true h2.1]
theorem implIs (o:GOp) {l:List Bs} (hl:l.length<=1000):g_impl_isPrim o l=some (l.any (isB o)):=by
 unfold g_impl_isPrim
 rw[name_eq,pn_eq,Option.bind_some,contains_any hl]
 unfold isB
 cases o.Kind==1
 ·simp
 ·simp
def twoB (o:GOp):Bool:=isB o [43] || isB o [42] || isB o [97,110,100] || isB o [111,114]
def oneB (o:GOp):Bool:=isB o [45] || isB o [50,42] || isB o [50,47]
def val2 (o:GOp) (x y:Int):Int:=cond (isB o [43]) (IntKind.wrap .i32 (x+y)) (cond (isB o [42]) (IntKind.wrap .i32 (x*y)) (cond (isB o [97,110,100]) (andI .i32 x y) (xorI .i32 x y)))
def val1 (o:GOp) (y:Int):Int:=cond (isB o [45]) (IntKind.wrap .i32 ((-1)-y)) (cond (isB o [50,42]) (IntKind.wrap .i32 (y+y)) (y / 2))
theorem isB_name {o:GOp} {s:Bs} (h:isB o s=true):pn o=s:=by
 unfold isB at h
 rw[Bool.and_eq_true]at h
 exact eq_of_beq h.2
theorem isB_ne {o:GOp} {s t:Bs} (h:isB o s=true) (hst:(s==t)=false):isB o t=false:=by
 have h1:=isB_name h
 unfold isB
 rw[h1,hst,Bool.and_false]
theorem two_or {o:GOp} (h:twoB o=true):isB o [43]=true\/isB o [42]=true\/isB o [97,110,100]=true\/isB o [111,114]=true:=by
 unfold twoB at h
 simp only[Bool.or_eq_true]at h
 rcases h with ((h|h)|h)|h
 ·exact .inl h
 ·exact .inr (.inl h)
 ·exact .inr (.inr (.inl h))
 ·exact .inr (.inr (.inr h))
theorem one_or {o:GOp} (h:oneB o=true):isB o [45]=true\/isB o [50,42]=true\/isB o [50,47]=true:=by
 unfold oneB at h
 simp only[Bool.or_eq_true]at h
 rcases h with (h|h)|h
 ·exact .inl h
 ·exact .inr (.inl h)
 ·exact .inr (.inr h)
theorem spec_two (o:GOp) (x y:Int):g_spec_l15Two o x y=some (if twoB o then (val2 o x y,true) else (0,false)):=by
 have e:∀ x':Bool->Option (Int×Bool),(((g_spec_l15Is o [43]).bind λ y_7=>cond (!y_7) ((g_spec_l15Is o [42]).bind λ y_8=>cond (!y_8) ((g_spec_l15Is o [97,110,100]).bind λ y_9=>cond (!y_9) ((g_spec_l15Is o [111,114]).bind λ y_10=>some (!y_10)) (some false)) (some false)) (some false):Option (Bool)).bind x')=x' (!twoB o):=λ x'=>by
  simp only[specIs,Option.bind_some]
  unfold twoB
  cases isB o [43]<;>cases isB o [42]<;>cases isB o [97,110,100]<;>cases isB o [111,114]<;>rfl
 unfold g_spec_l15Two
 rw[e]
 cases h:twoB o with
 | false=>rfl
 | true =>
  rw[Bool.not_true,cond_false,pn_eq,Option.bind_some,if_pos rfl]
  unfold val2
  rcases two_or h with h|h|h|h
  ·rw[isB_name h,h];rfl
  ·rw[isB_name h,h,isB_ne h (t:=[43]) rfl];rfl
  ·rw[isB_name h,h,isB_ne h (t:=[43]) rfl,isB_ne h (t:=[42]) rfl];rfl
  ·rw[isB_name h,isB_ne h (t:=[43]) rfl,isB_ne h (t:=[42]) rfl,isB_ne h (t:=[97,110,100]) rfl];rfl
theorem spec_one (o:GOp) (y:Int):g_spec_l15One o y=some (if oneB o then (val1 o y,true) else (0,false)):=by
 have e:∀ x':Bool->Option (Int×Bool),(((g_spec_l15Is o [45]).bind λ y_6=>cond (!y_6) ((g_spec_l15Is o [50,42]).bind λ y_7=>cond (!y_7) ((g_spec_l15Is o [50,47]).bind λ y_8=>some (!y_8)) (some false)) (some false):Option (Bool)).bind x')=x' (!oneB o):=λ x'=>by
  simp only[specIs,Option.bind_some]
  unfold oneB
  cases isB o [45]<;>cases isB o [50,42]<;>cases isB o [50,47]<;>rfl
 unfold g_spec_l15One
 rw[e]
 cases h:oneB o with
 | false=>rfl
 | true =>
  rw[Bool.not_true,cond_false,pn_eq,Option.bind_some,if_pos rfl]
  unfold val1
  rcases one_or h with h|h|h
  ·rw[isB_name h,h];rfl
  ·rw[isB_name h,h,isB_ne h (t:=[45]) rfl];rfl
  ·rw[isB_name h,isB_ne h (t:=[45]) rfl,isB_ne h (t:=[50,42]) rfl];rfl
theorem impl_two {o:GOp} (h:twoB o=true) (x y:Int):g_impl_foldedc2 (pn o) x y=some [⟨0,val2 o x y⟩]:=by
 unfold val2 g_impl_foldedc2
 rcases two_or h with h|h|h|h
 ·rw[isB_name h,h];rfl
 ·rw[isB_name h,h,isB_ne h (t:=[43]) rfl];rfl
 ·rw[isB_name h,h,isB_ne h (t:=[43]) rfl,isB_ne h (t:=[42]) rfl];rfl
 ·rw[isB_name h,isB_ne h (t:=[43]) rfl,isB_ne h (t:=[42]) rfl,isB_ne h (t:=[97,110,100]) rfl];rfl
theorem impl_one {o:GOp} (h:oneB o=true) {y:Int} (hy:i32B y):g_impl_foldedc2 (pn o) 0 y=some [⟨0,val1 o y⟩]:=by
 unfold val1
 rcases one_or h with h|h|h
 ·rw[isB_name h,h,cond_true,<-not32 hy];rfl
 ·rw[isB_name h,h,isB_ne h (t:=[45]) rfl,cond_false,cond_true,show y+y=2*y by omega];rfl
 ·rw[isB_name h,isB_ne h (t:=[45]) rfl,isB_ne h (t:=[50,42]) rfl];rfl
def pairB (a b:GOp):Bool:=(a.Kind==0&&isB b [100,114,111,112]) || (isB a [100,117,112]&&isB b [100,114,111,112]) || (isB a [115,119,97,112]&&isB b [115,119,97,112]) || (isB a [45]&&isB b [45])
def at1 (a:GOp):List GOp×Int:=if isB a [110,111,112] then ([],1) else ([],0)
def at2 (a b:GOp):List GOp×Int:=if a.Kind==0&&oneB b then ([⟨0,val1 b a.N⟩],2) else if pairB a b then ([],2) else at1 a
def at3 (a b c:GOp):List GOp×Int:=if a.Kind==0&&b.Kind==0&&twoB c then ([⟨0,val2 c a.N b.N⟩],3) else at2 a b
def foldAt:List GOp->List GOp×Int
 | []=>([],0)
 | [a]=>at1 a
 | [a,b]=>at2 a b
 | a::b::c::_=>at3 a b c
theorem spec_pair (a b:GOp):((cond (a.Kind==0) ((g_spec_l15Is b [100,114,111,112]).bind λ y_20=>cond y_20 (some true) ((g_spec_l15Is a [100,117,112]).bind λ y_21=>cond y_21 ((g_spec_l15Is b [100,114,111,112]).bind λ y_22=>cond y_22 (some true) ((g_spec_l15Is a [115,119,97,112]).bind λ y_23=>cond y_23 ((g_spec_l15Is b [115,119,97,112]).bind λ y_24=>cond y_24 (some true) ((g_spec_l15Is a [45]).bind λ y_25=>cond y_25 ((g_spec_l15Is b [45]).bind λ y_26=>some y_26) (some false))) ((g_spec_l15Is a [45]).bind λ y_27=>cond y_27 ((g_spec_l15Is b [45]).bind λ y_28=>some y_28) (some false)))) ((g_spec_l15Is a [115,119,97,112]).bind λ y_29=>cond y_29 ((g_spec_l15Is b [115,119,97,112]).bind λ y_30=>cond y_30 (some true) ((g_spec_l15Is a [45]).bind λ y_31=>cond y_31 ((g_spec_l15Is b [45]).bind λ y_32=>some y_32) (some false))) ((g_spec_l15Is a [45]).bind λ y_33=>cond y_33 ((g_spec_l15Is b [45]).bind λ y_34=>some y_34) (some false))))) ((g_spec_l15Is a [100,117,112]).bind λ y_35=>cond y_35 ((g_spec_l15Is b [100,114,111,112]).bind λ y_36=>cond y_36 (some true) ((g_spec_l15Is a [115,119,97,112]).bind λ y_37=>cond y_37 ((g_spec_l15Is b [115,119,97,112]).bind λ y_38=>cond y_38 (some true) ((g_spec_l15Is a [45]).bind λ y_39=>cond y_39 ((g_spec_l15Is b [45]).bind λ y_40=>some y_40) (some false))) ((g_spec_l15Is a [45]).bind λ y_41=>cond y_41 ((g_spec_l15Is b [45]).bind λ y_42=>some y_42) (some false)))) ((g_spec_l15Is a [115,119,97,112]).bind λ y_43=>cond y_43 ((g_spec_l15Is b [115,119,97,112]).bind λ y_44=>cond y_44 (some true) ((g_spec_l15Is a [45]).bind λ y_45=>cond y_45 ((g_spec_l15Is b [45]).bind λ y_46=>some y_46) (some false))) ((g_spec_l15Is a [45]).bind λ y_47=>cond y_47 ((g_spec_l15Is b [45]).bind λ y_48=>some y_48) (some false)))):Option Bool))=some (pairB a b):=by
 simp only[specIs,Option.bind_some]
 unfold pairB
 cases a.Kind==0<;>cases isB b [100,114,111,112]<;>cases isB a [100,117,112]<;>cases isB a [115,119,97,112]<;>cases isB b [115,119,97,112]<;>cases isB a [45]<;>cases isB b [45]<;>rfl
theorem spec_tail (a b:GOp):((g_spec_l15One b a.N).bind λ y_17=>(cond y_17.2 (some (a.Kind==0)) (some false):Option (Bool)).bind λ v_18=>cond v_18 (some (.inr ([(⟨0,y_17.1⟩:GOp)],2))) (cond (pairB a b) (some (.inr ([],2))) (some (.inl ()))):Option (Unit ⊕ ((List GOp)×Int)))=some (if a.Kind==0&&oneB b then .inr ([⟨0,val1 b a.N⟩],2) else if pairB a b then .inr ([],2) else .inl ()):=by
 rw[spec_one]
 simp only[Option.bind_some]
 cases h:oneB b<;>cases a.Kind==0<;>cases pairB a b<;>rfl
theorem spec_at1 (a:GOp):((g_spec_l15Is a [110,111,112]).bind λ y_50=>cond y_50 (some (([]:List GOp),(1:Int))) (some ([],0)))=some (at1 a):=by
 rw[specIs]
 unfold at1
 cases isB a [110,111,112]<;>rfl
theorem spec_at {l:List GOp} (h0:0 < l.length):g_spec_l15At l=some (foldAt l):=by
 unfold g_spec_l15At
 match l,h0 with
 | [a],_ =>
  have e0:getI [a] 0=some a:=rfl
  simp only[List.length_cons,List.length_nil,e0,Option.bind_some]
  rw[decide_eq_false (by omega),decide_eq_false (by omega),cond_false,cond_false]
  simp only[Option.bind_some,cond_false]
  exact spec_at1 a
 | [a,b],_ =>
  have e0:getI [a,b] 0=some a:=rfl
  have e1:getI [a,b] 1=some b:=rfl
  simp only[List.length_cons,List.length_nil,e0,e1,Option.bind_some]
  rw[decide_eq_false (by omega),decide_eq_true (by omega),cond_false,cond_true]
  simp only[Option.bind_some,cond_false,spec_pair]
  rw[spec_tail]
  show _=some (at2 a b)
  unfold at2
  cases a.Kind==0&&oneB b<;>cases pairB a b<;>first|rfl|exact spec_at1 a
 | a::b::c::r,_ =>
  have e0:getI (a::b::c::r) 0=some a:=rfl
  have e1:getI (a::b::c::r) 1=some b:=rfl
  have e2:getI (a::b::c::r) 2=some c:=rfl
  simp only[List.length_cons,e0,e1,e2,Option.bind_some]
  rw[decide_eq_true (by omega),decide_eq_true (by omega),cond_true,cond_true,spec_two]
  simp only[Option.bind_some,spec_pair]
  rw[spec_tail]
  show _=some (at3 a b c)
  unfold at3 at2
  cases a.Kind==0
  ·simp only[cond_false,Option.bind_some,Bool.false_and]
   cases pairB a b<;>first|rfl|exact spec_at1 a
  ·cases b.Kind==0
   ·simp only[cond_false,cond_true,Option.bind_some,Bool.false_and,Bool.true_and]
    cases oneB b<;>cases pairB a b<;>first|rfl|exact spec_at1 a
   ·cases twoB c
    ·simp only[cond_false,cond_true,Option.bind_some,Bool.false_and,Bool.true_and]
     cases oneB b<;>cases pairB a b<;>first|rfl|exact spec_at1 a
    ·rfl
end Go.Proofs.YtmedombacbpofaaDoor
namespace Go.Proofs.YtmedombacbpofaaDoor
open Go Go.Fm
set_option maxRecDepth 100000
theorem is4 (o:GOp):g_impl_isPrim o [[43],[42],[97,110,100],[111,114]]=some (twoB o):=by
 rw[implIs o (by decide)]
 unfold twoB
 simp only[List.any_cons,List.any_nil,Bool.or_false,Bool.or_assoc]
theorem is3 (o:GOp):g_impl_isPrim o [[45],[50,42],[50,47]]=some (oneB o):=by
 rw[implIs o (by decide)]
 unfold oneB
 simp only[List.any_cons,List.any_nil,Bool.or_false,Bool.or_assoc]
theorem is1 (o:GOp) (s:Bs):g_impl_isPrim o [s]=some (isB o s):=by
 rw[implIs o (by simp)]
 simp only[List.any_cons,List.any_nil,Bool.or_false]
theorem isB8 (s:Bs):isB ⟨8,0⟩ s=false:=rfl
theorem two8:twoB ⟨8,0⟩=false:=rfl
theorem one8:oneB ⟨8,0⟩=false:=rfl
theorem pair8 (a:GOp):pairB a ⟨8,0⟩=false:=by
 unfold pairB
 simp only[isB8,Bool.and_false,Bool.or_false]
theorem at28 (a:GOp):at2 a ⟨8,0⟩=at1 a:=by
 unfold at2
 simp[one8,pair8]
theorem at38 (a b:GOp):at3 a b ⟨8,0⟩=at2 a b:=by
 unfold at3
 simp[two8]
theorem impl_at {l:List GOp} (h0:0 < l.length) (hi:∀ o ∈ l,i32B o.N):g_impl_folded l=some (foldAt l):=by
 obtain ⟨a,b,c,e0,e1,e2,hf,ha⟩:∃ a b c,g_impl_foldedc1 0 l=some a/\g_impl_foldedc1 1 l=some b/\g_impl_foldedc1 2 l=some c/\foldAt l=at3 a b c/\i32B a.N:=by
  unfold g_impl_foldedc1
  match l,h0,hi with
  | [a],_,hi =>
   refine ⟨a,⟨8,0⟩,⟨8,0⟩,rfl,rfl,rfl,?_,hi a (by simp)⟩
   rw[at38,at28];rfl
  | [a,b],_,hi =>
   refine ⟨a,b,⟨8,0⟩,rfl,rfl,rfl,?_,hi a (by simp)⟩
   rw[at38];rfl
  | a::b::c::r,_,hi =>
   refine ⟨a,b,c,?_,?_,?_,rfl,hi a (by simp)⟩
   ·rw[decide_eq_true (by simp only[List.length_cons];omega)];rfl
   ·rw[decide_eq_true (by simp only[List.length_cons];omega)];rfl
   ·rw[decide_eq_true (by simp only[List.length_cons];omega)];rfl
 unfold g_impl_folded
 rw[e0,e1,e2,hf]
 simp only[Option.bind_some,name_eq,pn_eq,is4,is3,is1]
 unfold at3 at2 at1 pairB
 have hone:oneB b=true->g_impl_foldedc2 (pn b) 0 a.N=some [⟨0,val1 b a.N⟩]:=λ h=>impl_one h ha
 have htwo:twoB c=true->g_impl_foldedc2 (pn c) a.N b.N=some [⟨0,val2 c a.N b.N⟩]:=λ h=>impl_two h _ _
 cases a.Kind==0
 ·simp only[cond_false,Option.bind_some,Bool.false_and,Bool.false_or]
  cases isB a [100,117,112]<;>cases isB b [100,114,111,112]<;>cases isB a [115,119,97,112]<;>cases isB b [115,119,97,112]<;>cases isB a [45]<;>cases isB b [45]<;>cases isB a [110,111,112]<;>rfl
 ·have rest:((cond (oneB b) ((g_impl_foldedc2 (pn b) 0 a.N).bind λ y_16=>some (.inr (y_16,2))) ((cond (isB b [100,114,111,112]) (some (isB b [100,114,111,112])) (((cond (isB a [100,117,112]) (some (isB b [100,114,111,112])) (some false):Option Bool)).bind λ v_20=>cond v_20 (some v_20) ((cond (isB a [115,119,97,112]) (some (isB b [115,119,97,112])) (some false):Option Bool).bind λ v_23=>cond v_23 (some v_23) (cond (isB a [45]) (some (isB b [45])) (some false)))):Option Bool).bind λ v_17=>cond v_17 (some (.inr ([],2))) (cond (isB a [110,111,112]) (some (.inr ([],1))) (some (.inl ())))):Option (Unit ⊕ ((List GOp)×Int))).bind λ o=>match o with | .inl ()=>some ([],0) | .inr (v_7,v_8)=>some (v_7,v_8))=some (if oneB b then ([⟨0,val1 b a.N⟩],2) else if (isB b [100,114,111,112] || (isB a [100,117,112]&&isB b [100,114,111,112]) || (isB a [115,119,97,112]&&isB b [115,119,97,112]) || (isB a [45]&&isB b [45])) then ([],2) else if isB a [110,111,112] then ([],1) else ([],0)):=by
   cases ho:oneB b with
   | true=>rw[cond_true,hone ho];rfl
   | false =>
    cases isB a [100,117,112]<;>cases isB b [100,114,111,112]<;>cases isB a [115,119,97,112]<;>cases isB b [115,119,97,112]<;>cases isB a [45]<;>cases isB b [45]<;>cases isB a [110,111,112]<;>rfl
  cases b.Kind==0
  ·simp only[cond_false,cond_true,Option.bind_some,Bool.false_and,Bool.true_and,Bool.and_false]
   exact rest
  ·cases ht:twoB c with
   | true =>
    simp only[cond_true,Option.bind_some,Bool.true_and,htwo ht]
    rfl
   | false =>
    simp only[cond_false,cond_true,Option.bind_some,Bool.false_and,Bool.true_and,Bool.and_false]
    exact rest
theorem at1_ok (a:GOp):(at1 a).1=[]/\((at1 a).2=0\/(at1 a).2=1):=by
 unfold at1
 split
 ·exact ⟨rfl, .inr rfl⟩
 ·exact ⟨rfl, .inl rfl⟩
theorem at2_ok {a b:GOp} (ha:i32B a.N):((at2 a b).2=0\/((at2 a b).1.length:Int) < (at2 a b).2)/\0<=(at2 a b).2/\(at2 a b).2<=2/\∀ o ∈ (at2 a b).1,i32B o.N:=by
 unfold at2
 split
 ·refine ⟨.inr (by show (1:Int) < 2;decide),(by show (0:Int)<=2;decide),(by show (2:Int)<=2;decide),λ o ho => ?_⟩
  rw[List.mem_singleton]at ho
  subst ho
  unfold val1
  show i32B (cond _ _ _)
  cases isB b [45]
  ·cases isB b [50,42]
   ·show i32B (a.N / 2)
    unfold i32B at ha ⊢;omega
   ·exact i32w _
  ·exact i32w _
 ·split
  ·exact ⟨.inr (by decide),by decide,by decide,(λ o ho=>nomatch ho)⟩
  ·obtain ⟨h1,h2⟩:=at1_ok a
   rw[h1]
   exact ⟨by simp;omega,by omega,by omega,(λ o ho=>nomatch ho)⟩
theorem foldAt_ok {l:List GOp} (h0:0 < l.length) (hi:∀ o ∈ l,i32B o.N):((foldAt l).2=0\/((foldAt l).1.length:Int) < (foldAt l).2)/\0<=(foldAt l).2/\(foldAt l).2<=l.length/\∀ o ∈ (foldAt l).1,i32B o.N:=by
 match l,h0,hi with
 | [a],_,hi =>
  show ((at1 a).2=0\/((at1 a).1.length:Int) < (at1 a).2)/\0<=(at1 a).2/\(at1 a).2<=1/\_
  obtain ⟨h1,h2⟩:=at1_ok a
  refine ⟨?_,by omega,by omega,λ o ho => ?_⟩
  ·rw[h1];simp;omega
  ·change o ∈ (at1 a).1 at ho
   rw[h1]at ho;cases ho
 | [a,b],_,hi=>exact at2_ok (hi a (by simp))
 | a::b::c::r,_,hi =>
  obtain ⟨h1,h2,h3,h4⟩:=at2_ok (b:=b) (hi a (by simp))
  show ((at3 a b c).2=0\/((at3 a b c).1.length:Int) < (at3 a b c).2)/\0<=(at3 a b c).2/\(at3 a b c).2<=((a::b::c::r).length:Int)/\∀ o ∈ (at3 a b c).1,i32B o.N
  simp only[List.length_cons]
  unfold at3
  split
  ·refine ⟨.inr (by show (1:Int) < 3;decide),by show (0:Int)<=3;decide,by show (3:Int)<=_;omega,λ o ho => ?_⟩
   rw[List.mem_singleton]at ho
   subst ho
   show i32B (val2 c a.N b.N)
   unfold val2
   cases isB c [43]
   ·cases isB c [42]
    ·cases isB c [97,110,100]
     ·exact i32w _
     ·exact i32w _
    ·exact i32w _
   ·exact i32w _
  ·exact ⟨h1,h2,by omega,h4⟩
inductive FoldTo:List GOp->List GOp->Prop
 | refl (l:List GOp):FoldTo l l
 | step {p q w:List GOp} (h0:0 < q.length) (hn:(foldAt q).2≠0) (h:FoldTo (p++(foldAt q).1++q.drop (foldAt q).2.toNat) w):FoldTo (p++q) w
def Folded (w:List GOp):Prop:=∀ j,j < w.length->(foldAt (w.drop j)).2=0
theorem fold_loop:∀ (k:Nat) (out:List GOp) (i:Nat),i<=out.length->out.length<=60->(∀ o ∈ out,i32B o.N)->(∀ j,j < i->(foldAt (out.drop j)).2=0)->61*out.length+(out.length-i) < k →
  ∃ w,w.length<=out.length/\(∀ o ∈ w,i32B o.N)/\FoldTo out w/\Folded w/\g_impl_Fold_l0 k out (i:Int)=some w/\g_spec_Fold_l0 k out (i:Int)=some w:=by
 intro k
 induction k with
 | zero=>intro out i h0 h1 h2 h3 h4;omega
 | succ k ih =>
  intro out i h0 h1 h2 h3 h4
  rw[g_impl_Fold_l0,g_spec_Fold_l0]
  by_cases hn:i < out.length
  case neg =>
   rw[decide_eq_false (by omega),cond_false,cond_false]
   exact ⟨out,Nat.le_refl _,h2, .refl _,λ j hj=>h3 j (by omega),rfl,rfl⟩
  have hd:(out.drop i).length=out.length-i:=List.length_drop
  have h32:∀ o ∈ out.drop i,i32B o.N:=λ o ho=>h2 o (List.mem_of_mem_drop ho)
  obtain ⟨f1,f2,f3,f4⟩:=foldAt_ok (l:=out.drop i) (by omega) h32
  have es:subL out (i:Int) ((out.length:Nat):Int)=some (out.drop i):=by rw[subL_drop (by omega) (by omega)];rfl
  rw[decide_eq_true (by omega),cond_true,cond_true,es]
  simp only[Option.bind_some]
  rw[impl_at (by omega) h32,spec_at (by omega)]
  simp only[Option.bind_some]
  by_cases hz:(foldAt (out.drop i)).2=0
  ·have hb:((foldAt (out.drop i)).2==0)=true:=by rw[hz];rfl
   rw[hb,cond_true,decide_eq_false (by omega),cond_false]
   simp only[Option.bind_some]
   rw[wI64 (by omega) (by omega),show ((i:Int)+1)=((i+1:Nat):Int) by omega]
   refine ih out (i+1) (by omega) h1 h2 (λ j hj => ?_) (by omega)
   by_cases hji:j=i
   ·rw[hji];exact hz
   ·exact h3 j (by omega)
  ·have hb:((foldAt (out.drop i)).2==0)=false:=beq_eq_false_iff_ne.2 hz
   have f5:=f1.resolve_left hz
   have hc:((foldAt (out.drop i)).2.toNat:Int)=(foldAt (out.drop i)).2:=by omega
   have e1:subL out 0 (i:Int)=some (out.take i):=by rw[subL_take (by omega) (by omega)];rfl
   have e2:subL out ((i:Int)+(foldAt (out.drop i)).2) ((out.length:Nat):Int)=some (out.drop (i+(foldAt (out.drop i)).2.toNat)):=by
    rw[subL_drop (by omega) (by omega)];congr 2;omega
   have hl1:(out.take i).length=i:=by rw[List.length_take];omega
   have hl2:(out.drop (i+(foldAt (out.drop i)).2.toNat)).length=out.length-(i+(foldAt (out.drop i)).2.toNat):=List.length_drop
   have hout:(out.take i++(foldAt (out.drop i)).1++out.drop (i+(foldAt (out.drop i)).2.toNat)).length < out.length:=by
    rw[List.length_append,List.length_append,hl1,hl2];omega
   obtain ⟨w,w1,w2,w3,w4,w5,w6⟩:=ih (out.take i++(foldAt (out.drop i)).1++out.drop (i+(foldAt (out.drop i)).2.toNat)) 0 (Nat.zero_le _) (by omega) (λ o ho=>by
    rcases List.mem_append.1 ho with ho|ho
    ·rcases List.mem_append.1 ho with ho|ho
     ·exact h2 o (List.mem_of_mem_take ho)
     ·exact f4 o ho
    ·exact h2 o (List.mem_of_mem_drop ho)) (λ j hj=>by omega) (by omega)
   refine ⟨w,by omega,w2,?_,w4,?_,?_⟩
   ·have:=FoldTo.step (p:=out.take i) (q:=out.drop i) (w:=w) (by omega) hz (by rw[List.drop_drop];exact w3)
    rwa [List.take_append_drop]at this
   ·rw[hb,cond_false,wI64 (by omega) (by omega)]
    have:g_slices_Replace_Op out (i:Int) ((i:Int)+(foldAt (out.drop i)).2) (foldAt (out.drop i)).1=some (out.take i++(foldAt (out.drop i)).1++out.drop (i+(foldAt (out.drop i)).2.toNat)):=by
     unfold g_slices_Replace_Op gRep
     rw[decide_eq_true (by omega),decide_eq_true (by omega),decide_eq_true (by omega),decide_eq_true (by omega),show ((i:Int)+(foldAt (out.drop i)).2).toNat=i+(foldAt (out.drop i)).2.toNat by omega]
     rfl
    rw[this]
    exact w5
   ·rw[decide_eq_true (by omega),cond_true,e1]
    simp only[Option.bind_some]
    rw[app_eq (by simp;omega)]
    simp only[Option.bind_some,List.nil_append]
    rw[app_eq (by rw[hl1];omega)]
    simp only[Option.bind_some]
    rw[wI64 (x:=(i:Int)+(foldAt (out.drop i)).2) (by omega) (by omega),e2]
    simp only[Option.bind_some]
    rw[app_eq (by rw[List.length_append,hl1,hl2];omega)]
    simp only[Option.bind_some]
    exact w6
theorem folds {body:List GOp} (hb:body.length<=1048576) (h32:∀ o ∈ body,i32B o.N):∃ w,w.length<=60/\(∀ o ∈ w,i32B o.N)/\(shapeB body=true->FoldTo body w/\Folded w/\w.length<=body.length)/\(shapeB body=false->w=[])/\g_impl_Fold body=some w/\g_spec_Fold body=some w:=by
 unfold g_impl_Fold g_spec_Fold
 rw[implShape hb,specShape hb]
 simp only[Option.bind_some]
 cases hs:shapeB body with
 | false=>exact ⟨[],by simp,(λ o ho=>nomatch ho),(λ h=>nomatch h),(λ _=>rfl),rfl,rfl⟩
 | true =>
  have h60:body.length<=60:=by unfold shapeB at hs;simp only[Bool.and_eq_true,decide_eq_true_eq]at hs;exact hs.1.1
  obtain ⟨w,w1,w2,w3,w4,w5,w6⟩:=fold_loop bigK body 0 (Nat.zero_le _) h60 h32 (λ j hj=>by omega) (by unfold bigK;omega)
  rw[show ((0:Nat):Int)=0 from rfl]at w5 w6
  refine ⟨w,by omega,w2,(λ _=>⟨w3,w4,w1⟩),(λ h=>nomatch h),?_,?_⟩
  ·rw[Bool.not_true,cond_false]
   unfold g_slices_Clone_Op
   rw[app_eq (by simp;omega),Option.bind_some,List.nil_append,w5];rfl
  ·rw[Bool.not_true,cond_false,app_eq (by simp;omega),Option.bind_some,List.nil_append,w6];rfl
theorem law_fold {a:List GOp} (hl:a.length<=LN) (h32:∀ o ∈ a,i32B o.N):g_laws_FnExactFold a=some true:=by
 unfold g_laws_FnExactFold
 refine fitsOpS hl _ _ (λ y hy ha => ?_) λ y hy=>by rw[decide_eq_true hy];rfl
 obtain ⟨w,h1,_,_,_,h2,h3⟩:=folds ha h32
 have m1:=markOpS (a:=a) ha (k:=1) (by omega)
 have m2:=markOpS (a:=w) (by omega) (k:=1) (by omega)
 have m3:=heldOpS (n:=w.length) (k:=1) (by omega) (by omega)
 rw[show ((1:Nat):Int)=1 from rfl]at m1 m2 m3
 rw[decide_eq_false (by omega),cond_false,toOpS ha,Option.bind_some,h3,Option.bind_some]
 simp only[Option.bind_some,h2,eqOpS (a:=w) (by omega),eqOpS ha,m1,m2,m3,Bool.not_true,cond_false,bne_self_eq_false]
 rw[decide_eq_false (by omega),decide_eq_false (by omega)]
 rfl
end Go.Proofs.YtmedombacbpofaaDoor

namespace Go.Proofs.YtmedombacbpofaaDoor
open Go Go.Fm
set_option maxRecDepth 100000
theorem typed_GOp:Typed [.int .i64, .int .i32] GOp.cs (λ x:GOp=>(λ n:Int=>(Lit.int .i64 n).wf=true) x.Kind/\(λ n:Int=>(Lit.int .i32 n).wf=true) x.N):=λ row hl h=>by
 match row,hl with
 | [c0,c1],_ =>
  obtain ⟨x0,e0,g0⟩:=(typed_int .i64) [c0] rfl (Go.Fm.one_cell (h 0 _ c0 rfl rfl))
  obtain ⟨x1,e1,g1⟩:=(typed_int .i32) [c1] rfl (Go.Fm.one_cell (h 1 _ c1 rfl rfl))
  obtain rfl:=(List.cons.inj e0).1
  obtain rfl:=(List.cons.inj e1).1
  exact ⟨(⟨x0,x1⟩:GOp),rfl,⟨g0,g1⟩⟩
theorem ans_FnExactFold (x0:List GOp) (g0:(λ xs:List GOp=>xs.length<=maxLen/\∀ x ∈ xs,(λ x:GOp=>(λ n:Int=>(Lit.int .i64 n).wf=true) x.Kind/\(λ n:Int=>(Lit.int .i32 n).wf=true) x.N) x) x0) :
  Ans Tryd.prog 3 [.one (.imm 2 x0.length (x0.flatMap GOp.cs))] [] λ v _=>v=Go.Fm.one (.bool true):=λ hm=>by
 obtain ⟨r,h1,a,b,c,_⟩:=ce_laws_FnExactFold (x0) true (good_pure rfl rfl) (law_fold g0.1 λ o ho=>wfI32 (g0.2 o ho).2) hm
 exact ⟨r,h1,a,b⟩
end Go.Proofs.YtmedombacbpofaaDoor
