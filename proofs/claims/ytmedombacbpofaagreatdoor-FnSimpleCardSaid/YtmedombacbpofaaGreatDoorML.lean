import Derived.Test.YtmedombacbpofaaGreatDoorMK
import Derived.KernelRfl
set_option linter.all false
namespace Go.Proofs.YtmedombacbpofaaGreatDoor
open Go Go.Fm
set_option maxRecDepth 1000000
def g_spec_l15Is (o_1:GOp) (name_2:Bs):Option Bool:=cond (o_1.Kind==1) ((g_spec_PrimName (IntKind.wrap .i64 o_1.N)).bind λ y_4=>some (y_4==name_2)) (some false)
def g_spec_l08Pure (name_1:Bs) (x_2:Int) (y_3:Int):Option ((List Int)×Bool):=(cond (name_1==[100,117,112]) (some (.inr ([y_3,y_3],true))) ((cond (name_1==[100,114,111,112]) (some (name_1==[100,114,111,112])) (some (name_1==[110,111,112])):Option (Bool)).bind λ v_8=>cond v_8 (some (.inr (([]:List Int),true))) (cond (name_1==[111,118,101,114]) (some (.inr ([x_2,y_3,x_2],true))) (cond (name_1==[110,105,112]) (some (.inr ([y_3],true))) (cond (name_1==[115,119,97,112]) (some (.inr ([y_3,x_2],true))) (cond (name_1==[43]) (some (.inr ([IntKind.wrap .i32 (x_2+y_3)],true))) (cond (name_1==[45]) (some (.inr ([IntKind.wrap .i32 ((-1)-y_3)],true))) (cond (name_1==[42]) (some (.inr ([IntKind.wrap .i32 (x_2*y_3)],true))) (cond (name_1==[97,110,100]) (some (.inr ([andI .i32 x_2 y_3],true))) (cond (name_1==[111,114]) (some (.inr ([xorI .i32 x_2 y_3],true))) (cond (name_1==[50,42]) (some (.inr ([IntKind.wrap .i32 (y_3+y_3)],true))) (cond (name_1==[50,47]) (some (.inr ([y_3 / 2],true))) (some (.inl ()))))))))))))):Option (Unit ⊕ ((List Int)×Bool))).bind λ o=>match o with | .inl ()=>some ([],false) | .inr (v_6,v_7)=>some (v_6,v_7)
def g_spec_l15Two (o_1:GOp) (x_2:Int) (y_3:Int):Option (Int×Bool):=((g_spec_l15Is o_1 [43]).bind λ y_7=>cond (!y_7) ((g_spec_l15Is o_1 [42]).bind λ y_8=>cond (!y_8) ((g_spec_l15Is o_1 [97,110,100]).bind λ y_9=>cond (!y_9) ((g_spec_l15Is o_1 [111,114]).bind λ y_10=>some (!y_10)) (some false)) (some false)) (some false):Option (Bool)).bind λ v_6=>cond v_6 (some (0,false)) ((g_spec_PrimName (IntKind.wrap .i64 o_1.N)).bind λ y_11=>(g_spec_l08Pure y_11 x_2 y_3).bind λ y_12=>(getI y_12.1 0).bind λ v_13=>some (v_13,true))
def g_spec_l15One (o_1:GOp) (x_2:Int):Option (Int×Bool):=((g_spec_l15Is o_1 [45]).bind λ y_6=>cond (!y_6) ((g_spec_l15Is o_1 [50,42]).bind λ y_7=>cond (!y_7) ((g_spec_l15Is o_1 [50,47]).bind λ y_8=>some (!y_8)) (some false)) (some false):Option (Bool)).bind λ v_5=>cond v_5 (some (0,false)) ((g_spec_PrimName (IntKind.wrap .i64 o_1.N)).bind λ y_9=>(g_spec_l08Pure y_9 0 x_2).bind λ y_10=>(getI y_10.1 0).bind λ v_11=>some (v_11,true))
def g_spec_l15At (l_1:List GOp):Option ((List GOp)×Int):=((cond (decide ((l_1.length:Int) > 2)) ((getI l_1 0).bind λ v_7=>cond (v_7.Kind==0) ((getI l_1 1).bind λ v_8=>some (v_8.Kind==0)) (some false)) (some false):Option (Bool)).bind λ v_6=>cond v_6 ((getI l_1 2).bind λ v_9=>(getI l_1 0).bind λ v_10=>(getI l_1 1).bind λ v_11=>(g_spec_l15Two v_9 v_10.N v_11.N).bind λ y_12=>cond y_12.2 (some (.inr ([(⟨0,y_12.1⟩:GOp)],3))) (some (.inl ()))) (some (.inl ())):Option (Unit ⊕ ((List GOp)×Int))).bind λ o=>match o with | .inl ()=>((cond (decide ((l_1.length:Int) > 1)) ((getI l_1 0).bind λ v_15=>(getI l_1 1).bind λ v_16=>(g_spec_l15One v_16 v_15.N).bind λ y_17=>(cond y_17.2 (some (v_15.Kind==0)) (some false):Option (Bool)).bind λ v_18=>cond v_18 (some (.inr ([(⟨0,y_17.1⟩:GOp)],2))) ((cond (v_15.Kind==0) ((g_spec_l15Is v_16 [100,114,111,112]).bind λ y_20=>cond y_20 (some true) ((g_spec_l15Is v_15 [100,117,112]).bind λ y_21=>cond y_21 ((g_spec_l15Is v_16 [100,114,111,112]).bind λ y_22=>cond y_22 (some true) ((g_spec_l15Is v_15 [115,119,97,112]).bind λ y_23=>cond y_23 ((g_spec_l15Is v_16 [115,119,97,112]).bind λ y_24=>cond y_24 (some true) ((g_spec_l15Is v_15 [45]).bind λ y_25=>cond y_25 ((g_spec_l15Is v_16 [45]).bind λ y_26=>some y_26) (some false))) ((g_spec_l15Is v_15 [45]).bind λ y_27=>cond y_27 ((g_spec_l15Is v_16 [45]).bind λ y_28=>some y_28) (some false)))) ((g_spec_l15Is v_15 [115,119,97,112]).bind λ y_29=>cond y_29 ((g_spec_l15Is v_16 [115,119,97,112]).bind λ y_30=>cond y_30 (some true) ((g_spec_l15Is v_15 [45]).bind λ y_31=>cond y_31 ((g_spec_l15Is v_16 [45]).bind λ y_32=>some y_32) (some false))) ((g_spec_l15Is v_15 [45]).bind λ y_33=>cond y_33 ((g_spec_l15Is v_16 [45]).bind λ y_34=>some y_34) (some false))))) ((g_spec_l15Is v_15 [100,117,112]).bind λ y_35=>cond y_35 ((g_spec_l15Is v_16 [100,114,111,112]).bind λ y_36=>cond y_36 (some true) ((g_spec_l15Is v_15 [115,119,97,112]).bind λ y_37=>cond y_37 ((g_spec_l15Is v_16 [115,119,97,112]).bind λ y_38=>cond y_38 (some true) ((g_spec_l15Is v_15 [45]).bind λ y_39=>cond y_39 ((g_spec_l15Is v_16 [45]).bind λ y_40=>some y_40) (some false))) ((g_spec_l15Is v_15 [45]).bind λ y_41=>cond y_41 ((g_spec_l15Is v_16 [45]).bind λ y_42=>some y_42) (some false)))) ((g_spec_l15Is v_15 [115,119,97,112]).bind λ y_43=>cond y_43 ((g_spec_l15Is v_16 [115,119,97,112]).bind λ y_44=>cond y_44 (some true) ((g_spec_l15Is v_15 [45]).bind λ y_45=>cond y_45 ((g_spec_l15Is v_16 [45]).bind λ y_46=>some y_46) (some false))) ((g_spec_l15Is v_15 [45]).bind λ y_47=>cond y_47 ((g_spec_l15Is v_16 [45]).bind λ y_48=>some y_48) (some false)))):Option (Bool)).bind λ v_19=>cond v_19 (some (.inr ([],2))) (some (.inl ())))) (some (.inl ())):Option (Unit ⊕ ((List GOp)×Int))).bind λ o=>match o with | .inl ()=>(getI l_1 0).bind λ v_49=>(g_spec_l15Is v_49 [110,111,112]).bind λ y_50=>cond y_50 (some ([],1)) (some ([],0)) | .inr (v_13,v_14)=>some (v_13,v_14)) | .inr (v_4,v_5)=>some (v_4,v_5)
def g_spec_Fold_l0:Nat->(List GOp)->Int->Option (List GOp)
 | 0,_,_=>none
 | k+1,out_6,i_7=>cond (decide (i_7 < (out_6.length:Int))) (((subL out_6 i_7 ((out_6.length:Nat):Int)).bind λ v_11=>(g_spec_l15At v_11).bind λ y_12=>cond (decide (y_12.2 > 0)) ((subL out_6 0 i_7).bind λ v_13=>(app ([]:List GOp) v_13).bind λ v_14=>(app v_14 y_12.1).bind λ v_15=>(subL out_6 (IntKind.wrap .i64 (i_7+y_12.2)) ((out_6.length:Nat):Int)).bind λ v_16=>(app v_15 v_16).bind λ v_17=>some (v_17,(-1))) (some (out_6,i_7)):Option (((List GOp)×Int))).bind λ (out_9,i_10)=>g_spec_Fold_l0 k out_9 (IntKind.wrap .i64 (i_10+1))) (some out_6)
def g_spec_Fold (body_1:List GOp):Option (List GOp):=(g_spec_ShapeOk body_1).bind λ y_3=>cond (!y_3) (some []) ((app ([]:List GOp) body_1).bind λ v_4=>((g_spec_Fold_l0 bigK v_4 0).bind λ out_8=>some out_8:Option ((List GOp))).bind λ out_5=>some out_5)
def g_spec_l08Copy (st_1:GSt):Option GSt:=(app ([]:List Int) st_1.Data).bind λ v_3=>(app ([]:List GSlot) st_1.Ret).bind λ v_4=>(app ([]:List Int) st_1.Mem).bind λ v_5=>(app ([]:List Int) st_1.Cells).bind λ v_6=>(app ([]:List Int) st_1.Vars).bind λ v_7=>(app ([]:List Int) st_1.Out).bind λ v_8=>(app ([]:List Int) st_1.In).bind λ v_9=>some (⟨v_3,v_4,st_1.A,v_5,v_6,v_7,v_8,v_9,st_1.Fault,st_1.Fuel⟩:GSt)
def g_spec_l08Fault (st_1:GSt) (f_2:Int):Option GSt:=(g_spec_l08Copy st_1).bind λ y_4=>some (⟨y_4.Data,y_4.Ret,y_4.A,y_4.Mem,y_4.Cells,y_4.Vars,y_4.Out,y_4.In,f_2,y_4.Fuel⟩:GSt)
def g_spec_l08Put (st_1:GSt) (take_2:Int) (list_3:List Int):Option GSt:=cond (decide ((IntKind.wrap .i64 ((IntKind.wrap .i64 ((st_1.Data.length:Int)-take_2))+(list_3.length:Int))) > 16)) ((g_spec_l08Fault st_1 2).bind λ y_5=>some y_5) ((g_spec_l08Copy st_1).bind λ y_6=>(subL y_6.Data 0 (IntKind.wrap .i64 ((st_1.Data.length:Int)-take_2))).bind λ v_7=>(app v_7 list_3).bind λ v_8=>some (⟨v_8,y_6.Ret,y_6.A,y_6.Mem,y_6.Cells,y_6.Vars,y_6.Out,y_6.In,y_6.Fault,y_6.Fuel⟩:GSt))
def g_spec_l08Takes (name_1:Bs):Option Int:=((cond (name_1==[111,118,101,114]) (some (name_1==[111,118,101,114])) (cond (name_1==[110,105,112]) (some (name_1==[110,105,112])) (cond (name_1==[115,119,97,112]) (some (name_1==[115,119,97,112])) (cond (name_1==[43]) (some (name_1==[43])) (cond (name_1==[42]) (some (name_1==[42])) (cond (name_1==[97,110,100]) (some (name_1==[97,110,100])) (cond (name_1==[111,114]) (some (name_1==[111,114])) (cond (name_1==[47,109,111,100]) (some (name_1==[47,109,111,100])) (some (name_1==[33]))))))))):Option (Bool)).bind λ v_4=>cond v_4 (some (.inr 2)) ((cond (name_1==[97]) (some (name_1==[97])) (cond (name_1==[107,101,121]) (some (name_1==[107,101,121])) (cond (name_1==[112,111,112]) (some (name_1==[112,111,112])) (cond (name_1==[105]) (some (name_1==[105])) (some (name_1==[110,111,112]))))):Option (Bool)).bind λ v_5=>cond v_5 (some (.inr 0)) (some (.inl ()))):Option (Unit ⊕ Int)).bind λ o=>match o with | .inl ()=>some 1 | .inr v_3=>some v_3
def g_spec_l08Divide (st_1:GSt) (x_2:Int) (y_3:Int):Option GSt:=cond (y_3==0) ((g_spec_l08Fault st_1 5).bind λ y_5=>some y_5) ((quoI .i64 (IntKind.wrap .i64 x_2) (IntKind.wrap .i64 y_3)).bind λ v_6=>(remI .i64 (IntKind.wrap .i64 x_2) (IntKind.wrap .i64 y_3)).bind λ v_7=>(g_spec_l08Put st_1 2 [IntKind.wrap .i32 v_7,IntKind.wrap .i32 v_6]).bind λ y_8=>some y_8)
def g_spec_l08Place (st_1:GSt) (addr_2:Int):Option Int:=(g_spec_l01In (IntKind.wrap .i64 addr_2) 0 31).bind λ y_4=>cond y_4 (some (IntKind.wrap .i64 addr_2)) ((g_spec_l01In (IntKind.wrap .i64 addr_2) 1024 (IntKind.wrap .i64 ((IntKind.wrap .i64 (1024+(st_1.Cells.length:Int)))-1))).bind λ y_5=>cond y_5 (some (IntKind.wrap .i64 ((IntKind.wrap .i64 (32+(IntKind.wrap .i64 addr_2)))-1024))) (some (-1)))
def g_spec_l08Fetch (st_1:GSt) (addr_2:Int):Option GSt:=(g_spec_l08Place st_1 addr_2).bind λ y_4=>cond (decide (y_4 < 0)) ((g_spec_l08Fault st_1 4).bind λ y_5=>some y_5) (cond (decide (y_4 < 32)) ((getI st_1.Mem y_4).bind λ v_6=>(g_spec_l08Put st_1 1 [v_6]).bind λ y_7=>some y_7) ((getI st_1.Cells (IntKind.wrap .i64 (y_4-32))).bind λ v_8=>(g_spec_l08Put st_1 1 [IntKind.wrap .i32 v_8]).bind λ y_9=>some y_9))
def g_spec_l08Store_l0 (n_2:Int) (y_5:Int) (st_1:GSt):Nat->Int->GSt->GSt->Option ((GSt×GSt) ⊕ (GSt×GSt))
 | 0,_,_,_=>none
 | k+1,i_13,x_14,x_15=>cond (decide (i_13 < (st_1.Vars.length:Int))) ((cond (decide (y_5 ≥ 0)) ((getI st_1.Vars i_13).bind λ v_21=>some (v_21==(IntKind.wrap .i64 (y_5-32)))) (some false):Option (Bool)).bind λ v_20=>cond v_20 ((getI st_1.Vars i_13).bind λ v_22=>(getI x_15.Cells v_22).bind λ v_23=>some (.inr ((⟨x_15.Data,x_15.Ret,x_15.A,x_15.Mem,x_15.Cells.set v_22.toNat (IntKind.wrap .u32 n_2),x_15.Vars,x_15.Out,x_15.In,x_15.Fault,x_15.Fuel⟩:GSt),(⟨x_15.Data,x_15.Ret,x_15.A,x_15.Mem,x_15.Cells.set v_22.toNat (IntKind.wrap .u32 n_2),x_15.Vars,x_15.Out,x_15.In,x_15.Fault,x_15.Fuel⟩:GSt)))) (g_spec_l08Store_l0 n_2 y_5 st_1 k (IntKind.wrap .i64 (i_13+1)) x_14 x_15)) (some (.inl (x_14,x_15)))
def g_spec_l08Store (st_1:GSt) (n_2:Int) (addr_3:Int):Option GSt:=(g_spec_l08Place st_1 addr_3).bind λ y_5=>(g_spec_l08Put st_1 2 ([]:List Int)).bind λ y_6=>(g_spec_l01In y_5 0 31).bind λ y_7=>cond y_7 ((getI y_6.Mem y_5).bind λ v_8=>some (⟨y_6.Data,y_6.Ret,y_6.A,y_6.Mem.set y_5.toNat n_2,y_6.Cells,y_6.Vars,y_6.Out,y_6.In,y_6.Fault,y_6.Fuel⟩:GSt)) (((g_spec_l08Store_l0 n_2 y_5 st_1 bigK 0 (⟨[],[],0,[],[],[],[],[],0,0⟩:GSt) y_6).bind λ o=>match o with | .inl (x_16,x_17)=>some (.inl (x_16,x_17)) | .inr (x_18,x_19)=>some (.inr (x_18,(⟨x_18.Data,x_18.Ret,x_19.A,x_18.Mem,x_18.Cells,x_18.Vars,x_18.Out,x_18.In,x_19.Fault,x_19.Fuel⟩:GSt))):Option ((GSt×GSt) ⊕ (GSt×GSt))).bind λ o=>match o with | .inl (x_9,x_10)=>(g_spec_l08Fault st_1 4).bind λ y_24=>some y_24 | .inr (x_11,x_12)=>some x_11)
def g_spec_l08Say (st_1:GSt) (b_2:List Int):Option GSt:=cond (decide ((IntKind.wrap .i64 ((st_1.Out.length:Int)+(b_2.length:Int))) > 400)) ((g_spec_l08Fault st_1 13).bind λ y_4=>some y_4) ((g_spec_l08Put st_1 1 ([]:List Int)).bind λ y_5=>(app y_5.Out b_2).bind λ v_6=>some (⟨y_5.Data,y_5.Ret,y_5.A,y_5.Mem,y_5.Cells,y_5.Vars,v_6,y_5.In,y_5.Fault,y_5.Fuel⟩:GSt))
def g_spec_DecText_l0:Nat->Bs->Int->Option Bs
 | 0,_,_=>none
 | k+1,out_4,m_5=>cond (m_5 != 0) ((cond (decide ((Int.tmod m_5 10) < 0)) (some (IntKind.wrap .i64 (0-(Int.tmod m_5 10)))) (some (Int.tmod m_5 10)):Option (Int)).bind λ d_7=>(subL [48,49,50,51,52,53,54,55,56,57] d_7 (IntKind.wrap .i64 (d_7+1))).bind λ v_8=>(catS v_8 out_4).bind λ v_9=>g_spec_DecText_l0 k v_9 (IntKind.wrap .i64 (Int.tdiv m_5 10))) (some out_4)
def g_spec_DecText (n_1:Int):Option Bs:=cond (n_1==0) (some [48]) ((g_spec_DecText_l0 bigK [] n_1).bind λ out_6=>cond (decide (n_1 < 0)) ((catS [45] out_6).bind λ v_10=>some v_10) (some out_6))
def g_spec_l08Back (st_1:GSt) (take_2:Bool):Option GSt:=cond ((st_1.Ret.length:Int)==0) ((g_spec_l08Fault st_1 3).bind λ y_4=>some y_4) ((getI st_1.Ret (IntKind.wrap .i64 ((st_1.Ret.length:Int)-1))).bind λ v_5=>(cond (v_5.Kind==2) (some true) (cond take_2 (some (v_5.Kind != 0)) (some false)):Option (Bool)).bind λ v_6=>cond v_6 ((g_spec_l08Fault st_1 11).bind λ y_7=>some y_7) ((g_spec_l08Put st_1 0 [v_5.N]).bind λ y_8=>((cond take_2 (some (y_8.Fault==0)) (some false):Option (Bool)).bind λ v_17=>cond v_17 ((subL y_8.Ret 0 (IntKind.wrap .i64 ((st_1.Ret.length:Int)-1))).bind λ v_18=>some (⟨y_8.Data,v_18,y_8.A,y_8.Mem,y_8.Cells,y_8.Vars,y_8.Out,y_8.In,y_8.Fault,y_8.Fuel⟩:GSt)) (some y_8):Option (GSt)).bind λ x_16=>some x_16))
def g_spec_l08Other (st_1:GSt) (name_2:Bs) (x_3:Int) (y_4:Int):Option GSt:=cond (name_2==[47,109,111,100]) ((g_spec_l08Divide st_1 x_3 y_4).bind λ y_6=>some y_6) (cond (name_2==[64]) ((g_spec_l08Fetch st_1 y_4).bind λ y_7=>some y_7) (cond (name_2==[33]) ((g_spec_l08Store st_1 x_3 y_4).bind λ y_8=>some y_8) (cond (name_2==[97]) ((g_spec_l08Put st_1 0 [st_1.A]).bind λ y_9=>some y_9) (cond (name_2==[97,33]) ((g_spec_l08Put st_1 1 ([]:List Int)).bind λ y_10=>some (⟨y_10.Data,y_10.Ret,y_4,y_10.Mem,y_10.Cells,y_10.Vars,y_10.Out,y_10.In,y_10.Fault,y_10.Fuel⟩:GSt)) (cond (name_2==[101,109,105,116]) ((g_spec_l08Say st_1 [IntKind.wrap .u8 (andI .i32 y_4 255)]).bind λ y_11=>some y_11) (cond (name_2==[46]) ((g_spec_DecText (IntKind.wrap .i64 y_4)).bind λ y_12=>(catS y_12 [32]).bind λ v_13=>(s2b v_13).bind λ v_14=>(g_spec_l08Say st_1 v_14).bind λ y_15=>some y_15) (cond (name_2==[107,101,121]) ((cond (decide ((st_1.In.length:Int) > 0)) ((getI st_1.In 0).bind λ v_17=>some (IntKind.wrap .i32 v_17)) (some (-1)):Option (Int)).bind λ n_16=>(g_spec_l08Put st_1 0 [n_16]).bind λ y_18=>((cond (y_18.Fault==0) (some (decide ((y_18.In.length:Int) > 0))) (some false):Option (Bool)).bind λ v_27=>cond v_27 ((subL y_18.In 1 ((y_18.In.length:Nat):Int)).bind λ v_28=>some (⟨y_18.Data,y_18.Ret,y_18.A,y_18.Mem,y_18.Cells,y_18.Vars,y_18.Out,v_28,y_18.Fault,y_18.Fuel⟩:GSt)) (some y_18):Option (GSt)).bind λ x_26=>some x_26) (cond (name_2==[112,117,115,104]) (cond ((st_1.Ret.length:Int)==24) ((g_spec_l08Fault st_1 3).bind λ y_29=>some y_29) ((g_spec_l08Put st_1 1 ([]:List Int)).bind λ y_30=>(app y_30.Ret [(⟨0,y_4⟩:GSlot)]).bind λ v_31=>some (⟨y_30.Data,v_31,y_30.A,y_30.Mem,y_30.Cells,y_30.Vars,y_30.Out,y_30.In,y_30.Fault,y_30.Fuel⟩:GSt))) ((g_spec_l08Back st_1 (name_2==[112,111,112])).bind λ y_32=>some y_32)))))))))
def g_spec_Do (st_1:GSt) (k_2:Int):Option GSt:=(g_spec_StOk st_1).bind λ y_4=>cond (!y_4) (some (⟨[],[],0,[],[],[],[],[],0,0⟩:GSt)) (cond (st_1.Fault != 0) ((g_spec_l08Copy st_1).bind λ y_5=>some y_5) ((g_spec_PrimName k_2).bind λ y_6=>cond (y_6==[]) ((g_spec_l08Fault st_1 1).bind λ y_7=>some y_7) ((g_spec_l08Takes y_6).bind λ y_8=>cond (decide ((st_1.Data.length:Int) < y_8)) ((g_spec_l08Fault st_1 2).bind λ y_9=>some y_9) ((cond (decide (y_8 > 0)) ((getI st_1.Data (IntKind.wrap .i64 ((st_1.Data.length:Int)-1))).bind λ v_11=>some v_11) (some 0):Option (Int)).bind λ y_10=>(cond (decide (y_8 > 1)) ((getI st_1.Data (IntKind.wrap .i64 ((st_1.Data.length:Int)-2))).bind λ v_13=>some v_13) (some 0):Option (Int)).bind λ x_12=>(g_spec_l08Pure y_6 x_12 y_10).bind λ y_14=>cond y_14.2 ((g_spec_l08Put st_1 y_8 y_14.1).bind λ y_15=>some y_15) ((g_spec_l08Other st_1 y_6 x_12 y_10).bind λ y_16=>some y_16)))))
end Go.Proofs.YtmedombacbpofaaGreatDoor
namespace Go.Proofs.YtmedombacbpofaaGreatDoor
open Go Go.Fm
set_option maxRecDepth 100000
theorem specIn_eq {x a b:Int}:g_spec_l01In x a b=some (decide (a<=x/\x<=b)):=by
 unfold g_spec_l01In
 by_cases h:x ≥ a
 ·rw[decide_eq_true h]
  simp only[cond_true]
  congr 1
  exact decide_eq_decide.2 ⟨λ h2=>⟨h,h2⟩,λ h2=>h2.2⟩
 ·rw[decide_eq_false h]
  simp only[cond_false]
  congr 1
  exact (decide_eq_false λ h2=>h h2.1).symm
theorem within_eq {x a b:Int}:g_impl_within x a b=some (decide (a<=x/\x<=b)):=by
 unfold g_impl_within
 by_cases h:a<=x
 ·rw[decide_eq_true h]
  simp only[cond_true]
  congr 1
  exact decide_eq_decide.2 ⟨λ h2=>⟨h,h2⟩,λ h2=>h2.2⟩
 ·rw[decide_eq_false h]
  simp only[cond_false]
  congr 1
  exact (decide_eq_false λ h2=>h h2.1).symm
def inB (x a b:Int):Bool:=decide (a<=x/\x<=b)
theorem wIn (x a b:Int):g_impl_within x a b=some (inB x a b):=within_eq
theorem sIn (x a b:Int):g_spec_l01In x a b=some (inB x a b):=specIn_eq
end Go.Proofs.YtmedombacbpofaaGreatDoor
namespace Go.Proofs.YtmedombacbpofaaGreatDoor
open Go Go.Fm
set_option maxRecDepth 100000
theorem has_l0 {l:List Int} {v:Int} (hl:l.length<=1048576):g_slices_Contains_int l v=some (l.any λ x=>v==x):=by
 unfold g_slices_Contains_int g_slices_Index_int
 have key:∀ (k n:Nat),n<=l.length->l.length-n < k->∃ o:Unit ⊕ Int,g_slices_Index_int_l0 l v (l.length:Int) k n=some o/\(match o with | .inl _=>((l.drop n).any λ x=>v==x)=false | .inr i=>0<=i/\((l.drop n).any λ x=>v==x)=true):=by
  intro k
  induction k with
  | zero=>intro n h0 h1;omega
  | succ k ih =>
   intro n h0 h1
   rw[g_slices_Index_int_l0]
   by_cases hn:n < l.length
   ·rw[decide_eq_true (by omega),cond_true,getI_nat,List.getElem?_eq_getElem hn,List.drop_eq_getElem_cons hn,List.any_cons]
    simp only[Option.bind_some]
    cases hk:(v==l[n])
    ·rw[cond_false,nxt (by omega)]
     obtain ⟨o,g1,g2⟩:=ih (n+1) (by omega) (by omega)
     exact ⟨o,g1,by cases o<;>simpa using g2⟩
    ·rw[cond_true]
     exact ⟨_,rfl,by simp⟩
   ·rw[decide_eq_false (by omega),cond_false,List.drop_eq_nil_of_le (by omega)]
    exact ⟨_,rfl,rfl⟩
 obtain ⟨o,h,g⟩:=key bigK 0 (Nat.zero_le _) (by unfold bigK;omega)
 rw[Int.natCast_zero]at h
 rw[List.drop_zero]at g
 rw[h]
 cases o with
 | inl u=>simp only[Option.bind_some];rw[show (l.any λ x=>v==x)=false from g];rfl
 | inr i=>simp only[Option.bind_some];rw[g.2,decide_eq_true g.1]
def StB (st:GSt):Bool :=
 !decide ((st.Data.length:Int) > 16)&&(!decide ((st.Ret.length:Int) > 24)&&(!((st.Mem.length:Int) != 32)&&(!decide ((st.Vars.length:Int) > 20)&&(!decide ((st.Out.length:Int) > 400)&&(!decide ((st.In.length:Int) > 100) &&
  (st.Ret.all (λ o=>inB o.Kind 0 2)&&(allN (λ n v=>inB v 0 (IntKind.wrap .i64 ((st.Cells.length:Int)-1)) && !((st.Vars.take n).any λ x=>v==x)) 0 st.Vars&&((((Int.tmod (st.Cells.length:Int) 64)==0)&&decide ((st.Cells.length:Int)<=768))&&(inB st.Fault 0 13&&inB st.Fuel 0 4000)))))))))
structure StSz (st:GSt):Prop where
 r:st.Ret.length<=1048576
 v:st.Vars.length<=1048576
theorem spec_in {l:List Int} {v:Int} {n:Nat} (hn:n<=l.length) (hl:l.length<=1048576) {st:GSt} (hst:st.Vars=l) (hv:l[n]? = some v):g_spec_StOk_l2 (n:Int) st bigK 0=some (cond (!((l.take n).any λ x=>v==x)) (.inl ()) (.inr false)):=by
 subst hst
 have hlen:(st.Vars.take n).length=n:=by rw[List.length_take];omega
 have h:=allLoop (L:=st.Vars.take n) (λ _ x => !(v==x)) (g_spec_StOk_l2 (n:Int) st) (λ k m x hx hm=>by
   rw[hlen]at hm
   rw[List.getElem?_take,if_pos hm]at hx
   rw[g_spec_StOk_l2,decide_eq_true (by omega),cond_true,getI_nat,hx,getI_nat,hv]
   simp only[Option.bind_some]
   rw[nxt (by omega),flipC,show (x==v)=(v==x) from Bool.beq_comm]) (λ k m hm=>by rw[hlen]at hm;rw[g_spec_StOk_l2,decide_eq_false (by omega),cond_false]) (by rw[hlen];omega)
 rw[h,allN_const]
 congr 2
 rw[List.all_eq_not_any_not]
 simp
theorem spec_st {st:GSt} (h:StSz st):g_spec_StOk st=some (StB st):=by
 unfold g_spec_StOk StB
 have hr:=h.r
 have hv:=h.v
 have h0:=allLoop (L:=st.Ret) (λ _ o=>inB o.Kind 0 2) (g_spec_StOk_l0 st) (λ k n x hx hn=>by
   rw[g_spec_StOk_l0,decide_eq_true (by omega),cond_true,getI_nat,hx]
   simp only[Option.bind_some]
   rw[sIn]
   simp only[Option.bind_some]
   rw[nxt (by omega),flipC]) (λ k n hn=>by rw[g_spec_StOk_l0,decide_eq_false (by omega),cond_false]) (by omega)
 have h1:=allLoop (L:=st.Vars) (λ n v=>inB v 0 (IntKind.wrap .i64 ((st.Cells.length:Int)-1)) && !((st.Vars.take n).any λ x=>v==x)) (g_spec_StOk_l1 st) (λ k n x hx hn=>by
   rw[g_spec_StOk_l1,decide_eq_true (by omega),cond_true,getI_nat,hx]
   simp only[Option.bind_some]
   rw[sIn]
   simp only[Option.bind_some]
   rw[spec_in (l:=st.Vars) (by omega) hv rfl hx,nxt (by omega)]
   cases inB x 0 (IntKind.wrap .i64 ((st.Cells.length:Int)-1))
   ·rfl
   ·cases ((st.Vars.take n).any λ y=>x==y)<;>rfl) (λ k n hn=>by rw[g_spec_StOk_l1,decide_eq_false (by omega),cond_false]) (by omega)
 rw[h0,h1]
 unfold g_spec_StoreOk
 rw[sIn,sIn,allN_const]
 generalize decide ((st.Data.length:Int) > 16)=b1
 generalize decide ((st.Ret.length:Int) > 24)=b2
 generalize ((st.Mem.length:Int) != 32)=b3
 generalize decide ((st.Vars.length:Int) > 20)=b4
 generalize decide ((st.Out.length:Int) > 400)=b5
 generalize decide ((st.In.length:Int) > 100)=b6
 generalize (st.Ret.all λ o=>inB o.Kind 0 2)=b7
 generalize allN _ 0 st.Vars=b8
 generalize (Int.tmod (st.Cells.length:Int) 64==0)=b9
 generalize decide ((st.Cells.length:Int)<=768)=b10
 generalize inB st.Fault 0 13=b11
 generalize inB st.Fuel 0 4000=b12
 revert b1 b2 b3 b4 b5 b6 b7 b8 b9 b10 b11 b12
 decide +kernel
theorem impl_st {st:GSt} (h:StSz st):g_impl_StOk st=some (StB st):=by
 unfold g_impl_StOk StB
 have hr:=h.r
 have hv:=h.v
 have h0:=allLoop (L:=st.Ret) (λ _ o=>inB o.Kind 0 2) (g_impl_StOk_l0 st.Ret (st.Ret.length:Int)) (λ k n x hx hn=>by
   rw[g_impl_StOk_l0,decide_eq_true (by omega),cond_true,getI_nat,hx]
   simp only[Option.bind_some]
   rw[wIn]
   simp only[Option.bind_some]
   rw[nxt (by omega),flipC]) (λ k n hn=>by rw[g_impl_StOk_l0,decide_eq_false (by omega),cond_false]) (by omega)
 have h1:=allLoop (L:=st.Vars) (λ n v=>inB v 0 (IntKind.wrap .i64 ((st.Cells.length:Int)-1)) && !((st.Vars.take n).any λ x=>v==x)) (g_impl_StOk_l1 st.Vars (st.Vars.length:Int) st) (λ k n x hx hn=>by
   rw[g_impl_StOk_l1,decide_eq_true (by omega),cond_true,getI_nat,hx]
   simp only[Option.bind_some]
   rw[wIn]
   simp only[Option.bind_some]
   rw[subL_take (by omega) (by omega),Int.toNat_natCast]
   simp only[Option.bind_some]
   rw[has_l0 (by rw[List.length_take];omega),nxt (by omega)]
   simp only[Option.bind_some]
   cases inB x 0 (IntKind.wrap .i64 ((st.Cells.length:Int)-1))
   ·rfl
   ·cases ((st.Vars.take n).any λ y=>x==y)<;>rfl) (λ k n hn=>by rw[g_impl_StOk_l1,decide_eq_false (by omega),cond_false]) (by omega)
 rw[h0,h1]
 unfold g_impl_StoreOk
 rw[wIn,wIn,allN_const]
 have e5:decide ((st.Out.length:Int)<=400) = !decide ((st.Out.length:Int) > 400):=by rw[<-decide_not];congr 1;simp
 have e6:decide ((st.In.length:Int)<=100) = !decide ((st.In.length:Int) > 100):=by rw[<-decide_not];congr 1;simp
 rw[e5,e6]
 generalize decide ((st.Data.length:Int) > 16)=b1
 generalize decide ((st.Ret.length:Int) > 24)=b2
 generalize ((st.Mem.length:Int) != 32)=b3
 generalize decide ((st.Vars.length:Int) > 20)=b4
 generalize decide ((st.Out.length:Int) > 400)=b5
 generalize decide ((st.In.length:Int) > 100)=b6
 generalize (st.Ret.all λ o=>inB o.Kind 0 2)=b7
 generalize allN _ 0 st.Vars=b8
 generalize (Int.tmod (st.Cells.length:Int) 64==0)=b9
 generalize decide ((st.Cells.length:Int)<=768)=b10
 generalize inB st.Fault 0 13=b11
 generalize inB st.Fuel 0 4000=b12
 revert b1 b2 b3 b4 b5 b6 b7 b8 b9 b10 b11 b12
 decide +kernel
structure StW (st:GSt):Prop where
 d:st.Data.length<=LN
 r:st.Ret.length<=LN
 m:st.Mem.length<=LN
 c:st.Cells.length<=LN
 v:st.Vars.length<=LN
 o:st.Out.length<=LN
 i:st.In.length<=LN
structure StAll (st:GSt):Prop where
 d:st.Data.length<=1048576
 r:st.Ret.length<=1048576
 m:st.Mem.length<=1048576
 c:st.Cells.length<=1048576
 v:st.Vars.length<=1048576
 o:st.Out.length<=1048576
 i:st.In.length<=1048576
end Go.Proofs.YtmedombacbpofaaGreatDoor
namespace Go.Proofs.YtmedombacbpofaaGreatDoor
open Go Go.Fm
theorem dec_len:∀ (k u:Nat),u < 10 ^ (k+1)->(Lib.decDigits u).length<=k+1:=by
 intro k
 induction k with
 | zero =>
  intro u h
  rw[Lib.decDigits,dif_pos (by omega)];simp
 | succ k ih =>
  intro u h
  rw[Lib.decDigits]
  split
  ·simp
  ·have:u / 10 < 10 ^ (k+1):=by rw[Nat.div_lt_iff_lt_mul (by omega)];rw[Nat.pow_succ]at h;omega
   have:=ih (u / 10) this
   simp;omega
theorem itoa_len {n:Int} (h0 : -9223372036854775808<=n) (h1:n<=9223372036854775807):(Lib.itoa n).length<=21:=by
 unfold Lib.itoa
 split
 ·have:=dec_len 19 n.natAbs (by omega)
  simp;omega
 ·have:=dec_len 19 n.toNat (by omega)
  omega
theorem impl_dec {n:Int} (h0 : -9223372036854775808<=n) (h1:n<=9223372036854775807):g_impl_DecText n=some (Lib.itoa n):=by
 unfold g_impl_DecText g_strconv_Itoa gItoa
 rw[decide_eq_true ⟨h0,h1⟩];rfl
theorem digit {d:Nat} (h:d < 10):subL ([48,49,50,51,52,53,54,55,56,57]:List UInt8) (d:Int) (IntKind.wrap .i64 ((d:Int)+1))=some [UInt8.ofNat (48+d)]:=by
 match d,h with
 | 0,_=>rfl
 | 1,_=>rfl
 | 2,_=>rfl
 | 3,_=>rfl
 | 4,_=>rfl
 | 5,_=>rfl
 | 6,_=>rfl
 | 7,_=>rfl
 | 8,_=>rfl
 | 9,_=>rfl
theorem tm10 (u:Nat):Int.tmod (u:Int) 10=((u % 10:Nat):Int):=(Int.ofNat_tmod u 10).symm
theorem td10 (u:Nat):Int.tdiv (u:Int) 10=((u / 10:Nat):Int):=(Int.ofNat_tdiv u 10).symm
theorem spec_loop:∀ (u k:Nat) (m:Int) (out:List UInt8),m.natAbs=u->u≠0->u<=9223372036854775808->u < k->out.length+(Lib.decDigits u).length<=1000->(m < 0\/u < 9223372036854775808) →
  g_spec_DecText_l0 k out m=some (Lib.decDigits u++out):=by
 intro u
 induction u using Nat.strongRecOn with
 | _ u ih =>
  intro k m out hm h0 h1 hk ho hr
  obtain ⟨k,rfl⟩:∃ k',k=k'+1:=⟨k-1,by omega⟩
  rw[g_spec_DecText_l0,show (m != 0)=true by simp;omega,cond_true]
  have hd:((cond (decide ((Int.tmod m 10) < 0)) (some (IntKind.wrap .i64 (0-(Int.tmod m 10)))) (some (Int.tmod m 10)):Option Int))=some ((u % 10:Nat):Int):=by
   have h2:Int.tmod m 10=if m < 0 then -((u % 10:Nat):Int) else ((u % 10:Nat):Int):=by
    split
    ·have:m = -(u:Int):=by omega
     rw[this,Int.neg_tmod,tm10]
    ·have:m=(u:Int):=by omega
     rw[this,tm10]
   rw[h2]
   by_cases hneg:m < 0
   ·rw[if_pos hneg]
    by_cases hz:u % 10=0
    ·rw[hz];rfl
    ·rw[decide_eq_true (by omega),cond_true,wI64 (by omega) (by omega)]
     congr 1;omega
   ·rw[if_neg hneg,decide_eq_false (by omega),cond_false]
  have hq:IntKind.wrap .i64 (Int.tdiv m 10)=if m < 0 then -((u / 10:Nat):Int) else ((u / 10:Nat):Int):=by
   split
   ·have:m = -(u:Int):=by omega
    rw[this,Int.neg_tdiv,td10,wI64 (by omega) (by omega)]
   ·have:m=(u:Int):=by omega
    rw[this,td10,wI64 (by omega) (by omega)]
  rw[hd,Option.bind_some,digit (Nat.mod_lt _ (by omega)),Option.bind_some,catS_eq (by simp;omega),Option.bind_some,hq]
  by_cases h10:u < 10
  ·obtain ⟨k,rfl⟩:∃ k',k=k'+1:=⟨k-1,by omega⟩
   rw[Lib.decDigits,dif_pos h10,Nat.div_eq_of_lt h10,Nat.mod_eq_of_lt h10]
   have:(if m < 0 then -((0:Nat):Int) else ((0:Nat):Int))=0:=by split<;>rfl
   rw[this,g_spec_DecText_l0]
   rfl
  ·have hlen:(Lib.decDigits u).length=(Lib.decDigits (u / 10)).length+1:=by
    rw[Lib.decDigits.eq_def u,dif_neg h10];simp
   rw[ih (u / 10) (by omega) k _ _ (by split<;>omega) (by omega) (by omega) (by omega) (by simp;omega) (by split<;>omega)]
   rw[Lib.decDigits.eq_def u,dif_neg h10]
   simp
theorem spec_dec {n:Int} (h0 : -9223372036854775808<=n) (h1:n<=9223372036854775807):g_spec_DecText n=some (Lib.itoa n):=by
 unfold g_spec_DecText
 by_cases hz:n=0
 ·subst hz
  have:Lib.itoa 0=[48]:=by
   unfold Lib.itoa
   rw[if_neg (by omega),Lib.decDigits];rfl
  rw[this];rfl
 ·rw[show (n==0)=false by simp[hz],cond_false,spec_loop n.natAbs bigK n [] rfl (by omega) (by omega) (by unfold bigK;omega) (by have:=dec_len 19 n.natAbs (by omega);simp;omega) (by omega),Option.bind_some]
  unfold Lib.itoa
  have:=dec_len 19 n.natAbs (by omega)
  by_cases hn:n < 0
  ·rw[decide_eq_true hn,cond_true,if_pos hn,catS_eq (by simp;omega)]
   simp
  ·rw[decide_eq_false hn,cond_false,if_neg hn,show n.toNat=n.natAbs by omega]
   simp
end Go.Proofs.YtmedombacbpofaaGreatDoor
namespace Go.Proofs.YtmedombacbpofaaGreatDoor
open Go Go.Fm
def i64B (x:Int):Prop := -9223372036854775808<=x/\x<=9223372036854775807
def blk (l:List Int):List UInt8:=l.flatMap λ x=>Lib.itoa x++[32]
structure RetN (l:List GSlot):Prop where
 k:∀ s ∈ l,0<=s.Kind/\s.Kind<=2
 n:∀ s ∈ l,i64B s.N
structure StNum (st:GSt):Prop where
 d:∀ x ∈ st.Data,i64B x
 r:∀ s ∈ st.Ret,i64B s.N
 a:i64B st.A
 f:i64B st.Fault
 u:i64B st.Fuel
end Go.Proofs.YtmedombacbpofaaGreatDoor
namespace Go.Proofs.YtmedombacbpofaaGreatDoor
open Go Go.Fm
set_option maxRecDepth 100000
theorem prims_eq:g_impl_prims=g_spec_l08Names:=by kernel_rfl
theorem name_eq (k:Int):g_impl_PrimName k=g_spec_PrimName k:=by
 unfold g_impl_PrimName g_spec_PrimName
 rw[prims_eq]
 unfold g_spec_l08Names
 simp only[Option.bind_some]
 rw[within_eq,specIn_eq]
 simp only[Option.bind_some]
 have key:∀ (b:Bool) (x y:Option Bs),cond b x y=cond (!b) y x:=λ b x y=>by cases b<;>rfl
 exact key _ _ _
theorem name_tot (k:Int):∃ s,g_spec_PrimName k=some s:=by
 unfold g_spec_PrimName
 unfold g_spec_l08Names
 simp only[Option.bind_some]
 rw[specIn_eq]
 simp only[Option.bind_some]
 by_cases h:(0:Int)<=k/\k<=IntKind.wrap .i64 (((([[100,117,112],[100,114,111,112],[111,118,101,114],[110,105,112],[115,119,97,112],[43],[45],[42],[97,110,100],[111,114],[50,42],[50,47],[47,109,111,100],[64],[33],[97],[97,33],[101,109,105,116],[107,101,121],[112,117,115,104],[112,111,112],[105],[46],[110,111,112]]:List Bs).length:Nat):Int)-1)
 ·rw[decide_eq_true h,Bool.not_true,cond_false]
  have h2:k<=23:=h.2
  obtain ⟨x,hx,_⟩:=getI_ex (xs:=([[100,117,112],[100,114,111,112],[111,118,101,114],[110,105,112],[115,119,97,112],[43],[45],[42],[97,110,100],[111,114],[50,42],[50,47],[47,109,111,100],[64],[33],[97],[97,33],[101,109,105,116],[107,101,121],[112,117,115,104],[112,111,112],[105],[46],[110,111,112]]:List Bs)) (i:=k) h.1 (by simp;omega)
  rw[hx]
  exact ⟨_,rfl⟩
 ·rw[decide_eq_false h,Bool.not_false,cond_true]
  exact ⟨_,rfl⟩
end Go.Proofs.YtmedombacbpofaaGreatDoor
namespace Go.Proofs.YtmedombacbpofaaGreatDoor
open Go Go.Fm
def i32B (x:Int):Prop := -2147483648<=x/\x<=2147483647
theorem i32w (x:Int):i32B (IntKind.wrap .i32 x):=by have:=wI32_bd x;exact ⟨this.1,by omega⟩
def VarsB (c:Nat) (vars:List Int):Bool:=allN (λ n v=>inB v 0 (IntKind.wrap .i64 ((c:Int)-1)) && !((vars.take n).any λ x=>v==x)) 0 vars
structure SB (st:GSt):Prop where
 d:st.Data.length<=16
 r:st.Ret.length<=24
 m:st.Mem.length=32
 v:st.Vars.length<=20
 o:st.Out.length<=400
 i:st.In.length<=100
 rk:∀ s ∈ st.Ret,0<=s.Kind/\s.Kind<=2
 vb:VarsB st.Cells.length st.Vars=true
 c:((Int.tmod (st.Cells.length:Int) 64)==0)=true
 cl:st.Cells.length<=768
 f:0<=st.Fault/\st.Fault<=13
 u:0<=st.Fuel/\st.Fuel<=4000
theorem stB_iff {st:GSt}:StB st=true ↔ SB st:=by
 unfold StB
 simp only[Bool.and_eq_true,Bool.not_eq_true',decide_eq_false_iff_not,decide_eq_true_eq,List.all_eq_true,bne_eq_false_iff_eq,inB]
 constructor
 ·rintro ⟨h1,h2,h3,h4,h5,h6,h7,h8,⟨h9,h10⟩,h11,h12⟩
  exact ⟨by omega,by omega,by omega,by omega,by omega,by omega,h7,by unfold VarsB inB;exact h8,h9,by omega,h11,h12⟩
 ·rintro ⟨h1,h2,h3,h4,h5,h6,h7,h8,h9,h10,h11,h12⟩
  exact ⟨by omega,by omega,by omega,by omega,by omega,by omega,h7,by unfold VarsB inB at h8;exact h8,⟨h9,by omega⟩,h11,h12⟩
structure SG (st:GSt):Prop where
 b:SB st
 d:∀ x ∈ st.Data,i32B x
 m:∀ x ∈ st.Mem,i32B x
 a:i32B st.A
 r:∀ s ∈ st.Ret,i32B s.N
theorem app0 {α:Type} {xs:List α} (h:xs.length<=1000):app ([]:List α) xs=some xs:=by rw[app_eq (by simp;omega)];rfl
theorem copyS {st:GSt} (h:SB st):g_spec_l08Copy st=some st:=by
 have:=h.d;have:=h.r;have:=h.m;have:=h.v;have:=h.o;have:=h.i;have:=h.cl
 unfold g_spec_l08Copy
 rw[app0 (by omega),Option.bind_some,app0 (by omega),Option.bind_some,app0 (by omega),Option.bind_some,app0 (by omega),Option.bind_some,app0 (by omega),Option.bind_some,app0 (by omega),Option.bind_some,app0 (by omega),Option.bind_some]
theorem ownS {st:GSt} (h:SB st):g_impl_ownSt st=some st:=by
 have:=h.d;have:=h.r;have:=h.m;have:=h.v;have:=h.o;have:=h.i;have:=h.cl
 unfold g_impl_ownSt g_slices_Clone_int32 g_slices_Clone_Slot g_slices_Clone_uint32 g_slices_Clone_int g_slices_Clone_byte
 rw[app0 (by omega),Option.bind_some,app0 (by omega),Option.bind_some,app0 (by omega),Option.bind_some,app0 (by omega),Option.bind_some,app0 (by omega),Option.bind_some,app0 (by omega),Option.bind_some,app0 (by omega),Option.bind_some]
def flt (st:GSt) (f:Int):GSt:=⟨st.Data,st.Ret,st.A,st.Mem,st.Cells,st.Vars,st.Out,st.In,f,st.Fuel⟩
theorem spec_flt {st:GSt} (h:SB st) (f:Int):g_spec_l08Fault st f=some (flt st f):=by
 unfold g_spec_l08Fault;rw[copyS h];rfl
theorem impl_flt {st:GSt} (h:SB st) (f:Int):g_impl_doesc1 f st=some (flt st f):=by
 unfold g_impl_doesc1;rw[ownS h];rfl
theorem SG.flt {st:GSt} (h:SG st) {f:Int} (h0:0<=f) (h1:f<=13):SG (flt st f) :=
 ⟨⟨h.b.d,h.b.r,h.b.m,h.b.v,h.b.o,h.b.i,h.b.rk,h.b.vb,h.b.c,h.b.cl,⟨h0,h1⟩,h.b.u⟩,h.d,h.m,h.a,h.r⟩
def dat (st:GSt) (l:List Int):GSt:=⟨l,st.Ret,st.A,st.Mem,st.Cells,st.Vars,st.Out,st.In,st.Fault,st.Fuel⟩
def putS (st st2:GSt) (w:Nat) (l:List Int):GSt:=if st.Data.length-w+l.length > 16 then flt st 2 else dat st2 (st.Data.take (st.Data.length-w)++l)
theorem spec_put {st:GSt} (h:SB st) {w:Nat} {l:List Int} (hw:w<=st.Data.length) (hl:l.length<=16):g_spec_l08Put st (w:Int) l=some (putS st st w l):=by
 have:=h.d
 unfold g_spec_l08Put putS
 rw[wI64 (x:=(st.Data.length:Int)-w) (by omega) (by omega),wI64 (by omega) (by omega),spec_flt h,copyS h]
 by_cases hx:st.Data.length-w+l.length > 16
 ·rw[decide_eq_true (by omega),cond_true,if_pos hx];rfl
 ·rw[decide_eq_false (by omega),cond_false,if_neg hx,Option.bind_some,show (st.Data.length:Int)-w=((st.Data.length-w:Nat):Int) by omega,subL_take (by omega) (by omega),Option.bind_some,Int.toNat_natCast,app_eq (by rw[List.length_take];omega)]
  rfl
theorem SG.put {st st2:GSt} (h:SG st) (h2:SG st2) {w:Nat} {l:List Int} (hl:∀ x ∈ l,i32B x):SG (putS st st2 w l):=by
 unfold putS
 split
 ·exact h.flt (by omega) (by omega)
 ·refine ⟨⟨?_,h2.b.r,h2.b.m,h2.b.v,h2.b.o,h2.b.i,h2.b.rk,h2.b.vb,h2.b.c,h2.b.cl,h2.b.f,h2.b.u⟩,λ x hx => ?_,h2.m,h2.a,h2.r⟩
  ·show (st.Data.take (st.Data.length-w)++l).length<=16
   rw[List.length_append,List.length_take];omega
  ·rcases List.mem_append.1 hx with hx|hx
   ·exact h.d x (List.mem_of_mem_take hx)
   ·exact hl x hx
theorem putS_fuel {st st2:GSt} (h:st2.Fuel=st.Fuel) (w:Nat) (l:List Int):(putS st st2 w l).Fuel=st.Fuel:=by
 unfold putS;split
 ·rfl
 ·exact h
def yOf (st:GSt):Int:=if h:0 < st.Data.length then st.Data[st.Data.length-1] else 0
def xOf (st:GSt):Int:=if h:1 < st.Data.length then st.Data[st.Data.length-2] else 0
theorem SG.y {st:GSt} (h:SG st):i32B (yOf st):=by
 unfold yOf;split
 ·exact h.d _ (List.getElem_mem _)
 ·exact ⟨by omega,by omega⟩
theorem SG.x {st:GSt} (h:SG st):i32B (xOf st):=by
 unfold xOf;split
 ·exact h.d _ (List.getElem_mem _)
 ·exact ⟨by omega,by omega⟩
theorem get_y {st:GSt} (h:SB st) (hn:0 < st.Data.length):getI st.Data (IntKind.wrap .i64 ((st.Data.length:Int)-1))=some (yOf st):=by
 have:=h.d
 rw[wI64 (by omega) (by omega),show (st.Data.length:Int)-1=((st.Data.length-1:Nat):Int) by omega,getI_nat,List.getElem?_eq_getElem (by omega)]
 unfold yOf;rw[dif_pos hn]
theorem get_x {st:GSt} (h:SB st) (hn:1 < st.Data.length):getI st.Data (IntKind.wrap .i64 ((st.Data.length:Int)-2))=some (xOf st):=by
 have:=h.d
 rw[wI64 (by omega) (by omega),show (st.Data.length:Int)-2=((st.Data.length-2:Nat):Int) by omega,getI_nat,List.getElem?_eq_getElem (by omega)]
 unfold xOf;rw[dif_pos hn]
theorem impl_does {st st2:GSt} (h:SG st) {k:Int} {name:List UInt8} {w:Nat} {l:List Int} {f:Int} (hk:g_spec_PrimName k=some name) (hne:(name==[])=false) (hw:g_impl_wants k=some (w:Int)) (hl:l.length<=16)
  (he:w<=st.Data.length->g_impl_St_effect name (xOf st) (yOf st) st=some (l,f,st2)) (h2:st2.Data=st.Data) :
  g_impl_does st k=some (if st.Data.length < w then flt st 2 else if f≠0 then flt st f else putS st st2 w l):=by
 have hd:=h.b.d
 unfold g_impl_does
 rw[name_eq,hk,Option.bind_some,hne,cond_false,hw]
 simp only[Option.bind_some]
 by_cases hn:st.Data.length < w
 ·rw[decide_eq_true (by omega),cond_true,if_pos hn,impl_flt h.b];rfl
 rw[decide_eq_false (by omega),cond_false,if_neg hn,ownS h.b]
 simp only[Option.bind_some]
 have ex:(cond (decide ((st.Data.length:Int) > 1)) ((getI st.Data (IntKind.wrap .i64 ((st.Data.length:Int)-2))).bind λ v_10=>some v_10) (some 0):Option Int)=some (xOf st):=by
  by_cases h1:1 < st.Data.length
  ·rw[decide_eq_true (by omega),cond_true,get_x h.b h1];rfl
  ·rw[decide_eq_false (by omega),cond_false];unfold xOf;rw[dif_neg h1]
 have ey:(cond (decide ((st.Data.length:Int) > 0)) ((getI st.Data (IntKind.wrap .i64 ((st.Data.length:Int)-1))).bind λ v_12=>some v_12) (some 0):Option Int)=some (yOf st):=by
  by_cases h1:0 < st.Data.length
  ·rw[decide_eq_true (by omega),cond_true,get_y h.b h1];rfl
  ·rw[decide_eq_false (by omega),cond_false];unfold yOf;rw[dif_neg h1]
 rw[ex,Option.bind_some,ey,Option.bind_some,he (by omega)]
 simp only[Option.bind_some]
 rw[h2,wI64 (by omega) (by omega),show (st.Data.length:Int)-w=((st.Data.length-w:Nat):Int) by omega,subL_take (by omega) (by omega),Option.bind_some,Int.toNat_natCast,app_eq (by rw[List.length_take];omega),Option.bind_some]
 by_cases hf:f=0
 ·subst hf
  rw[show ((0:Int) != 0)=false from rfl,cond_false,if_neg (by simp)]
  unfold putS
  rw[List.length_append,List.length_take,Nat.min_eq_left (by omega),impl_flt h.b]
  by_cases hx:st.Data.length-w+l.length > 16
  ·rw[decide_eq_true (by omega),cond_true,if_pos hx];rfl
  ·rw[decide_eq_false (by omega),cond_false,if_neg hx];rfl
 ·rw[show (f != 0)=true by simp[hf],cond_true,if_pos hf,impl_flt h.b];rfl
theorem spec_does {st:GSt} (h:SG st) (hf:st.Fault=0) {k:Int} {name:List UInt8} {w:Nat} {R:GSt} (hk:g_spec_PrimName k=some name) (hne:(name==[])=false) (hw:g_spec_l08Takes name=some (w:Int)) (hw2:w<=2)
  (he:w<=st.Data.length->∀ x y,(0 < w->y=yOf st)->(1 < w->x=xOf st)->((g_spec_l08Pure name x y).bind λ y_14=>cond y_14.2 ((g_spec_l08Put st (w:Int) y_14.1).bind λ y_15=>some y_15) ((g_spec_l08Other st name x y).bind λ y_16=>some y_16))=some R) :
  g_spec_Do st k=some (if st.Data.length < w then flt st 2 else R):=by
 have hd:=h.b.d
 unfold g_spec_Do
 rw[spec_st ⟨by have:=h.b.r;omega,by have:=h.b.v;omega⟩,stB_iff.2 h.b]
 simp only[Option.bind_some,Bool.not_true,cond_false]
 rw[show (st.Fault != 0)=false by simp[hf],cond_false,hk,Option.bind_some,hne,cond_false,hw]
 simp only[Option.bind_some]
 by_cases hn:st.Data.length < w
 ·rw[decide_eq_true (by omega),cond_true,if_pos hn,spec_flt h.b];rfl
 rw[decide_eq_false (by omega),cond_false,if_neg hn]
 have ey:∃ y,(cond (decide ((w:Int) > 0)) ((getI st.Data (IntKind.wrap .i64 ((st.Data.length:Int)-1))).bind λ v_12=>some v_12) (some 0):Option Int)=some y/\(0 < w->y=yOf st):=by
  by_cases h1:0 < w
  ·exact ⟨yOf st,by rw[decide_eq_true (by omega),cond_true,get_y h.b (by omega)];rfl,λ _=>rfl⟩
  ·exact ⟨0,by rw[decide_eq_false (by omega),cond_false],λ h=>absurd h h1⟩
 have ex:∃ x,(cond (decide ((w:Int) > 1)) ((getI st.Data (IntKind.wrap .i64 ((st.Data.length:Int)-2))).bind λ v_12=>some v_12) (some 0):Option Int)=some x/\(1 < w->x=xOf st):=by
  by_cases h1:1 < w
  ·exact ⟨xOf st,by rw[decide_eq_true (by omega),cond_true,get_x h.b (by omega)];rfl,λ _=>rfl⟩
  ·exact ⟨0,by rw[decide_eq_false (by omega),cond_false],λ h=>absurd h h1⟩
 obtain ⟨y,ey,hy⟩:=ey
 obtain ⟨x,ex,hx⟩:=ex
 rw[ey,Option.bind_some,ex,Option.bind_some,he (by omega) x y hy hx]
end Go.Proofs.YtmedombacbpofaaGreatDoor
namespace Go.Proofs.YtmedombacbpofaaGreatDoor
open Go Go.Fm
set_option maxRecDepth 100000
def Both (st:GSt) (k:Int):Prop:=∃ st',g_spec_Do st k=some st'/\g_impl_does st k=some st'/\SG st'/\st'.Fuel=st.Fuel
theorem both_of {st st2:GSt} (h:SG st) (hf:st.Fault=0) {k:Int} {name:List UInt8} {w:Nat} {l:List Int} {f:Int} (hk:g_spec_PrimName k=some name) (hne:(name==[])=false) (hw:g_impl_wants k=some (w:Int)) (ht:g_spec_l08Takes name=some (w:Int)) (hw2:w<=2) (hl:l.length<=16)
  (hi:w<=st.Data.length->g_impl_St_effect name (xOf st) (yOf st) st=some (l,f,st2)) (h2:st2.Data=st.Data) (hu:st2.Fuel=st.Fuel) (hg:w<=st.Data.length->f=0->SG st2/\∀ x ∈ l,i32B x) (hfr:0<=f/\f<=13)
  (hs:w<=st.Data.length->∀ x y,(0 < w->y=yOf st)->(1 < w->x=xOf st)->((g_spec_l08Pure name x y).bind λ y_14=>cond y_14.2 ((g_spec_l08Put st (w:Int) y_14.1).bind λ y_15=>some y_15) ((g_spec_l08Other st name x y).bind λ y_16=>some y_16))=some (if f≠0 then flt st f else putS st st2 w l)):Both st k:=by
 refine ⟨_,spec_does h hf hk hne ht hw2 hs,impl_does h hk hne hw hl hi h2,?_,?_⟩
 ·split
  ·exact h.flt (by omega) (by omega)
  ·rename_i hn
   split
   ·exact h.flt hfr.1 hfr.2
   ·rename_i hf0
    obtain ⟨g1,g2⟩:=hg (by omega) (by omega)
    exact h.put g1 g2
 ·split
  ·rfl
  ·split
   ·rfl
   ·exact putS_fuel hu _ _
theorem both_pure {st:GSt} (h:SG st) (hf:st.Fault=0) {k:Int} {name:List UInt8} {w:Nat} {L:Int->Int->List Int} (hk:g_spec_PrimName k=some name) (hne:(name==[])=false) (hw:g_impl_wants k=some (w:Int)) (ht:g_spec_l08Takes name=some (w:Int)) (hw2:w<=2) (hl:∀ x y,(L x y).length<=3)
  (hi:g_impl_St_effect name (xOf st) (yOf st) st=some (L (xOf st) (yOf st),0,st)) (hs:∀ x y,g_spec_l08Pure name x y=some (L x y,true)) (hL:∀ x y,(0 < w->y=yOf st)->(1 < w->x=xOf st)->L x y=L (xOf st) (yOf st)) (hg:∀ x ∈ L (xOf st) (yOf st),i32B x):Both st k :=
 both_of h hf hk hne hw ht hw2 (l:=L (xOf st) (yOf st)) (f:=0) (st2:=st) (by have:=hl (xOf st) (yOf st);omega) (λ _=>hi) rfl rfl (λ _ _=>⟨h,hg⟩) (by omega) (λ hn x y hy hx=>by
  rw[hs,Option.bind_some,cond_true,hL x y hy hx,spec_put h.b hn (by show (L (xOf st) (yOf st)).length<=16;have:=hl (xOf st) (yOf st);omega),if_neg (by simp)];rfl)
theorem nm0:g_spec_PrimName 0=some [100,117,112]:=rfl
theorem wa0:g_impl_wants 0=some ((1:Nat):Int):=by unfold g_impl_wants g_impl_PrimEffect;rw[name_eq];rfl
theorem ta0:g_spec_l08Takes [100,117,112]=some ((1:Nat):Int):=rfl
theorem nm1:g_spec_PrimName 1=some [100,114,111,112]:=rfl
theorem wa1:g_impl_wants 1=some ((1:Nat):Int):=by unfold g_impl_wants g_impl_PrimEffect;rw[name_eq];rfl
theorem ta1:g_spec_l08Takes [100,114,111,112]=some ((1:Nat):Int):=rfl
theorem nm2:g_spec_PrimName 2=some [111,118,101,114]:=rfl
theorem wa2:g_impl_wants 2=some ((2:Nat):Int):=by unfold g_impl_wants g_impl_PrimEffect;rw[name_eq];rfl
theorem ta2:g_spec_l08Takes [111,118,101,114]=some ((2:Nat):Int):=rfl
theorem nm3:g_spec_PrimName 3=some [110,105,112]:=rfl
theorem wa3:g_impl_wants 3=some ((2:Nat):Int):=by unfold g_impl_wants g_impl_PrimEffect;rw[name_eq];rfl
theorem ta3:g_spec_l08Takes [110,105,112]=some ((2:Nat):Int):=rfl
theorem nm4:g_spec_PrimName 4=some [115,119,97,112]:=rfl
theorem wa4:g_impl_wants 4=some ((2:Nat):Int):=by unfold g_impl_wants g_impl_PrimEffect;rw[name_eq];rfl
theorem ta4:g_spec_l08Takes [115,119,97,112]=some ((2:Nat):Int):=rfl
theorem nm5:g_spec_PrimName 5=some [43]:=rfl
theorem wa5:g_impl_wants 5=some ((2:Nat):Int):=by unfold g_impl_wants g_impl_PrimEffect;rw[name_eq];rfl
theorem ta5:g_spec_l08Takes [43]=some ((2:Nat):Int):=rfl
theorem nm6:g_spec_PrimName 6=some [45]:=rfl
theorem wa6:g_impl_wants 6=some ((1:Nat):Int):=by unfold g_impl_wants g_impl_PrimEffect;rw[name_eq];rfl
theorem ta6:g_spec_l08Takes [45]=some ((1:Nat):Int):=rfl
theorem nm7:g_spec_PrimName 7=some [42]:=rfl
theorem wa7:g_impl_wants 7=some ((2:Nat):Int):=by unfold g_impl_wants g_impl_PrimEffect;rw[name_eq];rfl
theorem ta7:g_spec_l08Takes [42]=some ((2:Nat):Int):=rfl
theorem nm8:g_spec_PrimName 8=some [97,110,100]:=rfl
theorem wa8:g_impl_wants 8=some ((2:Nat):Int):=by unfold g_impl_wants g_impl_PrimEffect;rw[name_eq];rfl
theorem ta8:g_spec_l08Takes [97,110,100]=some ((2:Nat):Int):=rfl
theorem nm9:g_spec_PrimName 9=some [111,114]:=rfl
theorem wa9:g_impl_wants 9=some ((2:Nat):Int):=by unfold g_impl_wants g_impl_PrimEffect;rw[name_eq];rfl
theorem ta9:g_spec_l08Takes [111,114]=some ((2:Nat):Int):=rfl
theorem nm10:g_spec_PrimName 10=some [50,42]:=rfl
theorem wa10:g_impl_wants 10=some ((1:Nat):Int):=by unfold g_impl_wants g_impl_PrimEffect;rw[name_eq];rfl
theorem ta10:g_spec_l08Takes [50,42]=some ((1:Nat):Int):=rfl
theorem nm11:g_spec_PrimName 11=some [50,47]:=rfl
theorem wa11:g_impl_wants 11=some ((1:Nat):Int):=by unfold g_impl_wants g_impl_PrimEffect;rw[name_eq];rfl
theorem ta11:g_spec_l08Takes [50,47]=some ((1:Nat):Int):=rfl
theorem nm12:g_spec_PrimName 12=some [47,109,111,100]:=rfl
theorem wa12:g_impl_wants 12=some ((2:Nat):Int):=by unfold g_impl_wants g_impl_PrimEffect;rw[name_eq];rfl
theorem ta12:g_spec_l08Takes [47,109,111,100]=some ((2:Nat):Int):=rfl
theorem nm13:g_spec_PrimName 13=some [64]:=rfl
theorem wa13:g_impl_wants 13=some ((1:Nat):Int):=by unfold g_impl_wants g_impl_PrimEffect;rw[name_eq];rfl
theorem ta13:g_spec_l08Takes [64]=some ((1:Nat):Int):=rfl
theorem nm14:g_spec_PrimName 14=some [33]:=rfl
theorem wa14:g_impl_wants 14=some ((2:Nat):Int):=by unfold g_impl_wants g_impl_PrimEffect;rw[name_eq];rfl
theorem ta14:g_spec_l08Takes [33]=some ((2:Nat):Int):=rfl
theorem nm15:g_spec_PrimName 15=some [97]:=rfl
theorem wa15:g_impl_wants 15=some ((0:Nat):Int):=by unfold g_impl_wants g_impl_PrimEffect;rw[name_eq];rfl
theorem ta15:g_spec_l08Takes [97]=some ((0:Nat):Int):=rfl
theorem nm16:g_spec_PrimName 16=some [97,33]:=rfl
theorem wa16:g_impl_wants 16=some ((1:Nat):Int):=by unfold g_impl_wants g_impl_PrimEffect;rw[name_eq];rfl
theorem ta16:g_spec_l08Takes [97,33]=some ((1:Nat):Int):=rfl
theorem nm17:g_spec_PrimName 17=some [101,109,105,116]:=rfl
theorem wa17:g_impl_wants 17=some ((1:Nat):Int):=by unfold g_impl_wants g_impl_PrimEffect;rw[name_eq];rfl
theorem ta17:g_spec_l08Takes [101,109,105,116]=some ((1:Nat):Int):=rfl
theorem nm18:g_spec_PrimName 18=some [107,101,121]:=rfl
theorem wa18:g_impl_wants 18=some ((0:Nat):Int):=by unfold g_impl_wants g_impl_PrimEffect;rw[name_eq];rfl
theorem ta18:g_spec_l08Takes [107,101,121]=some ((0:Nat):Int):=rfl
theorem nm19:g_spec_PrimName 19=some [112,117,115,104]:=rfl
theorem wa19:g_impl_wants 19=some ((1:Nat):Int):=by unfold g_impl_wants g_impl_PrimEffect;rw[name_eq];rfl
theorem ta19:g_spec_l08Takes [112,117,115,104]=some ((1:Nat):Int):=rfl
theorem nm20:g_spec_PrimName 20=some [112,111,112]:=rfl
theorem wa20:g_impl_wants 20=some ((0:Nat):Int):=by unfold g_impl_wants g_impl_PrimEffect;rw[name_eq];rfl
theorem ta20:g_spec_l08Takes [112,111,112]=some ((0:Nat):Int):=rfl
theorem nm21:g_spec_PrimName 21=some [105]:=rfl
theorem wa21:g_impl_wants 21=some ((0:Nat):Int):=by unfold g_impl_wants g_impl_PrimEffect;rw[name_eq];rfl
theorem ta21:g_spec_l08Takes [105]=some ((0:Nat):Int):=rfl
theorem nm22:g_spec_PrimName 22=some [46]:=rfl
theorem wa22:g_impl_wants 22=some ((1:Nat):Int):=by unfold g_impl_wants g_impl_PrimEffect;rw[name_eq];rfl
theorem ta22:g_spec_l08Takes [46]=some ((1:Nat):Int):=rfl
theorem nm23:g_spec_PrimName 23=some [110,111,112]:=rfl
theorem wa23:g_impl_wants 23=some ((0:Nat):Int):=by unfold g_impl_wants g_impl_PrimEffect;rw[name_eq];rfl
theorem ta23:g_spec_l08Takes [110,111,112]=some ((0:Nat):Int):=rfl
theorem bv_ofInt (y:Int):(BitVec.ofInt 32 y).toNat=(y % 4294967296).toNat:=by rw[BitVec.toNat_ofInt];rfl
theorem not32 {y:Int} (h:i32B y):notI .i32 y=IntKind.wrap .i32 ((-1)-y):=by
 unfold notI bytesB
 show IntKind.wrap .i32 ((BitVec.ofInt 32 (if true=true then -1 else _) ^^^ BitVec.ofInt 32 y).toNat:Int)=_
 rw[if_pos rfl,show BitVec.ofInt 32 (-1)=BitVec.allOnes 32 from rfl,BitVec.allOnes_xor,BitVec.toNat_not,bv_ofInt]
 unfold i32B at h
 rw[wI32 (x:=(-1)-y) (by omega) (by omega)]
 unfold IntKind.wrap
 simp[IntKind.signed,IntKind.bits]
 omega
theorem word0 {st:GSt} (h:SG st) (hf:st.Fault=0):Both st 0 :=
 both_pure h hf nm0 rfl wa0 ta0 (by omega) (L:=λ x y=>[y,y]) (λ _ _=>by simp) (rfl) (λ _ _=>rfl) (λ x y hy _=>by rw[hy (by omega)]) (λ x hx=>by simp at hx;subst hx;exact h.y)
theorem word1 {st:GSt} (h:SG st) (hf:st.Fault=0):Both st 1 :=
 both_pure h hf nm1 rfl wa1 ta1 (by omega) (L:=λ x y=>[]) (λ _ _=>by simp) (rfl) (λ _ _=>rfl) (λ _ _ _ _=>rfl) (λ x hx=>by simp at hx)
theorem word2 {st:GSt} (h:SG st) (hf:st.Fault=0):Both st 2 :=
 both_pure h hf nm2 rfl wa2 ta2 (by omega) (L:=λ x y=>[x,y,x]) (λ _ _=>by simp) (rfl) (λ _ _=>rfl) (λ x y hy hx=>by rw[hy (by omega),hx (by omega)]) (λ x hx=>by simp at hx;rcases hx with rfl|rfl|rfl<;>first|exact h.x|exact h.y)
theorem word3 {st:GSt} (h:SG st) (hf:st.Fault=0):Both st 3 :=
 both_pure h hf nm3 rfl wa3 ta3 (by omega) (L:=λ x y=>[y]) (λ _ _=>by simp) (rfl) (λ _ _=>rfl) (λ x y hy _=>by rw[hy (by omega)]) (λ x hx=>by simp at hx;subst hx;exact h.y)
theorem word4 {st:GSt} (h:SG st) (hf:st.Fault=0):Both st 4 :=
 both_pure h hf nm4 rfl wa4 ta4 (by omega) (L:=λ x y=>[y,x]) (λ _ _=>by simp) (rfl) (λ _ _=>rfl) (λ x y hy hx=>by rw[hy (by omega),hx (by omega)]) (λ x hx=>by simp at hx;rcases hx with rfl|rfl<;>first|exact h.x|exact h.y)
theorem word5 {st:GSt} (h:SG st) (hf:st.Fault=0):Both st 5 :=
 both_pure h hf nm5 rfl wa5 ta5 (by omega) (L:=λ x y=>[IntKind.wrap .i32 (x+y)]) (λ _ _=>by simp) (rfl) (λ _ _=>rfl) (λ x y hy hx=>by rw[hy (by omega),hx (by omega)]) (λ x hx=>by rw[List.mem_singleton]at hx;subst hx;exact i32w _)
theorem word6 {st:GSt} (h:SG st) (hf:st.Fault=0):Both st 6 :=
 both_pure h hf nm6 rfl wa6 ta6 (by omega) (L:=λ x y=>[IntKind.wrap .i32 ((-1)-y)]) (λ _ _=>by simp) ((show g_impl_St_effect [45] (xOf st) (yOf st) st=some ([notI .i32 (yOf st)],0,st) from rfl).trans (by rw[not32 h.y])) (λ _ _=>rfl) (λ x y hy _=>by rw[hy (by omega)]) (λ x hx=>by rw[List.mem_singleton]at hx;subst hx;exact i32w _)
theorem word7 {st:GSt} (h:SG st) (hf:st.Fault=0):Both st 7 :=
 both_pure h hf nm7 rfl wa7 ta7 (by omega) (L:=λ x y=>[IntKind.wrap .i32 (x*y)]) (λ _ _=>by simp) (rfl) (λ _ _=>rfl) (λ x y hy hx=>by rw[hy (by omega),hx (by omega)]) (λ x hx=>by rw[List.mem_singleton]at hx;subst hx;exact i32w _)
theorem word8 {st:GSt} (h:SG st) (hf:st.Fault=0):Both st 8 :=
 both_pure h hf nm8 rfl wa8 ta8 (by omega) (L:=λ x y=>[andI .i32 x y]) (λ _ _=>by simp) (rfl) (λ _ _=>rfl) (λ x y hy hx=>by rw[hy (by omega),hx (by omega)]) (λ x hx=>by rw[List.mem_singleton]at hx;subst hx;exact i32w _)
theorem word9 {st:GSt} (h:SG st) (hf:st.Fault=0):Both st 9 :=
 both_pure h hf nm9 rfl wa9 ta9 (by omega) (L:=λ x y=>[xorI .i32 x y]) (λ _ _=>by simp) (rfl) (λ _ _=>rfl) (λ x y hy hx=>by rw[hy (by omega),hx (by omega)]) (λ x hx=>by rw[List.mem_singleton]at hx;subst hx;exact i32w _)
theorem word10 {st:GSt} (h:SG st) (hf:st.Fault=0):Both st 10 :=
 both_pure h hf nm10 rfl wa10 ta10 (by omega) (L:=λ x y=>[IntKind.wrap .i32 (y+y)]) (λ _ _=>by simp) ((show g_impl_St_effect [50,42] (xOf st) (yOf st) st=some ([IntKind.wrap .i32 (2*yOf st)],0,st) from rfl).trans (by rw[show 2*yOf st=yOf st+yOf st by omega])) (λ _ _=>rfl) (λ x y hy _=>by rw[hy (by omega)]) (λ x hx=>by rw[List.mem_singleton]at hx;subst hx;exact i32w _)
theorem word11 {st:GSt} (h:SG st) (hf:st.Fault=0):Both st 11 :=
 both_pure h hf nm11 rfl wa11 ta11 (by omega) (L:=λ x y=>[y / 2]) (λ _ _=>by simp) (rfl) (λ _ _=>rfl) (λ x y hy _=>by rw[hy (by omega)]) (λ x hx=>by simp at hx;subst hx;have:=h.y;unfold i32B at this ⊢;omega)
theorem word23 {st:GSt} (h:SG st) (hf:st.Fault=0):Both st 23 :=
 both_pure h hf nm23 rfl wa23 ta23 (by omega) (L:=λ x y=>[]) (λ _ _=>by simp) (rfl) (λ _ _=>rfl) (λ _ _ _ _=>rfl) (λ x hx=>by simp at hx)
end Go.Proofs.YtmedombacbpofaaGreatDoor
namespace Go.Proofs.YtmedombacbpofaaGreatDoor
open Go Go.Fm
set_option maxRecDepth 100000
theorem put0 {st:GSt} (h:SB st) {w:Nat} (hw:w<=st.Data.length) (hw1:0 < w\/st.Data.length<=16):putS st st w []=dat st (st.Data.take (st.Data.length-w)):=by
 have:=h.d
 unfold putS
 rw[if_neg (by simp;omega),List.append_nil]
theorem put0' {st st2:GSt} (h:SB st) {w:Nat} (hw:w<=st.Data.length):putS st st2 w []=dat st2 (st.Data.take (st.Data.length-w)):=by
 have:=h.d
 unfold putS
 rw[if_neg (by simp;omega),List.append_nil]
theorem put_0 {st:GSt} (h:SB st) {l:List Int} (hl:l.length<=16):g_spec_l08Put st 0 l=some (putS st st 0 l):=spec_put (w:=0) h (Nat.zero_le _) hl
theorem put_1 {st:GSt} (h:SB st) {l:List Int} (hw:1<=st.Data.length) (hl:l.length<=16):g_spec_l08Put st 1 l=some (putS st st 1 l):=spec_put (w:=1) h hw hl
theorem put_2 {st:GSt} (h:SB st) {l:List Int} (hw:2<=st.Data.length) (hl:l.length<=16):g_spec_l08Put st 2 l=some (putS st st 2 l):=spec_put (w:=2) h hw hl
theorem notpure {name:List UInt8} {w:Nat} {st:GSt} {x y:Int} {R:Option GSt} (hp:g_spec_l08Pure name x y=some ([],false)) (ho:g_spec_l08Other st name x y=R) :
  ((g_spec_l08Pure name x y).bind λ y_14=>cond y_14.2 ((g_spec_l08Put st (w:Int) y_14.1).bind λ y_15=>some y_15) ((g_spec_l08Other st name x y).bind λ y_16=>some y_16))=R:=by
 rw[hp,Option.bind_some,cond_false,ho]
 cases R<;>rfl
theorem word12 {st:GSt} (h:SG st) (hf:st.Fault=0):Both st 12:=by
 have hy:=h.y
 have hx:=h.x
 unfold i32B at hx hy
 by_cases hz:yOf st=0
 ·refine both_of h hf nm12 rfl wa12 ta12 (by omega) (l:=[]) (f:=5) (st2:=st) (by simp) (λ _ => ?_) rfl rfl (λ _ e=>by cases e) (by omega) (λ hn x y ey ex=>notpure rfl ?_)
  ·rw[hz];rfl
  ·rw[ey (by omega),hz]
   show ((g_spec_l08Fault st 5).bind _).bind _=_
   rw[spec_flt h.b];rfl
 ·have e1:quoI .i64 (IntKind.wrap .i64 (xOf st)) (IntKind.wrap .i64 (yOf st))=some (IntKind.wrap .i64 (Int.tdiv (xOf st) (yOf st))):=by
   rw[wI64 (by omega) (by omega),wI64 (by omega) (by omega)];unfold quoI;rw[if_neg hz]
  have e2:remI .i64 (IntKind.wrap .i64 (xOf st)) (IntKind.wrap .i64 (yOf st))=some (Int.tmod (xOf st) (yOf st)):=by
   rw[wI64 (by omega) (by omega),wI64 (by omega) (by omega)];unfold remI;rw[if_neg hz]
  refine both_of h hf nm12 rfl wa12 ta12 (by omega) (l:=[IntKind.wrap .i32 (Int.tmod (xOf st) (yOf st)),IntKind.wrap .i32 (IntKind.wrap .i64 (Int.tdiv (xOf st) (yOf st)))]) (f:=0) (st2:=st) (by simp) (λ _ => ?_) rfl rfl (λ _ _=>⟨h,λ x hx => ?_⟩) (by omega) (λ hn x y ey ex=>notpure rfl ?_)
  ·show (((cond (yOf st==0) (some ([],5)) ((quoI .i64 (IntKind.wrap .i64 (xOf st)) (IntKind.wrap .i64 (yOf st))).bind λ v_6=>(remI .i64 (IntKind.wrap .i64 (xOf st)) (IntKind.wrap .i64 (yOf st))).bind λ v_7=>some ([IntKind.wrap .i32 v_7,IntKind.wrap .i32 v_6],0)):Option (List Int×Int)).bind _:Option (GSt ⊕ (List Int×Int×GSt))).bind _)=_
   rw[show (yOf st==0)=false by simp[hz],cond_false,e1,e2];rfl
  ·simp only[List.mem_cons,List.not_mem_nil,or_false]at hx
   rcases hx with rfl|rfl<;>exact i32w _
  ·rw[ey (by omega),ex (by omega)]
   show ((cond (yOf st==0) ((g_spec_l08Fault st 5).bind λ y_5=>some y_5) ((quoI .i64 (IntKind.wrap .i64 (xOf st)) (IntKind.wrap .i64 (yOf st))).bind λ v_6=>(remI .i64 (IntKind.wrap .i64 (xOf st)) (IntKind.wrap .i64 (yOf st))).bind λ v_7=>(g_spec_l08Put st 2 [IntKind.wrap .i32 v_7,IntKind.wrap .i32 v_6]).bind λ y_8=>some y_8):Option GSt).bind _)=_
   rw[show (yOf st==0)=false by simp[hz],cond_false,e1,Option.bind_some,e2,Option.bind_some,put_2 h.b hn (by simp)];rfl
theorem word15 {st:GSt} (h:SG st) (hf:st.Fault=0):Both st 15 :=
 both_of h hf nm15 rfl wa15 ta15 (by omega) (l:=[st.A]) (f:=0) (st2:=st) (by simp) (λ _=>rfl) rfl rfl (λ _ _=>⟨h,λ x hx=>by rw[List.mem_singleton]at hx;subst hx;exact h.a⟩) (by omega) (λ hn x y ey ex=>notpure rfl (by
  show (g_spec_l08Put st 0 [st.A]).bind _=_
  rw[put_0 h.b (by simp)];rfl))
theorem word16 {st:GSt} (h:SG st) (hf:st.Fault=0):Both st 16 :=
 both_of h hf nm16 rfl wa16 ta16 (by omega) (l:=[]) (f:=0) (st2:=⟨st.Data,st.Ret,yOf st,st.Mem,st.Cells,st.Vars,st.Out,st.In,st.Fault,st.Fuel⟩) (by simp) (λ _=>rfl) rfl rfl
  (λ _ _=>⟨⟨⟨h.b.d,h.b.r,h.b.m,h.b.v,h.b.o,h.b.i,h.b.rk,h.b.vb,h.b.c,h.b.cl,h.b.f,h.b.u⟩,h.d,h.m,h.y,h.r⟩,λ x hx=>by simp at hx⟩) (by omega) (λ hn x y ey ex=>notpure rfl (by
  rw[ey (by omega)]
  show (g_spec_l08Put st 1 ([]:List Int)).bind _=_
  rw[put_1 h.b hn (by simp),put0 h.b hn (.inl (by omega)),put0' h.b hn];rfl))
def outS (st:GSt) (o:List Int):GSt:=⟨st.Data,st.Ret,st.A,st.Mem,st.Cells,st.Vars,o,st.In,st.Fault,st.Fuel⟩
theorem SG.out {st:GSt} (h:SG st) {o:List Int} (ho:o.length<=400):SG (outS st o):=⟨⟨h.b.d,h.b.r,h.b.m,h.b.v,ho,h.b.i,h.b.rk,h.b.vb,h.b.c,h.b.cl,h.b.f,h.b.u⟩,h.d,h.m,h.a,h.r⟩
theorem written_eq {st:GSt} (h:SB st) {s:List UInt8} (hs:s.length<=1000):g_impl_St_written s st=some (if st.Out.length+s.length > 400 then (13,st) else (0,outS st (st.Out++bsOf s))):=by
 have:=h.o
 unfold g_impl_St_written
 rw[wI64 (by omega) (by omega)]
 by_cases hx:st.Out.length+s.length > 400
 ·rw[decide_eq_true (by omega),cond_true,if_pos hx]
 ·rw[decide_eq_false (by omega),cond_false,if_neg hx,app_eq (by unfold bsOf;rw[List.length_map];omega)];rfl
theorem say_eq {st:GSt} (h:SB st) (hn:1<=st.Data.length) {b:List Int} (hs:b.length<=1000):g_spec_l08Say st b=some (if st.Out.length+b.length > 400 then flt st 13 else putS st (outS st (st.Out++b)) 1 []):=by
 have:=h.o
 unfold g_spec_l08Say
 rw[wI64 (by omega) (by omega),spec_flt h,put_1 h hn (by simp),put0 h hn (.inl (by omega)),put0' h hn]
 by_cases hx:st.Out.length+b.length > 400
 ·rw[decide_eq_true (by omega),cond_true,if_pos hx];rfl
 ·rw[decide_eq_false (by omega),cond_false,if_neg hx,Option.bind_some,show (dat st (st.Data.take (st.Data.length-1))).Out=st.Out from rfl,app_eq (by omega)];rfl
theorem bsOf_len (s:List UInt8):(bsOf s).length=s.length:=by unfold bsOf;simp
theorem word_out {st:GSt} (h:SG st) (hf:st.Fault=0) {k:Int} {name:List UInt8} {s:List UInt8} (hk:g_spec_PrimName k=some name) (hne:(name==[])=false) (hw:g_impl_wants k=some ((1:Nat):Int)) (ht:g_spec_l08Takes name=some ((1:Nat):Int)) (hs:s.length<=1000)
  (hi:g_impl_St_effect name (xOf st) (yOf st) st=(g_impl_St_written s st).bind λ r=>some ([],r.1,r.2)) (hp:∀ x y,g_spec_l08Pure name x y=some ([],false)) (ho:∀ x,g_spec_l08Other st name x (yOf st)=g_spec_l08Say st (bsOf s)):Both st k:=by
 rw[written_eq h.b hs]at hi
 by_cases hx:st.Out.length+s.length > 400
 ·rw[if_pos hx]at hi
  exact both_of h hf hk hne hw ht (by omega) (l:=[]) (f:=13) (st2:=st) (by simp) (λ _=>hi) rfl rfl (λ _ e=>by cases e) (by omega) (λ hn x y ey ex=>notpure (hp _ _) (by
   rw[ey (by omega),ho,say_eq h.b hn (by rw[bsOf_len];exact hs),if_pos (by rw[bsOf_len];exact hx)];rfl))
 ·rw[if_neg hx]at hi
  exact both_of h hf hk hne hw ht (by omega) (l:=[]) (f:=0) (st2:=outS st (st.Out++bsOf s)) (by simp) (λ _=>hi) rfl rfl (λ _ _=>⟨h.out (by rw[List.length_append,bsOf_len];omega),λ x hx=>by simp at hx⟩) (by omega) (λ hn x y ey ex=>notpure (hp _ _) (by
   rw[ey (by omega),ho,say_eq h.b hn (by rw[bsOf_len];exact hs),if_neg (by rw[bsOf_len];exact hx)];rfl))
theorem u8_and {y:Int} (h:i32B y):IntKind.wrap .u8 (andI .i32 y 255)=y % 256:=by
 have e:(bytesB .i32 y &&& bytesB .i32 255).toNat=(y % 256).toNat:=by
  show (BitVec.ofInt 32 y &&& BitVec.ofInt 32 255).toNat=_
  rw[BitVec.toNat_and,bv_ofInt,show (BitVec.ofInt 32 255).toNat=2 ^ 8-1 from rfl,Nat.and_two_pow_sub_one_eq_mod]
  omega
 unfold andI
 rw[e,wI32 (by omega) (by omega)]
 unfold IntKind.wrap
 simp[IntKind.signed,IntKind.bits]
 omega
theorem u8_w (y:Int):IntKind.wrap .u8 y=y % 256:=by
 unfold IntKind.wrap
 simp[IntKind.signed,IntKind.bits]
theorem bs_one {n:Int} (h0:0<=n) (h1:n < 256):bsOf (strOf [n])=[n]:=by
 unfold bsOf strOf
 simp only[List.map_cons,List.map_nil,List.cons.injEq,and_true]
 rw[UInt8.toNat_ofNat']
 omega
theorem word17 {st:GSt} (h:SG st) (hf:st.Fault=0):Both st 17 :=
 word_out h hf nm17 rfl wa17 ta17 (s:=strOf [IntKind.wrap .u8 (yOf st)]) (by simp[strOf]) (by
  show ((g_impl_St_written (strOf [IntKind.wrap .u8 (yOf st)]) st).bind λ y_20=>some (Sum.inr ([],y_20.1,y_20.2)):Option (GSt ⊕ (List Int×Int×GSt))).bind _=_
  rw[Option.bind_assoc];rfl) (λ _ _=>rfl) (λ x=>by
  show (g_spec_l08Say st [IntKind.wrap .u8 (andI .i32 (yOf st) 255)]).bind _=_
  rw[u8_and h.y,u8_w,bs_one (by omega) (by omega)]
  cases g_spec_l08Say st [yOf st % 256]<;>rfl)
theorem word22 {st:GSt} (h:SG st) (hf:st.Fault=0):Both st 22:=by
 have hy:=h.y
 unfold i32B at hy
 have hl:=itoa_len (n:=yOf st) (by omega) (by omega)
 refine word_out h hf nm22 rfl wa22 ta22 (s:=Lib.itoa (yOf st)++[32]) (by simp;omega) ?_ (λ _ _=>rfl) (λ x => ?_)
 ·show ((g_impl_DecText (IntKind.wrap .i64 (yOf st))).bind λ y_21=>(catS y_21 [32]).bind λ v_22=>(g_impl_St_written v_22 st).bind λ y_23=>some (Sum.inr ([],y_23.1,y_23.2)):Option (GSt ⊕ (List Int×Int×GSt))).bind _=_
  rw[wI64 (by omega) (by omega),impl_dec (by omega) (by omega),Option.bind_some,catS_eq (by simp;omega),Option.bind_some,Option.bind_assoc];rfl
 ·show ((g_spec_DecText (IntKind.wrap .i64 (yOf st))).bind λ y_12=>(catS y_12 [32]).bind λ v_13=>(s2b v_13).bind λ v_14=>(g_spec_l08Say st v_14).bind λ y_15=>some y_15)=_
  have e:s2b (Lib.itoa (yOf st)++[32])=some (bsOf (Lib.itoa (yOf st)++[32])):=by
   unfold s2b;rw[if_pos (by unfold maxN;simp;omega)]
  rw[wI64 (by omega) (by omega),spec_dec (by omega) (by omega),Option.bind_some,catS_eq (by simp;omega),Option.bind_some,e,Option.bind_some]
  cases g_spec_l08Say st (bsOf (Lib.itoa (yOf st)++[32]))<;>rfl
def inS (st:GSt) (i:List Int):GSt:=⟨st.Data,st.Ret,st.A,st.Mem,st.Cells,st.Vars,st.Out,i,st.Fault,st.Fuel⟩
theorem word18 {st:GSt} (h:SG st) (hf:st.Fault=0):Both st 18:=by
 have hi:=h.b.i
 by_cases h0:st.In.length=0
 ·refine both_of h hf nm18 rfl wa18 ta18 (by omega) (l:=[-1]) (f:=0) (st2:=st) (by simp) (λ _ => ?_) rfl rfl (λ _ _=>⟨h,λ x hx=>by rw[List.mem_singleton]at hx;subst hx;exact ⟨by omega,by omega⟩⟩) (by omega) (λ hn x y ey ex=>notpure rfl ?_)
  ·show ((cond ((st.In.length:Int)==0) _ _:Option (GSt ⊕ (List Int×Int×GSt)))).bind _=_
   rw[h0];rfl
  ·show ((cond (decide ((st.In.length:Int) > 0)) ((getI st.In 0).bind λ v_17=>some (IntKind.wrap .i32 v_17)) (some (-1)):Option Int).bind _)=_
   rw[decide_eq_false (by omega),cond_false,Option.bind_some,put_0 h.b (by simp),Option.bind_some]
   have:(putS st st 0 [-1]).In.length=0:=by unfold putS;split<;>exact h0
   rw[this]
   cases (putS st st 0 [-1]).Fault==0<;>rfl
 ·have e0:getI st.In 0=some st.In[0]:=by rw[show (0:Int)=((0:Nat):Int) from rfl,getI_nat,List.getElem?_eq_getElem (by omega)]
  have e1:subL st.In 1 ((st.In.length:Nat):Int)=some (st.In.drop 1):=by rw[subL_drop (by omega) (by omega)];rfl
  refine both_of h hf nm18 rfl wa18 ta18 (by omega) (l:=[IntKind.wrap .i32 st.In[0]]) (f:=0) (st2:=inS st (st.In.drop 1)) (by simp) (λ _ => ?_) rfl rfl (λ _ _=>⟨⟨⟨h.b.d,h.b.r,h.b.m,h.b.v,h.b.o,by show (st.In.drop 1).length<=100;rw[List.length_drop];omega,h.b.rk,h.b.vb,h.b.c,h.b.cl,h.b.f,h.b.u⟩,h.d,h.m,h.a,h.r⟩,λ x hx=>by rw[List.mem_singleton]at hx;subst hx;exact i32w _⟩) (by omega) (λ hn x y ey ex=>notpure rfl ?_)
  ·show ((cond ((st.In.length:Int)==0) _ ((getI st.In 0).bind λ v_24=>(subL st.In 1 ((st.In.length:Nat):Int)).bind λ v_25=>some (.inr ([IntKind.wrap .i32 v_24],0,(⟨st.Data,st.Ret,st.A,st.Mem,st.Cells,st.Vars,st.Out,v_25,st.Fault,st.Fuel⟩:GSt)))):Option (GSt ⊕ (List Int×Int×GSt)))).bind _=_
   rw[show ((st.In.length:Int)==0)=false by rw[beq_eq_false_iff_ne];omega,cond_false,e0,Option.bind_some,e1];rfl
  ·show ((cond (decide ((st.In.length:Int) > 0)) ((getI st.In 0).bind λ v_17=>some (IntKind.wrap .i32 v_17)) (some (-1)):Option Int).bind _)=_
   rw[decide_eq_true (p:=(st.In.length:Int) > 0) (by omega),cond_true,e0,Option.bind_some,Option.bind_some,put_0 h.b (by simp),Option.bind_some]
   unfold putS
   by_cases hx:st.Data.length-0+[IntKind.wrap .i32 st.In[0]].length > 16
   ·rw[if_pos hx,if_pos hx];rfl
   ·rw[if_neg hx,if_neg hx]
    show (((cond (st.Fault==0) (some (decide ((st.In.length:Int) > 0))) (some false):Option Bool).bind _:Option GSt)).bind _=_
    rw[hf,show ((0:Int)==0)=true from rfl,cond_true,decide_eq_true (p:=(st.In.length:Int) > 0) (by omega),Option.bind_some,cond_true]
    show ((subL st.In 1 ((st.In.length:Nat):Int)).bind _).bind _=_
    rw[e1];simp[dat,inS,hf]
def retS (st:GSt) (r:List GSlot):GSt:=⟨st.Data,r,st.A,st.Mem,st.Cells,st.Vars,st.Out,st.In,st.Fault,st.Fuel⟩
theorem SG.ret {st:GSt} (h:SG st) {r:List GSlot} (hl:r.length<=24) (hk:∀ s ∈ r,0<=s.Kind/\s.Kind<=2) (hn:∀ s ∈ r,i32B s.N):SG (retS st r) :=
 ⟨⟨h.b.d,hl,h.b.m,h.b.v,h.b.o,h.b.i,hk,h.b.vb,h.b.c,h.b.cl,h.b.f,h.b.u⟩,h.d,h.m,h.a,hn⟩
theorem word19 {st:GSt} (h:SG st) (hf:st.Fault=0):Both st 19:=by
 have hr:=h.b.r
 by_cases h0:st.Ret.length=24
 ·refine both_of h hf nm19 rfl wa19 ta19 (by omega) (l:=[]) (f:=3) (st2:=st) (by simp) (λ _ => ?_) rfl rfl (λ _ e=>by cases e) (by omega) (λ hn x y ey ex=>notpure rfl ?_)
  ·show ((cond ((st.Ret.length:Int)==24) _ _:Option (GSt ⊕ (List Int×Int×GSt)))).bind _=_
   rw[h0];rfl
  ·show ((cond ((st.Ret.length:Int)==24) ((g_spec_l08Fault st 3).bind _) _:Option GSt))=_
   rw[h0,spec_flt h.b];rfl
 ·have e1:app st.Ret [(⟨0,yOf st⟩:GSlot)]=some (st.Ret++[⟨0,yOf st⟩]):=app_eq (by simp;omega)
  refine both_of h hf nm19 rfl wa19 ta19 (by omega) (l:=[]) (f:=0) (st2:=retS st (st.Ret++[⟨0,yOf st⟩])) (by simp) (λ _ => ?_) rfl rfl (λ _ _=>⟨h.ret (by simp;omega) (λ s hs => ?_) (λ s hs => ?_),λ x hx=>by simp at hx⟩) (by omega) (λ hn x y ey ex=>notpure rfl ?_)
  ·show ((cond ((st.Ret.length:Int)==24) _ ((app st.Ret [(⟨0,yOf st⟩:GSlot)]).bind λ v_26=>some (.inl (⟨st.Data,v_26,st.A,st.Mem,st.Cells,st.Vars,st.Out,st.In,st.Fault,st.Fuel⟩:GSt))):Option (GSt ⊕ (List Int×Int×GSt)))).bind _=_
   rw[show ((st.Ret.length:Int)==24)=false by simp;omega,cond_false,e1];rfl
  ·rcases List.mem_append.1 hs with hs|hs
   ·exact h.b.rk s hs
   ·rw[List.mem_singleton]at hs;subst hs;exact ⟨by show (0:Int)<=0;omega,by show (0:Int)<=2;omega⟩
  ·rcases List.mem_append.1 hs with hs|hs
   ·exact h.r s hs
   ·rw[List.mem_singleton]at hs;subst hs;exact h.y
  ·rw[ey (by omega)]
   show ((cond ((st.Ret.length:Int)==24) _ ((g_spec_l08Put st 1 ([]:List Int)).bind _):Option GSt))=_
   rw[show ((st.Ret.length:Int)==24)=false by simp;omega,cond_false,put_1 h.b hn (by simp),put0 h.b hn (.inl (by omega)),put0' h.b hn,Option.bind_some]
   show (app st.Ret [(⟨0,yOf st⟩:GSlot)]).bind _=_
   rw[e1];rfl
end Go.Proofs.YtmedombacbpofaaGreatDoor
namespace Go.Proofs.YtmedombacbpofaaGreatDoor
open Go Go.Fm
set_option maxRecDepth 100000
theorem place_mem {st:GSt} (h:SB st) {y:Int} (hy:i32B y) (h0:0<=y) (h1:y<=31):g_spec_l08Place st y=some y/\g_impl_St_place_rd y st=some (y,true,true):=by
 unfold i32B at hy
 unfold g_spec_l08Place g_impl_St_place_rd
 rw[wI64 (x:=y) (by omega) (by omega),specIn_eq,within_eq,decide_eq_true ⟨h0,h1⟩]
 exact ⟨rfl,rfl⟩
theorem place_cell {st:GSt} (h:SB st) {y:Int} (hy:i32B y) (h0:1024<=y) (h1:y<=1023+st.Cells.length):g_spec_l08Place st y=some (y-992)/\g_impl_St_place_rd y st=some (y-1024,false,true):=by
 unfold i32B at hy
 have:=h.cl
 unfold g_spec_l08Place g_impl_St_place_rd
 rw[wI64 (x:=y) (by omega) (by omega),wI64 (x:=1024+(st.Cells.length:Int)) (by omega) (by omega),wI64 (x:=1024+(st.Cells.length:Int)-1) (by omega) (by omega),wI64 (x:=32+y) (by omega) (by omega),wI64 (x:=32+y-1024) (by omega) (by omega),wI64 (x:=y-1024) (by omega) (by omega),wI64 (x:=(st.Cells.length:Int)-1) (by omega) (by omega),
  specIn_eq,specIn_eq,within_eq,within_eq,decide_eq_false (by omega),decide_eq_true (p:=(1024:Int)<=y/\y<=1024+(st.Cells.length:Int)-1) (by omega),decide_eq_true (p:=(0:Int)<=y-1024/\y-1024<=(st.Cells.length:Int)-1) (by omega)]
 refine ⟨?_,rfl⟩
 show some (32+y-1024)=_
 congr 1;omega
theorem place_no {st:GSt} (h:SB st) {y:Int} (hy:i32B y) (h0:¬(0<=y/\y<=31)) (h1:¬(1024<=y/\y<=1023+st.Cells.length)):g_spec_l08Place st y=some (-1)/\g_impl_St_place_rd y st=some (0,false,false):=by
 unfold i32B at hy
 have:=h.cl
 unfold g_spec_l08Place g_impl_St_place_rd
 rw[wI64 (x:=y) (by omega) (by omega),wI64 (x:=1024+(st.Cells.length:Int)) (by omega) (by omega),wI64 (x:=1024+(st.Cells.length:Int)-1) (by omega) (by omega),wI64 (x:=y-1024) (by omega) (by omega),wI64 (x:=(st.Cells.length:Int)-1) (by omega) (by omega),
  specIn_eq,specIn_eq,within_eq,within_eq,decide_eq_false h0,decide_eq_false (p:=(1024:Int)<=y/\y<=1024+(st.Cells.length:Int)-1) (by omega),decide_eq_false (p:=(0:Int)<=y-1024/\y-1024<=(st.Cells.length:Int)-1) (by omega)]
 exact ⟨rfl,rfl⟩
theorem getI_int {α:Type} {xs:List α} {i:Int} (h0:0<=i) (h:i.toNat < xs.length):getI xs i=some xs[i.toNat]:=by
 have:getI xs ((i.toNat:Nat):Int)=some xs[i.toNat]:=by rw[getI_nat,List.getElem?_eq_getElem h]
 rwa [Int.toNat_of_nonneg h0]at this
theorem word13 {st:GSt} (h:SG st) (hf:st.Fault=0):Both st 13:=by
 have hy:=h.y
 have hm:=h.b.m
 by_cases ha:0<=yOf st/\yOf st<=31
 ·obtain ⟨p1,p2⟩:=place_mem h.b hy ha.1 ha.2
  have hlt:(yOf st).toNat < st.Mem.length:=by omega
  have e:getI st.Mem (yOf st)=some st.Mem[(yOf st).toNat]:=getI_int (by omega) hlt
  refine both_of h hf nm13 rfl wa13 ta13 (by omega) (l:=[st.Mem[(yOf st).toNat]]) (f:=0) (st2:=st) (by simp) (λ _ => ?_) rfl rfl (λ _ _=>⟨h,λ x hx=>by rw[List.mem_singleton]at hx;subst hx;exact h.m _ (List.getElem_mem _)⟩) (by omega) (λ hn x y ey ex=>notpure rfl ?_)
  ·show (((g_impl_St_place_rd (yOf st) st).bind _:Option (GSt ⊕ (List Int×Int×GSt)))).bind _=_
   rw[p2,Option.bind_some]
   show (((getI st.Mem (yOf st)).bind _:Option (GSt ⊕ (List Int×Int×GSt)))).bind _=_
   rw[e];rfl
  ·rw[ey (by omega)]
   show ((g_spec_l08Place st (yOf st)).bind _).bind _=_
   rw[p1,Option.bind_some,decide_eq_false (by omega),cond_false,decide_eq_true (by omega),cond_true,e,Option.bind_some,put_1 h.b hn (by simp)];rfl
 ·by_cases hb:1024<=yOf st/\yOf st<=1023+st.Cells.length
  ·obtain ⟨p1,p2⟩:=place_cell h.b hy hb.1 hb.2
   have hcl:=h.b.cl
   have hlt:(yOf st-1024).toNat < st.Cells.length:=by omega
   have e:getI st.Cells (yOf st-1024)=some st.Cells[(yOf st-1024).toNat]:=getI_int (by omega) hlt
   refine both_of h hf nm13 rfl wa13 ta13 (by omega) (l:=[IntKind.wrap .i32 st.Cells[(yOf st-1024).toNat]]) (f:=0) (st2:=st) (by simp) (λ _ => ?_) rfl rfl (λ _ _=>⟨h,λ x hx=>by rw[List.mem_singleton]at hx;subst hx;exact i32w _⟩) (by omega) (λ hn x y ey ex=>notpure rfl ?_)
   ·show (((g_impl_St_place_rd (yOf st) st).bind _:Option (GSt ⊕ (List Int×Int×GSt)))).bind _=_
    rw[p2,Option.bind_some]
    show (((getI st.Cells (yOf st-1024)).bind _:Option (GSt ⊕ (List Int×Int×GSt)))).bind _=_
    rw[e];rfl
   ·rw[ey (by omega)]
    show ((g_spec_l08Place st (yOf st)).bind _).bind _=_
    rw[p1,Option.bind_some,decide_eq_false (by omega),cond_false,decide_eq_false (by omega),cond_false,wI64 (by omega) (by omega),show yOf st-992-32=yOf st-1024 by omega,e,Option.bind_some,put_1 h.b hn (by simp)];rfl
  ·obtain ⟨p1,p2⟩:=place_no h.b hy ha hb
   refine both_of h hf nm13 rfl wa13 ta13 (by omega) (l:=[]) (f:=4) (st2:=st) (by simp) (λ _ => ?_) rfl rfl (λ _ e=>by cases e) (by omega) (λ hn x y ey ex=>notpure rfl ?_)
   ·show (((g_impl_St_place_rd (yOf st) st).bind _:Option (GSt ⊕ (List Int×Int×GSt)))).bind _=_
    rw[p2];rfl
   ·rw[ey (by omega)]
    show ((g_spec_l08Place st (yOf st)).bind _).bind _=_
    rw[p1,Option.bind_some,decide_eq_true (by omega),cond_true,spec_flt h.b];rfl
def cellS (o:GSt) (v n:Int):GSt:=⟨o.Data,o.Ret,o.A,o.Mem,o.Cells.set v.toNat (IntKind.wrap .u32 n),o.Vars,o.Out,o.In,o.Fault,o.Fuel⟩
theorem store_loop {st:GSt} {n a:Int} {z o:GSt} (hv:st.Vars.length<=20) (ha : -1<=a) (ha2:a<=100000) (hc:32<=a->(a-32).toNat < o.Cells.length) (hlow:a < 32->∀ v ∈ st.Vars,(0<=a/\v=a-32)->False):∀ (k i:Nat),i<=st.Vars.length->st.Vars.length-i < k →
  g_spec_l08Store_l0 n a st k (i:Int) z o=some (if (0<=a)/\(st.Vars.drop i).any (λ x=>a-32==x)=true then .inr (cellS o (a-32) n,cellS o (a-32) n) else .inl (z,o)):=by
 intro k
 induction k with
 | zero=>intro i h0 h1;omega
 | succ k ih =>
  intro i h0 h1
  rw[g_spec_l08Store_l0]
  by_cases hn:i < st.Vars.length
  ·rw[decide_eq_true (by omega),cond_true,getI_nat,List.getElem?_eq_getElem hn,List.drop_eq_getElem_cons hn,List.any_cons,wI64 (x:=a-32) (by omega) (by omega),nxt (by omega),ih (i+1) (by omega) (by omega)]
   simp only[Option.bind_some]
   by_cases hp:0<=a
   ·rw[decide_eq_true (by omega),cond_true,Option.bind_some]
    by_cases he:st.Vars[i]=a-32
    ·rw[show (st.Vars[i]==a-32)=true by simp[he],show (a-32==st.Vars[i])=true by simp[he],cond_true,Bool.true_or,if_pos ⟨hp,rfl⟩,he]
     by_cases h32:a < 32
     ·exact (hlow h32 _ (List.getElem_mem hn) ⟨hp,he⟩).elim
     ·rw[getI_int (by omega) (hc (by omega))]
      rfl
    ·rw[show (st.Vars[i]==a-32)=false by simp[he],show (a-32==st.Vars[i])=false by simp;omega,cond_false,Bool.false_or]
   ·rw[decide_eq_false (by omega),cond_false,Option.bind_some,cond_false,if_neg (λ h=>hp h.1),if_neg (λ h=>hp h.1)]
  ·rw[decide_eq_false (by omega),cond_false,List.drop_eq_nil_of_le (by omega),if_neg (by simp)]
def memS (st:GSt) (v n:Int):GSt:=⟨st.Data,st.Ret,st.A,st.Mem.set v.toNat n,st.Cells,st.Vars,st.Out,st.In,st.Fault,st.Fuel⟩
theorem SG.mem {st:GSt} (h:SG st) {v n:Int} (hn:i32B n):SG (memS st v n) :=
 ⟨⟨h.b.d,h.b.r,by show (st.Mem.set v.toNat n).length=32;rw[List.length_set];exact h.b.m,h.b.v,h.b.o,h.b.i,h.b.rk,h.b.vb,h.b.c,h.b.cl,h.b.f,h.b.u⟩,h.d,λ x hx=>(List.mem_or_eq_of_mem_set hx).elim (h.m x) (λ e=>e▸hn),h.a,h.r⟩
theorem SG.cell {st:GSt} (h:SG st) {v n:Int}:SG (cellS st v n):=by
 refine ⟨⟨h.b.d,h.b.r,h.b.m,h.b.v,h.b.o,h.b.i,h.b.rk,?_,?_,?_,h.b.f,h.b.u⟩,h.d,h.m,h.a,h.r⟩
 ·show VarsB (st.Cells.set v.toNat (IntKind.wrap .u32 n)).length st.Vars=true
  rw[List.length_set];exact h.b.vb
 ·show ((Int.tmod ((st.Cells.set v.toNat (IntKind.wrap .u32 n)).length:Int) 64)==0)=true
  rw[List.length_set];exact h.b.c
 ·show (st.Cells.set v.toNat (IntKind.wrap .u32 n)).length<=768
  rw[List.length_set];exact h.b.cl
theorem word14 {st:GSt} (h:SG st) (hf:st.Fault=0):Both st 14:=by
 have hy:=h.y
 have hx:=h.x
 have hm:=h.b.m
 have hv:=h.b.v
 have hcl:=h.b.cl
 unfold i32B at hy
 have lp:∀ (a:Int) (o:GSt),-1<=a->a<=100000->(32<=a->(a-32).toNat < o.Cells.length)->(a < 32->a = -1)->g_spec_l08Store_l0 (xOf st) a st bigK 0 (⟨[],[],0,[],[],[],[],[],0,0⟩:GSt) o=some (if (0<=a)/\(st.Vars.any (λ x=>a-32==x))=true then .inr (cellS o (a-32) (xOf st),cellS o (a-32) (xOf st)) else .inl (⟨[],[],0,[],[],[],[],[],0,0⟩,o)):=λ a o h1 h2 h3 h4=>by
  have:=store_loop (st:=st) (n:=xOf st) (a:=a) (z:=⟨[],[],0,[],[],[],[],[],0,0⟩) (o:=o) hv h1 h2 h3 (λ hl v _ hh=>by have:=h4 hl;omega) bigK 0 (Nat.zero_le _) (by unfold bigK;omega)
  rw[List.drop_zero]at this
  exact this
 by_cases ha:0<=yOf st/\yOf st<=31
 ·obtain ⟨p1,p2⟩:=place_mem h.b h.y ha.1 ha.2
  have hlt:(yOf st).toNat < st.Mem.length:=by omega
  have e:getI st.Mem (yOf st)=some st.Mem[(yOf st).toNat]:=getI_int (by omega) hlt
  refine both_of h hf nm14 rfl wa14 ta14 (by omega) (l:=[]) (f:=0) (st2:=memS st (yOf st) (xOf st)) (by simp) (λ _ => ?_) rfl rfl (λ _ _=>⟨h.mem hx,λ x hx=>by simp at hx⟩) (by omega) (λ hn x y ey ex=>notpure rfl ?_)
  ·show (((g_impl_St_place_rd (yOf st) st).bind _:Option (GSt ⊕ (List Int×Int×GSt)))).bind _=_
   rw[p2,Option.bind_some]
   show (((getI st.Mem (yOf st)).bind _:Option (GSt ⊕ (List Int×Int×GSt)))).bind _=_
   rw[e];rfl
  ·rw[ey (by omega),ex (by omega)]
   show ((g_spec_l08Place st (yOf st)).bind _).bind _=_
   rw[p1,Option.bind_some,put_2 h.b hn (by simp),put0 h.b hn (.inl (by omega)),put0' h.b hn,Option.bind_some,specIn_eq,decide_eq_true (p:=(0:Int)<=yOf st/\yOf st<=31) ha,Option.bind_some,cond_true]
   show ((getI st.Mem (yOf st)).bind _).bind _=_
   rw[e];rfl
 ·by_cases hb:1024<=yOf st/\yOf st<=1023+st.Cells.length
  ·obtain ⟨p1,p2⟩:=place_cell h.b h.y hb.1 hb.2
   have hlt:(yOf st-1024).toNat < st.Cells.length:=by omega
   have e:getI st.Cells (yOf st-1024)=some st.Cells[(yOf st-1024).toNat]:=getI_int (by omega) hlt
   have hh:=has_l0 (l:=st.Vars) (v:=yOf st-1024) (by omega)
   cases hany:(st.Vars.any λ x=>yOf st-1024==x) with
   | true =>
    rw[hany]at hh
    refine both_of h hf nm14 rfl wa14 ta14 (by omega) (l:=[]) (f:=0) (st2:=cellS st (yOf st-1024) (xOf st)) (by simp) (λ _ => ?_) rfl rfl (λ _ _=>⟨h.cell,λ x hx=>by simp at hx⟩) (by omega) (λ hn x y ey ex=>notpure rfl ?_)
    ·show (((g_impl_St_place_rd (yOf st) st).bind _:Option (GSt ⊕ (List Int×Int×GSt)))).bind _=_
     rw[p2,Option.bind_some]
     show ((((g_slices_Contains_int st.Vars (yOf st-1024)).bind λ y_17=>some (!y_17):Option Bool).bind _:Option (GSt ⊕ (List Int×Int×GSt)))).bind _=_
     rw[hh]
     show (((getI st.Cells (yOf st-1024)).bind _:Option (GSt ⊕ (List Int×Int×GSt)))).bind _=_
     rw[e];rfl
    ·rw[ey (by omega),ex (by omega)]
     show ((g_spec_l08Place st (yOf st)).bind _).bind _=_
     rw[p1,Option.bind_some,put_2 h.b hn (by simp),put0 h.b hn (.inl (by omega)),put0' h.b hn,Option.bind_some,specIn_eq,decide_eq_false (p:=(0:Int)<=yOf st-992/\yOf st-992<=31) (by omega),Option.bind_some,cond_false,
      lp (yOf st-992) _ (by omega) (by omega) (λ _=>by show (yOf st-992-32).toNat < st.Cells.length;omega) (by omega),show yOf st-992-32=yOf st-1024 by omega,hany,if_pos ⟨by omega,rfl⟩]
     rfl
   | false =>
    rw[hany]at hh
    refine both_of h hf nm14 rfl wa14 ta14 (by omega) (l:=[]) (f:=4) (st2:=st) (by simp) (λ _ => ?_) rfl rfl (λ _ e=>by cases e) (by omega) (λ hn x y ey ex=>notpure rfl ?_)
    ·show (((g_impl_St_place_rd (yOf st) st).bind _:Option (GSt ⊕ (List Int×Int×GSt)))).bind _=_
     rw[p2,Option.bind_some]
     show ((((g_slices_Contains_int st.Vars (yOf st-1024)).bind λ y_17=>some (!y_17):Option Bool).bind _:Option (GSt ⊕ (List Int×Int×GSt)))).bind _=_
     rw[hh];rfl
    ·rw[ey (by omega),ex (by omega)]
     show ((g_spec_l08Place st (yOf st)).bind _).bind _=_
     rw[p1,Option.bind_some,put_2 h.b hn (by simp),put0 h.b hn (.inl (by omega)),Option.bind_some,specIn_eq,decide_eq_false (p:=(0:Int)<=yOf st-992/\yOf st-992<=31) (by omega),Option.bind_some,cond_false,
      lp (yOf st-992) _ (by omega) (by omega) (λ _=>by show (yOf st-992-32).toNat < st.Cells.length;omega) (by omega),show yOf st-992-32=yOf st-1024 by omega,hany,if_neg (by simp)]
     show ((g_spec_l08Fault st 4).bind _).bind _=_
     rw[spec_flt h.b];rfl
  ·obtain ⟨p1,p2⟩:=place_no h.b h.y ha hb
   refine both_of h hf nm14 rfl wa14 ta14 (by omega) (l:=[]) (f:=4) (st2:=st) (by simp) (λ _ => ?_) rfl rfl (λ _ e=>by cases e) (by omega) (λ hn x y ey ex=>notpure rfl ?_)
   ·show (((g_impl_St_place_rd (yOf st) st).bind _:Option (GSt ⊕ (List Int×Int×GSt)))).bind _=_
    rw[p2];rfl
   ·rw[ey (by omega),ex (by omega)]
    show ((g_spec_l08Place st (yOf st)).bind _).bind _=_
    rw[p1,Option.bind_some,put_2 h.b hn (by simp),put0 h.b hn (.inl (by omega)),Option.bind_some,specIn_eq,decide_eq_false (p:=(0:Int) ≤ -1/\(-1:Int)<=31) (by omega),Option.bind_some,cond_false,
     lp (-1) _ (by omega) (by omega) (by omega) (λ _=>rfl),if_neg (by omega)]
    show ((g_spec_l08Fault st 4).bind _).bind _=_
    rw[spec_flt h.b];rfl
theorem word_back {st:GSt} (h:SG st) (hf:st.Fault=0) {k:Int} {name:List UInt8} {b:Bool} (hk:g_spec_PrimName k=some name) (hne:(name==[])=false) (hw:g_impl_wants k=some ((0:Nat):Int)) (ht:g_spec_l08Takes name=some ((0:Nat):Int)) (hp:∀ x y,g_spec_l08Pure name x y=some ([],false))
  (ho:∀ x y,g_spec_l08Other st name x y=(g_spec_l08Back st b).bind λ y=>some y)
  (hi:∀ t,st.Ret.getLast? = some t->g_impl_St_effect name (xOf st) (yOf st) st=some (if t.Kind=2\/(b=true/\t.Kind≠0) then ([],11,st) else ([t.N],0,if b=true then retS st st.Ret.dropLast else st))) (hi0:st.Ret=[]->g_impl_St_effect name (xOf st) (yOf st) st=some ([],3,st)):Both st k:=by
 have hr:=h.b.r
 cases hl:st.Ret.getLast? with
 | none =>
  have h0:st.Ret=[]:=by rwa [List.getLast?_eq_none_iff]at hl
  refine both_of h hf hk hne hw ht (by omega) (l:=[]) (f:=3) (st2:=st) (by simp) (λ _=>hi0 h0) rfl rfl (λ _ e=>by cases e) (by omega) (λ hn x y ey ex=>notpure (hp _ _) ?_)
  rw[ho]
  unfold g_spec_l08Back
  rw[h0]
  show ((g_spec_l08Fault st 3).bind _).bind _=_
  rw[spec_flt h.b];rfl
 | some t =>
  have hpos:0 < st.Ret.length:=by cases hR:st.Ret with
   | nil=>rw[hR]at hl;cases hl
   | cons a r=>simp
  have hmem:t ∈ st.Ret:=List.mem_of_getLast? hl
  have hw1:IntKind.wrap .i64 ((st.Ret.length:Int)-1)=((st.Ret.length-1:Nat):Int):=by rw[wI64 (by omega) (by omega)];omega
  have eg:getI st.Ret ((st.Ret.length-1:Nat):Int)=some t:=by rw[getI_nat,<-List.getLast?_eq_getElem?,hl]
  have es:subL st.Ret 0 ((st.Ret.length-1:Nat):Int)=some st.Ret.dropLast:=by rw[subL_take (by omega) (by omega),Int.toNat_natCast,List.dropLast_eq_take]
  have eb:(cond (t.Kind==2) (some true) (cond b (some (t.Kind != 0)) (some false)):Option Bool)=some (decide (t.Kind=2\/(b=true/\t.Kind≠0))):=by
   by_cases h2:t.Kind=2
   ·rw[show (t.Kind==2)=true by simp[h2],cond_true,decide_eq_true (.inl h2)]
   ·rw[show (t.Kind==2)=false by simp[h2],cond_false]
    cases b with
    | false=>simp[h2]
    | true=>by_cases h3:t.Kind=0<;>simp[h3,h2]
  have hi:=hi t hl
  by_cases hb:t.Kind=2\/(b=true/\t.Kind≠0)
  ·rw[if_pos hb]at hi
   refine both_of h hf hk hne hw ht (by omega) (l:=[]) (f:=11) (st2:=st) (by simp) (λ _=>hi) rfl rfl (λ _ e=>by cases e) (by omega) (λ hn x y ey ex=>notpure (hp _ _) ?_)
   rw[ho]
   unfold g_spec_l08Back
   rw[show ((st.Ret.length:Int)==0)=false by rw[beq_eq_false_iff_ne];omega,cond_false,hw1,eg,Option.bind_some,eb,decide_eq_true hb,Option.bind_some,cond_true,spec_flt h.b];rfl
  ·rw[if_neg hb]at hi
   refine both_of h hf hk hne hw ht (by omega) (l:=[t.N]) (f:=0) (st2:=if b=true then retS st st.Ret.dropLast else st) (by simp) (λ _=>hi) (by split<;>rfl) (by split<;>rfl) (λ _ _=>⟨?_,λ x hx=>by rw[List.mem_singleton]at hx;subst hx;exact h.r t hmem⟩) (by omega) (λ hn x y ey ex=>notpure (hp _ _) ?_)
   ·split
    ·exact h.ret (by rw[List.length_dropLast];omega) (λ s hs=>h.b.rk s (List.dropLast_subset _ hs)) (λ s hs=>h.r s (List.dropLast_subset _ hs))
    ·exact h
   ·rw[ho]
    unfold g_spec_l08Back
    rw[show ((st.Ret.length:Int)==0)=false by rw[beq_eq_false_iff_ne];omega,cond_false,hw1,eg,Option.bind_some,eb,decide_eq_false hb,Option.bind_some,cond_false,put_0 h.b (by simp),Option.bind_some,if_neg (by simp)]
    unfold putS
    by_cases hx:st.Data.length-0+[t.N].length > 16
    ·rw[if_pos hx,if_pos hx]
     cases b<;>rfl
    ·rw[if_neg hx,if_neg hx]
     cases b with
     | false=>rfl
     | true =>
      show ((((cond true (some (st.Fault==0)) (some false):Option Bool).bind _:Option GSt)).bind _).bind _=_
      rw[hf,cond_true,show ((0:Int)==0)=true from rfl,Option.bind_some,cond_true]
      show (((subL st.Ret 0 ((st.Ret.length-1:Nat):Int)).bind _).bind _).bind _=_
      rw[es]
      simp[dat,retS,hf]
end Go.Proofs.YtmedombacbpofaaGreatDoor
namespace Go.Proofs.YtmedombacbpofaaGreatDoor
open Go Go.Fm
set_option maxRecDepth 100000
theorem last_some {st:GSt} {t:GSlot} (hl:st.Ret.getLast? = some t) (hr:st.Ret.length<=24):0 < st.Ret.length/\IntKind.wrap .i64 ((st.Ret.length:Int)-1)=((st.Ret.length-1:Nat):Int)/\getI st.Ret ((st.Ret.length-1:Nat):Int)=some t/\subL st.Ret 0 ((st.Ret.length-1:Nat):Int)=some st.Ret.dropLast:=by
 have hpos:0 < st.Ret.length:=by cases hR:st.Ret with
  | nil=>rw[hR]at hl;cases hl
  | cons a r=>simp
 exact ⟨hpos,by rw[wI64 (by omega) (by omega)];omega,by rw[getI_nat,<-List.getLast?_eq_getElem?,hl],by rw[subL_take (by omega) (by omega),Int.toNat_natCast,List.dropLast_eq_take]⟩
theorem word20 {st:GSt} (h:SG st) (hf:st.Fault=0):Both st 20:=by
 refine word_back h hf (b:=true) nm20 rfl wa20 ta20 (λ _ _=>rfl) (λ _ _=>rfl) (λ t hl => ?_) (λ h0 => ?_)
 ·obtain ⟨hpos,hw1,eg,es⟩:=last_some hl h.b.r
  have e:g_impl_St_effect [112,111,112] (xOf st) (yOf st) st=((cond (decide ((IntKind.wrap .i64 ((st.Ret.length:Int)-1)) < 0)) (some (Sum.inr ([],3,st))) (((getI st.Ret (IntKind.wrap .i64 ((st.Ret.length:Int)-1))).bind λ v_29=>cond (v_29.Kind != 0) (some true) ((getI st.Ret (IntKind.wrap .i64 ((st.Ret.length:Int)-1))).bind λ v_30=>some (v_30.Kind==2)):Option Bool).bind λ v_28=>cond v_28 (some (Sum.inr ([],11,st))) ((getI st.Ret (IntKind.wrap .i64 ((st.Ret.length:Int)-1))).bind λ v_32=>(((subL st.Ret 0 (IntKind.wrap .i64 ((st.Ret.length:Int)-1))).bind λ v_41=>some (retS st v_41):Option GSt)).bind λ x_40=>some (Sum.inr ([v_32.N],0,x_40)))):Option (GSt ⊕ (List Int×Int×GSt))).bind λ o=>match o with | .inl x_8=>some ([],0,x_8) | .inr (v_9,v_10,x_11)=>some (v_9,v_10,x_11)):=rfl
  rw[e,hw1,decide_eq_false (by omega),cond_false,eg,es]
  simp only[Option.bind_some]
  by_cases h0:t.Kind=0
  ·rw[show (t.Kind != 0)=false by simp[h0],cond_false,Option.bind_some,show (t.Kind==2)=false by simp[h0],cond_false,if_neg (by omega)]
   rfl
  ·rw[show (t.Kind != 0)=true by simp[h0],cond_true,Option.bind_some,cond_true,if_pos (by simp[h0])]
   rfl
 ·show ((cond (decide ((IntKind.wrap .i64 ((st.Ret.length:Int)-1)) < 0)) _ _:Option (GSt ⊕ (List Int×Int×GSt)))).bind _=_
  rw[h0];rfl
theorem word21 {st:GSt} (h:SG st) (hf:st.Fault=0):Both st 21:=by
 refine word_back h hf (b:=false) nm21 rfl wa21 ta21 (λ _ _=>rfl) (λ _ _=>rfl) (λ t hl => ?_) (λ h0 => ?_)
 ·obtain ⟨hpos,hw1,eg,es⟩:=last_some hl h.b.r
  have e:g_impl_St_effect [105] (xOf st) (yOf st) st=((cond (decide ((IntKind.wrap .i64 ((st.Ret.length:Int)-1)) < 0)) (some (Sum.inr ([],3,st))) (((getI st.Ret (IntKind.wrap .i64 ((st.Ret.length:Int)-1))).bind λ v_31=>some (v_31.Kind==2):Option Bool).bind λ v_28=>cond v_28 (some (Sum.inr ([],11,st))) ((getI st.Ret (IntKind.wrap .i64 ((st.Ret.length:Int)-1))).bind λ v_32=>(some st:Option GSt).bind λ x_40=>some (Sum.inr ([v_32.N],0,x_40)))):Option (GSt ⊕ (List Int×Int×GSt))).bind λ o=>match o with | .inl x_8=>some ([],0,x_8) | .inr (v_9,v_10,x_11)=>some (v_9,v_10,x_11)):=rfl
  rw[e,hw1,decide_eq_false (by omega),cond_false,eg]
  simp only[Option.bind_some]
  by_cases h0:t.Kind=2
  ·rw[show (t.Kind==2)=true by simp[h0],cond_true,if_pos (.inl h0)]
   rfl
  ·rw[show (t.Kind==2)=false by simp[h0],cond_false,if_neg (by simp[h0])]
   rfl
 ·show ((cond (decide ((IntKind.wrap .i64 ((st.Ret.length:Int)-1)) < 0)) _ _:Option (GSt ⊕ (List Int×Int×GSt)))).bind _=_
  rw[h0];rfl
theorem words {st:GSt} (h:SG st) (hf:st.Fault=0) {k:Int} (h0:0<=k) (h1:k<=23):Both st k:=by
 obtain ⟨n,rfl⟩:∃ n:Nat,k=n:=⟨k.toNat,by omega⟩
 have hn:n < 24:=by omega
 match n,hn with
 | 0,_=>exact word0 h hf
 | 1,_=>exact word1 h hf
 | 2,_=>exact word2 h hf
 | 3,_=>exact word3 h hf
 | 4,_=>exact word4 h hf
 | 5,_=>exact word5 h hf
 | 6,_=>exact word6 h hf
 | 7,_=>exact word7 h hf
 | 8,_=>exact word8 h hf
 | 9,_=>exact word9 h hf
 | 10,_=>exact word10 h hf
 | 11,_=>exact word11 h hf
 | 12,_=>exact word12 h hf
 | 13,_=>exact word13 h hf
 | 14,_=>exact word14 h hf
 | 15,_=>exact word15 h hf
 | 16,_=>exact word16 h hf
 | 17,_=>exact word17 h hf
 | 18,_=>exact word18 h hf
 | 19,_=>exact word19 h hf
 | 20,_=>exact word20 h hf
 | 21,_=>exact word21 h hf
 | 22,_=>exact word22 h hf
 | 23,_=>exact word23 h hf
def nameB (k:Int):Bool:=decide (0<=k/\k<=23)
theorem name_ne (k:Int):∃ s,g_spec_PrimName k=some s/\(s==[]) = !nameB k:=by
 unfold nameB
 by_cases h:0<=k/\k<=23
 ·rw[decide_eq_true h]
  obtain ⟨n,rfl⟩:∃ n:Nat,k=n:=⟨k.toNat,by omega⟩
  have hn:n < 24:=by omega
  match n,hn with
  | 0,_=>exact ⟨_,nm0,rfl⟩
  | 1,_=>exact ⟨_,nm1,rfl⟩
  | 2,_=>exact ⟨_,nm2,rfl⟩
  | 3,_=>exact ⟨_,nm3,rfl⟩
  | 4,_=>exact ⟨_,nm4,rfl⟩
  | 5,_=>exact ⟨_,nm5,rfl⟩
  | 6,_=>exact ⟨_,nm6,rfl⟩
  | 7,_=>exact ⟨_,nm7,rfl⟩
  | 8,_=>exact ⟨_,nm8,rfl⟩
  | 9,_=>exact ⟨_,nm9,rfl⟩
  | 10,_=>exact ⟨_,nm10,rfl⟩
  | 11,_=>exact ⟨_,nm11,rfl⟩
  | 12,_=>exact ⟨_,nm12,rfl⟩
  | 13,_=>exact ⟨_,nm13,rfl⟩
  | 14,_=>exact ⟨_,nm14,rfl⟩
  | 15,_=>exact ⟨_,nm15,rfl⟩
  | 16,_=>exact ⟨_,nm16,rfl⟩
  | 17,_=>exact ⟨_,nm17,rfl⟩
  | 18,_=>exact ⟨_,nm18,rfl⟩
  | 19,_=>exact ⟨_,nm19,rfl⟩
  | 20,_=>exact ⟨_,nm20,rfl⟩
  | 21,_=>exact ⟨_,nm21,rfl⟩
  | 22,_=>exact ⟨_,nm22,rfl⟩
  | 23,_=>exact ⟨_,nm23,rfl⟩
 ·rw[decide_eq_false h]
  refine ⟨[],?_,rfl⟩
  unfold g_spec_PrimName g_spec_l08Names
  simp only[Option.bind_some]
  rw[specIn_eq]
  have:¬(0<=k/\k<=IntKind.wrap .i64 ((24:Int)-1)):=by rw[wI64 (by omega) (by omega)];omega
  show (some (decide (0<=k/\k<=IntKind.wrap .i64 ((24:Int)-1)))).bind _=_
  rw[decide_eq_false this];rfl
instance (x:Int):Decidable (i32B x):=inferInstanceAs (Decidable (_/\_))
end Go.Proofs.YtmedombacbpofaaGreatDoor
namespace Go.Proofs.YtmedombacbpofaaGreatDoor
open Go Go.Fm
set_option maxRecDepth 100000
theorem op_eq (o:GOp):g_impl_opOk o=g_spec_l09Op o:=by
 unfold g_impl_opOk g_spec_l09Op
 simp only[name_eq,within_eq,specIn_eq]
theorem op_tot (o:GOp):∃ b,g_spec_l09Op o=some b:=by
 unfold g_spec_l09Op
 obtain ⟨s,hs⟩:=name_tot (IntKind.wrap .i64 o.N)
 rw[hs,specIn_eq,specIn_eq]
 simp only[Option.bind_some]
 cases o.Kind==0
 ·cases o.Kind==1
  ·cases o.Kind==2
   ·simp only[cond_false]
    by_cases h:3<=o.Kind/\o.Kind<=8
    ·rw[decide_eq_true h,cond_true]
     exact ⟨_,rfl⟩
    ·rw[decide_eq_false h,cond_false]
     exact ⟨_,rfl⟩
   ·exact ⟨_,rfl⟩
  ·exact ⟨_,rfl⟩
 ·exact ⟨_,rfl⟩
def okB (o:GOp):Bool:=(g_spec_l09Op o).getD false
theorem okB_eq (o:GOp):g_spec_l09Op o=some (okB o):=by
 obtain ⟨b,h⟩:=op_tot o
 unfold okB
 rw[h]
 rfl
def stepF (v:List Int) (o:GOp):Option (List Int) :=
 if o.Kind=3\/o.Kind=4\/o.Kind=6 then some (v++[o.Kind])
 else if o.Kind=5\/o.Kind=7 then (match v.getLast? with|none=>none|some l=>if decide (l=6)=decide (o.Kind=7) then some v.dropLast else none)
 else some v
def openF:List GOp->List Int->Option (List Int)
 | [],v=>some v
 | o::r,v=>(stepF v o).bind (openF r)
def openG:List GOp->List Int->Option (List Int)
 | [],v=>some v
 | o::r,v=>cond (okB o) ((stepF v o).bind (openG r)) none
theorem openG_eq:∀ (l:List GOp) (v:List Int),openG l v=cond (l.all okB) (openF l v) none
 | [],v=>rfl
 | o::r,v=>by
  rw[List.all_cons]
  unfold openG openF
  cases ho:okB o
  ·rfl
  ·rw[Bool.true_and,cond_true]
   cases hs:stepF v o with
   | none=>cases r.all okB<;>rfl
   | some w=>simp only[Option.bind_some];exact openG_eq r w
theorem stepF_len {v w:List Int} {o:GOp} (h:stepF v o=some w):w.length<=v.length+1:=by
 unfold stepF at h
 split at h
 ·cases h;simp
 ·split at h
  ·split at h
   ·cases h
   ·split at h
    ·cases h;simp;omega
    ·cases h
  ·cases h;omega
def sumE {β:Type} (e:β) (o:Option (List Int)):List Int ⊕ β:=match o with|some w=>.inl w|none=>.inr e
theorem kinds (k:Int):(k==3)=decide (k=3)/\(k==4)=decide (k=4)/\(k==5)=decide (k=5)/\(k==6)=decide (k=6)/\(k==7)=decide (k=7):=by
 refine ⟨?_,?_,?_,?_,?_⟩<;>rw[Bool.eq_iff_iff]<;>simp
theorem last_get {v:List Int} (h:v≠[]) (hl:v.length<=16777216):getI v (IntKind.wrap .i64 ((v.length:Int)-1))=v.getLast? ∧ subL v 0 (IntKind.wrap .i64 ((v.length:Int)-1))=some v.dropLast:=by
 have h0:0 < v.length:=by
  cases v with
  | nil=>exact absurd rfl h
  | cons a r=>simp
 rw[wI64 (by omega) (by omega),show (v.length:Int)-1=((v.length-1:Nat):Int) by omega,getI_nat,subL_take (by omega) (by omega),Int.toNat_natCast,List.getLast?_eq_getElem?,List.dropLast_eq_take]
 exact ⟨rfl,rfl⟩
theorem spec_step {β:Type} (e:β) (v:List Int) (o:GOp) (hl:v.length<=16777216) :
  ((cond (o.Kind==3) (some (o.Kind==3)) (cond (o.Kind==4) (some (o.Kind==4)) (some (o.Kind==6))):Option (Bool)).bind λ v_17=>cond v_17 ((app v [o.Kind]).bind λ v_23=>some (Sum.inl v_23)) ((cond (o.Kind==5) (some (o.Kind==5)) (some (o.Kind==7)):Option (Bool)).bind λ v_24=>cond v_24 ((cond ((v.length:Int)==0) (some true) ((getI v (IntKind.wrap .i64 ((v.length:Int)-1))).bind λ v_33=>some ((v_33==6) != (o.Kind==7))):Option (Bool)).bind λ v_29=>cond v_29 (some (Sum.inr e)) ((subL v 0 (IntKind.wrap .i64 ((v.length:Int)-1))).bind λ v_35=>some (Sum.inl v_35))) (some (Sum.inl v))):Option ((List Int) ⊕ β))=some (sumE e (stepF v o)):=by
 obtain ⟨e3,e4,e5,e6,e7⟩:=kinds o.Kind
 rw[e3,e4,e5,e6,e7]
 unfold stepF
 by_cases h3:o.Kind=3
 ·simp only[h3,decide_true,cond_true,Option.bind_some]
  rw[app_eq (by simp;omega)]
  rfl
 ·by_cases h4:o.Kind=4
  ·rw[decide_eq_false h3,cond_false,decide_eq_true h4,cond_true,Option.bind_some,cond_true,app_eq (by simp;omega),if_pos (.inr (.inl h4))]
   rfl
  ·by_cases h6:o.Kind=6
   ·rw[decide_eq_false h3,cond_false,decide_eq_false h4,cond_false,Option.bind_some,decide_eq_true h6,cond_true,app_eq (by simp;omega),if_pos (.inr (.inr h6))]
    rfl
   ·rw[decide_eq_false h3,cond_false,decide_eq_false h4,cond_false,Option.bind_some,decide_eq_false h6,cond_false,if_neg (by omega)]
    by_cases h57:o.Kind=5\/o.Kind=7
    ·have hc:(cond (decide (o.Kind=5)) (some (decide (o.Kind=5))) (some (decide (o.Kind=7))):Option Bool)=some true:=by
      rcases h57 with h|h
      ·rw[decide_eq_true h];rfl
      ·rw[decide_eq_true h,decide_eq_false (by omega)];rfl
     rw[hc,Option.bind_some,cond_true,if_pos h57]
     cases v with
     | nil=>rfl
     | cons a r =>
      obtain ⟨g1,g2⟩:=last_get (v:=a::r) (by simp) hl
      have hz:(((a::r).length:Int)==0)=false:=by simp;omega
      rw[hz,cond_false,g1,g2]
      obtain ⟨x,hx⟩:∃ x,(a::r).getLast? = some x:=by rw[List.getLast?_cons];exact ⟨_,rfl⟩
      rw[hx]
      simp only[Option.bind_some]
      have ex:(x==6)=decide (x=6):=(kinds x).2.2.2.1
      rw[ex]
      by_cases hq:decide (x=6)=decide (o.Kind=7)
      ·rw[hq,if_pos rfl]
       simp[sumE]
      ·rw[if_neg hq]
       have:(decide (x=6) != decide (o.Kind=7))=true:=by simpa using hq
       rw[this,cond_true]
       rfl
    ·have hc:(cond (decide (o.Kind=5)) (some (decide (o.Kind=5))) (some (decide (o.Kind=7))):Option Bool)=some false:=by
      rw[decide_eq_false (by omega),decide_eq_false (by omega)];rfl
     rw[hc,Option.bind_some,cond_false,if_neg h57]
     rfl
theorem impl_step {β:Type} (e:β) (v:List Int) (o:GOp) (hl:v.length<=16777216) :
  ((cond (o.Kind==3) (some true) (cond (o.Kind==4) (some true) (some (o.Kind==6))):Option (Bool)).bind λ v_19=>cond v_19 ((app v [o.Kind]).bind λ v_25=>some (Sum.inl v_25)) ((cond (o.Kind==5) (some true) (some (o.Kind==7)):Option (Bool)).bind λ v_26=>cond v_26 ((cond (decide ((IntKind.wrap .i64 ((v.length:Int)-1)) < 0)) (some true) ((getI v (IntKind.wrap .i64 ((v.length:Int)-1))).bind λ v_35=>some ((v_35==6) != (o.Kind==7))):Option (Bool)).bind λ v_31=>cond v_31 (some (Sum.inr e)) ((subL v 0 (IntKind.wrap .i64 ((v.length:Int)-1))).bind λ v_37=>some (Sum.inl v_37))) (some (Sum.inl v))):Option ((List Int) ⊕ β))=some (sumE e (stepF v o)):=by
 rw[<-spec_step e v o hl]
 have c1:∀ b:Bool,∀ x:Option Bool,(cond b (some true) x:Option Bool)=cond b (some b) x:=λ b x=>by cases b<;>rfl
 have c2:decide ((IntKind.wrap .i64 ((v.length:Int)-1)) < 0)=((v.length:Int)==0):=by
  rw[wI64 (by omega) (by omega)]
  by_cases h0:v.length=0
  ·rw[h0];rfl
  ·rw[decide_eq_false (by omega),beq_eq_false_iff_ne.2 (by omega)]
 rw[c2,c1 (o.Kind==3),c1 (o.Kind==4),c1 (o.Kind==5)]
theorem spec_l0 {body:List GOp} (hb:body.length<=1048576):∀ (k n:Nat) (v:List Int),n<=body.length->body.length-n < k->v.length<=n->g_spec_l09Open_l0 body k v n=some (sumE false (openF (body.drop n) v)):=by
 intro k
 induction k with
 | zero=>intro n v h0 h1;omega
 | succ k ih =>
  intro n v h0 h1 h2
  rw[g_spec_l09Open_l0]
  by_cases hn:n < body.length
  ·rw[decide_eq_true (by omega),cond_true,getI_nat,List.getElem?_eq_getElem hn,List.drop_eq_getElem_cons hn]
   simp only[Option.bind_some]
   rw[spec_step _ v body[n] (by omega)]
   simp only[Option.bind_some,openF]
   cases hs:stepF v body[n] with
   | none=>rfl
   | some w =>
    have:=stepF_len hs
    simp only[sumE,Option.bind_some]
    rw[wI64 (by omega) (by omega),show (n:Int)+1=((n+1:Nat):Int) by omega,ih (n+1) w (by omega) (by omega) (by omega)]
    rfl
  ·rw[decide_eq_false (by omega),cond_false,List.drop_eq_nil_of_le (by omega)]
   rfl
theorem impl_l0 {body:List GOp} (hb:body.length<=1048576):∀ (k n:Nat) (v:List Int),n<=body.length->body.length-n < k->v.length<=n->g_impl_openIn_l0 body (body.length:Int) k v n=some (sumE (([]:List Int),false) (openG (body.drop n) v)):=by
 intro k
 induction k with
 | zero=>intro n v h0 h1;omega
 | succ k ih =>
  intro n v h0 h1 h2
  rw[g_impl_openIn_l0]
  by_cases hn:n < body.length
  ·rw[decide_eq_true (by omega),cond_true,getI_nat,List.getElem?_eq_getElem hn,List.drop_eq_getElem_cons hn]
   simp only[Option.bind_some]
   rw[op_eq,okB_eq]
   simp only[Option.bind_some,openG]
   cases ho:okB body[n]
   ·rw[Bool.not_false,cond_true,cond_false]
    rfl
   ·rw[Bool.not_true,cond_false,cond_true,impl_step _ v body[n] (by omega)]
    simp only[Option.bind_some]
    cases hs:stepF v body[n] with
    | none=>rfl
    | some w =>
     have:=stepF_len hs
     simp only[sumE,Option.bind_some]
     rw[wI64 (by omega) (by omega),show (n:Int)+1=((n+1:Nat):Int) by omega,ih (n+1) w (by omega) (by omega) (by omega)]
     rfl
  ·rw[decide_eq_false (by omega),cond_false,List.drop_eq_nil_of_le (by omega)]
   rfl
theorem spec_open {body:List GOp} (hb:body.length<=1048576):g_spec_l09Open body=some (match openF body [] with|none=>([],false)|some w=>(w,true)):=by
 unfold g_spec_l09Open
 have h1:=spec_l0 hb bigK 0 [] (Nat.zero_le _) (by unfold bigK;omega) (Nat.le_refl _)
 rw[Int.natCast_zero,List.drop_zero]at h1
 rw[h1]
 cases openF body []<;>rfl
theorem impl_open {body:List GOp} (hb:body.length<=1048576):g_impl_openIn body=some (match cond (body.all okB) (openF body []) none with|none=>([],false)|some w=>(w,decide ((body.length:Int)<=60))):=by
 unfold g_impl_openIn
 have h1:=impl_l0 hb bigK 0 [] (Nat.zero_le _) (by unfold bigK;omega) (Nat.le_refl _)
 rw[Int.natCast_zero,List.drop_zero]at h1
 rw[h1,openG_eq]
 cases cond (body.all okB) (openF body []) none<;>rfl
def shapeB (body:List GOp):Bool:=decide (body.length<=60)&&body.all okB&&decide (openF body []=some [])
theorem specShape {body:List GOp} (hb:body.length<=1048576):g_spec_ShapeOk body=some (shapeB body):=by
 unfold g_spec_ShapeOk shapeB
 by_cases h60:body.length<=60
 ·rw[decide_eq_false (by omega),cond_false,decide_eq_true h60,spec_open hb]
  have:=allLoop (L:=body) (bad:=false) (λ _ o=>okB o) (g_spec_ShapeOk_l0 body) (λ k n x hx hn=>by
   rw[g_spec_ShapeOk_l0,decide_eq_true (by omega),cond_true,getI_nat,hx,Option.bind_some,okB_eq,Option.bind_some,wI64 (by omega) (by omega),show ((n:Int)+1)=((n+1:Nat):Int) by omega]
   cases okB x<;>rfl) (λ k n hn=>by rw[g_spec_ShapeOk_l0,decide_eq_false (by omega),cond_false]) (by omega)
  rw[this,allN_const,Bool.true_and]
  cases body.all okB with
  | false=>rfl
  | true =>
   simp only[cond_true,Option.bind_some,Bool.true_and]
   cases openF body [] with
   | none=>rfl
   | some w=>cases w<;>simp<;>omega
 ·rw[decide_eq_true (by omega),cond_true,decide_eq_false h60];rfl
theorem implShape {body:List GOp} (hb:body.length<=1048576):g_impl_ShapeOk body=some (shapeB body):=by
 unfold g_impl_ShapeOk shapeB
 rw[impl_open hb]
 cases body.all okB with
 | false=>simp
 | true =>
  simp only[cond_true,Option.bind_some,Bool.and_true]
  cases openF body [] with
  | none=>simp
  | some w =>
   by_cases h60:body.length<=60
   ·rw[decide_eq_true (p:=(body.length:Int)<=60) (by omega),decide_eq_true h60]
    cases w<;>simp<;>omega
   ·rw[decide_eq_false (p:=(body.length:Int)<=60) (by omega),decide_eq_false h60];simp
end Go.Proofs.YtmedombacbpofaaGreatDoor
namespace Go.Proofs.YtmedombacbpofaaGreatDoor
open Go Go.Fm
def nestB (k:Int):Bool:=decide (k=3\/k=4\/k=6)
def endsK (k:Int):Int:=if k=6 then 7 else 5
mutual
def flT:GTree->List GOp
 | ⟨k,n,ks⟩=>⟨k,n⟩::(if nestB k then flS ks++[⟨endsK k,0⟩] else [])
def flS:List GTree->List GOp
 | []=>[]
 | t::r=>flT t++flS r
end
mutual
def gdT:GTree->Prop
 | ⟨k,_,ks⟩=>k≠5/\k≠7/\(nestB k=false->ks=[])/\gdS ks
def gdS:List GTree->Prop
 | []=>True
 | t::r=>gdT t/\gdS r
end
theorem kind3 (k:Int) {α:Type} (x:Bool->Option α):((cond (k==3) (some true) (cond (k==4) (some true) (some (k==6))):Option Bool).bind x)=x (nestB k):=by
 unfold nestB
 by_cases h3:k=3
 ·subst h3;rfl
 ·by_cases h4:k=4
  ·subst h4;rfl
  ·by_cases h6:k=6
   ·subst h6;rfl
   ·have e3:(k==3)=false:=by simp[h3]
    have e4:(k==4)=false:=by simp[h4]
    have e6:(k==6)=false:=by simp[h6]
    rw[e3,e4,e6,cond_false,cond_false,decide_eq_false (by omega)];rfl
theorem kind3' (k:Int) {α:Type} (x:Bool->Option α):((cond (k==3) (some (k==3)) (cond (k==4) (some (k==4)) (some (k==6))):Option Bool).bind x)=x (nestB k):=by
 refine Eq.trans ?_ (kind3 k x)
 cases h3:(k==3)
 ·cases h4:(k==4)
  ·rfl
  ·rfl
 ·rfl
theorem kind5 (k:Int) {α:Type} (x:Bool->Option α):((cond (k==5) (some (k==5)) (some (k==7)):Option Bool).bind x)=x (decide (k=5\/k=7)):=by
 by_cases h5:k=5
 ·subst h5;rfl
 ·have e5:(k==5)=false:=by simp[h5]
  rw[e5,cond_false]
  by_cases h7:k=7
  ·subst h7;rfl
  ·have e7:(k==7)=false:=by simp[h7]
   rw[e7,decide_eq_false (by omega)];rfl
def Bal (body:List GOp) (i j:Nat):Prop:=i<=body.length->∀ w,openF (body.drop i) w=some []->(w=[]->j=body.length)/\(∀ v x,w=v++[x]->j < body.length/\(∃ p,body[j]? = some p/\p.Kind=endsK x)/\openF (body.drop (j+1)) v=some [])
theorem okB_end {o:GOp} (h:okB o=true) (hk:o.Kind=5\/o.Kind=7):o.N=0:=by
 have:=okB_eq o
 rw[h]at this
 unfold g_spec_l09Op at this
 rw[show (o.Kind==0)=false by rw[beq_eq_false_iff_ne];omega,show (o.Kind==1)=false by rw[beq_eq_false_iff_ne];omega,show (o.Kind==2)=false by rw[beq_eq_false_iff_ne];omega,cond_false,cond_false,cond_false,specIn_eq,decide_eq_true (by omega)]at this
 simpa using this
structure Got (body:List GOp) (i:Nat) (ts:List GTree) (j:Nat):Prop where
 le:i<=j
 top:j<=max i (2*body.length-i)
 gd:gdS ts
 size:(flS ts).length=j-i
 len:ts.length<=j-i
 bal:Bal body i j
 cont:(∀ o ∈ body,okB o=true)->i<=body.length->∀ w,openF (body.drop i) w=some []->flS ts=(body.drop i).take (j-i)
theorem take_mid {α:Type} (l:List α) (a b:Nat) (x:α) (r:List α) (h:l.drop a=x::r):l.take (a+1+b)=l.take a++x::r.take b:=by
 rw[Nat.add_assoc,List.take_add,h,Nat.add_comm 1 b,List.take_succ_cons]
theorem par_loop {body:List GOp} (hb:body.length<=1048576):∀ (m i:Nat),body.length-i<=m->i<=2*body.length->∀ (rk k:Nat),m<=rk->m < k->∀ out:List GTree,out.length+m<=2097152 →
  ∃ ts j,Got body i ts j ∧
   g_impl_grow_l0 (g_impl_grow_r rk) k (body.drop i) out=some (if j < body.length then .inr (out++ts,body.drop (j+1)) else .inl (out++ts)):=by
 intro m
 induction m with
 | zero =>
  intro i hm hi rk k h1 h2 out ho
  obtain ⟨k,rfl⟩:∃ k',k=k'+1:=⟨k-1,by omega⟩
  refine ⟨[],i,⟨Nat.le_refl _,by omega,trivial,by simp[flS],by simp,?_,λ _ _ _ _=>by simp[flS]⟩,?_⟩
  ·intro hl w hw
   have:i=body.length:=by omega
   rw[this,List.drop_length]at hw
   cases hw
   exact ⟨λ _=>this,λ v x e=>by cases v<;>cases e⟩
  ·rw[List.drop_eq_nil_of_le (by omega),g_impl_grow_l0,if_neg (by omega)]
   simp
 | succ m ih =>
  intro i hm hi rk k h1 h2 out ho
  obtain ⟨k,rfl⟩:∃ k',k=k'+1:=⟨k-1,by omega⟩
  obtain ⟨rk,rfl⟩:∃ k',rk=k'+1:=⟨rk-1,by omega⟩
  by_cases hn:i < body.length
  case neg =>
   refine ⟨[],i,⟨Nat.le_refl _,by omega,trivial,by simp[flS],by simp,?_,λ _ _ _ _=>by simp[flS]⟩,?_⟩
   ·intro hl w hw
    have:i=body.length:=by omega
    rw[this,List.drop_length]at hw
    cases hw
    exact ⟨λ _=>this,λ v x e=>by cases v<;>cases e⟩
   ·rw[List.drop_eq_nil_of_le (by omega),g_impl_grow_l0,if_neg (by omega)]
    simp
  have hd:body.drop i=body[i]::body.drop (i+1):=List.drop_eq_getElem_cons hn
  have hg:getI body (i:Int)=some body[i]:=by rw[getI_nat,List.getElem?_eq_getElem hn]
  generalize ho':body[i]=o at hd hg
  have e2:getI (o::body.drop (i+1)) 0=some o:=rfl
  have e3:subL (o::body.drop (i+1)) 1 ((o::body.drop (i+1)).length:Int)=some (body.drop (i+1)):=by
   rw[subL_drop (by omega) (by simp only[List.length_cons];omega)];rfl
  have e0:decide (((o::body.drop (i+1)).length:Int) > 0)=true:=by simp
  rw[hd,g_impl_grow_l0,e0,cond_true,e2,e3]
  simp only[Option.bind_some]
  rw[kind5]
  by_cases h57:o.Kind=5\/o.Kind=7
  ·-- what ends
   rw[decide_eq_true h57]
   refine ⟨[],i,⟨Nat.le_refl _,by omega,trivial,by simp[flS],by simp,?_,λ _ _ _ _=>by simp[flS]⟩,?_⟩
   ·intro hl w hw
    rw[hd,openF]at hw
    unfold stepF at hw
    rw[if_neg (by omega),if_pos h57]at hw
    cases hw':w.getLast? with
    | none=>rw[hw']at hw;cases hw
    | some l =>
     rw[hw']at hw
     refine ⟨λ e=>(by rw[e]at hw';cases hw'),λ v x e=>⟨hn,?_,?_⟩⟩
     ·subst e
      rw[List.getLast?_concat]at hw'
      cases hw'
      refine ⟨o,by rw[List.getElem?_eq_getElem hn,ho'],?_⟩
      by_cases hl6:decide (l=6)=decide (o.Kind=7)
      ·unfold endsK
       by_cases hx:l=6
       ·rw[if_pos hx]
        rw[decide_eq_true hx]at hl6
        exact of_decide_eq_true hl6.symm
       ·rw[if_neg hx]
        rw[decide_eq_false hx]at hl6
        have:=of_decide_eq_false hl6.symm
        omega
      ·simp only[if_neg hl6]at hw;cases hw
     subst e
     by_cases hl6:decide (l=6)=decide (o.Kind=7)
     ·simp only[hl6,if_true,Option.bind_some,List.dropLast_concat]at hw
      exact hw
     ·simp only[if_neg hl6]at hw;cases hw
   ·rw[if_pos hn];simp
  ·rw[decide_eq_false h57]
   simp only[cond_false]
   rw[kind3']
   by_cases hne:nestB o.Kind=true
   ·-- what holds others
    rw[hne,cond_true]
    obtain ⟨ts,j,g1,g3⟩:=ih (i+1) (by omega) (by omega) rk bigK (by omega) (by unfold bigK;omega) [] (by simp;omega)
    have hj:=g1.top
    have hjl:=g1.le
    have e4:g_impl_grow_r (rk+1) (body.drop (i+1))=some (ts,body.drop (j+1)):=by
     rw[g_impl_grow_r,g_impl_grow_b,g3]
     by_cases hjn:j < body.length
     ·rw[if_pos hjn];rfl
     ·rw[if_neg hjn,List.drop_eq_nil_of_le (by omega)];rfl
    rw[e4]
    simp only[Option.bind_some]
    rw[app_eq (by simp;omega)]
    simp only[Option.bind_some]
    obtain ⟨ts2,j2,f1,f3⟩:=ih (j+1) (by omega) (by omega) (rk+1) k (by omega) (by omega) (out++[⟨o.Kind,o.N,ts⟩]) (by simp;omega)
    refine ⟨⟨o.Kind,o.N,ts⟩::ts2,j2,⟨by have:=f1.le;omega,by have:=f1.top;omega,?_,?_,?_,?_,?_⟩,?_⟩
    ·rw[gdS,gdT]
     exact ⟨⟨λ h=>h57 (.inl h),λ h=>h57 (.inr h),λ h=>absurd (hne.symm.trans h) (by simp),g1.gd⟩,f1.gd⟩
    ·rw[flS,flT,hne,if_pos rfl]
     have a1:=g1.size
     have a2:=f1.size
     have a3:=f1.le
     simp only[List.length_append,List.length_cons,List.length_nil,a1,a2]
     omega
    ·have a2:=f1.len
     have a3:=f1.le
     simp only[List.length_cons];omega
    ·intro hl w hw
     rw[hd,openF]at hw
     unfold stepF at hw
     unfold nestB at hne
     rw[if_pos (of_decide_eq_true hne),Option.bind_some]at hw
     obtain ⟨c1,_,c2⟩:=(g1.bal (by omega) _ hw).2 w o.Kind rfl
     exact f1.bal (by omega) w c2
    ·intro hok hl w hw
     rw[hd,openF]at hw
     unfold stepF at hw
     have hne':=hne
     unfold nestB at hne'
     rw[if_pos (of_decide_eq_true hne'),Option.bind_some]at hw
     obtain ⟨c1,⟨p,c3,c4⟩,c2⟩:=(g1.bal (by omega) _ hw).2 w o.Kind rfl
     have d1:=g1.cont hok (by omega) _ hw
     have d2:=f1.cont hok (by omega) w c2
     have hp:p=⟨endsK o.Kind,0⟩:=by
      have hm:=List.mem_of_getElem? c3
      have hk:p.Kind=5\/p.Kind=7:=by rw[c4];unfold endsK;split<;>simp
      have h0:=okB_end (hok p hm) hk
      obtain ⟨a,b⟩:=p
      simp only at c4 h0
      rw[c4,h0]
     have hjd:body.drop j=p::body.drop (j+1):=by
      rw[List.drop_eq_getElem_cons c1]
      rw[List.getElem?_eq_getElem c1]at c3
      rw[Option.some.inj c3]
     have a3:=f1.le
     rw[flS,flT,hne,if_pos rfl,d1,d2,hd,show j2-i=(j-(i+1)+1+(j2-(j+1)))+1 by omega,List.take_succ_cons,take_mid (body.drop (i+1)) (j-(i+1)) (j2-(j+1)) p (body.drop (j+1)) (by rw[List.drop_drop,show i+1+(j-(i+1))=j by omega,hjd]),hp]
     simp
    ·rw[f3];simp
   ·-- a plain one
    have hne:nestB o.Kind=false:=by simpa using hne
    rw[hne]
    simp only[cond_false,Option.bind_some]
    rw[app_eq (by simp;omega)]
    simp only[Option.bind_some]
    obtain ⟨ts2,j2,f1,f3⟩:=ih (i+1) (by omega) (by omega) (rk+1) k (by omega) (by omega) (out++[⟨o.Kind,o.N,[]⟩]) (by simp;omega)
    refine ⟨⟨o.Kind,o.N,[]⟩::ts2,j2,⟨by have:=f1.le;omega,by have:=f1.top;omega,?_,?_,?_,?_,?_⟩,?_⟩
    ·rw[gdS,gdT]
     exact ⟨⟨λ h=>h57 (.inl h),λ h=>h57 (.inr h),λ _=>rfl,trivial⟩,f1.gd⟩
    ·rw[flS,flT,hne,if_neg (by simp)]
     have a2:=f1.size
     have a3:=f1.le
     simp only[List.length_append,List.length_cons,List.length_nil,a2]
     omega
    ·have a2:=f1.len
     have a3:=f1.le
     simp only[List.length_cons];omega
    ·intro hl w hw
     rw[hd,openF]at hw
     unfold stepF at hw
     unfold nestB at hne
     rw[if_neg (of_decide_eq_false hne),if_neg h57,Option.bind_some]at hw
     exact f1.bal (by omega) w hw
    ·intro hok hl w hw
     rw[hd,openF]at hw
     unfold stepF at hw
     have hne':=hne
     unfold nestB at hne'
     rw[if_neg (of_decide_eq_false hne'),if_neg h57,Option.bind_some]at hw
     have d2:=f1.cont hok (by omega) w hw
     have a3:=f1.le
     rw[flS,flT,hne,if_neg (by simp),d2,hd,show j2-i=(j2-(i+1))+1 by omega,List.take_succ_cons]
     rfl
    ·rw[f3];simp
inductive OkS (P:Int->Int->Prop):List GTree->Prop where
 | nil:OkS P []
 | cons {k n:Int} {ks r:List GTree} (h:P k n) (hl:ks.length<=60) (hk:OkS P ks) (hr:OkS P r):OkS P (⟨k,n,ks⟩::r)
theorem flT_pos (t:GTree):1<=(flT t).length:=by
 obtain ⟨k,n,ks⟩:=t;rw[flT];simp
theorem flS_len:∀ ts:List GTree,ts.length<=(flS ts).length
 | []=>Nat.le_refl _
 | t::r=>by
  have:=flT_pos t
  have:=flS_len r
  rw[flS,List.length_append,List.length_cons];omega
mutual
theorem okT_of {P:Int->Int->Prop}:∀ t:GTree,gdT t->(flT t).length<=60->(∀ o ∈ flT t,P o.Kind o.N)->OkS P t.Kids/\t.Kids.length<=60/\P t.Kind t.N
 | ⟨k,n,ks⟩,hg,hb,h=>by
  rw[gdT]at hg
  rw[flT]at h hb
  refine ⟨?_,?_,h ⟨k,n⟩ (by simp)⟩
  ·cases hn:nestB k with
   | false=>rw[hg.2.2.1 hn];exact .nil
   | true =>
    rw[hn,if_pos rfl]at h hb
    exact okS_of ks hg.2.2.2 (by simp at hb;omega) λ o ho=>h o (by simp[ho])
  ·cases hn:nestB k with
   | false=>rw[hg.2.2.1 hn];simp
   | true =>
    rw[hn,if_pos rfl]at hb
    have:=flS_len ks
    simp at hb
    show ks.length<=60
    omega
theorem okS_of {P:Int->Int->Prop}:∀ ts:List GTree,gdS ts->(flS ts).length<=60->(∀ o ∈ flS ts,P o.Kind o.N)->OkS P ts
 | [],_,_,_=>.nil
 | t::r,hg,hb,h=>by
  rw[gdS]at hg
  rw[flS]at h hb
  rw[List.length_append]at hb
  obtain ⟨a,c,b⟩:=okT_of t hg.1 (by omega) λ o ho=>h o (List.mem_append_left _ ho)
  obtain ⟨k,n,ks⟩:=t
  exact .cons b c a (okS_of r hg.2 (by omega) λ o ho=>h o (List.mem_append_right _ ho))
end
theorem treesC {body:List GOp} (hs:shapeB body=true):∃ ts,gdS ts/\flS ts=body/\ts.length<=60/\g_impl_TreeOf_imm body=some ts:=by
 have hs':=hs
 unfold shapeB at hs
 simp only[Bool.and_eq_true,decide_eq_true_eq]at hs
 obtain ⟨⟨h60,ho⟩,hp⟩:=hs
 obtain ⟨ts,j,g,e2⟩:=par_loop (body:=body) (by omega) body.length 0 (by omega) (by omega) (bigK-1) bigK (by unfold bigK;omega) (by unfold bigK;omega) [] (by simp;omega)
 have hj:j=body.length:=((g.bal (by omega)) [] (by simpa using hp)).1 rfl
 subst hj
 have hl:=g.len
 have hc:=g.cont (List.all_eq_true.1 ho) (by omega) [] (by simpa using hp)
 rw[List.drop_zero,Nat.sub_zero,List.take_length]at hc
 refine ⟨ts,g.gd,hc,by omega,?_⟩
 rw[g_impl_TreeOf_imm,implShape (by omega),hs',Option.bind_some,Bool.not_true,cond_false,g_impl_grow,show bigK=(bigK-1)+1 from rfl,g_impl_grow_r,g_impl_grow_b]
 rw[List.drop_zero,if_neg (by omega)]at e2
 rw[e2];simp
end Go.Proofs.YtmedombacbpofaaGreatDoor
namespace Go.Proofs.YtmedombacbpofaaGreatDoor
open Go Go.Fm
set_option maxRecDepth 100000
end Go.Proofs.YtmedombacbpofaaGreatDoor
namespace Go.Proofs.YtmedombacbpofaaGreatDoor
open Go Go.Fm
set_option maxRecDepth 100000
def fuelS (st:GSt):GSt:=⟨st.Data,st.Ret,st.A,st.Mem,st.Cells,st.Vars,st.Out,st.In,st.Fault,st.Fuel-1⟩
theorem SG.fuel {st:GSt} (h:SG st) (hu:st.Fuel≠0):SG (fuelS st) :=
 ⟨⟨h.b.d,h.b.r,h.b.m,h.b.v,h.b.o,h.b.i,h.b.rk,h.b.vb,h.b.c,h.b.cl,h.b.f,by have:=h.b.u;exact ⟨by show 0<=st.Fuel-1;omega,by show st.Fuel-1<=4000;omega⟩⟩,h.d,h.m,h.a,h.r⟩
def forS (st:GSt):GSt:=if st.Data.length=0 then flt st 2 else if st.Ret.length=24 then flt st 3 else ⟨st.Data.dropLast,st.Ret++[⟨1,yOf st⟩],st.A,st.Mem,st.Cells,st.Vars,st.Out,st.In,st.Fault,st.Fuel⟩
theorem sub_last {st:GSt} (h:SB st) (hp:0 < st.Data.length):subL st.Data 0 (IntKind.wrap .i64 ((st.Data.length:Int)-1))=some st.Data.dropLast:=by
 have:=h.d
 rw[wI64 (by omega) (by omega),show (st.Data.length:Int)-1=((st.Data.length-1:Nat):Int) by omega,subL_take (by omega) (by omega),Int.toNat_natCast,<-List.dropLast_eq_take]
def lastR (st:GSt):GSlot:=if h:0 < st.Ret.length then st.Ret[st.Ret.length-1] else ⟨0,0⟩
theorem get_r {st:GSt} (h:SB st) (hp:0 < st.Ret.length):getI st.Ret (IntKind.wrap .i64 ((st.Ret.length:Int)-1))=some (lastR st):=by
 have:=h.r
 rw[wI64 (by omega) (by omega),show (st.Ret.length:Int)-1=((st.Ret.length-1:Nat):Int) by omega,getI_nat,List.getElem?_eq_getElem (by omega)]
 unfold lastR;rw[dif_pos hp]
theorem sub_r {st:GSt} (h:SB st) (hp:0 < st.Ret.length):subL st.Ret 0 (IntKind.wrap .i64 ((st.Ret.length:Int)-1))=some st.Ret.dropLast:=by
 have:=h.r
 rw[wI64 (by omega) (by omega),show (st.Ret.length:Int)-1=((st.Ret.length-1:Nat):Int) by omega,subL_take (by omega) (by omega),Int.toNat_natCast,<-List.dropLast_eq_take]
theorem lastR_mem {st:GSt} (hp:0 < st.Ret.length):lastR st ∈ st.Ret:=by unfold lastR;rw[dif_pos hp];exact List.getElem_mem _
def decR (st:GSt):GSt:=retS st (st.Ret.set (st.Ret.length-1) ⟨(lastR st).Kind,IntKind.wrap .i32 ((lastR st).N-1)⟩)
def nextS (st:GSt):Bool×GSt:=if st.Ret.length=0 then (false,flt st 3) else if (lastR st).Kind≠1 then (false,flt st 11) else if IntKind.wrap .i32 ((lastR st).N-1) > 0 then (true,decR st) else (false,retS st st.Ret.dropLast)
theorem SG.dec {st:GSt} (h:SG st) (hp:0 < st.Ret.length):SG (decR st):=by
 refine h.ret (by rw[List.length_set];exact h.b.r) (λ s hs => ?_) (λ s hs => ?_)
 ·rcases List.mem_or_eq_of_mem_set hs with hs|rfl
  ·exact h.b.rk s hs
  ·show 0<=(lastR st).Kind/\(lastR st).Kind<=2
   exact h.b.rk (lastR st) (lastR_mem hp)
 ·rcases List.mem_or_eq_of_mem_set hs with hs|rfl
  ·exact h.r s hs
  ·exact i32w _
end Go.Proofs.YtmedombacbpofaaGreatDoor
namespace Go.Proofs.YtmedombacbpofaaGreatDoor
open Go Go.Fm
set_option maxRecDepth 100000
theorem pushM {st:GSt} (h:SB st) (n:Int) (trs:List (List GTree)):g_impl_St_pushes_inGMeaning_1 n (⟨trs,st⟩:GMeaning)=some ⟨trs,putS st st 0 [n]⟩:=by
 have:=h.d
 unfold g_impl_St_pushes_inGMeaning_1 putS
 by_cases h0:st.Data.length=16
 ·rw[if_pos (by simp;omega)]
  show cond ((st.Data.length:Int)==16) _ _=_
  rw[show ((st.Data.length:Int)==16)=true by rw[h0];rfl];rfl
 ·rw[if_neg (by simp;omega)]
  show cond ((st.Data.length:Int)==16) _ ((app st.Data [n]).bind _)=_
  rw[show ((st.Data.length:Int)==16)=false by rw[beq_eq_false_iff_ne];omega,cond_false,app_eq (by simp;omega),Nat.sub_zero,List.take_length];rfl
theorem beginM {st:GSt} (h:SB st) (trs:List (List GTree)):g_impl_St_begin_inGMeaning_1 (⟨trs,st⟩:GMeaning)=some ⟨trs,forS st⟩:=by
 have:=h.d;have:=h.r
 unfold g_impl_St_begin_inGMeaning_1 forS
 show cond (decide ((IntKind.wrap .i64 ((st.Data.length:Int)-1)) < 0)) _ (cond ((st.Ret.length:Int)==24) _ ((getI st.Data (IntKind.wrap .i64 ((st.Data.length:Int)-1))).bind λ v_3=>(app st.Ret [(⟨1,v_3⟩:GSlot)]).bind λ v_4=>(subL st.Data 0 (IntKind.wrap .i64 ((st.Data.length:Int)-1))).bind _))=_
 by_cases h0:st.Data.length=0
 ·rw[if_pos h0,h0];rfl
 ·rw[if_neg h0,sub_last h (by omega),get_y h (by omega),wI64 (by omega) (by omega),decide_eq_false (by omega),cond_false]
  by_cases h1:st.Ret.length=24
  ·rw[if_pos h1,show ((st.Ret.length:Int)==24)=true by rw[h1];rfl];rfl
  ·rw[if_neg h1,show ((st.Ret.length:Int)==24)=false by rw[beq_eq_false_iff_ne];omega,cond_false,Option.bind_some,app_eq (by simp;omega)];rfl
theorem againM {st:GSt} (h:SB st) (trs:List (List GTree)):g_impl_St_again_inGMeaning_1 (⟨trs,st⟩:GMeaning)=some ((nextS st).1,⟨trs,(nextS st).2⟩):=by
 have:=h.r
 unfold g_impl_St_again_inGMeaning_1 nextS
 show cond (decide ((IntKind.wrap .i64 ((st.Ret.length:Int)-1)) < 0)) _ ((getI st.Ret (IntKind.wrap .i64 ((st.Ret.length:Int)-1))).bind λ v_4=>cond (v_4.Kind != 1) _ ((getI st.Ret (IntKind.wrap .i64 ((st.Ret.length:Int)-1))).bind λ v_5=>cond (decide ((IntKind.wrap .i32 (v_5.N-1)) > 0)) ((getI st.Ret (IntKind.wrap .i64 ((st.Ret.length:Int)-1))).bind λ v_6=>some (true,(⟨trs,(⟨st.Data,st.Ret.set (IntKind.wrap .i64 ((st.Ret.length:Int)-1)).toNat (⟨v_6.Kind,IntKind.wrap .i32 (v_5.N-1)⟩:GSlot),st.A,st.Mem,st.Cells,st.Vars,st.Out,st.In,st.Fault,st.Fuel⟩:GSt)⟩:GMeaning))) ((subL st.Ret 0 (IntKind.wrap .i64 ((st.Ret.length:Int)-1))).bind _)))=_
 by_cases h0:st.Ret.length=0
 ·rw[if_pos h0,h0];rfl
 ·rw[if_neg h0,get_r h (by omega),sub_r h (by omega),wI64 (by omega) (by omega),decide_eq_false (by omega),cond_false,Option.bind_some]
  by_cases h1:(lastR st).Kind=1
  ·rw[if_neg (by simp[h1]),show ((lastR st).Kind != 1)=false by simp[h1],cond_false,Option.bind_some]
   by_cases h2:IntKind.wrap .i32 ((lastR st).N-1) > 0
   ·rw[if_pos h2,decide_eq_true h2,cond_true,Option.bind_some]
    unfold decR
    rw[show ((st.Ret.length:Int)-1).toNat=st.Ret.length-1 by omega];rfl
   ·rw[if_neg h2,decide_eq_false h2,cond_false];rfl
  ·rw[if_pos h1,show ((lastR st).Kind != 1)=true by simp[h1]];rfl
theorem forS_g {st:GSt} (hs1:SG st):SG (forS st)/\(forS st).Fuel=st.Fuel:=by
 constructor
 ·unfold forS
  split
  ·exact hs1.flt (by omega) (by omega)
  ·rename_i h0
   split
   ·exact hs1.flt (by omega) (by omega)
   ·rename_i h24
    have hr:=hs1.b.r
    have hdd:=hs1.b.d
    refine ⟨⟨by rw[List.length_dropLast];omega,by simp;omega,hs1.b.m,hs1.b.v,hs1.b.o,hs1.b.i,λ s hs => ?_,hs1.b.vb,hs1.b.c,hs1.b.cl,hs1.b.f,hs1.b.u⟩,λ x hx=>hs1.d x (List.dropLast_subset _ hx),hs1.m,hs1.a,λ s hs => ?_⟩
    ·rcases List.mem_append.1 hs with hs|hs
     ·exact hs1.b.rk s hs
     ·rw[List.mem_singleton]at hs;subst hs;exact ⟨by show (0:Int)<=1;omega,by show (1:Int)<=2;omega⟩
    ·rcases List.mem_append.1 hs with hs|hs
     ·exact hs1.r s hs
     ·rw[List.mem_singleton]at hs;subst hs;exact hs1.y
 ·unfold forS
  repeat' split
  all_goals rfl
theorem nextS_g {st:GSt} (hs1:SG st):SG (nextS st).2/\(nextS st).2.Fuel=st.Fuel:=by
 constructor
 ·unfold nextS
  split
  ·exact hs1.flt (by omega) (by omega)
  ·rename_i h0
   split
   ·exact hs1.flt (by omega) (by omega)
   ·split
    ·exact hs1.dec (by omega)
    ·exact hs1.ret (by rw[List.length_dropLast];have:=hs1.b.r;omega) (λ s hs=>hs1.b.rk s (List.dropLast_subset _ hs)) (λ s hs=>hs1.r s (List.dropLast_subset _ hs))
 ·unfold nextS
  repeat' split
  all_goals rfl
theorem putS_g {st:GSt} (h:SG st) {n:Int} (hn:i32B n):SG (putS st st 0 [n])/\(putS st st 0 [n]).Fuel=st.Fuel:=by
 refine ⟨h.put h λ x hx=>by rw[List.mem_singleton]at hx;subst hx;exact hn,?_⟩
 unfold putS
 split<;>rfl
theorem burnM {st:GSt} (h:SG st) (trs:List (List GTree)):g_impl_meaning_burn_own (⟨trs,st⟩:GMeaning)=some (if st.Fuel=0 then (false,⟨trs,flt st 6⟩) else (true,⟨trs,fuelS st⟩)):=by
 have:=h.b.u
 unfold g_impl_meaning_burn_own
 show cond (st.Fuel==0) _ (some (true,(⟨trs,⟨st.Data,st.Ret,st.A,st.Mem,st.Cells,st.Vars,st.Out,st.In,st.Fault,IntKind.wrap .i64 (st.Fuel-1)⟩⟩:GMeaning)))=_
 by_cases h0:st.Fuel=0
 ·rw[if_pos h0,show (st.Fuel==0)=true by simp[h0]];rfl
 ·rw[if_neg h0,show (st.Fuel==0)=false by simp[h0],cond_false,wI64 (by omega) (by omega)];rfl
def wordS (st:GSt) (k:Int):GSt:=(g_impl_does st k).getD st
theorem wordS_ok {st:GSt} (h:SG st) (hf:st.Fault=0) {k:Int} (h0:0<=k) (h1:k<=23):g_impl_does st k=some (wordS st k)/\SG (wordS st k)/\(wordS st k).Fuel=st.Fuel:=by
 obtain ⟨st',_,e,p1,p2⟩:=words h hf h0 h1
 have:wordS st k=st':=by unfold wordS;rw[e];rfl
 rw[this]
 exact ⟨e,p1,p2⟩
abbrev EV:=List GTree->GSt->Bool×GSt
def pushRet (st:GSt):GSt:=retS st (st.Ret++[⟨2,0⟩])
def enterL (ev:EV):List (List GTree)->GSt->GSt
 | [],st=>flt st 10
 | T::r,st=>if (ev T st).1=true\/(ev T st).2.Fault≠0 then (ev T st).2 else enterL ev r (ev T st).2
def enterE (trs:List (List GTree)) (ev:EV) (k:Int) (st:GSt):GSt:=if st.Ret.length=24 then flt st 3 else enterL ev (trs.drop k.toNat) (pushRet st)
def loopE (ev:EV) (kids:List GTree):Nat->GSt->Bool×GSt
 | 0,st=>(false,st)
 | f+1,st =>
  if st.Fault≠0 then (false,st)
  else if (ev kids st).1=true then (true,(ev kids st).2)
  else if (ev kids st).2.Fault≠0 then (false,(ev kids st).2)
  else if (ev kids st).2.Fuel=0 then (false,flt (ev kids st).2 6)
  else if (nextS (fuelS (ev kids st).2)).1=true then loopE ev kids f (nextS (fuelS (ev kids st).2)).2 else (false,(nextS (fuelS (ev kids st).2)).2)
def takeB (k y:Int):Bool:=(k==3&&y != 0) || (k==4&&decide (y < 0))
def restE (trs:List (List GTree)) (ev:EV) (k n:Int) (ks:List GTree) (s:GSt):Bool×GSt :=
 if k=0 then (false,putS s s 0 [n])
 else if k=1 then (false,wordS s (IntKind.wrap .i64 n))
 else if k=2 then (false,enterE trs ev (IntKind.wrap .i64 n) s)
 else if k=8 then (if s.Ret.length=0\/(lastR s).Kind≠2 then (false,flt s 11) else (true,retS s s.Ret.dropLast))
 else if k=3\/k=4 then (if s.Data.length=0 then (false,flt s 2) else if takeB k (yOf s)=true then ev ks s else (false,s))
 else if k=6 then loopE ev ks bigK (forS s)
 else (false,s)
def oneE (trs:List (List GTree)) (ev:EV) (t:GTree) (st:GSt):Bool×GSt:=if st.Fuel=0 then (false,flt st 6) else restE trs ev t.Kind t.N t.Kids (fuelS st)
def allE (trs:List (List GTree)) (ev:EV):List GTree->GSt->Bool×GSt
 | [],st=>(false,st)
 | t::r,st=>if (oneE trs ev t st).1=true then (true,(oneE trs ev t st).2) else if (oneE trs ev t st).2.Fault≠0 then (false,(oneE trs ev t st).2) else allE trs ev r (oneE trs ev t st).2
def evE (trs:List (List GTree)):Nat->EV
 | 0=>λ _ st=>(false,st)
 | n+1=>allE trs (evE trs n)
def PT (m:Nat) (k n:Int):Prop:=(k=0->i32B n)/\(k=1->0<=IntKind.wrap .i64 n/\IntKind.wrap .i64 n<=23)/\(k=2->0<=IntKind.wrap .i64 n/\IntKind.wrap .i64 n < m)
theorem okS_get {P:Int->Int->Prop} {l:List GTree} (h:OkS P l):∀ t ∈ l,P t.Kind t.N/\t.Kids.length<=60/\OkS P t.Kids:=by
 induction h with
 | nil=>intro t ht;cases ht
 | cons h hl hk hr ih1 ih2 =>
  intro t ht
  rcases List.mem_cons.1 ht with rfl|ht
  ·exact ⟨h,hl,hk⟩
  ·exact ih2 t ht
structure GoodV (m:Nat) (ev:EV) (n:Nat):Prop where
 g:∀ (list:List GTree) (st:GSt),OkS (PT m) list->list.length<=60->SG st->st.Fault=0->st.Fuel.toNat < n->SG (ev list st).2/\(ev list st).2.Fuel<=st.Fuel
abbrev RC:=List GTree->GMeaning->Option (Bool×GMeaning)
structure Knows (trs:List (List GTree)) (rc:RC) (ev:EV) (n:Nat):Prop where
 e:∀ (list:List GTree) (st:GSt),OkS (PT trs.length) list->list.length<=60->SG st->st.Fault=0->st.Fuel.toNat < n->rc list ⟨trs,st⟩=some ((ev list st).1,⟨trs,(ev list st).2⟩)
 g:∀ (list:List GTree) (st:GSt),OkS (PT trs.length) list->list.length<=60->SG st->st.Fault=0->st.Fuel.toNat < n->SG (ev list st).2/\(ev list st).2.Fuel<=st.Fuel
structure TreesOk (trs:List (List GTree)):Prop where
 n:trs.length<=24
 ok:∀ T ∈ trs,OkS (PT trs.length) T
 l:∀ T ∈ trs,T.length<=60
theorem pushRet_g {st:GSt} (h:SG st) (h24:st.Ret.length≠24):SG (pushRet st):=by
 have hr:=h.b.r
 exact h.ret (by simp;omega) (λ s hs=>by
   rcases List.mem_append.1 hs with hs|hs
   ·exact h.b.rk s hs
   ·rw[List.mem_singleton]at hs;subst hs;exact ⟨by show (0:Int)<=2;omega,by show (2:Int)<=2;omega⟩) (λ s hs=>by
   rcases List.mem_append.1 hs with hs|hs
   ·exact h.r s hs
   ·rw[List.mem_singleton]at hs;subst hs;exact ⟨by show -2147483648<=(0:Int);omega,by show (0:Int)<=2147483647;omega⟩)
section
variable {trs:List (List GTree)} {rc:RC} {ev:EV} {n:Nat}
theorem enterL_ok (hT:TreesOk trs) (K:Knows trs rc ev n):∀ (f i:Nat) (st:GSt),i<=trs.length->trs.length-i < f->SG st->st.Fault=0->st.Fuel.toNat < n →
  ((g_impl_meaning_enter_l0 rc f (i:Int) ⟨trs,st⟩).bind λ o=>match o with | .inl x_8=>(g_impl_meaning_fail_own 10 x_8).bind λ y_14=>some y_14 | .inr x_9=>some x_9)=some ⟨trs,enterL ev (trs.drop i) st⟩/\SG (enterL ev (trs.drop i) st)/\(enterL ev (trs.drop i) st).Fuel<=st.Fuel:=by
 intro f
 induction f with
 | zero=>intro i st h0 h1;omega
 | succ f ih =>
  intro i st h0 h1 h hf hu
  have htn:=hT.n
  rw[g_impl_meaning_enter_l0]
  by_cases hi:i < trs.length
  case neg =>
   rw[List.drop_eq_nil_of_le (by omega),enterL]
   refine ⟨?_,h.flt (by omega) (by omega),Int.le_refl _⟩
   show ((cond (decide ((i:Int) < (trs.length:Int))) _ _:Option (GMeaning ⊕ GMeaning))).bind _=_
   rw[decide_eq_false (by omega),cond_false];rfl
  rw[List.drop_eq_getElem_cons hi,enterL]
  have hm:=List.getElem_mem hi
  have e:=K.e trs[i] st (hT.ok _ hm) (hT.l _ hm) h hf hu
  obtain ⟨g1,g2⟩:=K.g trs[i] st (hT.ok _ hm) (hT.l _ hm) h hf hu
  have start:(cond (decide ((i:Int) < ((⟨trs,st⟩:GMeaning).trees.length:Int))) (((getI (⟨trs,st⟩:GMeaning).trees (i:Int)).bind λ v_12=>(rc v_12 ⟨trs,st⟩).bind λ y_13=>cond y_13.1 (some (true,y_13.2)) (some ((y_13.2.st.Fault != 0),y_13.2)):Option ((Bool×GMeaning))).bind λ (v_10,x_11)=>cond v_10 (some (.inr x_11)) (g_impl_meaning_enter_l0 rc f (IntKind.wrap .i64 ((i:Int)+1)) x_11)) (some (.inl ⟨trs,st⟩)):Option (GMeaning ⊕ GMeaning))=if (ev trs[i] st).1=true\/(ev trs[i] st).2.Fault≠0 then some (.inr ⟨trs,(ev trs[i] st).2⟩) else g_impl_meaning_enter_l0 rc f ((i+1:Nat):Int) ⟨trs,(ev trs[i] st).2⟩:=by
   show (cond (decide ((i:Int) < (trs.length:Int))) (((getI trs (i:Int)).bind λ v_12=>(rc v_12 ⟨trs,st⟩).bind λ y_13=>cond y_13.1 (some (true,y_13.2)) (some ((y_13.2.st.Fault != 0),y_13.2)):Option ((Bool×GMeaning))).bind _) _:Option (GMeaning ⊕ GMeaning))=_
   rw[decide_eq_true (by omega),cond_true,getI_nat,List.getElem?_eq_getElem hi,Option.bind_some,e,nxt (by omega)]
   simp only[Option.bind_some]
   cases (ev trs[i] st).1 with
   | true=>rw[cond_true,if_pos (.inl rfl)];rfl
   | false =>
    rw[cond_false]
    by_cases hq:(ev trs[i] st).2.Fault=0
    ·rw[if_neg (by simp[hq]),show ((ev trs[i] st).2.Fault != 0)=false by simp[hq]];rfl
    ·rw[if_pos (.inr hq),show ((ev trs[i] st).2.Fault != 0)=true by simp[hq]];rfl
  rw[start]
  have hub:=h.b.u
  have hub1:=g1.b.u
  by_cases hc:(ev trs[i] st).1=true\/(ev trs[i] st).2.Fault≠0
  ·rw[if_pos hc,if_pos hc];exact ⟨rfl,g1,g2⟩
  ·rw[if_neg hc,if_neg hc]
   obtain ⟨a,b,c⟩:=ih (i+1) (ev trs[i] st).2 (by omega) (by omega) g1 (Decidable.byContradiction λ hx=>hc (.inr hx)) (by omega)
   exact ⟨a,b,by omega⟩
theorem enterE_ok (hT:TreesOk trs) (K:Knows trs rc ev n) {k:Int} (hk0:0<=k) (hk1:k < trs.length) {st:GSt} (h:SG st) (hf:st.Fault=0) (hu:st.Fuel.toNat < n) :
  g_impl_meaning_enter_p rc k ⟨trs,st⟩=some ⟨trs,enterE trs ev k st⟩/\SG (enterE trs ev k st)/\(enterE trs ev k st).Fuel<=st.Fuel:=by
 have hr:=h.b.r
 have htn:=hT.n
 unfold g_impl_meaning_enter_p enterE
 by_cases h24:st.Ret.length=24
 ·rw[if_pos h24]
  refine ⟨?_,h.flt (by omega) (by omega),Int.le_refl _⟩
  show cond ((st.Ret.length:Int)==24) _ _=_
  rw[show ((st.Ret.length:Int)==24)=true by rw[h24];rfl];rfl
 ·rw[if_neg h24]
  obtain ⟨a,b,c⟩:=enterL_ok hT K bigK k.toNat (pushRet st) (by omega) (by unfold bigK;omega) (pushRet_g h h24) hf hu
  refine ⟨?_,b,c⟩
  rw[show ((k.toNat:Nat):Int)=k by omega]at a
  show cond ((st.Ret.length:Int)==24) _ ((app st.Ret [(⟨2,0⟩:GSlot)]).bind λ v_5=>(g_impl_meaning_enter_l0 rc bigK k (⟨trs,retS st v_5⟩:GMeaning)).bind _)=_
  rw[show ((st.Ret.length:Int)==24)=false by rw[beq_eq_false_iff_ne];omega,cond_false,app_eq (by simp;omega),Option.bind_some]
  exact a
theorem loopE_ok {kids:List GTree} (hk:OkS (PT trs.length) kids) (hl:kids.length<=60) (K:Knows trs rc ev n):∀ (f:Nat) (st:GSt),SG st->st.Fuel.toNat < f->st.Fuel.toNat < n →
  ((g_impl_meaning_loop_l0 rc kids f ⟨trs,st⟩).bind λ o=>match o with | .inl x_7=>some (false,x_7) | .inr (v_8,x_9)=>some (v_8,x_9))=some ((loopE ev kids f st).1,⟨trs,(loopE ev kids f st).2⟩)/\SG (loopE ev kids f st).2/\(loopE ev kids f st).2.Fuel<=st.Fuel:=by
 intro f
 induction f with
 | zero=>intro st h h1;omega
 | succ f ih =>
  intro st h h1 h2
  rw[g_impl_meaning_loop_l0,loopE]
  by_cases hf:st.Fault=0
  case neg =>
   rw[if_pos hf]
   refine ⟨?_,h,Int.le_refl _⟩
   show ((cond (st.Fault==0) _ _:Option (GMeaning ⊕ (Bool×GMeaning)))).bind _=_
   rw[show (st.Fault==0)=false by simp[hf]];rfl
  rw[if_neg (by simp[hf])]
  have e:=K.e kids st hk hl h hf h2
  obtain ⟨g1,g2⟩:=K.g kids st hk hl h hf h2
  have hu:=h.b.u
  have hu1:=g1.b.u
  have start:(cond ((⟨trs,st⟩:GMeaning).st.Fault==0) ((rc kids ⟨trs,st⟩).bind λ y_10=>cond y_10.1 (some (.inr (true,y_10.2))) ((cond (y_10.2.st.Fault != 0) (some (true,y_10.2)) ((g_impl_meaning_burn_own y_10.2).bind λ y_13=>cond (!y_13.1) (some (true,y_13.2)) ((g_impl_St_again_inGMeaning_1 y_13.2).bind λ y_14=>some ((!y_14.1),y_14.2))):Option ((Bool×GMeaning))).bind λ (v_11,x_12)=>cond v_11 (some (.inr (false,x_12))) (g_impl_meaning_loop_l0 rc kids f x_12))) (some (.inl ⟨trs,st⟩)):Option (GMeaning ⊕ (Bool×GMeaning)))=(cond (ev kids st).1 (some (.inr (true,(⟨trs,(ev kids st).2⟩:GMeaning)))) ((cond ((ev kids st).2.Fault != 0) (some (true,(⟨trs,(ev kids st).2⟩:GMeaning))) ((g_impl_meaning_burn_own (⟨trs,(ev kids st).2⟩:GMeaning)).bind λ y_13=>cond (!y_13.1) (some (true,y_13.2)) ((g_impl_St_again_inGMeaning_1 y_13.2).bind λ y_14=>some ((!y_14.1),y_14.2))):Option ((Bool×GMeaning))).bind λ (v_11,x_12)=>cond v_11 (some (.inr (false,x_12))) (g_impl_meaning_loop_l0 rc kids f x_12))):=by
   show cond (st.Fault==0) ((rc kids (⟨trs,st⟩:GMeaning)).bind _) _=_
   rw[show (st.Fault==0)=true by simp[hf],cond_true,e];rfl
  rw[start]
  generalize (ev kids st).1=b at *
  generalize (ev kids st).2=s1 at *
  cases b with
  | true=>rw[if_pos rfl];exact ⟨rfl,g1,g2⟩
  | false =>
   rw[if_neg (by simp),cond_false]
   by_cases hf1:s1.Fault=0
   case neg =>
    rw[if_pos hf1,show (s1.Fault != 0)=true by simp[hf1]]
    exact ⟨rfl,g1,g2⟩
   rw[if_neg (by simp[hf1]),show (s1.Fault != 0)=false by simp[hf1],cond_false,burnM g1]
   by_cases h0:s1.Fuel=0
   ·rw[if_pos h0,if_pos h0]
    exact ⟨rfl,g1.flt (by omega) (by omega),g2⟩
   ·rw[if_neg h0,if_neg h0]
    have hs:=g1.fuel h0
    obtain ⟨n1,n2⟩:=nextS_g hs
    have hfu:(fuelS s1).Fuel=s1.Fuel-1:=rfl
    simp only[Option.bind_some,Bool.not_true,cond_false]
    rw[againM hs.b]
    simp only[Option.bind_some]
    cases hb:(nextS (fuelS s1)).1 with
    | false =>
     rw[if_neg (by simp)]
     exact ⟨rfl,n1,by show (nextS (fuelS s1)).2.Fuel<=_;omega⟩
    | true =>
     rw[if_pos rfl]
     obtain ⟨a,b,c⟩:=ih (nextS (fuelS s1)).2 n1 (by omega) (by omega)
     exact ⟨a,b,by omega⟩
end
end Go.Proofs.YtmedombacbpofaaGreatDoor
namespace Go.Proofs.YtmedombacbpofaaGreatDoor
open Go Go.Fm
set_option maxRecDepth 100000
section
variable {trs:List (List GTree)} {rc:RC} {ev:EV} {n:Nat}
theorem oneE_ok (hT:TreesOk trs) (K:Knows trs rc ev n) {k m:Int} {ks:List GTree} (hP:PT trs.length k m) (hl:ks.length<=60) (hk:OkS (PT trs.length) ks) {st:GSt} (h:SG st) (hf:st.Fault=0) (hu:st.Fuel.toNat<=n) :
  g_impl_meaning_one_p rc ⟨k,m,ks⟩ ⟨trs,st⟩=some ((oneE trs ev ⟨k,m,ks⟩ st).1,⟨trs,(oneE trs ev ⟨k,m,ks⟩ st).2⟩)/\SG (oneE trs ev ⟨k,m,ks⟩ st).2/\(oneE trs ev ⟨k,m,ks⟩ st).2.Fuel<=st.Fuel:=by
 have hub:=h.b.u
 unfold oneE
 by_cases h0:st.Fuel=0
 ·rw[if_pos h0]
  refine ⟨?_,h.flt (by omega) (by omega),Int.le_refl _⟩
  unfold g_impl_meaning_one_p
  rw[burnM h,if_pos h0];rfl
 rw[if_neg h0]
 show _=some ((restE trs ev k m ks (fuelS st)).1,_)/\SG (restE trs ev k m ks (fuelS st)).2/\(restE trs ev k m ks (fuelS st)).2.Fuel<=st.Fuel
 have hs:=h.fuel h0
 have hfs:(fuelS st).Fault=0:=hf
 have hfu:(fuelS st).Fuel=st.Fuel-1:=rfl
 have hun:(fuelS st).Fuel.toNat < n:=by omega
 have hr:=hs.b.r
 have hd:=hs.b.d
 generalize hgs:fuelS st=s1 at *
 have go:g_impl_meaning_one_p rc ⟨k,m,ks⟩ ⟨trs,st⟩=((cond (k==0) ((g_impl_St_pushes_inGMeaning_1 m (⟨trs,s1⟩:GMeaning)).bind λ y_9=>some (.inl y_9)) (cond (k==1) ((g_impl_does s1 (IntKind.wrap .i64 m)).bind λ y_10=>some (.inl (⟨trs,y_10⟩:GMeaning))) (cond (k==2) ((g_impl_meaning_enter_p rc (IntKind.wrap .i64 m) (⟨trs,s1⟩:GMeaning)).bind λ y_11=>some (.inl y_11)) (cond (k==8) ((cond (decide ((IntKind.wrap .i64 ((s1.Ret.length:Int)-1)) < 0)) (some true) ((getI s1.Ret (IntKind.wrap .i64 ((s1.Ret.length:Int)-1))).bind λ v_13=>some (v_13.Kind != 2)):Option (Bool)).bind λ v_12=>cond v_12 ((g_impl_meaning_fail_own 11 (⟨trs,s1⟩:GMeaning)).bind λ y_14=>some (.inr (false,y_14))) ((subL s1.Ret 0 (IntKind.wrap .i64 ((s1.Ret.length:Int)-1))).bind λ v_15=>some (.inr (true,(⟨trs,retS s1 v_15⟩:GMeaning))))) ((cond (k==3) (some (k==3)) (some (k==4)):Option (Bool)).bind λ v_16=>cond v_16 (cond (decide ((IntKind.wrap .i64 ((s1.Data.length:Int)-1)) < 0)) ((g_impl_meaning_fail_own 2 (⟨trs,s1⟩:GMeaning)).bind λ y_17=>some (.inl y_17)) ((cond (k==3) ((getI s1.Data (IntKind.wrap .i64 ((s1.Data.length:Int)-1))).bind λ v_19=>cond (v_19 != 0) (some true) (cond (k==4) ((getI s1.Data (IntKind.wrap .i64 ((s1.Data.length:Int)-1))).bind λ v_20=>some (decide (v_20 < 0))) (some false))) (cond (k==4) ((getI s1.Data (IntKind.wrap .i64 ((s1.Data.length:Int)-1))).bind λ v_21=>some (decide (v_21 < 0))) (some false)):Option (Bool)).bind λ v_18=>cond v_18 ((rc ks (⟨trs,s1⟩:GMeaning)).bind λ y_22=>some (.inr (y_22.1,y_22.2))) (some (.inl (⟨trs,s1⟩:GMeaning))))) (cond (k==6) ((g_impl_meaning_loop_p rc ks (⟨trs,s1⟩:GMeaning)).bind λ y_23=>some (.inr (y_23.1,y_23.2))) (some (.inl (⟨trs,s1⟩:GMeaning)))))))):Option (GMeaning ⊕ (Bool×GMeaning))).bind λ o=>match o with | .inl x_6=>some (false,x_6) | .inr (v_7,x_8)=>some (v_7,x_8)):=by
  unfold g_impl_meaning_one_p
  rw[burnM h,if_neg h0,hgs]
  rfl
 rw[go]
 unfold restE
 by_cases k0:k=0
 ·subst k0
  obtain ⟨p1,p2⟩:=putS_g hs (hP.1 rfl)
  rw[if_pos rfl]
  refine ⟨?_,p1,Int.le_trans (Int.le_of_eq p2) (by omega)⟩
  rw[show ((0:Int)==0)=true from rfl,cond_true,pushM hs.b];rfl
 rw[if_neg k0,show (k==0)=false by simp[k0],cond_false]
 by_cases k1:k=1
 ·subst k1
  obtain ⟨e,p1,p2⟩:=wordS_ok hs hfs (hP.2.1 rfl).1 (hP.2.1 rfl).2
  rw[if_pos rfl]
  refine ⟨?_,p1,Int.le_trans (Int.le_of_eq p2) (by omega)⟩
  rw[show ((1:Int)==1)=true from rfl,cond_true,e];rfl
 rw[if_neg k1,show (k==1)=false by simp[k1],cond_false]
 by_cases k2:k=2
 ·subst k2
  obtain ⟨e,p1,p2⟩:=enterE_ok hT K (hP.2.2 rfl).1 (hP.2.2 rfl).2 hs hfs hun
  rw[if_pos rfl]
  refine ⟨?_,p1,Int.le_trans p2 (by omega)⟩
  rw[show ((2:Int)==2)=true from rfl,cond_true,e];rfl
 rw[if_neg k2,show (k==2)=false by simp[k2],cond_false]
 by_cases k8:k=8
 ·subst k8
  rw[if_pos rfl,show ((8:Int)==8)=true from rfl,cond_true]
  by_cases hr0:s1.Ret.length=0
  ·rw[if_pos (.inl hr0)]
   refine ⟨?_,hs.flt (by omega) (by omega),by show s1.Fuel<=_;omega⟩
   rw[hr0];rfl
  ·have g1:=get_r hs.b (by omega)
   have g2:=sub_r hs.b (by omega)
   rw[g1,g2,wI64 (by omega) (by omega),decide_eq_false (by omega),cond_false]
   simp only[Option.bind_some]
   by_cases hk2:(lastR s1).Kind=2
   ·rw[if_neg (by simp[hr0,hk2]),show ((lastR s1).Kind != 2)=false by simp[hk2]]
    exact ⟨rfl,hs.ret (by rw[List.length_dropLast];omega) (λ s hm=>hs.b.rk s (List.dropLast_subset _ hm)) (λ s hm=>hs.r s (List.dropLast_subset _ hm)),by show s1.Fuel<=_;omega⟩
   ·rw[if_pos (.inr hk2),show ((lastR s1).Kind != 2)=true by simp[hk2]]
    exact ⟨rfl,hs.flt (by omega) (by omega),by show s1.Fuel<=_;omega⟩
 rw[if_neg k8,show (k==8)=false by simp[k8],cond_false]
 by_cases k34:k=3\/k=4
 ·have e34:(cond (k==3) (some (k==3)) (some (k==4)):Option Bool)=some true:=by
   rcases k34 with rfl|rfl<;>rfl
  rw[if_pos k34,e34,Option.bind_some,cond_true]
  by_cases hd0:s1.Data.length=0
  ·rw[if_pos hd0]
   refine ⟨?_,hs.flt (by omega) (by omega),by show s1.Fuel<=_;omega⟩
   rw[hd0];rfl
  ·have g1:=get_y hs.b (by omega)
   rw[if_neg hd0,decide_eq_false (by rw[wI64 (by omega) (by omega)];omega),cond_false]
   have hc:(cond (k==3) ((getI s1.Data (IntKind.wrap .i64 ((s1.Data.length:Int)-1))).bind λ v_19=>cond (v_19 != 0) (some true) (cond (k==4) ((getI s1.Data (IntKind.wrap .i64 ((s1.Data.length:Int)-1))).bind λ v_20=>some (decide (v_20 < 0))) (some false))) (cond (k==4) ((getI s1.Data (IntKind.wrap .i64 ((s1.Data.length:Int)-1))).bind λ v_21=>some (decide (v_21 < 0))) (some false)):Option (Bool))=some (takeB k (yOf s1)):=by
    rw[g1]
    simp only[Option.bind_some]
    unfold takeB
    cases (k==3)<;>cases (k==4)<;>cases (yOf s1 != 0)<;>rfl
   rw[hc,Option.bind_some]
   cases hc:takeB k (yOf s1) with
   | false=>rw[if_neg (by simp)];exact ⟨rfl,hs,by show s1.Fuel<=_;omega⟩
   | true =>
    rw[if_pos rfl,cond_true,K.e ks s1 hk hl hs hfs hun]
    obtain ⟨p1,p2⟩:=K.g ks s1 hk hl hs hfs hun
    exact ⟨rfl,p1,Int.le_trans p2 (by omega)⟩
 have e34:(cond (k==3) (some (k==3)) (some (k==4)):Option Bool)=some false:=by
  rw[show (k==3)=false by rw[beq_eq_false_iff_ne];omega,show (k==4)=false by rw[beq_eq_false_iff_ne];omega];rfl
 rw[if_neg k34,e34,Option.bind_some,cond_false]
 by_cases k6:k=6
 ·subst k6
  obtain ⟨f1,f2⟩:=forS_g hs
  have hfu2:=f1.b.u
  obtain ⟨a,b,c⟩:=loopE_ok hk hl K bigK (forS s1) f1 (by unfold bigK;omega) (by omega)
  rw[if_pos rfl,show ((6:Int)==6)=true from rfl,cond_true]
  refine ⟨?_,b,Int.le_trans c (by omega)⟩
  have hlp:g_impl_meaning_loop_p rc ks (⟨trs,s1⟩:GMeaning)=some ((loopE ev ks bigK (forS s1)).1,⟨trs,(loopE ev ks bigK (forS s1)).2⟩):=by
   unfold g_impl_meaning_loop_p
   rw[beginM hs.b,Option.bind_some]
   exact a
  rw[hlp];rfl
 ·rw[if_neg k6,show (k==6)=false by simp[k6],cond_false]
  exact ⟨rfl,hs,by show s1.Fuel<=_;omega⟩
theorem allE_ok (hT:TreesOk trs) (K:Knows trs rc ev n) (list:List GTree) (st:GSt) (hok:OkS (PT trs.length) list) (hl:list.length<=60) (h:SG st) (hf:st.Fault=0) (hu:st.Fuel.toNat < n+1) :
  g_impl_meaning_all_b rc list ⟨trs,st⟩=some ((allE trs ev list st).1,⟨trs,(allE trs ev list st).2⟩)/\SG (allE trs ev list st).2/\(allE trs ev list st).2.Fuel<=st.Fuel:=by
 have loop:∀ (f i:Nat) (st:GSt),i<=list.length->list.length-i < f->SG st->st.Fault=0->st.Fuel.toNat<=n →
   ((((g_impl_meaning_all_l0 rc list (list.length:Int) f (i:Int) ⟨trs,st⟩).bind λ o=>match o with | .inl x_12=>some (.inl x_12) | .inr (v_13,x_14)=>some (.inr (v_13,x_14)):Option (GMeaning ⊕ (Bool×GMeaning))).bind λ o=>match o with | .inl x_5=>some (false,x_5) | .inr (v_6,x_7)=>some (v_6,x_7))=some ((allE trs ev (list.drop i) st).1,⟨trs,(allE trs ev (list.drop i) st).2⟩))/\SG (allE trs ev (list.drop i) st).2/\(allE trs ev (list.drop i) st).2.Fuel<=st.Fuel:=by
  intro f
  induction f with
  | zero=>intro i st h0 h1;omega
  | succ f ih =>
   intro i st h0 h1 h hf hu
   rw[g_impl_meaning_all_l0]
   by_cases hn:i < list.length
   case neg =>
    rw[List.drop_eq_nil_of_le (by omega),allE,decide_eq_false (by omega),cond_false]
    exact ⟨rfl,h,Int.le_refl _⟩
   obtain ⟨q1,q2,q3⟩:=okS_get hok list[i] (List.getElem_mem hn)
   obtain ⟨e,p1,p2⟩:=oneE_ok hT K q1 q2 q3 h hf hu
   rw[List.drop_eq_getElem_cons hn,allE,decide_eq_true (by omega),cond_true,getI_nat,List.getElem?_eq_getElem hn,Option.bind_some,e,nxt (by omega)]
   have ht:(⟨list[i].Kind,list[i].N,list[i].Kids⟩:GTree)=list[i]:=by cases list[i];rfl
   rw[ht]at p1 p2 ⊢
   simp only[Option.bind_some]
   have hu1:=p1.b.u
   have hub:=h.b.u
   generalize (oneE trs ev list[i] st).1=b at *
   generalize (oneE trs ev list[i] st).2=s1 at *
   cases b with
   | true=>rw[if_pos rfl];exact ⟨rfl,p1,p2⟩
   | false =>
    rw[if_neg (by simp),cond_false]
    by_cases hf1:s1.Fault=0
    ·rw[if_neg (by simp[hf1]),show (s1.Fault != 0)=false by simp[hf1],cond_false]
     obtain ⟨a,b,c⟩:=ih (i+1) s1 (by omega) (by omega) p1 hf1 (by omega)
     exact ⟨a,b,by omega⟩
    ·rw[if_pos hf1,show (s1.Fault != 0)=true by simp[hf1],cond_true]
     exact ⟨rfl,p1,p2⟩
 obtain ⟨a,b,c⟩:=loop bigK 0 st (Nat.zero_le _) (by unfold bigK;omega) h hf (by omega)
 rw[List.drop_zero]at a b c
 rw[show ((0:Nat):Int)=0 from rfl]at a
 exact ⟨a,b,c⟩
theorem evE_ok (hT:TreesOk trs):∀ n,Knows trs (g_impl_meaning_all_r n) (evE trs n) n
 | 0=>⟨λ _ st _ _ _ _ hu=>absurd hu (by omega),λ _ st _ _ _ _ hu=>absurd hu (by omega)⟩
 | n+1=>⟨λ list st h1 h2 h3 h4 h5=>(allE_ok hT (evE_ok hT n) list st h1 h2 h3 h4 h5).1,λ list st h1 h2 h3 h4 h5=>(allE_ok hT (evE_ok hT n) list st h1 h2 h3 h4 h5).2⟩
theorem enter_ok (hT:TreesOk trs) {k:Int} (hk0:0<=k) (hk1:k < trs.length) {st:GSt} (h:SG st) (hf:st.Fault=0) :
  g_impl_meaning_enter k ⟨trs,st⟩=some ⟨trs,enterE trs (evE trs bigK) k st⟩/\SG (enterE trs (evE trs bigK) k st)/\(enterE trs (evE trs bigK) k st).Fuel<=st.Fuel:=by
 have hu:=h.b.u
 exact enterE_ok hT (evE_ok hT bigK) hk0 hk1 h hf (by unfold bigK;omega)
end
end Go.Proofs.YtmedombacbpofaaGreatDoor
namespace Go.Proofs.YtmedombacbpofaaGreatDoor
open Go Go.Fm
set_option maxRecDepth 100000
def setF (st:GSt) (f:Int):GSt:=⟨st.Data,st.Ret,st.A,st.Mem,st.Cells,st.Vars,st.Out,st.In,st.Fault,f⟩
theorem map_cond {α β:Type} (b:Bool) (x y:Option α) (G:α->β):(cond b x y).map G=cond b (x.map G) (y.map G):=by cases b<;>rfl
theorem bind_cond {α β:Type} (b:Bool) (x y:Option α) (G:α->Option β):(cond b x y).bind G=cond b (x.bind G) (y.bind G):=by cases b<;>rfl
theorem map_bindO {α β γ:Type} (o:Option α) (K:α->Option β) (G:β->γ):(o.bind K).map G=o.bind λ x=>(K x).map G:=by cases o<;>rfl
theorem bind_mapO {α β γ:Type} (o:Option α) (G:α->β) (K:β->Option γ):(o.map G).bind K=o.bind λ x=>K (G x):=by cases o<;>rfl
theorem bind_bindO {α β γ:Type} (o:Option α) (K:α->Option β) (M:β->Option γ):(o.bind K).bind M=o.bind λ x=>(K x).bind M:=by cases o<;>rfl
theorem map_someO {α β:Type} (x:α) (G:α->β):(some x).map G=some (G x):=rfl
theorem own_f (st:GSt) (f:Int):g_impl_ownSt (setF st f)=(g_impl_ownSt st).map λ r=>setF r f:=by
 unfold g_impl_ownSt
 simp only[map_bindO,map_someO]
 rfl
theorem c1_f (n:Int) (st:GSt) (f:Int):g_impl_doesc1 n (setF st f)=(g_impl_doesc1 n st).map λ r=>setF r f:=by
 unfold g_impl_doesc1
 rw[own_f]
 simp only[map_bindO,map_someO,bind_mapO]
 rfl
theorem place_f (y:Int) (st:GSt) (f:Int):g_impl_St_place_rd y (setF st f)=g_impl_St_place_rd y st:=rfl
theorem written_f (s:Bs) (st:GSt) (f:Int):g_impl_St_written s (setF st f)=(g_impl_St_written s st).map λ r=>(r.1,setF r.2 f):=by
 unfold g_impl_St_written
 simp only[map_bindO,map_cond,map_someO]
 rfl
theorem effect_f (n:Bs) (x y:Int) (st:GSt) (f:Int):g_impl_St_effect n x y (setF st f)=(g_impl_St_effect n x y st).map λ r=>(r.1,r.2.1,setF r.2.2 f):=by
 unfold g_impl_St_effect
 simp only[place_f,written_f,map_bindO,bind_mapO,bind_bindO,map_cond,bind_cond,map_someO,Option.bind_some]
 rfl
theorem does_f (st:GSt) (k f:Int):g_impl_does (setF st f) k=(g_impl_does st k).map λ r=>setF r f:=by
 unfold g_impl_does
 simp only[own_f,c1_f,effect_f,map_bindO,bind_mapO,bind_bindO,map_cond,bind_cond,map_someO,Option.bind_some]
 rfl
theorem word_f (st:GSt) (k f:Int):wordS (setF st f) k=setF (wordS st k) f:=by
 unfold wordS
 rw[does_f]
 cases g_impl_does st k<;>rfl
def Le (s s':GSt):Prop:=∃ f,s'=setF s f/\s.Fuel<=f
theorem Le.refl (s:GSt):Le s s:=⟨s.Fuel,rfl,Int.le_refl _⟩
theorem Le.trans {a b c:GSt} (h:Le a b) (g:Le b c):Le a c:=by
 obtain ⟨f,rfl,hf⟩:=h
 obtain ⟨g',rfl,hg⟩:=g
 exact ⟨g',rfl,Int.le_trans hf hg⟩
theorem Le.fault {a b:GSt} (h:Le a b):b.Fault=a.Fault:=by obtain ⟨f,rfl,_⟩:=h;rfl
theorem Le.put {a b:GSt} (h:Le a b) (w:Nat) (l:List Int):Le (putS a a w l) (putS b b w l):=by
 obtain ⟨f,rfl,hf⟩:=h
 refine ⟨f,?_,?_⟩
 ·unfold putS
  show (if a.Data.length-w+l.length > 16 then _ else _)=_
  split<;>rfl
 ·unfold putS
  split<;>exact hf
theorem Le.word {a b:GSt} (h:Le a b) (hg:SG a) (hf:a.Fault=0) {k:Int} (h0:0<=k) (h1:k<=23):Le (wordS a k) (wordS b k):=by
 obtain ⟨f,rfl,hf'⟩:=h
 exact ⟨f,word_f a k f,by rw[(wordS_ok hg hf h0 h1).2.2];exact hf'⟩
theorem Le.ret {a b:GSt} (h:Le a b) (g:List GSlot->List GSlot):Le (retS a (g a.Ret)) (retS b (g b.Ret)):=by
 obtain ⟨f,rfl,hf⟩:=h
 exact ⟨f,rfl,hf⟩
theorem Le.push {a b:GSt} (h:Le a b):Le (pushRet a) (pushRet b):=h.ret λ r=>r++[(⟨2,0⟩:GSlot)]
theorem Le.fuel {a b:GSt} (h:Le a b):Le (fuelS a) (fuelS b):=by
 obtain ⟨f,rfl,hf⟩:=h
 exact ⟨f-1,rfl,by show a.Fuel-1<=f-1;omega⟩
theorem Le.fuel0 {a b:GSt} (h:Le a b) (hg:SG a) (h0:a.Fuel≠0):b.Fuel≠0:=by
 obtain ⟨f,rfl,hf⟩:=h
 have:=hg.b.u
 show f≠0
 omega
theorem Le.for {a b:GSt} (h:Le a b):Le (forS a) (forS b):=by
 obtain ⟨f,rfl,hf⟩:=h
 refine ⟨f,?_,?_⟩
 ·unfold forS
  show (if a.Data.length=0 then _ else if a.Ret.length=24 then _ else _)=_
  split
  ·rfl
  ·split<;>rfl
 ·unfold forS
  split
  ·exact hf
  ·split<;>exact hf
theorem Le.next {a b:GSt} (h:Le a b):(nextS b).1=(nextS a).1/\Le (nextS a).2 (nextS b).2:=by
 obtain ⟨f,rfl,hf⟩:=h
 have e:nextS (setF a f)=((nextS a).1,setF (nextS a).2 f):=by
  unfold nextS
  show (if a.Ret.length=0 then _ else if (lastR a).Kind≠1 then _ else if IntKind.wrap .i32 ((lastR a).N-1) > 0 then _ else _)=_
  split
  ·rfl
  ·split
   ·rfl
   ·split<;>rfl
 rw[e]
 refine ⟨rfl,f,rfl,?_⟩
 unfold nextS
 split
 ·exact hf
 ·split
  ·exact hf
  ·split<;>exact hf
end Go.Proofs.YtmedombacbpofaaGreatDoor
namespace Go.Proofs.YtmedombacbpofaaGreatDoor
open Go Go.Fm
end Go.Proofs.YtmedombacbpofaaGreatDoor
namespace Go.Proofs.YtmedombacbpofaaGreatDoor
open Go Go.Fm
set_option maxRecDepth 100000
def pn (o:GOp):Bs:=(g_spec_PrimName (IntKind.wrap .i64 o.N)).getD []
theorem pn_eq (o:GOp):g_spec_PrimName (IntKind.wrap .i64 o.N)=some (pn o):=by
 obtain ⟨s,h⟩:=name_tot (IntKind.wrap .i64 o.N)
 unfold pn
 rw[h]
 rfl
def isB (o:GOp) (s:Bs):Bool:=o.Kind==1&&pn o==s
theorem specIs (o:GOp) (s:Bs):g_spec_l15Is o s=some (isB o s):=by
 unfold g_spec_l15Is isB
 rw[pn_eq]
 cases o.Kind==1<;>rfl
theorem findL {s:List Bs} {v:Bs} (hs:s.length<=1000):∀ (k n:Nat),n<=s.length->s.length-n < k->∃ o,g_slices_Index_string_l0 s v (s.length:Int) k n=some o/\(match o with | .inl _=>(s.drop n).any (v==·)=false | .inr i=>0<=i/\(s.drop n).any (v==·)=true):=by
 intro k
 induction k with
 | zero=>intro n h0 h1;omega
 | succ k ih =>
  intro n h0 h1
  rw[g_slices_Index_string_l0]
  by_cases hn:n < s.length
  ·rw[decide_eq_true (by omega),cond_true,getI_nat,List.getElem?_eq_getElem hn,List.drop_eq_getElem_cons hn,List.any_cons,Option.bind_some]
   cases hv:v==s[n] with
   | true=>exact ⟨_,rfl,by show 0<=(n:Int)/\_;exact ⟨by omega,rfl⟩⟩
   | false =>
    rw[cond_false,Bool.false_or,wI64 (by omega) (by omega),show ((n:Int)+1)=((n+1:Nat):Int) by omega]
    exact ih (n+1) (by omega) (by omega)
  ·rw[decide_eq_false (by omega),cond_false,List.drop_eq_nil_of_le (by omega)]
   exact ⟨_,rfl,rfl⟩
theorem contains_any {s:List Bs} {v:Bs} (hs:s.length<=1000):g_slices_Contains_string s v=some (s.any (v==·)):=by
 unfold g_slices_Contains_string g_slices_Index_string
 obtain ⟨o,h1,h2⟩:=findL (v:=v) hs bigK 0 (Nat.zero_le _) (by unfold bigK;omega)
 rw[List.drop_zero]at h2
 rw[show ((0:Nat):Int)=0 from rfl]at h1
 rw[h1]
 cases o with
 | inl u=>simp only[Option.bind_some];rw[h2];rfl
 | inr v=>simp only[Option.bind_some];rw[h2.2,decide_eq_true h2.1]
theorem implIs (o:GOp) {l:List Bs} (hl:l.length<=1000):g_impl_isPrim o l=some (l.any (isB o)):=by
 unfold g_impl_isPrim
 rw[name_eq,pn_eq,Option.bind_some,contains_any hl]
 unfold isB
 cases o.Kind==1
 ·simp
 ·simp
def twoB (o:GOp):Bool:=isB o [43] || isB o [42] || isB o [97,110,100] || isB o [111,114]
def oneB (o:GOp):Bool:=isB o [45] || isB o [50,42] || isB o [50,47]
def val2 (o:GOp) (x y:Int):Int:=cond (isB o [43]) (IntKind.wrap .i32 (x+y)) (cond (isB o [42]) (IntKind.wrap .i32 (x*y)) (cond (isB o [97,110,100]) (andI .i32 x y) (xorI .i32 x y)))
def val1 (o:GOp) (y:Int):Int:=cond (isB o [45]) (IntKind.wrap .i32 ((-1)-y)) (cond (isB o [50,42]) (IntKind.wrap .i32 (y+y)) (y / 2))
theorem isB_name {o:GOp} {s:Bs} (h:isB o s=true):pn o=s:=by
 unfold isB at h
 rw[Bool.and_eq_true]at h
 exact eq_of_beq h.2
theorem isB_kind {o:GOp} {s:Bs} (h:isB o s=true):o.Kind=1:=by
 unfold isB at h
 rw[Bool.and_eq_true]at h
 exact eq_of_beq h.1
theorem isB_ne {o:GOp} {s t:Bs} (h:isB o s=true) (hst:(s==t)=false):isB o t=false:=by
 have h1:=isB_name h
 unfold isB
 rw[h1,hst,Bool.and_false]
theorem two_or {o:GOp} (h:twoB o=true):isB o [43]=true\/isB o [42]=true\/isB o [97,110,100]=true\/isB o [111,114]=true:=by
 unfold twoB at h
 simp only[Bool.or_eq_true]at h
 rcases h with ((h|h)|h)|h
 ·exact .inl h
 ·exact .inr (.inl h)
 ·exact .inr (.inr (.inl h))
 ·exact .inr (.inr (.inr h))
theorem one_or {o:GOp} (h:oneB o=true):isB o [45]=true\/isB o [50,42]=true\/isB o [50,47]=true:=by
 unfold oneB at h
 simp only[Bool.or_eq_true]at h
 rcases h with (h|h)|h
 ·exact .inl h
 ·exact .inr (.inl h)
 ·exact .inr (.inr h)
theorem spec_two (o:GOp) (x y:Int):g_spec_l15Two o x y=some (if twoB o then (val2 o x y,true) else (0,false)):=by
 have e:∀ x':Bool->Option (Int×Bool),(((g_spec_l15Is o [43]).bind λ y_7=>cond (!y_7) ((g_spec_l15Is o [42]).bind λ y_8=>cond (!y_8) ((g_spec_l15Is o [97,110,100]).bind λ y_9=>cond (!y_9) ((g_spec_l15Is o [111,114]).bind λ y_10=>some (!y_10)) (some false)) (some false)) (some false):Option (Bool)).bind x')=x' (!twoB o):=λ x'=>by
  simp only[specIs,Option.bind_some]
  unfold twoB
  cases isB o [43]<;>cases isB o [42]<;>cases isB o [97,110,100]<;>cases isB o [111,114]<;>rfl
 unfold g_spec_l15Two
 rw[e]
 cases h:twoB o with
 | false=>rfl
 | true =>
  rw[Bool.not_true,cond_false,pn_eq,Option.bind_some,if_pos rfl]
  unfold val2
  rcases two_or h with h|h|h|h
  ·rw[isB_name h,h];rfl
  ·rw[isB_name h,h,isB_ne h (t:=[43]) rfl];rfl
  ·rw[isB_name h,h,isB_ne h (t:=[43]) rfl,isB_ne h (t:=[42]) rfl];rfl
  ·rw[isB_name h,isB_ne h (t:=[43]) rfl,isB_ne h (t:=[42]) rfl,isB_ne h (t:=[97,110,100]) rfl];rfl
theorem spec_one (o:GOp) (y:Int):g_spec_l15One o y=some (if oneB o then (val1 o y,true) else (0,false)):=by
 have e:∀ x':Bool->Option (Int×Bool),(((g_spec_l15Is o [45]).bind λ y_6=>cond (!y_6) ((g_spec_l15Is o [50,42]).bind λ y_7=>cond (!y_7) ((g_spec_l15Is o [50,47]).bind λ y_8=>some (!y_8)) (some false)) (some false):Option (Bool)).bind x')=x' (!oneB o):=λ x'=>by
  simp only[specIs,Option.bind_some]
  unfold oneB
  cases isB o [45]<;>cases isB o [50,42]<;>cases isB o [50,47]<;>rfl
 unfold g_spec_l15One
 rw[e]
 cases h:oneB o with
 | false=>rfl
 | true =>
  rw[Bool.not_true,cond_false,pn_eq,Option.bind_some,if_pos rfl]
  unfold val1
  rcases one_or h with h|h|h
  ·rw[isB_name h,h];rfl
  ·rw[isB_name h,h,isB_ne h (t:=[45]) rfl];rfl
  ·rw[isB_name h,isB_ne h (t:=[45]) rfl,isB_ne h (t:=[50,42]) rfl];rfl
theorem impl_two {o:GOp} (h:twoB o=true) (x y:Int):g_impl_foldedc2 (pn o) x y=some [⟨0,val2 o x y⟩]:=by
 unfold val2 g_impl_foldedc2
 rcases two_or h with h|h|h|h
 ·rw[isB_name h,h];rfl
 ·rw[isB_name h,h,isB_ne h (t:=[43]) rfl];rfl
 ·rw[isB_name h,h,isB_ne h (t:=[43]) rfl,isB_ne h (t:=[42]) rfl];rfl
 ·rw[isB_name h,isB_ne h (t:=[43]) rfl,isB_ne h (t:=[42]) rfl,isB_ne h (t:=[97,110,100]) rfl];rfl
theorem impl_one {o:GOp} (h:oneB o=true) {y:Int} (hy:i32B y):g_impl_foldedc2 (pn o) 0 y=some [⟨0,val1 o y⟩]:=by
 unfold val1
 rcases one_or h with h|h|h
 ·rw[isB_name h,h,cond_true,<-not32 hy];rfl
 ·rw[isB_name h,h,isB_ne h (t:=[45]) rfl,cond_false,cond_true,show y+y=2*y by omega];rfl
 ·rw[isB_name h,isB_ne h (t:=[45]) rfl,isB_ne h (t:=[50,42]) rfl];rfl
def pairB (a b:GOp):Bool:=(a.Kind==0&&isB b [100,114,111,112]) || (isB a [100,117,112]&&isB b [100,114,111,112]) || (isB a [115,119,97,112]&&isB b [115,119,97,112]) || (isB a [45]&&isB b [45])
def at1 (a:GOp):List GOp×Int:=if isB a [110,111,112] then ([],1) else ([],0)
def at2 (a b:GOp):List GOp×Int:=if a.Kind==0&&oneB b then ([⟨0,val1 b a.N⟩],2) else if pairB a b then ([],2) else at1 a
def at3 (a b c:GOp):List GOp×Int:=if a.Kind==0&&b.Kind==0&&twoB c then ([⟨0,val2 c a.N b.N⟩],3) else at2 a b
def foldAt:List GOp->List GOp×Int
 | []=>([],0)
 | [a]=>at1 a
 | [a,b]=>at2 a b
 | a::b::c::_=>at3 a b c
theorem spec_pair (a b:GOp):((cond (a.Kind==0) ((g_spec_l15Is b [100,114,111,112]).bind λ y_20=>cond y_20 (some true) ((g_spec_l15Is a [100,117,112]).bind λ y_21=>cond y_21 ((g_spec_l15Is b [100,114,111,112]).bind λ y_22=>cond y_22 (some true) ((g_spec_l15Is a [115,119,97,112]).bind λ y_23=>cond y_23 ((g_spec_l15Is b [115,119,97,112]).bind λ y_24=>cond y_24 (some true) ((g_spec_l15Is a [45]).bind λ y_25=>cond y_25 ((g_spec_l15Is b [45]).bind λ y_26=>some y_26) (some false))) ((g_spec_l15Is a [45]).bind λ y_27=>cond y_27 ((g_spec_l15Is b [45]).bind λ y_28=>some y_28) (some false)))) ((g_spec_l15Is a [115,119,97,112]).bind λ y_29=>cond y_29 ((g_spec_l15Is b [115,119,97,112]).bind λ y_30=>cond y_30 (some true) ((g_spec_l15Is a [45]).bind λ y_31=>cond y_31 ((g_spec_l15Is b [45]).bind λ y_32=>some y_32) (some false))) ((g_spec_l15Is a [45]).bind λ y_33=>cond y_33 ((g_spec_l15Is b [45]).bind λ y_34=>some y_34) (some false))))) ((g_spec_l15Is a [100,117,112]).bind λ y_35=>cond y_35 ((g_spec_l15Is b [100,114,111,112]).bind λ y_36=>cond y_36 (some true) ((g_spec_l15Is a [115,119,97,112]).bind λ y_37=>cond y_37 ((g_spec_l15Is b [115,119,97,112]).bind λ y_38=>cond y_38 (some true) ((g_spec_l15Is a [45]).bind λ y_39=>cond y_39 ((g_spec_l15Is b [45]).bind λ y_40=>some y_40) (some false))) ((g_spec_l15Is a [45]).bind λ y_41=>cond y_41 ((g_spec_l15Is b [45]).bind λ y_42=>some y_42) (some false)))) ((g_spec_l15Is a [115,119,97,112]).bind λ y_43=>cond y_43 ((g_spec_l15Is b [115,119,97,112]).bind λ y_44=>cond y_44 (some true) ((g_spec_l15Is a [45]).bind λ y_45=>cond y_45 ((g_spec_l15Is b [45]).bind λ y_46=>some y_46) (some false))) ((g_spec_l15Is a [45]).bind λ y_47=>cond y_47 ((g_spec_l15Is b [45]).bind λ y_48=>some y_48) (some false)))):Option Bool))=some (pairB a b):=by
 simp only[specIs,Option.bind_some]
 unfold pairB
 cases a.Kind==0<;>cases isB b [100,114,111,112]<;>cases isB a [100,117,112]<;>cases isB a [115,119,97,112]<;>cases isB b [115,119,97,112]<;>cases isB a [45]<;>cases isB b [45]<;>rfl
theorem spec_tail (a b:GOp):((g_spec_l15One b a.N).bind λ y_17=>(cond y_17.2 (some (a.Kind==0)) (some false):Option (Bool)).bind λ v_18=>cond v_18 (some (.inr ([(⟨0,y_17.1⟩:GOp)],2))) (cond (pairB a b) (some (.inr ([],2))) (some (.inl ()))):Option (Unit ⊕ ((List GOp)×Int)))=some (if a.Kind==0&&oneB b then .inr ([⟨0,val1 b a.N⟩],2) else if pairB a b then .inr ([],2) else .inl ()):=by
 rw[spec_one]
 simp only[Option.bind_some]
 cases h:oneB b<;>cases a.Kind==0<;>cases pairB a b<;>rfl
theorem spec_at1 (a:GOp):((g_spec_l15Is a [110,111,112]).bind λ y_50=>cond y_50 (some (([]:List GOp),(1:Int))) (some ([],0)))=some (at1 a):=by
 rw[specIs]
 unfold at1
 cases isB a [110,111,112]<;>rfl
theorem spec_at {l:List GOp} (h0:0 < l.length):g_spec_l15At l=some (foldAt l):=by
 unfold g_spec_l15At
 match l,h0 with
 | [a],_ =>
  have e0:getI [a] 0=some a:=rfl
  simp only[List.length_cons,List.length_nil,e0,Option.bind_some]
  rw[decide_eq_false (by omega),decide_eq_false (by omega),cond_false,cond_false]
  simp only[Option.bind_some,cond_false]
  exact spec_at1 a
 | [a,b],_ =>
  have e0:getI [a,b] 0=some a:=rfl
  have e1:getI [a,b] 1=some b:=rfl
  simp only[List.length_cons,List.length_nil,e0,e1,Option.bind_some]
  rw[decide_eq_false (by omega),decide_eq_true (by omega),cond_false,cond_true]
  simp only[Option.bind_some,cond_false,spec_pair]
  rw[spec_tail]
  show _=some (at2 a b)
  unfold at2
  cases a.Kind==0&&oneB b<;>cases pairB a b<;>first|rfl|exact spec_at1 a
 | a::b::c::r,_ =>
  have e0:getI (a::b::c::r) 0=some a:=rfl
  have e1:getI (a::b::c::r) 1=some b:=rfl
  have e2:getI (a::b::c::r) 2=some c:=rfl
  simp only[List.length_cons,e0,e1,e2,Option.bind_some]
  rw[decide_eq_true (by omega),decide_eq_true (by omega),cond_true,cond_true,spec_two]
  simp only[Option.bind_some,spec_pair]
  rw[spec_tail]
  show _=some (at3 a b c)
  unfold at3 at2
  cases a.Kind==0
  ·simp only[cond_false,Option.bind_some,Bool.false_and]
   cases pairB a b<;>first|rfl|exact spec_at1 a
  ·cases b.Kind==0
   ·simp only[cond_false,cond_true,Option.bind_some,Bool.false_and,Bool.true_and]
    cases oneB b<;>cases pairB a b<;>first|rfl|exact spec_at1 a
   ·cases twoB c
    ·simp only[cond_false,cond_true,Option.bind_some,Bool.false_and,Bool.true_and]
     cases oneB b<;>cases pairB a b<;>first|rfl|exact spec_at1 a
    ·rfl
end Go.Proofs.YtmedombacbpofaaGreatDoor
namespace Go.Proofs.YtmedombacbpofaaGreatDoor
open Go Go.Fm
set_option maxRecDepth 100000
theorem is4 (o:GOp):g_impl_isPrim o [[43],[42],[97,110,100],[111,114]]=some (twoB o):=by
 rw[implIs o (by decide)]
 unfold twoB
 simp only[List.any_cons,List.any_nil,Bool.or_false,Bool.or_assoc]
theorem is3 (o:GOp):g_impl_isPrim o [[45],[50,42],[50,47]]=some (oneB o):=by
 rw[implIs o (by decide)]
 unfold oneB
 simp only[List.any_cons,List.any_nil,Bool.or_false,Bool.or_assoc]
theorem is1 (o:GOp) (s:Bs):g_impl_isPrim o [s]=some (isB o s):=by
 rw[implIs o (by simp)]
 simp only[List.any_cons,List.any_nil,Bool.or_false]
theorem isB8 (s:Bs):isB ⟨8,0⟩ s=false:=rfl
theorem two8:twoB ⟨8,0⟩=false:=rfl
theorem one8:oneB ⟨8,0⟩=false:=rfl
theorem pair8 (a:GOp):pairB a ⟨8,0⟩=false:=by
 unfold pairB
 simp only[isB8,Bool.and_false,Bool.or_false]
theorem at28 (a:GOp):at2 a ⟨8,0⟩=at1 a:=by
 unfold at2
 simp[one8,pair8]
theorem at38 (a b:GOp):at3 a b ⟨8,0⟩=at2 a b:=by
 unfold at3
 simp[two8]
theorem impl_at {l:List GOp} (h0:0 < l.length) (hi:∀ o ∈ l,i32B o.N):g_impl_folded l=some (foldAt l):=by
 obtain ⟨a,b,c,e0,e1,e2,hf,ha⟩:∃ a b c,g_impl_foldedc1 0 l=some a/\g_impl_foldedc1 1 l=some b/\g_impl_foldedc1 2 l=some c/\foldAt l=at3 a b c/\i32B a.N:=by
  unfold g_impl_foldedc1
  match l,h0,hi with
  | [a],_,hi =>
   refine ⟨a,⟨8,0⟩,⟨8,0⟩,rfl,rfl,rfl,?_,hi a (by simp)⟩
   rw[at38,at28];rfl
  | [a,b],_,hi =>
   refine ⟨a,b,⟨8,0⟩,rfl,rfl,rfl,?_,hi a (by simp)⟩
   rw[at38];rfl
  | a::b::c::r,_,hi =>
   refine ⟨a,b,c,?_,?_,?_,rfl,hi a (by simp)⟩
   ·rw[decide_eq_true (by simp only[List.length_cons];omega)];rfl
   ·rw[decide_eq_true (by simp only[List.length_cons];omega)];rfl
   ·rw[decide_eq_true (by simp only[List.length_cons];omega)];rfl
 unfold g_impl_folded
 rw[e0,e1,e2,hf]
 simp only[Option.bind_some,name_eq,pn_eq,is4,is3,is1]
 unfold at3 at2 at1 pairB
 have hone:oneB b=true->g_impl_foldedc2 (pn b) 0 a.N=some [⟨0,val1 b a.N⟩]:=λ h=>impl_one h ha
 have htwo:twoB c=true->g_impl_foldedc2 (pn c) a.N b.N=some [⟨0,val2 c a.N b.N⟩]:=λ h=>impl_two h _ _
 cases a.Kind==0
 ·simp only[cond_false,Option.bind_some,Bool.false_and,Bool.false_or]
  cases isB a [100,117,112]<;>cases isB b [100,114,111,112]<;>cases isB a [115,119,97,112]<;>cases isB b [115,119,97,112]<;>cases isB a [45]<;>cases isB b [45]<;>cases isB a [110,111,112]<;>rfl
 ·have rest:((cond (oneB b) ((g_impl_foldedc2 (pn b) 0 a.N).bind λ y_16=>some (.inr (y_16,2))) ((cond (isB b [100,114,111,112]) (some (isB b [100,114,111,112])) (((cond (isB a [100,117,112]) (some (isB b [100,114,111,112])) (some false):Option Bool)).bind λ v_20=>cond v_20 (some v_20) ((cond (isB a [115,119,97,112]) (some (isB b [115,119,97,112])) (some false):Option Bool).bind λ v_23=>cond v_23 (some v_23) (cond (isB a [45]) (some (isB b [45])) (some false)))):Option Bool).bind λ v_17=>cond v_17 (some (.inr ([],2))) (cond (isB a [110,111,112]) (some (.inr ([],1))) (some (.inl ())))):Option (Unit ⊕ ((List GOp)×Int))).bind λ o=>match o with | .inl ()=>some ([],0) | .inr (v_7,v_8)=>some (v_7,v_8))=some (if oneB b then ([⟨0,val1 b a.N⟩],2) else if (isB b [100,114,111,112] || (isB a [100,117,112]&&isB b [100,114,111,112]) || (isB a [115,119,97,112]&&isB b [115,119,97,112]) || (isB a [45]&&isB b [45])) then ([],2) else if isB a [110,111,112] then ([],1) else ([],0)):=by
   cases ho:oneB b with
   | true=>rw[cond_true,hone ho];rfl
   | false =>
    cases isB a [100,117,112]<;>cases isB b [100,114,111,112]<;>cases isB a [115,119,97,112]<;>cases isB b [115,119,97,112]<;>cases isB a [45]<;>cases isB b [45]<;>cases isB a [110,111,112]<;>rfl
  cases b.Kind==0
  ·simp only[cond_false,cond_true,Option.bind_some,Bool.false_and,Bool.true_and,Bool.and_false]
   exact rest
  ·cases ht:twoB c with
   | true =>
    simp only[cond_true,Option.bind_some,Bool.true_and,htwo ht]
    rfl
   | false =>
    simp only[cond_false,cond_true,Option.bind_some,Bool.false_and,Bool.true_and,Bool.and_false]
    exact rest
theorem at1_ok (a:GOp):(at1 a).1=[]/\((at1 a).2=0\/(at1 a).2=1):=by
 unfold at1
 split
 ·exact ⟨rfl, .inr rfl⟩
 ·exact ⟨rfl, .inl rfl⟩
theorem at2_ok {a b:GOp} (ha:i32B a.N):((at2 a b).2=0\/((at2 a b).1.length:Int) < (at2 a b).2)/\0<=(at2 a b).2/\(at2 a b).2<=2/\∀ o ∈ (at2 a b).1,i32B o.N:=by
 unfold at2
 split
 ·refine ⟨.inr (by show (1:Int) < 2;decide),(by show (0:Int)<=2;decide),(by show (2:Int)<=2;decide),λ o ho => ?_⟩
  rw[List.mem_singleton]at ho
  subst ho
  unfold val1
  show i32B (cond _ _ _)
  cases isB b [45]
  ·cases isB b [50,42]
   ·show i32B (a.N / 2)
    unfold i32B at ha ⊢;omega
   ·exact i32w _
  ·exact i32w _
 ·split
  ·exact ⟨.inr (by decide),by decide,by decide,(λ o ho=>nomatch ho)⟩
  ·obtain ⟨h1,h2⟩:=at1_ok a
   rw[h1]
   exact ⟨by simp;omega,by omega,by omega,(λ o ho=>nomatch ho)⟩
theorem foldAt_ok {l:List GOp} (h0:0 < l.length) (hi:∀ o ∈ l,i32B o.N):((foldAt l).2=0\/((foldAt l).1.length:Int) < (foldAt l).2)/\0<=(foldAt l).2/\(foldAt l).2<=l.length/\∀ o ∈ (foldAt l).1,i32B o.N:=by
 match l,h0,hi with
 | [a],_,hi =>
  show ((at1 a).2=0\/((at1 a).1.length:Int) < (at1 a).2)/\0<=(at1 a).2/\(at1 a).2<=1/\_
  obtain ⟨h1,h2⟩:=at1_ok a
  refine ⟨?_,by omega,by omega,λ o ho => ?_⟩
  ·rw[h1];simp;omega
  ·change o ∈ (at1 a).1 at ho
   rw[h1]at ho;cases ho
 | [a,b],_,hi=>exact at2_ok (hi a (by simp))
 | a::b::c::r,_,hi =>
  obtain ⟨h1,h2,h3,h4⟩:=at2_ok (b:=b) (hi a (by simp))
  show ((at3 a b c).2=0\/((at3 a b c).1.length:Int) < (at3 a b c).2)/\0<=(at3 a b c).2/\(at3 a b c).2<=((a::b::c::r).length:Int)/\∀ o ∈ (at3 a b c).1,i32B o.N
  simp only[List.length_cons]
  unfold at3
  split
  ·refine ⟨.inr (by show (1:Int) < 3;decide),by show (0:Int)<=3;decide,by show (3:Int)<=_;omega,λ o ho => ?_⟩
   rw[List.mem_singleton]at ho
   subst ho
   show i32B (val2 c a.N b.N)
   unfold val2
   cases isB c [43]
   ·cases isB c [42]
    ·cases isB c [97,110,100]
     ·exact i32w _
     ·exact i32w _
    ·exact i32w _
   ·exact i32w _
  ·exact ⟨h1,h2,by omega,h4⟩
inductive FoldTo:List GOp->List GOp->Prop
 | refl (l:List GOp):FoldTo l l
 | step {p q w:List GOp} (h0:0 < q.length) (hn:(foldAt q).2≠0) (h:FoldTo (p++(foldAt q).1++q.drop (foldAt q).2.toNat) w):FoldTo (p++q) w
def Folded (w:List GOp):Prop:=∀ j,j < w.length->(foldAt (w.drop j)).2=0
theorem fold_loop:∀ (k:Nat) (out:List GOp) (i:Nat),i<=out.length->out.length<=60->(∀ o ∈ out,i32B o.N)->(∀ j,j < i->(foldAt (out.drop j)).2=0)->61*out.length+(out.length-i) < k →
  ∃ w,w.length<=out.length/\(∀ o ∈ w,i32B o.N)/\FoldTo out w/\Folded w/\g_impl_Fold_l0 k out (i:Int)=some w/\g_spec_Fold_l0 k out (i:Int)=some w:=by
 intro k
 induction k with
 | zero=>intro out i h0 h1 h2 h3 h4;omega
 | succ k ih =>
  intro out i h0 h1 h2 h3 h4
  rw[g_impl_Fold_l0,g_spec_Fold_l0]
  by_cases hn:i < out.length
  case neg =>
   rw[decide_eq_false (by omega),cond_false,cond_false]
   exact ⟨out,Nat.le_refl _,h2, .refl _,λ j hj=>h3 j (by omega),rfl,rfl⟩
  have hd:(out.drop i).length=out.length-i:=List.length_drop
  have h32:∀ o ∈ out.drop i,i32B o.N:=λ o ho=>h2 o (List.mem_of_mem_drop ho)
  obtain ⟨f1,f2,f3,f4⟩:=foldAt_ok (l:=out.drop i) (by omega) h32
  have es:subL out (i:Int) ((out.length:Nat):Int)=some (out.drop i):=by rw[subL_drop (by omega) (by omega)];rfl
  rw[decide_eq_true (by omega),cond_true,cond_true,es]
  simp only[Option.bind_some]
  rw[impl_at (by omega) h32,spec_at (by omega)]
  simp only[Option.bind_some]
  by_cases hz:(foldAt (out.drop i)).2=0
  ·have hb:((foldAt (out.drop i)).2==0)=true:=by rw[hz];rfl
   rw[hb,cond_true,decide_eq_false (by omega),cond_false]
   simp only[Option.bind_some]
   rw[wI64 (by omega) (by omega),show ((i:Int)+1)=((i+1:Nat):Int) by omega]
   refine ih out (i+1) (by omega) h1 h2 (λ j hj => ?_) (by omega)
   by_cases hji:j=i
   ·rw[hji];exact hz
   ·exact h3 j (by omega)
  ·have hb:((foldAt (out.drop i)).2==0)=false:=beq_eq_false_iff_ne.2 hz
   have f5:=f1.resolve_left hz
   have hc:((foldAt (out.drop i)).2.toNat:Int)=(foldAt (out.drop i)).2:=by omega
   have e1:subL out 0 (i:Int)=some (out.take i):=by rw[subL_take (by omega) (by omega)];rfl
   have e2:subL out ((i:Int)+(foldAt (out.drop i)).2) ((out.length:Nat):Int)=some (out.drop (i+(foldAt (out.drop i)).2.toNat)):=by
    rw[subL_drop (by omega) (by omega)];congr 2;omega
   have hl1:(out.take i).length=i:=by rw[List.length_take];omega
   have hl2:(out.drop (i+(foldAt (out.drop i)).2.toNat)).length=out.length-(i+(foldAt (out.drop i)).2.toNat):=List.length_drop
   have hout:(out.take i++(foldAt (out.drop i)).1++out.drop (i+(foldAt (out.drop i)).2.toNat)).length < out.length:=by
    rw[List.length_append,List.length_append,hl1,hl2];omega
   obtain ⟨w,w1,w2,w3,w4,w5,w6⟩:=ih (out.take i++(foldAt (out.drop i)).1++out.drop (i+(foldAt (out.drop i)).2.toNat)) 0 (Nat.zero_le _) (by omega) (λ o ho=>by
    rcases List.mem_append.1 ho with ho|ho
    ·rcases List.mem_append.1 ho with ho|ho
     ·exact h2 o (List.mem_of_mem_take ho)
     ·exact f4 o ho
    ·exact h2 o (List.mem_of_mem_drop ho)) (λ j hj=>by omega) (by omega)
   refine ⟨w,by omega,w2,?_,w4,?_,?_⟩
   ·have:=FoldTo.step (p:=out.take i) (q:=out.drop i) (w:=w) (by omega) hz (by rw[List.drop_drop];exact w3)
    rwa [List.take_append_drop]at this
   ·rw[hb,cond_false,wI64 (by omega) (by omega)]
    have:g_slices_Replace_Op out (i:Int) ((i:Int)+(foldAt (out.drop i)).2) (foldAt (out.drop i)).1=some (out.take i++(foldAt (out.drop i)).1++out.drop (i+(foldAt (out.drop i)).2.toNat)):=by
     unfold g_slices_Replace_Op gRep
     rw[decide_eq_true (by omega),decide_eq_true (by omega),decide_eq_true (by omega),decide_eq_true (by omega),show ((i:Int)+(foldAt (out.drop i)).2).toNat=i+(foldAt (out.drop i)).2.toNat by omega]
     rfl
    rw[this]
    exact w5
   ·rw[decide_eq_true (by omega),cond_true,e1]
    simp only[Option.bind_some]
    rw[app_eq (by simp;omega)]
    simp only[Option.bind_some,List.nil_append]
    rw[app_eq (by rw[hl1];omega)]
    simp only[Option.bind_some]
    rw[wI64 (x:=(i:Int)+(foldAt (out.drop i)).2) (by omega) (by omega),e2]
    simp only[Option.bind_some]
    rw[app_eq (by rw[List.length_append,hl1,hl2];omega)]
    simp only[Option.bind_some]
    exact w6
theorem folds {body:List GOp} (hb:body.length<=1048576) (h32:∀ o ∈ body,i32B o.N):∃ w,w.length<=60/\(∀ o ∈ w,i32B o.N)/\(shapeB body=true->FoldTo body w/\Folded w/\w.length<=body.length)/\(shapeB body=false->w=[])/\g_impl_Fold body=some w/\g_spec_Fold body=some w:=by
 unfold g_impl_Fold g_spec_Fold
 rw[implShape hb,specShape hb]
 simp only[Option.bind_some]
 cases hs:shapeB body with
 | false=>exact ⟨[],by simp,(λ o ho=>nomatch ho),(λ h=>nomatch h),(λ _=>rfl),rfl,rfl⟩
 | true =>
  have h60:body.length<=60:=by unfold shapeB at hs;simp only[Bool.and_eq_true,decide_eq_true_eq]at hs;exact hs.1.1
  obtain ⟨w,w1,w2,w3,w4,w5,w6⟩:=fold_loop bigK body 0 (Nat.zero_le _) h60 h32 (λ j hj=>by omega) (by unfold bigK;omega)
  rw[show ((0:Nat):Int)=0 from rfl]at w5 w6
  refine ⟨w,by omega,w2,(λ _=>⟨w3,w4,w1⟩),(λ h=>nomatch h),?_,?_⟩
  ·rw[Bool.not_true,cond_false]
   unfold g_slices_Clone_Op
   rw[app_eq (by simp;omega),Option.bind_some,List.nil_append,w5];rfl
  ·rw[Bool.not_true,cond_false,app_eq (by simp;omega),Option.bind_some,List.nil_append,w6];rfl
end Go.Proofs.YtmedombacbpofaaGreatDoor
namespace Go.Proofs.YtmedombacbpofaaGreatDoor
open Go Go.Fm
set_option maxRecDepth 100000
inductive Ex:List GOp->List GOp->Prop
 | two {a b c:GOp} (ha:a.Kind=0) (hb:b.Kind=0) (hc:twoB c=true):Ex [a,b,c] [⟨0,val2 c a.N b.N⟩]
 | one {a b:GOp} (ha:a.Kind=0) (hb:oneB b=true):Ex [a,b] [⟨0,val1 b a.N⟩]
 | pair {a b:GOp} (h:pairB a b=true):Ex [a,b] []
 | nop {a:GOp} (h:isB a [110,111,112]=true):Ex [a] []
theorem at1_case {a:GOp} (h:(at1 a).2≠0):at1 a=([],1)/\Ex [a] []:=by
 unfold at1 at *
 cases hn:isB a [110,111,112] with
 | true=>rw[if_pos rfl];exact ⟨rfl, .nop hn⟩
 | false=>rw[hn]at h;exact absurd rfl h
theorem at2_case {a b:GOp} (h:(at2 a b).2≠0):(∃ y,at2 a b=(y,2)/\Ex [a,b] y)\/at2 a b=([],1)/\Ex [a] []:=by
 unfold at2 at *
 cases h1:a.Kind==0&&oneB b with
 | true =>
  rw[if_pos rfl]
  rw[Bool.and_eq_true]at h1
  exact .inl ⟨_,rfl, .one (eq_of_beq h1.1) h1.2⟩
 | false =>
  rw[h1,if_neg (by simp)]at h
  rw[if_neg (by simp)]
  cases h2:pairB a b with
  | true=>rw[if_pos rfl];exact .inl ⟨_,rfl, .pair h2⟩
  | false =>
   rw[h2,if_neg (by simp)]at h
   rw[if_neg (by simp)]
   exact .inr (at1_case h)
theorem foldAt_case {q:List GOp} (h0:0 < q.length) (h:(foldAt q).2≠0):∃ x z,q=x++z/\Ex x (foldAt q).1/\q.drop (foldAt q).2.toNat=z:=by
 match q,h0,h with
 | [a],_,h =>
  obtain ⟨e,x⟩:=at1_case (a:=a) h
  have e':foldAt [a]=([],1):=e
  rw[e']
  exact ⟨[a],[],rfl,x,rfl⟩
 | [a,b],_,h =>
  rcases at2_case (a:=a) (b:=b) h with ⟨y,e,x⟩|⟨e,x⟩
  ·have e':foldAt [a,b]=(y,2):=e
   rw[e']
   exact ⟨[a,b],[],rfl,x,rfl⟩
  ·have e':foldAt [a,b]=([],1):=e
   rw[e']
   exact ⟨[a],[b],rfl,x,rfl⟩
 | a::b::c::r,_,h =>
  have e:foldAt (a::b::c::r)=at3 a b c:=rfl
  rw[e]at h ⊢
  unfold at3 at *
  cases h1:a.Kind==0&&b.Kind==0&&twoB c with
  | true =>
   rw[if_pos rfl]
   rw[Bool.and_eq_true,Bool.and_eq_true]at h1
   exact ⟨[a,b,c],r,rfl, .two (eq_of_beq h1.1.1) (eq_of_beq h1.1.2) h1.2,rfl⟩
  | false =>
   rw[h1,if_neg (by simp)]at h
   rw[if_neg (by simp)]
   rcases at2_case (a:=a) (b:=b) h with ⟨y,e,x⟩|⟨e,x⟩
   ·rw[e];exact ⟨[a,b],c::r,rfl,x,rfl⟩
   ·rw[e];exact ⟨[a],b::c::r,rfl,x,rfl⟩
theorem Ex.plain {x y:List GOp} (h:Ex x y):(∀ o ∈ x,o.Kind=0\/o.Kind=1)/\(∀ o ∈ y,o.Kind=0)/\0 < x.length/\y.length < x.length:=by
 have one_of {b:GOp} (hb:oneB b=true):b.Kind=1:=by
  rcases one_or hb with h|h|h<;>exact isB_kind h
 have two_of {b:GOp} (hb:twoB b=true):b.Kind=1:=by
  rcases two_or hb with h|h|h|h<;>exact isB_kind h
 cases h with
 | two ha hb hc =>
  refine ⟨λ o ho => ?_,λ o ho => ?_,by simp,by simp⟩
  ·simp only[List.mem_cons,List.not_mem_nil,or_false]at ho
   rcases ho with rfl|rfl|rfl
   ·exact .inl ha
   ·exact .inl hb
   ·exact .inr (two_of hc)
  ·rw[List.mem_singleton]at ho;subst ho;rfl
 | one ha hb =>
  refine ⟨λ o ho => ?_,λ o ho => ?_,by simp,by simp⟩
  ·simp only[List.mem_cons,List.not_mem_nil,or_false]at ho
   rcases ho with rfl|rfl
   ·exact .inl ha
   ·exact .inr (one_of hb)
  ·rw[List.mem_singleton]at ho;subst ho;rfl
 | @pair a b h =>
  refine ⟨λ o ho => ?_,(λ o ho=>nomatch ho),by simp,by simp⟩
  unfold pairB at h
  simp only[Bool.or_eq_true,Bool.and_eq_true]at h
  have hab:(a.Kind=0\/a.Kind=1)/\b.Kind=1:=by
   rcases h with ((h|h)|h)|h
   ·exact ⟨.inl (eq_of_beq h.1),isB_kind h.2⟩
   ·exact ⟨.inr (isB_kind h.1),isB_kind h.2⟩
   ·exact ⟨.inr (isB_kind h.1),isB_kind h.2⟩
   ·exact ⟨.inr (isB_kind h.1),isB_kind h.2⟩
  simp only[List.mem_cons,List.not_mem_nil,or_false]at ho
  rcases ho with rfl|rfl
  ·exact hab.1
  ·exact .inr hab.2
 | @nop a h =>
  refine ⟨λ o ho => ?_,(λ o ho=>nomatch ho),by simp,by simp⟩
  rw[List.mem_singleton]at ho;subst ho
  exact .inr (isB_kind h)
theorem open_plain {x:List GOp} (h:∀ o ∈ x,o.Kind=0\/o.Kind=1) (z:List GOp) (v:List Int):openF (x++z) v=openF z v:=by
 induction x with
 | nil=>rfl
 | cons o r ih =>
  have h0:=h o (List.mem_cons.2 (.inl rfl))
  rw[List.cons_append,openF]
  unfold stepF
  rw[if_neg (by omega),if_neg (by omega),Option.bind_some,ih λ p hp=>h p (List.mem_cons.2 (.inr hp))]
theorem open_mid {x y z:List GOp} (h:Ex x y):∀ (p:List GOp) (v:List Int),openF (p++(x++z)) v=openF (p++(y++z)) v
 | [],v=>by rw[List.nil_append,List.nil_append,open_plain h.plain.1,open_plain λ o ho=>.inl (h.plain.2.1 o ho)]
 | o::r,v=>by
  rw[List.cons_append,List.cons_append,openF,openF]
  congr 1
  funext w
  exact open_mid h r w
theorem okB_lit {o:GOp} (h:o.Kind=0):okB o=true:=by
 have:g_spec_l09Op o=some true:=by unfold g_spec_l09Op;rw[h];rfl
 unfold okB
 rw[this];rfl
inductive ExTo:List GOp->List GOp->Prop
 | refl (l:List GOp):ExTo l l
 | step {p x y z w:List GOp} (h:Ex x y) (hr:ExTo (p++(y++z)) w):ExTo (p++(x++z)) w
theorem FoldTo.ex {a b:List GOp} (h:FoldTo a b):ExTo a b:=by
 induction h with
 | refl l=>exact .refl l
 | @step p q w h0 hn h ih =>
  obtain ⟨x,z,e1,e2,e3⟩:=foldAt_case h0 hn
  rw[e3,List.append_assoc]at ih
  rw[e1]
  exact .step e2 ih
theorem ExTo.shape {a b:List GOp} (h:ExTo a b) (hs:shapeB a=true):shapeB b=true:=by
 induction h with
 | refl l=>exact hs
 | @step p x y z w h hr ih =>
  refine ih ?_
  unfold shapeB at hs ⊢
  obtain ⟨h1,h2,h3,h4⟩:=h.plain
  simp only[Bool.and_eq_true,decide_eq_true_eq,List.all_eq_true,List.length_append,List.mem_append]at hs ⊢
  refine ⟨⟨by omega,λ o ho => ?_⟩,by rw[<-open_mid h];exact hs.2⟩
  rcases ho with ho|ho|ho
  ·exact hs.1.2 o (.inl ho)
  ·exact okB_lit (h2 o ho)
  ·exact hs.1.2 o (.inr (.inr ho))
end Go.Proofs.YtmedombacbpofaaGreatDoor
namespace Go.Proofs.YtmedombacbpofaaGreatDoor
open Go Go.Fm
set_option maxRecDepth 100000
def Cok (c:GL01Cur):Prop:=0<=c.i/\c.b.length<=1048576
theorem byte_ok {c:GL01Cur} (h:Cok c):Tot (g_spec_l01Byte c) λ r=>0<=r.1/\r.1<=255/\Cok r.2:=by
 unfold g_spec_l01Byte
 refine Tot.bind (Q:=λ r=>0<=r.1/\r.1<=255/\Cok r.2) (.condD (λ hi => ?_) (λ hi => ?_)) λ r hr=>.some hr
 ·obtain ⟨v,hv,_⟩:=getI_ex h.1 hi
  refine .bindE hv (.some ⟨(and_le (by decide) (by decide)).1,(and_le (by decide) (by decide)).2,?_,h.2⟩)
  have:=h.1
  have:=h.2
  show 0<=IntKind.wrap .i64 (c.i+1)
  rw[wI64 (by omega) (by omega)]
  omega
 ·exact .some ⟨(and_le (by decide) (by decide)).1,(and_le (by decide) (by decide)).2,h⟩
theorem below_ok {c:GL01Cur} (h:Cok c) {n:Int} (hn:0 < n):Tot (g_spec_l01Below n c) λ r=>0<=r.1/\r.1 < n/\Cok r.2:=by
 unfold g_spec_l01Below
 refine .condD (λ h0=>by omega) λ _=>.condD (λ h1 => ?_) λ h1 => ?_
 ·refine .bind (byte_ok h) λ a ha => ?_
  obtain ⟨e,g1,g2⟩:=remI_ex (k:=.i64) ha.1 hn
  exact .bindE e (.some ⟨g1,g2,ha.2.2⟩)
 ·refine .bind (byte_ok h) λ a ha=>.bind (byte_ok ha.2.2) λ b hb=>.bind (byte_ok hb.2.2) λ d hd=>.bind (byte_ok hd.2.2) λ x hx => ?_
  rw[wI64 (x:=a.1*16777216) (by omega) (by omega),wI64 (x:=b.1*65536) (by omega) (by omega),wI64 (x:=d.1*256) (by omega) (by omega),wI64 (x:=a.1*16777216+b.1*65536) (by omega) (by omega),
   wI64 (x:=a.1*16777216+b.1*65536+d.1*256) (by omega) (by omega),wI64 (x:=a.1*16777216+b.1*65536+d.1*256+x.1) (by omega) (by omega)]
  obtain ⟨e,g1,g2⟩:=remI_ex (k:=.i64) (a:=a.1*16777216+b.1*65536+d.1*256+x.1) (by omega) hn
  exact .bindE e (.some ⟨g1,g2,hx.2.2⟩)
theorem once_ok {c:GL01Cur} (h:Cok c) {n:Int} (hn:0 < n):Tot (g_spec_l01Once n c) λ r=>Cok r.2 :=
 .bind (below_ok h hn) λ a ha=>.some ha.2.2
theorem pickInt_ok {c:GL01Cur} (h:Cok c) {l:List Int} (hl:0 < l.length):Tot (g_spec_l01PickInt l c) λ r=>r.1 ∈ l/\Cok r.2 :=
 .bind (below_ok h (by omega)) λ a ha=>by
  obtain ⟨v,hv,hm,_⟩:=getI_ex (xs:=l) ha.1 ha.2.1
  exact .bindE hv (.some ⟨hm,ha.2.2⟩)
theorem pick_ok {c:GL01Cur} (h:Cok c) {l:List Bs} (hl:0 < l.length):Tot (g_spec_l01Pick l c) λ r=>r.1 ∈ l/\Cok r.2 :=
 .bind (below_ok h (by omega)) λ a ha=>by
  obtain ⟨v,hv,hm,_⟩:=getI_ex (xs:=l) ha.1 ha.2.1
  exact .bindE hv (.some ⟨hm,ha.2.2⟩)
theorem new_ok {code:List Int} (h:code.length<=1048576):Tot (g_spec_l01New code) Cok:=by
 have key:∀ (k:Nat) (hh i:Int),0<=i->i<=4000->4000-i < k->Tot (g_spec_l01New_l0 code k hh i) λ _=>True:=by
  intro k
  induction k with
  | zero=>intro hh i h0 h1 h2;omega
  | succ k ih =>
   intro hh i h0 h1 h2
   unfold g_spec_l01New_l0
   refine .bind (Q:=λ b=>b=true->i < code.length/\i < 4000) (.condD (λ hi=>.some λ hb=>⟨hi,of_decide_eq_true hb⟩) λ _=>.some λ hb=>nomatch hb) λ b hb => ?_
   refine .cond (λ hc => ?_) λ _=>.some trivial
   obtain ⟨g1,g2⟩:=hb hc
   obtain ⟨v,hv,_⟩:=getI_ex h0 g1
   refine .bindE hv ?_
   rw[wI64 (x:=i+1) (by omega) (by omega)]
   exact ih _ _ (by omega) (by omega) (by omega)
 exact .bind (.bind (key bigK _ 0 (by decide) (by decide) (by decide)) λ a ha=>.some (Q:=λ _=>True) trivial) λ a ha=>.some ⟨Int.le_refl _,h⟩
theorem forLoop {S:Type} {n:Int} {F:Nat->Int->S->Option S} (I:Int->S->Prop) (hn:n<=1000000)
  (hs:∀ k i s,0<=i->i < n->I i s->(∀ s',I (i+1) s'->Tot (F k (i+1) s') (I (max 0 n)))->Tot (F (k+1) i s) (I (max 0 n)))
  (he:∀ k i s,n<=i->I i s->F (k+1) i s=some s) {s:S} (h0:I 0 s):Tot (F bigK 0 s) (I (max 0 n)):=by
 have key:∀ (k:Nat) (i:Int) (s:S),0<=i->i<=max 0 n->I i s->(max 0 n)-i < k->Tot (F k i s) (I (max 0 n)):=by
  intro k
  induction k with
  | zero=>intro i s h0 h1 h2 h3;omega
  | succ k ih =>
   intro i s h0 h1 h2 h3
   by_cases hi:i < n
   ·exact hs k i s h0 hi h2 λ s' hs'=>ih _ _ (by omega) (by omega) hs' (by omega)
   ·rw[he k i s (by omega) h2]
    have:i=max 0 n:=by omega
    subst this
    exact .some h2
 exact key bigK 0 s (Int.le_refl _) (by omega) h0 (by unfold bigK;omega)
theorem i32w' (x:Int) : -2147483648<=IntKind.wrap .i32 x/\IntKind.wrap .i32 x<=2147483647:=by
 unfold IntKind.wrap
 simp only[IntKind.signed,IntKind.bits,if_true]
 constructor<;>(have:=Int.emod_lt_of_pos (x+2147483648) (b:=4294967296) (by decide);have:=Int.emod_nonneg (x+2147483648) (b:=4294967296) (by decide);first|omega|(simp;omega))
theorem int_ok {c:GL01Cur} (h:Cok c):Tot (g_spec_l04Int c) λ r=>(-2147483648<=r.1/\r.1<=2147483647)/\Cok r.2:=by
 unfold g_spec_l04Int
 refine .bind (once_ok h (by decide)) λ a ha=>.cond (λ _ => ?_) λ _ => ?_
 ·exact .bind (below_ok ha (by decide)) λ b hb=>.some ⟨i32w' _,hb.2.2⟩
 ·exact .bind (pickInt_ok ha (by decide)) λ b hb=>.some ⟨i32w' _,hb.2⟩
theorem letterAt_ok {k:Int}:Tot (g_spec_LetterAt k) λ v=>0<=v/\v < 256:=by
 unfold g_spec_LetterAt
 rw[specIn_eq,Option.bind_some]
 refine .cond (λ _=>.some (by decide)) λ hc => ?_
 have hk:0<=k/\k<=47:=by simpa using hc
 obtain ⟨v,hv,h0,h1,_⟩:=idxS_ex (l:=[32,114,116,111,101,97,110,105,115,109,99,121,108,103,102,119,100,118,112,98,104,120,117,113,48,49,50,51,52,53,54,55,56,57,106,45,107,46,122,47,59,39,33,43,64,42,44,63]) (i:=k) hk.1 (by simp;omega)
 exact .bindE (a:=_) rfl (.bindE hv (.some ⟨h0,h1⟩))
theorem name_ok {c:GL01Cur} (h:Cok c):Tot (g_spec_l02Name c) λ r=>r.1.length<=10/\Cok r.2:=by
 unfold g_spec_l02Name
 refine .bind (once_ok h (by decide)) λ a ha=>.cond (λ _ => ?_) λ _ => ?_
 ·refine .bind (pick_ok ha (by decide)) λ b hb=>.some ⟨?_,hb.2⟩
  have:=hb.1
  revert this
  generalize b.1=x
  intro hx
  have:∀ y ∈ ([[100,117,112],[111,118,101,114],[115,113,117,97,114,101],[97,33],[50,42],[103,111],[45,105,102],[59],[63],[114,114,114,114,114,114,114],[114,116,111,101,97,110,105],[119,119,119,119,119,119],[113,113,113,113,113],[120]]:List Bs),y.length<=10:=by decide
  exact this x hx
 ·refine .bind (below_ok ha (by decide)) λ b hb => ?_
  rw[wI64 (by omega) (by omega)]
  have:=forLoop (n:=1+b.1) (F:=λ k i s=>g_spec_l02Name_l0 (1+b.1) k s.1 i s.2) (λ i s=>(s.1.length:Int)<=i/\Cok s.2) (by omega) (λ k i s h0 h1 hI hk=>by
   show Tot (g_spec_l02Name_l0 _ (k+1) s.1 i s.2) _
   unfold g_spec_l02Name_l0
   rw[decide_eq_true (by omega),cond_true]
   refine .bind (below_ok hI.2 (by decide)) λ x hx=>.bind letterAt_ok λ y hy=>.bindE (app_eq (by simp;omega)) ?_
   rw[wI64 (x:=i+1) (by omega) (by omega)]
   exact hk (_,_) ⟨by simp;omega,hx.2.2⟩) (λ k i s hi _=>by
   show g_spec_l02Name_l0 _ (k+1) s.1 i s.2=_
   unfold g_spec_l02Name_l0
   rw[decide_eq_false (by omega),cond_false]) (s:=([],b.2)) ⟨by simp,hb.2.2⟩
  refine .bind (.bind this λ x hx=>.some (Q:=λ (x:List Int×GL01Cur)=>x.1.length<=10/\Cok x.2) ⟨by have:=hx.1;show x.1.length<=10;omega,hx.2⟩) λ x hx=>.some ⟨?_,hx.2⟩
  unfold strOf;rw[List.length_map];exact hx.1
theorem some_ok {c:GL01Cur} (h:Cok c):Tot (g_spec_l04Some c) λ r=>(r.1.Name.length<=10/\r.1.Raw=0)/\Cok r.2:=by
 unfold g_spec_l04Some
 refine .bind (below_ok h (by decide)) λ a ha=>.cond (λ _ => ?_) λ _=>.cond (λ _ => ?_) λ _=>.cond (λ _ => ?_) λ _ => ?_
 ·exact .bind (int_ok ha.2.2) λ b hb=>.bind (once_ok hb.2 (by decide)) λ d hd=>.some ⟨⟨by simp,rfl⟩,hd⟩
 ·exact .bind (int_ok ha.2.2) λ b hb=>.bind (once_ok hb.2 (by decide)) λ d hd=>.some ⟨⟨by simp,rfl⟩,hd⟩
 ·refine .bind (pick_ok ha.2.2 (by decide)) λ b hb=>.bind (int_ok hb.2) λ d hd=>.some ⟨⟨?_,rfl⟩,hd.2⟩
  have:=hb.1
  revert this
  generalize b.1=x
  intro hx
  have:∀ y ∈ ([[120],[97,116],[113,113,113,113],[116,101,110]]:List Bs),y.length<=10:=by decide
  exact this x hx
 ·exact .bind (below_ok ha.2.2 (by decide)) λ b hb=>.bind (name_ok hb.2.2) λ d hd=>.some ⟨⟨hd.1,rfl⟩,hd.2⟩
theorem word_ok {c:GL01Cur} (h:Cok c):Tot (g_spec_l01Word c) λ r=>Cok r.2:=by
 unfold g_spec_l01Word
 refine .bind (below_ok h (by decide)) λ a ha=>.cond (λ _ => ?_) λ _=>.cond (λ _ => ?_) λ _ => ?_
 ·exact .bind (pickInt_ok ha.2.2 (by decide)) λ b hb=>.some hb.2
 ·exact .bind (below_ok ha.2.2 (by decide)) λ b hb=>.some hb.2.2
 ·exact .bind (below_ok ha.2.2 (by decide)) λ b hb=>.bind (below_ok hb.2.2 (by decide)) λ d hd=>.some hd.2.2
end Go.Proofs.YtmedombacbpofaaGreatDoor
namespace Go.Proofs.YtmedombacbpofaaGreatDoor
open Go Go.Fm
def U32 (xs:List Int):Prop:=∀ x ∈ xs,0<=x/\x < 4294967296
theorem U32.app {xs ys:List Int} (h1:U32 xs) (h2:U32 ys):U32 (xs++ys):=λ x hx=>by
 rcases List.mem_append.1 hx with h|h
 ·exact h1 x h
 ·exact h2 x h
theorem U32.one {x:Int} (h:0<=x/\x < 4294967296):U32 [x]:=λ y hy=>by simp at hy;subst hy;exact h
theorem U32.nil:U32 []:=λ x hx=>by simp at hx
theorem U32.set {xs:List Int} {x:Int} {i:Nat} (h1:U32 xs) (h:0<=x/\x < 4294967296):U32 (xs.set i x):=λ y hy=>by
 rcases List.mem_or_eq_of_mem_set hy with h2|h2
 ·exact h1 y h2
 ·subst h2;exact h
theorem specNum_ok {n:Int} {hex:Bool} {s l:Int}:Tot (g_spec_l04Num n hex s l) λ r=>U32 r/\r.length<=2:=by
 unfold g_spec_l04Num
 refine .bind (Q:=λ _=>True) (.cond (λ _=>.some trivial) λ _=>.some trivial) λ a _=>.bind (Q:=λ _=>True) (.condD (λ _=>.some trivial) λ _=>.some trivial) λ b _=>.cond (λ _=>.some ⟨.one (wU32_bd _),by simp⟩) λ _=>.some ⟨?_,by simp⟩
 exact (U32.one (wU32_bd _)).app (.one (wU32_bd _))
theorem specLetterOf_ok {b:Int}:Tot (g_spec_LetterOf b) λ r => -1<=r/\r<=47:=by
 unfold g_spec_LetterOf
 refine .bindE (a:=_) rfl ?_
 have key:∀ (k:Nat) (i:Int),0<=i->i<=48->48-i < k->Tot (g_spec_LetterOf_l0 b [32,114,116,111,101,97,110,105,115,109,99,121,108,103,102,119,100,118,112,98,104,120,117,113,48,49,50,51,52,53,54,55,56,57,106,45,107,46,122,47,59,39,33,43,64,42,44,63] k i)
   λ r=>match r with | .inl _=>True | .inr x=>0<=x/\x<=47:=by
  intro k
  induction k with
  | zero=>intro i h0 h1 h2;omega
  | succ k ih =>
   intro i h0 h1 h2
   unfold g_spec_LetterOf_l0
   refine .condD (λ hi => ?_) λ _=>.some trivial
   have hi:i < 48:=by simpa using hi
   obtain ⟨v,hv,_⟩:=idxS_ex (l:=[32,114,116,111,101,97,110,105,115,109,99,121,108,103,102,119,100,118,112,98,104,120,117,113,48,49,50,51,52,53,54,55,56,57,106,45,107,46,122,47,59,39,33,43,64,42,44,63]) h0 (by simpa using hi)
   refine .bindE hv (.cond (λ _=>.some ⟨h0,by omega⟩) λ _ => ?_)
   rw[wI64 (x:=i+1) (by omega) (by omega)]
   exact ih _ (by omega) (by omega) (by omega)
 refine .bind (Q:=λ r=>match r with | .inl _=>True | .inr x=>0<=x/\x<=47) (.bind (key bigK 0 (by decide) (by decide) (by decide)) λ o ho => ?_) λ o ho => ?_
 ·cases o with
  | inl _=>exact .some trivial
  | inr x=>exact .some ho
 ·cases o with
  | inl _=>exact .some ⟨by decide,by decide⟩
  | inr x=>exact .some ⟨by have:=ho.1;omega,ho.2⟩
theorem specNameOk_ok {s:Bs} (hs:s.length<=1048576):Tot (g_spec_NameOk s) λ r=>r=true->1<=s.length/\s.length<=24:=by
 unfold g_spec_NameOk
 refine .bindE specIn_eq (.cond (λ _=>.some λ h=>nomatch h) λ hc => ?_)
 have hl:1<=s.length/\s.length<=24:=by
  have:(1:Int)<=s.length/\(s.length:Int)<=24:=by simpa using hc
  omega
 have key:∀ (k:Nat) (i:Int),0<=i->i<=s.length->s.length-i < k->Tot (g_spec_NameOk_l0 s k i) λ _=>True:=by
  intro k
  induction k with
  | zero=>intro i h0 h1 h2;omega
  | succ k ih =>
   intro i h0 h1 h2
   unfold g_spec_NameOk_l0
   refine .condD (λ hi => ?_) λ _=>.some trivial
   obtain ⟨v,hv,_⟩:=idxS_ex h0 hi
   refine .bindE hv (.bind specLetterOf_ok λ x hx=>.condD (λ _=>.some trivial) λ _ => ?_)
   rw[wI64 (x:=i+1) (by omega) (by omega)]
   exact ih _ (by omega) (by omega) (by omega)
 refine .bind (Q:=λ _=>True) (.bind (key bigK 0 (by decide) (by omega) (by unfold bigK;omega)) λ o ho => ?_) λ o ho => ?_
 ·cases o<;>exact .some trivial
 ·cases o<;>exact .some λ _=>hl
theorem specWidth_ok {k:Int}:Tot (g_spec_WidthOf k) λ w=>0<=w/\w<=7:=by
 unfold g_spec_WidthOf
 exact .bindE specIn_eq (.cond (λ _=>.some (by decide)) λ _=>.bindE specIn_eq (.cond (λ _=>.some (by decide)) λ _=>.bindE specIn_eq (.cond (λ _=>.some (by decide)) λ _=>.some (by decide))))
theorem specBits_ok {k:Int}:Tot (g_spec_BitsOf k) λ w=>True:=by
 unfold g_spec_BitsOf
 exact .bind specWidth_ok λ _ _=>.cond (λ _=>.some trivial) λ _=>.cond (λ _=>.some trivial) λ _=>.cond (λ _=>.some trivial) λ _=>.some trivial
theorem shl_ok {k:IntKind} {a b:Int} (h:0<=b):Tot (shlI k a b) λ _=>True:=by unfold shlI;rw[if_pos h];exact .some trivial
theorem wU64_nn (x:Int):0<=IntKind.wrap .u64 x:=by simp[IntKind.wrap,IntKind.bits,IntKind.signed];omega
theorem specOne_ok {s:Bs} (hs:1<=s.length/\s.length<=24):Tot (g_spec_l03One s) λ r=>(0<=r.1/\r.1 < 4294967296)/\1<=r.2/\r.2<=s.length:=by
 unfold g_spec_l03One
 have key:∀ (k:Nat) (f left n:Int),0<=n->n<=s.length->0<=left->left<=28->(n=0->left=28)->s.length-n < k->Tot (g_spec_l03One_l0 s k f left n) λ r=>1<=r.2/\r.2<=s.length:=by
  intro k
  induction k with
  | zero=>intro f left n h0 h1 h2 h3 h4 h5;omega
  | succ k ih =>
   intro f left n h0 h1 h2 h3 h4 h5
   unfold g_spec_l03One_l0
   refine .condD (λ hi => ?_) λ hi=>.some ⟨by omega,by omega⟩
   obtain ⟨v,hv,_⟩:=idxS_ex h0 hi
   refine .bindE hv (.bind specLetterOf_ok λ x hx=>.bind specWidth_ok λ w hw=>.condD (λ hc=>.some ⟨?_,by omega⟩) λ hc=>.bind specBits_ok λ b _=>.bind (shl_ok (wU64_nn _)) λ d _ => ?_)
   ·by_cases hn:n=0
    ·have:=h4 hn;omega
    ·show 1<=n;omega
   ·rw[wI64 (x:=n+1) (by omega) (by omega),wI64 (x:=left-w) (by omega) (by omega)]
    exact ih _ _ _ (by omega) (by omega) (by omega) (by omega) (by omega) (by omega)
 exact .bind (key bigK 0 28 0 (by decide) (by omega) (by decide) (by decide) (λ _=>rfl) (by unfold bigK;omega)) λ r hr=>.some ⟨wU32_bd _,hr.1,hr.2⟩
theorem specPack_ok {s:Bs} (hs:s.length<=1048576):Tot (g_spec_Pack s) λ r=>U32 r/\r.length<=24:=by
 unfold g_spec_Pack
 refine .bind (specNameOk_ok hs) λ a ha=>.cond (λ _=>.some ⟨.nil,by simp⟩) λ hc => ?_
 have hl:=ha (by simpa using hc)
 have key:∀ (k:Nat) (x:Bs) (out:List Int),x.length<=24->U32 out->out.length+x.length<=24->x.length < k->Tot (g_spec_Pack_l0 k x out) λ r=>U32 r/\r.length<=24:=by
  intro k
  induction k with
  | zero=>intro x out h0 h1 h2 h3;omega
  | succ k ih =>
   intro x out h0 h1 h2 h3
   unfold g_spec_Pack_l0
   refine .cond (λ hx => ?_) λ _=>.some ⟨h1,by omega⟩
   have hx1:1<=x.length:=by
    have:x≠[]:=by simpa using hx
    have:=List.length_pos_iff.2 this
    omega
   refine .bind (specOne_ok ⟨hx1,h0⟩) λ r hr=>.bindE (app_eq (by simp;omega)) (.bindE (subL_drop (by omega) hr.2.2) ?_)
   have hd:(x.drop r.2.toNat).length=x.length-r.2.toNat:=List.length_drop
   exact ih _ _ (by omega) (h1.app (.one hr.1)) (by rw[List.length_append,hd,List.length_singleton];omega) (by omega)
 exact .bind (key bigK s [] hl.2 .nil (by simp;omega) (by unfold bigK;omega)) λ r hr=>.some hr
theorem specWord_ok {tag:Int} {s:Bs} (hs:s.length<=1048576):Tot (g_spec_l04Word tag s) λ r=>U32 r/\r.length<=24:=by
 unfold g_spec_l04Word
 refine .bind (specPack_ok hs) λ a ha => ?_
 have key:∀ (k:Nat) (out:List Int) (i:Int),U32 out->out.length<=24->0<=i->i<=out.length->out.length-i < k->Tot (g_spec_l04Word_l0 tag k out i) λ r=>U32 r/\r.length<=24:=by
  intro k
  induction k with
  | zero=>intro out i h0 h1 h2 h3 h4;omega
  | succ k ih =>
   intro out i h0 h1 h2 h3 h4
   unfold g_spec_l04Word_l0
   refine .condD (λ hi => ?_) λ _=>.some ⟨h0,h1⟩
   obtain ⟨v,hv,_⟩:=getI_ex h2 hi
   refine .bind (Q:=λ o=>U32 o/\o.length=out.length) (.bindE hv (.bindE hv (.cond (λ _ => ?_) λ _=>.some ⟨h0.set (wU32_bd _),by simp⟩))) λ o ho => ?_
   ·obtain ⟨u,hu,_⟩:=getI_ex (xs:=out.set i.toNat (IntKind.wrap .u32 (v*16))) h2 (by simpa using hi)
    exact .bindE hu (.bindE hu (.some ⟨(h0.set (wU32_bd _)).set (wU32_bd _),by simp⟩))
   ·rw[wI64 (x:=i+1) (by omega) (by omega)]
    exact ih _ _ ho.1 (by omega) (by omega) (by omega) (by omega)
 exact .bind (.bind (key bigK a 0 ha.1 ha.2 (by decide) (by omega) (by unfold bigK;omega)) λ r hr=>.some hr) λ r hr=>.some hr
end Go.Proofs.YtmedombacbpofaaGreatDoor
namespace Go.Proofs.YtmedombacbpofaaGreatDoor
open Go Go.Fm
theorem specTag_ok {k:Int}:Tot (g_spec_l04Tag k) λ _=>True:=by
 unfold g_spec_l04Tag
 exact .cond (λ _=>.some trivial) λ _=>.cond (λ _=>.some trivial) λ _=>.cond (λ _=>.some trivial) λ _=>.cond (λ _=>.some trivial) λ _=>.cond (λ _=>.some trivial) λ _=>.cond (λ _=>.some trivial) λ _=>.some trivial
def EC (o:Unit ⊕ List Int):Prop:=match o with | .inl _=>True | .inr r=>U32 r/\r.length<=25
theorem specCells_ok {it:GItem} (hs:it.Name.length<=1048576) (hr:0<=it.Raw/\it.Raw < 4294967296):Tot (g_spec_CellsOf it) λ r=>U32 r/\r.length<=25:=by
 unfold g_spec_CellsOf
 have t3:∀ {a b c:Bool} {d:Bool},Tot (_root_.cond a (_root_.cond b (some c) (some false)) (some d)) λ _=>True:=λ {a b c d}=>by cases a<;>cases b<;>exact .some trivial
 have t2:∀ {a c d:Bool},Tot (_root_.cond a (some c) (some d)) λ _=>True:=λ {a c d}=>by cases a<;>exact .some trivial
 refine .bind t3 λ p _=>.bind (Q:=EC) ?_ λ o ho => ?_
 ·refine .cond (λ _=>.bind t3 λ a _=>.cond (λ _=>.some ⟨.one hr,by simp⟩) λ _=>.some trivial) λ _=>.cond (λ _=>.bind t2 λ a _=>.cond (λ _=>.bind specNum_ok λ r h=>.some ⟨h.1,by omega⟩) λ _=>.some trivial) λ _ =>
   .cond (λ _=>.bind t2 λ a _=>.cond (λ _=>.bind specNum_ok λ r h=>.some ⟨h.1,by omega⟩) λ _=>.some trivial) λ _ =>
   .cond (λ _=>.bind (specWord_ok hs) λ r h=>.bind t3 λ a _=>.cond (λ _=>.bindE (app_eq (by simp;omega)) (.some ⟨h.1.app (.one (wU32_bd _)),by simp;omega⟩)) λ _=>.some trivial) λ _ =>
   .bind specTag_ok λ t _=>.bind t2 λ a _=>.cond (λ _=>.bind (specWord_ok hs) λ r h=>.some ⟨h.1,by omega⟩) λ _=>.some trivial
 ·cases o with
  | inl _=>exact .some ⟨.nil,by simp⟩
  | inr r=>exact .some ho
end Go.Proofs.YtmedombacbpofaaGreatDoor
namespace Go.Proofs.YtmedombacbpofaaGreatDoor
open Go Go.Fm
structure StI (st:GSt):Prop where
 d:∀ x ∈ st.Data,i32B x
 m:∀ x ∈ st.Mem,i32B x
 a:i32B st.A
 r:∀ s ∈ st.Ret,i32B s.N
theorem SG.of {st:GSt} (h:StI st) (hb:SB st):SG st:=⟨hb,h.d,h.m,h.a,h.r⟩
end Go.Proofs.YtmedombacbpofaaGreatDoor
namespace Go.Proofs.YtmedombacbpofaaGreatDoor
open Go Go.Fm
set_option maxRecDepth 100000
theorem cells_ok {c:GL01Cur} (h:Cok c):Tot (g_spec_l04Cells c) λ r=>r.1.length<=1000/\Cok r.2:=by
 unfold g_spec_l04Cells
 refine .bind (below_ok h (by decide)) λ a ha => ?_
 have:=forLoop (n:=a.1) (F:=λ k i s=>g_spec_l04Cells_l0 a.1 k s.1 i s.2) (λ i s=>(s.1.length:Int)<=27*i/\Cok s.2) (by omega) (λ k i s h0 h1 hI hk=>by
  show Tot (g_spec_l04Cells_l0 _ (k+1) s.1 i s.2) _
  unfold g_spec_l04Cells_l0
  rw[decide_eq_true (by omega),cond_true]
  refine .bind (Q:=λ r=>(r.1.length:Int)<=27*(i+1)/\Cok r.2) ?_ λ r hr => ?_
  ·refine .bind (some_ok hI.2) λ x hx=>.bind (specCells_ok (by have:=hx.1.1;omega) (by have:=hx.1.2;omega)) λ y hy=>.bindE (app_eq (by omega)) (.bind (below_ok hx.2 (by decide)) λ z hz => ?_)
   have hl:((s.1++y).length:Int)<=27*i+26:=by rw[List.length_append];omega
   have one:∀ v:Int,Tot (app (s.1++y) [v]) λ r=>(r.length:Int)<=27*(i+1):=λ v=>by
    rw[app_eq (by simp at hl ⊢;omega)];exact .some (by simp at hl ⊢;omega)
   refine .cond (λ _ => ?_) λ _=>.cond (λ _ => ?_) λ _=>.cond (λ _ => ?_) λ _=>.cond (λ _ => ?_) λ _ => ?_
   ·exact .bind (word_ok hz.2.2) λ w hw=>.bind (one _) λ u hu=>.some ⟨hu,hw⟩
   ·exact .bind (one _) λ u hu=>.some ⟨hu,hz.2.2⟩
   ·exact .bind (below_ok hz.2.2 (by decide)) λ w hw=>.bind (one _) λ u hu=>.some ⟨hu,hw.2.2⟩
   ·exact .bind (pickInt_ok hz.2.2 (by decide)) λ w hw=>.bind (one _) λ u hu=>.some ⟨hu,hw.2⟩
   ·exact .some ⟨by show ((s.1++y).length:Int)<=_;omega,hz.2.2⟩
  ·rw[wI64 (x:=i+1) (by omega) (by omega)]
   exact hk (_,_) hr) (λ k i s hi _=>by
  show g_spec_l04Cells_l0 _ (k+1) s.1 i s.2=_
  unfold g_spec_l04Cells_l0
  rw[decide_eq_false (by omega),cond_false]) (s:=([],a.2)) ⟨by simp,ha.2.2⟩
 refine .bind (.bind this λ x hx=>.some (Q:=λ (x:List Int×GL01Cur)=>x.1.length<=1000/\Cok x.2) ⟨by have:=hx.1;show x.1.length<=1000;omega,hx.2⟩) λ x hx => ?_
 refine .bind (Q:=λ r=>(r.1=true->64 < x.1.length)/\Cok r.2) (.condD (λ hx2=>.bind (once_ok hx.2 (by decide)) λ y hy=>.some ⟨λ _=>by omega,hy⟩) λ _=>.some ⟨(λ e=>nomatch e),hx.2⟩) λ r hr=>.cond (λ hc => ?_) λ _=>.some ⟨hx.1,hr.2⟩
 have:=hr.1 hc
 refine .bindE (subL_take (b:=64) (by omega) (by omega)) (.some ⟨by simp;omega,hr.2⟩)
theorem newStore_ok {n:Int} (h0:0<=n) (h1:n<=12):Tot (g_spec_NewStore n) λ s=>(s.Cells.length:Int)=n*64:=by
 unfold g_spec_NewStore
 rw[specIn_eq,decide_eq_true ⟨h0,h1⟩,Option.bind_some,Bool.not_true,cond_false,wI64 (by omega) (by omega),mk_eq (by omega) (by omega)]
 exact .bindE rfl (.some (by simp;omega))
theorem fill_ok {b:Int} {cells:List Int} {m:Int} (hm:0<=b/\b < m/\m<=12) {s:GStore} (hs:(s.Cells.length:Int)=m*64) (hc:cells.length<=1000):Tot (g_spec_l05Make_l1 b cells bigK 0 s) λ r=>(r.Cells.length:Int)=m*64:=by
 have key:∀ (k:Nat) (i:Int) (s:GStore),0<=i->i<=64->(s.Cells.length:Int)=m*64->64-i < k->Tot (g_spec_l05Make_l1 b cells k i s) λ r=>(r.Cells.length:Int)=m*64:=by
  intro k
  induction k with
  | zero=>intro i s h0 h1 h2 h3;omega
  | succ k ih =>
   intro i s h0 h1 h2 h3
   unfold g_spec_l05Make_l1
   refine .bind (Q:=λ b=>b=true->i < cells.length/\i < 64) (.condD (λ hi=>.some λ hb=>⟨hi,of_decide_eq_true hb⟩) λ _=>.some λ hb=>nomatch hb) λ r hr=>.cond (λ hc => ?_) λ _=>.some h2
   obtain ⟨g1,g2⟩:=hr hc
   obtain ⟨v,hv,_⟩:=getI_ex h0 g1
   rw[wI64 (x:=b*64) (by omega) (by omega),wI64 (x:=b*64+i) (by omega) (by omega),wI64 (x:=i+1) (by omega) (by omega)]
   obtain ⟨w,hw,_⟩:=getI_ex (xs:=s.Cells) (i:=b*64+i) (by omega) (by omega)
   exact .bindE hv (.bindE hw (ih _ _ (by omega) (by omega) (by show ((s.Cells.set _ _).length:Int)=_;rw[List.length_set];exact h2) (by omega)))
 exact key bigK 0 s (Int.le_refl _) (by decide) hs (by unfold bigK;omega)
theorem make5_ok {c:GL01Cur} (h:Cok c):Tot (g_spec_l05Make c) λ r=>(∃ m:Int,1<=m/\m<=3/\(r.1.Cells.length:Int)=m*64)/\Cok r.2:=by
 unfold g_spec_l05Make
 refine .bind (below_ok h (by decide)) λ a ha => ?_
 rw[wI64 (by omega) (by omega)]
 refine .bind (newStore_ok (by omega) (by omega)) λ s hs => ?_
 have:=forLoop (n:=1+a.1) (F:=λ k i (t:GL01Cur×GStore)=>g_spec_l05Make_l0 k i t.1 t.2) (λ i t=>(t.2.Cells.length:Int)=(1+a.1)*64/\Cok t.1) (by omega) (λ k i t h0 h1 hI hk=>by
  show Tot (g_spec_l05Make_l0 (k+1) i t.1 t.2) _
  unfold g_spec_l05Make_l0
  have e:Int.tdiv (t.2.Cells.length:Int) 64=1+a.1:=by rw[hI.1,Int.tdiv_eq_ediv_of_nonneg (by omega)];omega
  rw[e,wI64 (x:=1+a.1) (by omega) (by omega),decide_eq_true h1,cond_true]
  refine .bind (Q:=λ r=>(r.2.Cells.length:Int)=(1+a.1)*64/\Cok r.1) (.bind (cells_ok hI.2) λ x hx=>.bind (fill_ok (m:=1+a.1) ⟨h0,h1,by omega⟩ hI.1 hx.1) λ y hy=>.some ⟨hy,hx.2⟩) λ r hr => ?_
  rw[wI64 (x:=i+1) (by omega) (by omega)]
  exact hk (_,_) hr) (λ k i t hi hI=>by
  show g_spec_l05Make_l0 (k+1) i t.1 t.2=_
  unfold g_spec_l05Make_l0
  have e:Int.tdiv (t.2.Cells.length:Int) 64=1+a.1:=by rw[hI.1,Int.tdiv_eq_ediv_of_nonneg (by omega)];omega
  rw[e,wI64 (x:=1+a.1) (by omega) (by omega),decide_eq_false (by omega),cond_false]) (s:=(a.2,s)) ⟨hs,ha.2.2⟩
 exact .bind (.bind this λ x hx=>.some (Q:=λ (x:GL01Cur×GStore)=>(x.2.Cells.length:Int)=(1+a.1)*64/\Cok x.1) hx) λ x hx=>.some ⟨⟨1+a.1,by omega,by omega,hx.1⟩,hx.2⟩
end Go.Proofs.YtmedombacbpofaaGreatDoor
namespace Go.Proofs.YtmedombacbpofaaGreatDoor
open Go Go.Fm
set_option maxRecDepth 100000
structure DS (st:GSt):Prop where
 d:st.Data.length<=20
 r:st.Ret.length<=30
 m:st.Mem.length<=32
 c:st.Cells.length<=800
 v:st.Vars.length<=30
 o:st.Out.length<=500
 i:st.In.length<=100
 g:StI st
theorem s2b_some {l:Bs} (h:l.length<=1000):s2b l=some (bsOf l):=by
 unfold s2b;rw[if_pos (by have:(1000:Nat)<=maxN:=(by decide);omega)]
theorem newSt_ok {s:GStore} {v:List Int} {f m:Int} (hm:1<=m/\m<=3) (hs:(s.Cells.length:Int)=m*64) (hv:v.length<=100) (hf:0<=f/\f<=4000):Tot (g_spec_NewSt s v f) λ r=>r=⟨[],[],0,List.replicate 32 0,s.Cells,[],[],v,0,f⟩:=by
 unfold g_spec_NewSt
 rw[mk_eq (n:=32) (by omega) (by omega),Option.bind_some,decide_eq_false (by omega),cond_false]
 unfold g_spec_StoreOk
 rw[specIn_eq,decide_eq_true hf,show (Int.tmod (s.Cells.length:Int) 64==0)=true by rw[hs,beq_iff_eq,Int.tmod_eq_emod_of_nonneg (by omega)];omega,cond_true,decide_eq_true (by omega)]
 simp only[Option.bind_some,Bool.not_true,cond_false]
 rw[app_eq (by simp;omega),app_eq (by simp;omega)]
 exact .bindE rfl (.bindE rfl (.some rfl))
theorem make8_ok {c:GL01Cur} (h:Cok c):Tot (g_spec_l08Make c) λ r=>(DS r.1/\r.1.Mem.length=32/\r.1.Vars.length<=2/\r.1.Ret.length<=24/\r.1.Cells.length<=192)/\Cok r.2:=by
 unfold g_spec_l08Make
 refine .bind (make5_ok h) λ a ha=>.bind (pick_ok ha.2 (by decide)) λ b hb => ?_
 obtain ⟨⟨m,m1,m2,m3⟩,_⟩:=ha
 have hb1:b.1.length<=5:=by
  have:∀ y ∈ ([[],[97],[104,101,108,108,111],[0,255]]:List Bs),y.length<=5:=by decide
  exact this _ hb.1
 refine .bindE (a:=bsOf b.1) (s2b_some (by omega)) (.bind (below_ok hb.2 (by decide)) λ d hd => ?_)
 rw[wI64 (x:=1+d.1) (by omega) (by omega)]
 refine .bind (newSt_ok ⟨m1,m2⟩ m3 (by rw[bsOf_len];omega) (by omega)) λ s hs=>.bind (below_ok hd.2.2 (by decide)) λ e he => ?_
 -- how many numbers
 refine .bind (Q:=λ r=>(0<=r.1/\r.1<=16)/\Cok r.2) (.bind (once_ok he.2.2 (by decide)) λ x hx=>.cond (λ _=>.bind (below_ok hx (by decide)) λ y hy=>.some ⟨?_,hy.2.2⟩) λ _=>.some ⟨by show 0<=e.1/\e.1<=16;omega,hx⟩) λ n hn => ?_
 ·show 0<=IntKind.wrap .i64 (14+y.1)/\IntKind.wrap .i64 (14+y.1)<=16
  rw[wI64 (by omega) (by omega)];omega
 have base:DS s/\s.Mem.length=32:=by
  subst hs
  refine ⟨⟨by simp,by simp,by simp,by show a.1.Cells.length<=800;omega,by simp,by simp,by show (bsOf b.1).length<=100;rw[bsOf_len];omega,⟨by simp,?_,?_,by simp⟩⟩,by simp⟩
  ·intro x hx
   have:x=0:=List.eq_of_mem_replicate hx
   subst this;unfold i32B;omega
  ·unfold i32B;show -2147483648<=(0:Int)/\(0:Int)<=2147483647;omega
 have hc0:s.Cells.length<=192/\s.Vars.length=0/\s.Ret.length=0/\s.Data.length=0/\s.Out.length=0:=by subst hs;exact ⟨by show a.1.Cells.length<=192;omega,rfl,rfl,rfl,rfl⟩
 have L0:=forLoop (n:=n.1) (F:=λ k i (t:GL01Cur×GSt)=>g_spec_l08Make_l0 n.1 k i t.1 t.2) (λ i t=>Cok t.1/\DS t.2/\t.2.Mem.length=32/\t.2.Cells.length<=192/\t.2.Vars.length=0/\t.2.Ret.length=0/\(t.2.Data.length:Int)=i/\t.2.Out.length=0) (by omega) (λ k i t h0 h1 hI hk=>by
  show Tot (g_spec_l08Make_l0 _ (k+1) i t.1 t.2) _
  unfold g_spec_l08Make_l0
  obtain ⟨i1,i2,i3,i4,i5,i6,i7,i8⟩:=hI
  rw[decide_eq_true h1,cond_true]
  refine .bind (int_ok i1) λ x hx=>.bindE (app_eq (by simp;omega)) ?_
  rw[wI64 (x:=i+1) (by omega) (by omega)]
  refine hk (_,_) ⟨hx.2,⟨by show (t.2.Data++[x.1]).length<=20;simp;omega,i2.r,i2.m,i2.c,i2.v,i2.o,i2.i,⟨λ y hy => ?_,i2.g.m,i2.g.a,i2.g.r⟩⟩,i3,i4,i5,i6,by show ((t.2.Data++[x.1]).length:Int)=i+1;simp;omega,i8⟩
  rcases List.mem_append.1 hy with hy|hy
  ·exact i2.g.d y hy
  ·rw[List.mem_singleton.1 hy];exact hx.1) (λ k i t hi _=>by
  show g_spec_l08Make_l0 _ (k+1) i t.1 t.2=_
  unfold g_spec_l08Make_l0
  rw[decide_eq_false (by omega),cond_false]) (s:=(n.2,s)) ⟨hn.2,base.1,base.2,hc0.1,hc0.2.1,hc0.2.2.1,by rw[hc0.2.2.2.1];rfl,hc0.2.2.2.2⟩
 refine .bind (.bind L0 λ x hx=>.some (Q:=λ (t:GL01Cur×GSt)=>Cok t.1/\DS t.2/\t.2.Mem.length=32/\t.2.Cells.length<=192/\t.2.Vars.length=0/\t.2.Ret.length=0/\t.2.Out.length=0) ⟨hx.1,hx.2.1,hx.2.2.1,hx.2.2.2.1,hx.2.2.2.2.1,hx.2.2.2.2.2.1,hx.2.2.2.2.2.2.2⟩) λ p hp => ?_
 refine .bind (below_ok hp.1 (by decide)) λ q hq => ?_
 refine .bind (Q:=λ r=>(0<=r.1/\r.1<=24)/\Cok r.2) (.bind (once_ok hq.2.2 (by decide)) λ x hx=>.cond (λ _=>.bind (below_ok hx (by decide)) λ y hy=>.some ⟨?_,hy.2.2⟩) λ _=>.some ⟨by show 0<=q.1/\q.1<=24;omega,hx⟩) λ n2 hn2 => ?_
 ·show 0<=IntKind.wrap .i64 (22+y.1)/\IntKind.wrap .i64 (22+y.1)<=24
  rw[wI64 (by omega) (by omega)];omega
 have L1:=forLoop (n:=n2.1) (F:=λ k i (t:GL01Cur×GSt)=>g_spec_l08Make_l1 n2.1 k i t.1 t.2) (λ i t=>Cok t.1/\DS t.2/\t.2.Mem.length=32/\t.2.Cells.length<=192/\t.2.Vars.length=0/\(t.2.Ret.length:Int)=i/\t.2.Out.length=0) (by omega) (λ k i t h0 h1 hI hk=>by
  show Tot (g_spec_l08Make_l1 _ (k+1) i t.1 t.2) _
  unfold g_spec_l08Make_l1
  obtain ⟨i1,i2,i3,i4,i5,i6,i7⟩:=hI
  rw[decide_eq_true h1,cond_true]
  refine .bind (pickInt_ok i1 (by decide)) λ w hw=>.bind (int_ok hw.2) λ x hx=>.bindE (app_eq (by simp;omega)) ?_
  rw[wI64 (x:=i+1) (by omega) (by omega)]
  refine hk (_,_) ⟨hx.2,⟨i2.d,by show (t.2.Ret++[(⟨w.1,x.1⟩:GSlot)]).length<=30;simp;omega,i2.m,i2.c,i2.v,i2.o,i2.i,⟨i2.g.d,i2.g.m,i2.g.a,λ y hy => ?_⟩⟩,i3,i4,i5,by show ((t.2.Ret++[(⟨w.1,x.1⟩:GSlot)]).length:Int)=i+1;simp;omega,i7⟩
  rcases List.mem_append.1 hy with hy|hy
  ·exact i2.g.r y hy
  ·rw[List.mem_singleton.1 hy];exact hx.1) (λ k i t hi _=>by
  show g_spec_l08Make_l1 _ (k+1) i t.1 t.2=_
  unfold g_spec_l08Make_l1
  rw[decide_eq_false (by omega),cond_false]) (s:=(n2.2,p.2)) ⟨hn2.2,hp.2.1,hp.2.2.1,hp.2.2.2.1,hp.2.2.2.2.1,by rw[hp.2.2.2.2.2.1];rfl,hp.2.2.2.2.2.2⟩
 refine .bind (.bind L1 λ x hx=>.some (Q:=λ (t:GL01Cur×GSt)=>Cok t.1/\DS t.2/\t.2.Mem.length=32/\t.2.Cells.length<=192/\t.2.Vars.length=0/\t.2.Ret.length<=24/\t.2.Out.length=0) ⟨hx.1,hx.2.1,hx.2.2.1,hx.2.2.2.1,hx.2.2.2.2.1,by have:=hx.2.2.2.2.2.1;show x.2.Ret.length<=24;omega,hx.2.2.2.2.2.2⟩) λ u hu => ?_
 refine .bind (below_ok hu.1 (by decide)) λ n3 hn3 => ?_
 have L2:=forLoop (n:=n3.1) (F:=λ k i (t:GL01Cur×GSt)=>g_spec_l08Make_l2 n3.1 k i t.1 t.2) (λ i t=>Cok t.1/\DS t.2/\t.2.Mem.length=32/\t.2.Cells.length<=192/\(t.2.Vars.length:Int)=i/\t.2.Ret.length<=24/\t.2.Out.length=0) (by omega) (λ k i t h0 h1 hI hk=>by
  show Tot (g_spec_l08Make_l2 _ (k+1) i t.1 t.2) _
  unfold g_spec_l08Make_l2
  obtain ⟨i1,i2,i3,i4,i5,i6,i7⟩:=hI
  rw[decide_eq_true h1,cond_true]
  refine .bind (below_ok i1 (by decide)) λ w hw=>.bindE (app_eq (by simp;omega)) ?_
  rw[wI64 (x:=i+1) (by omega) (by omega)]
  exact hk (_,_) ⟨hw.2.2,⟨i2.d,i2.r,i2.m,i2.c,by show (t.2.Vars++[_]).length<=30;simp;omega,i2.o,i2.i,⟨i2.g.d,i2.g.m,i2.g.a,i2.g.r⟩⟩,i3,i4,by show ((t.2.Vars++[_]).length:Int)=i+1;simp;omega,i6,i7⟩) (λ k i t hi _=>by
  show g_spec_l08Make_l2 _ (k+1) i t.1 t.2=_
  unfold g_spec_l08Make_l2
  rw[decide_eq_false (by omega),cond_false]) (s:=(n3.2,u.2)) ⟨hn3.2.2,hu.2.1,hu.2.2.1,hu.2.2.2.1,by rw[hu.2.2.2.2.1];rfl,hu.2.2.2.2.2.1,hu.2.2.2.2.2.2⟩
 refine .bind (.bind L2 λ x hx=>.some (Q:=λ (t:GL01Cur×GSt)=>Cok t.1/\DS t.2/\t.2.Mem.length=32/\t.2.Cells.length<=192/\t.2.Vars.length<=2/\t.2.Ret.length<=24/\t.2.Out.length=0) ⟨hx.1,hx.2.1,hx.2.2.1,hx.2.2.2.1,by have:=hx.2.2.2.2.1;show x.2.Vars.length<=2;omega,hx.2.2.2.2.2.1,hx.2.2.2.2.2.2⟩) λ w hw => ?_
 obtain ⟨w1,w2,w3,w4,w5,w6,w7⟩:=hw
 refine .bind (Q:=λ (t:GL01Cur×GSt)=>Cok t.1/\DS t.2/\t.2.Mem.length=32/\t.2.Cells.length<=192/\t.2.Vars.length<=2/\t.2.Ret.length<=24/\t.2.Out.length=0) ?_ λ x hx => ?_
 ·refine .bind (Q:=λ (r:Bool×GL01Cur)=>(r.1=true->0 < w.2.Data.length)/\Cok r.2) (.bind (once_ok w1 (by decide)) λ x hx=>.cond (λ _=>.some ⟨λ e=>by have:=of_decide_eq_true e;omega,hx⟩) λ _=>.some ⟨(λ e=>nomatch e),hx⟩) λ r hr=>.cond (λ hc => ?_) λ _=>.some ⟨hr.2,w2,w3,w4,w5,w6,w7⟩
  have hp:=hr.1 hc
  have hd:=w2.d
  refine .bind (Q:=λ _=>True) ?_ λ f _=>.bind (pickInt_ok hr.2 (by simp)) λ y hy => ?_
  ·unfold g_spec_l08First
   by_cases h0:w.2.Vars.length=0
   ·rw[h0];exact .some trivial
   ·rw[show ((w.2.Vars.length:Int)==0)=false by rw[beq_eq_false_iff_ne];omega,cond_false]
    obtain ⟨z,hz,_⟩:=getI_ex (xs:=w.2.Vars) (i:=0) (by omega) (by omega)
    exact .bindE hz (.some trivial)
  ·rw[wI64 (x:=(w.2.Data.length:Int)-1) (by omega) (by omega)]
   obtain ⟨z,hz,_⟩:=getI_ex (xs:=w.2.Data) (i:=(w.2.Data.length:Int)-1) (by omega) (by omega)
   refine .bindE hz (.some ⟨hy.2,⟨by show (w.2.Data.set _ _).length<=20;rw[List.length_set];exact hd,w2.r,w2.m,w2.c,w2.v,w2.o,w2.i,⟨λ v hv => ?_,w2.g.m,w2.g.a,w2.g.r⟩⟩,w3,w4,w5,w6,w7⟩)
   rcases List.mem_or_eq_of_mem_set hv with hv|rfl
   ·exact w2.g.d v hv
   ·exact i32w' _
 ·obtain ⟨w1,w2,w3,w4,w5,w6,w7⟩:=hx
  refine .bind (Q:=λ (t:GL01Cur×GSt)=>Cok t.1/\DS t.2/\t.2.Mem.length=32/\t.2.Cells.length<=192/\t.2.Vars.length<=2/\t.2.Ret.length<=24) (.bind (once_ok w1 (by decide)) λ y hy=>.cond (λ _=>.bind (below_ok hy (by decide)) λ z hz => ?_) λ _=>.some ⟨hy,w2,w3,w4,w5,w6⟩) λ r hr=>.some ⟨⟨hr.2.1,hr.2.2.1,hr.2.2.2.2.1,hr.2.2.2.2.2,hr.2.2.2.1⟩,hr.1⟩
  rw[wI64 (x:=395+z.1) (by omega) (by omega)]
  have L3:=forLoop (n:=395+z.1) (F:=λ k i t=>g_spec_l08Make_l3 (395+z.1) k i t) (λ i t=>DS t/\t.Mem.length=32/\t.Cells.length<=192/\t.Vars.length<=2/\t.Ret.length<=24/\(t.Out.length:Int)=i) (by omega) (λ k i t h0 h1 hI hk=>by
   show Tot (g_spec_l08Make_l3 _ (k+1) i t) _
   unfold g_spec_l08Make_l3
   obtain ⟨i2,i3,i4,i5,i6,i7⟩:=hI
   rw[decide_eq_true h1,cond_true]
   refine .bindE (app_eq (by simp;omega)) ?_
   rw[wI64 (x:=i+1) (by omega) (by omega)]
   exact hk _ ⟨⟨i2.d,i2.r,i2.m,i2.c,i2.v,by show (t.Out++[_]).length<=500;simp;omega,i2.i,⟨i2.g.d,i2.g.m,i2.g.a,i2.g.r⟩⟩,i3,i4,i5,i6,by show ((t.Out++[_]).length:Int)=i+1;simp;omega⟩) (λ k i t hi _=>by
   show g_spec_l08Make_l3 _ (k+1) i t=_
   unfold g_spec_l08Make_l3
   rw[decide_eq_false (by omega),cond_false]) (s:=x.2) ⟨w2,w3,w4,w5,w6,by rw[w7];rfl⟩
  exact .bind L3 λ t ht=>.some ⟨hz.2.2,ht.1,ht.2.1,ht.2.2.1,ht.2.2.2.1,ht.2.2.2.2.1⟩
theorem any8_ok {c:GL01Cur} (h:Cok c):Tot (g_spec_l08Any c) λ r=>DS r.1/\Cok r.2:=by
 unfold g_spec_l08Any
 refine .bind (make8_ok h) λ a ha => ?_
 obtain ⟨⟨s,m,v,r,cc⟩,hc⟩:=ha
 refine .bind (Q:=λ (t:GL01Cur×GSt)=>DS t.2/\Cok t.1) (.bind (below_ok hc (by decide)) λ b hb => ?_) λ x hx=>.some hx
 refine .cond (λ _ => ?_) λ _=>.cond (λ _ => ?_) λ _=>.cond (λ _ => ?_) λ _=>.cond (λ _ => ?_) λ _=>.cond (λ _ => ?_) λ _=>.cond (λ _ => ?_) λ _ => ?_
 ·exact .bind (below_ok hb.2.2 (by decide)) λ d hd=>.some ⟨⟨s.d,s.r,s.m,s.c,s.v,s.o,s.i,⟨s.g.d,s.g.m,s.g.a,s.g.r⟩⟩,hd.2.2⟩
 ·exact .bind (pickInt_ok hb.2.2 (by simp)) λ d hd=>.bindE (app_eq (by simp;omega)) (.some ⟨⟨s.d,s.r,s.m,s.c,by show (a.1.Vars++[_]).length<=30;simp;omega,s.o,s.i,⟨s.g.d,s.g.m,s.g.a,s.g.r⟩⟩,hd.2⟩)
 ·exact .bindE (subL_take (b:=31) (by omega) (by omega)) (.some ⟨⟨s.d,s.r,by show (a.1.Mem.take _).length<=32;rw[List.length_take];omega,s.c,s.v,s.o,s.i,⟨s.g.d,λ y hy=>s.g.m y (List.take_subset _ _ hy),s.g.a,s.g.r⟩⟩,hb.2.2⟩)
 ·exact .bind (pickInt_ok hb.2.2 (by simp)) λ d hd=>.some ⟨⟨s.d,s.r,s.m,s.c,s.v,s.o,s.i,⟨s.g.d,s.g.m,s.g.a,s.g.r⟩⟩,hd.2⟩
 ·refine .bind (below_ok hb.2.2 (by decide)) λ d hd=>.bindE (app_eq (by simp;omega)) (.some ⟨⟨s.d,by show (a.1.Ret++[_]).length<=30;simp;omega,s.m,s.c,s.v,s.o,s.i,⟨s.g.d,s.g.m,s.g.a,λ y hy => ?_⟩⟩,hd.2.2⟩)
  rcases List.mem_append.1 hy with hy|hy
  ·exact s.g.r y hy
  ·rw[List.mem_singleton.1 hy];unfold i32B;show -2147483648<=(0:Int)/\(0:Int)<=2147483647;omega
 ·exact .bindE (app_eq (by simp;omega)) (.some ⟨⟨s.d,s.r,s.m,by show (a.1.Cells++[_]).length<=800;simp;omega,s.v,s.o,s.i,⟨s.g.d,s.g.m,s.g.a,s.g.r⟩⟩,hb.2.2⟩)
 ·exact .some ⟨s,hb.2.2⟩
end Go.Proofs.YtmedombacbpofaaGreatDoor
namespace Go.Proofs.YtmedombacbpofaaGreatDoor
open Go Go.Fm
set_option maxRecDepth 100000
def GO (n:Int) (o:GOp):Prop:=(okB o=true/\i32B o.N)/\(o.Kind=2->0<=o.N/\o.N < n)
theorem okB_of {o:GOp} {b:Bool} (h:g_spec_l09Op o=some b):okB o=b:=by unfold okB;rw[h];rfl
theorem GO.lit {n:Int} (m:Int) (h:i32B m):GO n ⟨0,m⟩:=⟨⟨okB_of rfl,h⟩,λ e=>by cases e⟩
theorem GO.prim {n m:Int} (h:0<=m/\m<=23):GO n ⟨1,m⟩:=by
 refine ⟨⟨okB_of ?_,(show i32B m from ⟨by omega,by omega⟩)⟩,λ e=>by cases e⟩
 have hk:nameB m=true:=by unfold nameB;exact decide_eq_true h
 obtain ⟨s,e1,e2⟩:=name_ne m
 unfold g_spec_l09Op
 show ((g_spec_PrimName (IntKind.wrap .i64 m)).bind λ y_3=>some (y_3 != []))=_
 rw[wI64 (by omega) (by omega),e1,Option.bind_some]
 rw[hk]at e2
 rw[bne,e2];rfl
theorem GO.call {n m:Int} (h:0<=m/\m < n) (hn:n<=24):GO n ⟨2,m⟩:=by
 refine ⟨⟨okB_of ?_,(show i32B m from ⟨by omega,by omega⟩)⟩,λ _=>h⟩
 unfold g_spec_l09Op
 show ((g_spec_l01In (IntKind.wrap .i64 m) 0 23).bind λ y_4=>some y_4)=_
 rw[wI64 (by omega) (by omega),specIn_eq,decide_eq_true (by omega)];rfl
theorem GO.ctl {n k:Int} (h:3<=k/\k<=8):GO n ⟨k,0⟩:=by
 refine ⟨⟨okB_of ?_,(show i32B 0 from ⟨by omega,by omega⟩)⟩,λ e=>by have:k=2:=e;omega⟩
 unfold g_spec_l09Op
 show cond (k==0) _ (cond (k==1) _ (cond (k==2) _ ((g_spec_l01In k 3 8).bind λ y_5=>cond y_5 (some ((0:Int)==0)) (some false))))=_
 rw[show (k==0)=false by rw[beq_eq_false_iff_ne];omega,show (k==1)=false by rw[beq_eq_false_iff_ne];omega,show (k==2)=false by rw[beq_eq_false_iff_ne];omega,@specIn_eq k 3 8,decide_eq_true h];rfl
theorem GO.mono {n m:Int} {o:GOp} (h:GO n o) (hn:n<=m):GO m o:=⟨h.1,λ e=>⟨(h.2 e).1,by have:=(h.2 e).2;omega⟩⟩
theorem openF_app:∀ (a b:List GOp) (v:List Int),openF (a++b) v=(openF a v).bind (openF b)
 | [],b,v=>rfl
 | o::r,b,v=>by
  show (stepF v o).bind (openF (r++b))=((stepF v o).bind (openF r)).bind (openF b)
  cases stepF v o with
  | none=>rfl
  | some w=>exact openF_app r b w
structure GB (n:Int) (l:List GOp):Prop where
 ok:∀ o ∈ l,GO n o
 bal:∀ v,openF l v=some v
theorem GB.nil {n:Int}:GB n []:=⟨(λ o h=>by cases h),λ v=>rfl⟩
theorem GB.app {n:Int} {a b:List GOp} (ha:GB n a) (hb:GB n b):GB n (a++b) :=
 ⟨λ o h=>(List.mem_append.1 h).elim (ha.ok o) (hb.ok o),λ v=>by rw[openF_app,ha.bal];exact hb.bal v⟩
theorem GB.one {n:Int} {o:GOp} (h:GO n o) (hk:¬(3<=o.Kind/\o.Kind<=7)):GB n [o]:=by
 refine ⟨λ x hx=>by rw[List.mem_singleton.1 hx];exact h,λ v => ?_⟩
 show (stepF v o).bind (openF [])=_
 unfold stepF
 rw[if_neg (by omega),if_neg (by omega)];rfl
theorem GB.mono {n m:Int} {l:List GOp} (h:GB n l) (hn:n<=m):GB m l:=⟨λ o ho=>(h.ok o ho).mono hn,h.bal⟩
theorem GB.wrap {n k e:Int} {l:List GOp} (h:GB n l) (hk:k=3\/k=4\/k=6) (he:(k=6/\e=7)\/(k≠6/\e=5)):GB n ([⟨k,0⟩]++l++[⟨e,0⟩]):=by
 refine ⟨λ o ho => ?_,λ v => ?_⟩
 ·rcases List.mem_append.1 ho with ho|ho
  ·rcases List.mem_append.1 ho with ho|ho
   ·rw[List.mem_singleton.1 ho];exact .ctl (by omega)
   ·exact h.ok o ho
  ·rw[List.mem_singleton.1 ho];exact .ctl (by omega)
 ·rw[openF_app,openF_app]
  have e1:openF [(⟨k,0⟩:GOp)] v=some (v++[k]):=by
   show (stepF v ⟨k,0⟩).bind (openF [])=_
   unfold stepF
   rw[if_pos hk];rfl
  rw[e1,Option.bind_some,h.bal,Option.bind_some]
  show (stepF (v++[k]) ⟨e,0⟩).bind (openF [])=_
  unfold stepF
  rw[if_neg (by show ¬(e=3\/e=4\/e=6);omega),if_pos (by show e=5\/e=7;omega),List.getLast?_concat]
  show (if decide (k=6)=decide (e=7) then some (v++[k]).dropLast else none).bind (openF [])=_
  rw[if_pos (by rw[decide_eq_decide];omega),List.dropLast_concat];rfl
theorem plain_ok {n:Int} {c:GL01Cur} (h:Cok c) (hn:n<=24):Tot (g_spec_l09Plain n c) λ r=>GB n [r.1]/\Cok r.2:=by
 unfold g_spec_l09Plain
 refine .bind (Q:=λ o=>match o with | .inl (x,_)=>Cok x | .inr (x,o)=>GB n [o]/\Cok x) (.bind (below_ok h (by decide)) λ a ha=>.bind (Q:=λ _=>True) (by cases a.1==0<;>exact .some trivial) λ b _=>.cond (λ _ => ?_) λ _=>.cond (λ _=>.condD (λ hp => ?_) λ _=>.some ha.2.2) λ _=>.some ha.2.2) λ o ho => ?_
 ·exact .bind (below_ok ha.2.2 (by decide)) λ d hd=>.some ⟨.one (.lit _ (i32w _)) (by show ¬(3<=(0:Int)/\_);omega),hd.2.2⟩
 ·refine .bind (below_ok ha.2.2 (by omega)) λ d hd=>.some ⟨.one ?_ (by show ¬(3<=(2:Int)/\_);omega),hd.2.2⟩
  rw[wI32 (by omega) (by omega)]
  exact .call ⟨hd.1,hd.2.1⟩ hn
 ·rcases o with ⟨x,y⟩|⟨x,y⟩
  ·refine .bind (pickInt_ok ho (by decide)) λ d hd=>.some ⟨.one ?_ (by show ¬(3<=(1:Int)/\_);omega),hd.2⟩
   have:∀ y ∈ ([0,0,1,2,3,4,5,5,6,7,8,9,10,11,12,13,14,15,16,17,18,19,20,21,22,22,23]:List Int),0<=y/\y<=23:=by decide
   have:=this _ hd.1
   rw[wI32 (by omega) (by omega)]
   exact .prim this
  ·exact .some ⟨ho.1,ho.2⟩
def bodyL:Nat->Nat
 | 0=>5
 | d+1=>4*(bodyL d+4)+1
theorem body_ok:∀ (d k:Nat),d < k->∀ {n:Int} {c:GL01Cur},n<=24->Cok c->d<=4->Tot (g_spec_l09Body_r k n d c) λ r=>(GB n r.1/\r.1.length<=bodyL d)/\Cok r.2:=by
 intro d
 induction d with
 | zero =>
  intro k hk n c hn h _
  obtain ⟨k,rfl⟩:∃ k',k=k'+1:=⟨k-1,by omega⟩
  show Tot (g_spec_l09Body_b (g_spec_l09Body_r k) n 0 c) _
  unfold g_spec_l09Body_b
  refine .bind (below_ok h (by decide)) λ a ha => ?_
  have L:=forLoop (n:=a.1) (F:=λ k' i (s:List GOp×GL01Cur)=>g_spec_l09Body_l0 (g_spec_l09Body_r k) n 0 a.1 k' s.1 i s.2) (λ i s=>(GB n s.1/\(s.1.length:Int)<=i)/\Cok s.2) (by omega) (λ k' i s h0 h1 hI hk=>by
   show Tot (g_spec_l09Body_l0 _ _ _ _ (k'+1) s.1 i s.2) _
   unfold g_spec_l09Body_l0
   rw[decide_eq_true h1,cond_true]
   refine .bind (Q:=λ r=>(GB n r.1/\(r.1.length:Int)<=i+1)/\Cok r.2) (.bind (plain_ok hI.2 hn) λ x hx=>.bindE (app_eq (by simp;omega)) (.bind (Q:=λ r=>r.1=true/\Cok r.2) (.some ⟨rfl,hx.2⟩) λ r hr => ?_)) λ r hr => ?_
   ·obtain ⟨r1,r2⟩:=r
    obtain ⟨e,hr2⟩:=hr
    have e:r1=true:=e
    subst e
    exact .some ⟨⟨hI.1.1.app hx.1,by have:=hI.1.2;simp;omega⟩,hr2⟩
   ·rw[wI64 (x:=i+1) (by omega) (by omega)]
    exact hk (_,_) hr) (λ k' i s hi _=>by
   show g_spec_l09Body_l0 _ _ _ _ (k'+1) s.1 i s.2=_
   unfold g_spec_l09Body_l0
   rw[decide_eq_false (by omega),cond_false]) (s:=([],a.2)) ⟨⟨.nil,by simp⟩,ha.2.2⟩
  refine .bind (.bind L λ x hx=>.some (Q:=λ (r:List GOp×GL01Cur)=>(GB n r.1/\r.1.length<=4)/\Cok r.2) ⟨⟨hx.1.1,by have:=hx.1.2;show x.1.length<=4;omega⟩,hx.2⟩) λ x hx => ?_
  refine .bind (Q:=λ r=>(GB n r.1/\r.1.length<=5)/\Cok r.2) (.bind (once_ok hx.2 (by decide)) λ y hy=>.cond (λ _=>.bindE (app_eq (by simp;omega)) (.some ⟨⟨hx.1.1.app (.one (.ctl (by decide)) (by show ¬(3<=(8:Int)/\(8:Int)<=7);omega)),by simp;omega⟩,hy⟩)) λ _=>.some ⟨⟨hx.1.1,by show x.1.length<=5;omega⟩,hy⟩) λ r hr=>.some hr
 | succ d ih =>
  intro k hk n c hn h hd
  obtain ⟨k,rfl⟩:∃ k',k=k'+1:=⟨k-1,by omega⟩
  show Tot (g_spec_l09Body_b (g_spec_l09Body_r k) n _ c) _
  unfold g_spec_l09Body_b
  have hL:bodyL d<=100000:=by
   match d,hd with
   | 0,_=>decide
   | 1,_=>decide
   | 2,_=>decide
   | 3,_=>decide
  refine .bind (below_ok h (by decide)) λ a ha => ?_
  have L:=forLoop (n:=a.1) (F:=λ k' i (s:List GOp×GL01Cur)=>g_spec_l09Body_l0 (g_spec_l09Body_r k) n ((d+1:Nat):Int) a.1 k' s.1 i s.2) (λ i s=>(GB n s.1/\(s.1.length:Int)<=i*(bodyL d+4))/\Cok s.2) (by omega) (λ k' i s h0 h1 hI hk2=>by
   show Tot (g_spec_l09Body_l0 _ _ _ _ (k'+1) s.1 i s.2) _
   unfold g_spec_l09Body_l0
   have hi:i*((bodyL d:Int)+4)<=4*100004:=by
    have:i<=4:=by omega
    exact Int.le_trans (Int.mul_le_mul_of_nonneg_right this (by omega)) (by omega)
   have hi1:(i+1)*((bodyL d:Int)+4)=i*((bodyL d:Int)+4)+(bodyL d+4):=by rw[Int.add_mul,Int.one_mul]
   have hIl:=hI.1.2
   rw[decide_eq_true h1,cond_true]
   refine .bind (Q:=λ r=>(GB n r.1/\(r.1.length:Int)<=(i+1)*(bodyL d+4))/\Cok r.2) (.bind (plain_ok hI.2 hn) λ x hx=>.bindE (app_eq (by simp;omega)) (.bind (Q:=λ r=>Cok r.2) (.condD (λ hz=>.some hx.2) λ _=>.bind (once_ok hx.2 (by decide)) λ y hy=>.some hy) λ r hr => ?_)) λ r hr => ?_
   ·have g1:=hI.1.1.app hx.1
    refine .cond (λ _=>.some ⟨⟨g1,by simp only[List.length_append,List.length_singleton];omega⟩,hr⟩) λ _ => ?_
    rw[show IntKind.wrap .i64 (((d+1:Nat):Int)-1)=(d:Int) by rw[wI64 (by omega) (by omega)];omega]
    refine .bind (ih k (by omega) hn hr (by omega)) λ u hu=>.bind (below_ok hu.2 (by decide)) λ w hw => ?_
    have hul:=hu.1.2
    refine .cond (λ _=>.bind (below_ok hw.2.2 (by decide)) λ z hz => ?_) λ _=>.cond (λ _ => ?_) λ _ => ?_
    ·rw[app_eq (by simp;omega),Option.bind_some,app_eq (by simp;omega),Option.bind_some,app_eq (by simp;omega),Option.bind_some]
     refine .some ⟨⟨?_,by simp only[List.length_append,List.length_cons,List.length_nil];omega⟩,hz.2.2⟩
     have g2:GB n [(⟨0,IntKind.wrap .i32 z.1⟩:GOp)]:=.one (.lit _ (i32w _)) (by show ¬(3<=(0:Int)/\_);omega)
     have:=(g1.app g2).app (hu.1.1.wrap (k:=6) (e:=7) (by omega) (by omega))
     simpa [List.append_assoc] using this
    ·rw[app_eq (by simp;omega),Option.bind_some,app_eq (by simp;omega),Option.bind_some,app_eq (by simp;omega),Option.bind_some]
     refine .some ⟨⟨?_,by simp only[List.length_append,List.length_cons,List.length_nil];omega⟩,hw.2.2⟩
     have:=g1.app (hu.1.1.wrap (k:=3) (e:=5) (by omega) (by omega))
     simpa [List.append_assoc] using this
    ·rw[app_eq (by simp;omega),Option.bind_some,app_eq (by simp;omega),Option.bind_some,app_eq (by simp;omega),Option.bind_some]
     refine .some ⟨⟨?_,by simp only[List.length_append,List.length_cons,List.length_nil];omega⟩,hw.2.2⟩
     have:=g1.app (hu.1.1.wrap (k:=4) (e:=5) (by omega) (by omega))
     simpa [List.append_assoc] using this
   ·rw[wI64 (x:=i+1) (by omega) (by omega)]
    exact hk2 (_,_) hr) (λ k' i s hi _=>by
   show g_spec_l09Body_l0 _ _ _ _ (k'+1) s.1 i s.2=_
   unfold g_spec_l09Body_l0
   rw[decide_eq_false (by omega),cond_false]) (s:=([],a.2)) ⟨⟨.nil,by simp⟩,ha.2.2⟩
  have hm:max 0 a.1*((bodyL d:Int)+4)<=4*((bodyL d:Int)+4):=Int.mul_le_mul_of_nonneg_right (by omega) (by omega)
  refine .bind (.bind L λ x hx=>.some (Q:=λ (r:List GOp×GL01Cur)=>(GB n r.1/\r.1.length<=4*(bodyL d+4))/\Cok r.2) ⟨⟨hx.1.1,by have:=hx.1.2;show x.1.length<=4*(bodyL d+4);omega⟩,hx.2⟩) λ x hx => ?_
  refine .bind (Q:=λ r=>(GB n r.1/\r.1.length<=4*(bodyL d+4)+1)/\Cok r.2) (.bind (once_ok hx.2 (by decide)) λ y hy=>.cond (λ _=>.bindE (app_eq (by simp;omega)) (.some ⟨⟨hx.1.1.app (.one (.ctl (by decide)) (by show ¬(3<=(8:Int)/\(8:Int)<=7);omega)),by simp;omega⟩,hy⟩)) λ _=>.some ⟨⟨hx.1.1,by show x.1.length<=4*(bodyL d+4)+1;omega⟩,hy⟩) λ r hr=>.some hr
end Go.Proofs.YtmedombacbpofaaGreatDoor
namespace Go.Proofs.YtmedombacbpofaaGreatDoor
open Go Go.Fm
set_option maxRecDepth 100000
def names5:List Bs:=[[103,111],[120],[115,113,117,97,114,101],[97,33,97],[116,101,110]]
structure DD (n:Int) (d:GDef):Prop where
 nm:d.Name ∈ names5
 b:GB n d.Body
 l:d.Body.length<=52
theorem exit_gb {n:Int}:GB n [⟨8,0⟩]:=.one (.ctl (by decide)) (by show ¬(3<=(8:Int)/\(8:Int)<=7);omega)
theorem make9_ok {c:GL01Cur} (h:Cok c):Tot (g_spec_l09Make c) λ r=>((1<=r.1.length/\r.1.length<=4)/\∀ d ∈ r.1,DD r.1.length d)/\Cok r.2:=by
 unfold g_spec_l09Make
 refine .bind (below_ok h (by decide)) λ a ha => ?_
 rw[wI64 (x:=1+a.1) (by omega) (by omega)]
 have L:=forLoop (n:=1+a.1) (F:=λ k i (s:List GDef×GL01Cur)=>g_spec_l09Make_l0 (1+a.1) k s.1 i s.2) (λ i s=>((s.1.length:Int)=i/\∀ d ∈ s.1,DD (1+a.1) d)/\Cok s.2) (by omega) (λ k i s h0 h1 hI hk=>by
  show Tot (g_spec_l09Make_l0 _ (k+1) s.1 i s.2) _
  unfold g_spec_l09Make_l0
  rw[decide_eq_true h1,cond_true]
  refine .bind (Q:=λ r=>((r.1.length:Int)=i+1/\∀ d ∈ r.1,DD (1+a.1) d)/\Cok r.2) ?_ λ r hr => ?_
  ·refine .bind (Q:=λ r=>(0<=r.1/\r.1<=1+a.1)/\Cok r.2) (.bind (once_ok hI.2 (by decide)) λ x hx=>.cond (λ _=>.some ⟨⟨by show 0<=1+a.1;omega,Int.le_refl _⟩,hx⟩) λ _=>.some ⟨⟨h0,by show i<=1+a.1;omega⟩,hx⟩) λ q hq => ?_
   obtain ⟨⟨q0,q1⟩,q2⟩:=hq
   refine .bind (body_ok 2 bigK (by unfold bigK;omega) (by omega) q2 (by omega)) λ b hb => ?_
   refine .bind (Q:=λ r=>GB q.1 r/\r.length<=50) (.condD (λ _=>.some ⟨.nil,by simp⟩) λ hl=>.some ⟨hb.1.1,by omega⟩) λ bd hbd => ?_
   refine .bind (Q:=λ r=>(GB (1+a.1) r.1/\r.1.length<=52)/\Cok r.2) (.bind (below_ok hb.2 (by decide)) λ w hw=>.cond (λ _=>.some ⟨⟨hbd.1.mono q1,by show bd.length<=52;omega⟩,hw.2.2⟩) λ _=>.cond (λ _ => ?_) λ _=>.bindE (app_eq (by simp;omega)) (.some ⟨⟨(hbd.1.app exit_gb).mono q1,by simp;omega⟩,hw.2.2⟩)) λ e he => ?_
   ·refine .bind (Q:=λ r=>(GB q.1 r.1/\r.1.length<=51)/\Cok r.2) (.condD (λ hp=>.bind (below_ok hw.2.2 (by omega)) λ z hz=>.bindE (app_eq (by simp;omega)) (.some ⟨⟨hbd.1.app (.one ?_ (by show ¬(3<=(2:Int)/\_);omega)),by simp;omega⟩,hz.2.2⟩)) λ _=>.some ⟨⟨hbd.1,by show bd.length<=51;omega⟩,hw.2.2⟩) λ u hu=>.bindE (app_eq (by have:=hu.1.2;simp;omega)) (.some ⟨⟨(hu.1.1.app exit_gb).mono q1,by have:=hu.1.2;simp;omega⟩,hu.2⟩)
    rw[wI32 (by omega) (by omega)]
    exact .call ⟨hz.1,hz.2.1⟩ (by omega)
   ·refine .bind (pick_ok he.2 (by decide)) λ z hz=>.bindE (app_eq (by simp;omega)) (.some ⟨⟨by have:=hI.1.1;simp;omega,λ d hd => ?_⟩,hz.2⟩)
    rcases List.mem_append.1 hd with hd|hd
    ·exact hI.1.2 d hd
    ·rw[List.mem_singleton.1 hd];exact ⟨hz.1,he.1.1,he.1.2⟩
  ·rw[wI64 (x:=i+1) (by omega) (by omega)]
   exact hk (_,_) hr) (λ k i s hi _=>by
  show g_spec_l09Make_l0 _ (k+1) s.1 i s.2=_
  unfold g_spec_l09Make_l0
  rw[decide_eq_false (by omega),cond_false]) (s:=([],a.2)) ⟨⟨rfl,λ d hd=>by cases hd⟩,ha.2.2⟩
 refine .bind (.bind L λ x hx=>.some (Q:=λ (r:List GDef×GL01Cur)=>((r.1.length:Int)=1+a.1/\∀ d ∈ r.1,DD (1+a.1) d)/\Cok r.2) ⟨⟨by have:=hx.1.1;show (x.1.length:Int)=_;omega,hx.1.2⟩,hx.2⟩) λ x hx=>.some ⟨⟨⟨by have:=hx.1.1;show 1<=x.1.length;omega,by have:=hx.1.1;show x.1.length<=4;omega⟩,λ d hd => ?_⟩,hx.2⟩
 have e:((x.1.length:Nat):Int)=1+a.1:=hx.1.1
 show DD (x.1.length:Int) d
 rw[e];exact hx.1.2 d hd
theorem names5_ok:∀ s ∈ names5,g_spec_NameOk s=some true:=by
 intro s hs
 unfold names5 at hs
 simp only[List.mem_cons,List.not_mem_nil,or_false]at hs
 rcases hs with rfl|rfl|rfl|rfl|rfl<;>decide +kernel
end Go.Proofs.YtmedombacbpofaaGreatDoor
namespace Go.Proofs.YtmedombacbpofaaGreatDoor
open Go Go.Fm
set_option maxRecDepth 100000
theorem idxLoop {α:Type} {L:List α} (p:α->Bool) (F:Nat->Int->Option (Unit ⊕ Int)) (step:∀ (k n:Nat) (x:α),L[n]? = some x->n < L.length->F (k+1) n=cond (p x) (some (.inr (n:Int))) (F k ((n+1:Nat):Int)))
  (fin:∀ k n:Nat,L.length<=n->F (k+1) n=some (.inl ())) (hm:L.length<=16777216):∃ o,F bigK 0=some o/\(match o with | .inl _=>L.any p=false | .inr v=>0<=v/\L.any p=true):=by
 have key:∀ (k n:Nat),n<=L.length->L.length-n < k->∃ o,F k n=some o/\(match o with | .inl _=>(L.drop n).any p=false | .inr v=>0<=v/\(L.drop n).any p=true):=by
  intro k
  induction k with
  | zero=>intro n h0 h1;omega
  | succ k ih =>
   intro n h0 h1
   by_cases hn:n < L.length
   ·rw[step k n L[n] (List.getElem?_eq_getElem hn) hn,List.drop_eq_getElem_cons hn,List.any_cons]
    cases hp:p L[n] with
    | true=>exact ⟨_,rfl,by show 0<=(n:Int)/\_;exact ⟨by omega,rfl⟩⟩
    | false =>
     rw[cond_false,Bool.false_or]
     exact ih (n+1) (by omega) (by omega)
   ·rw[fin k n (by omega),List.drop_eq_nil_of_le (by omega)]
    exact ⟨_,rfl,rfl⟩
 have:=key bigK 0 (Nat.zero_le _) (by unfold bigK;omega)
 rw[List.drop_zero]at this
 exact this
def tooFar (n:Int) (o:GOp):Bool:=o.Kind==2&&decide (IntKind.wrap .i64 o.N ≥ n)
theorem below_eq {body:List GOp} {n:Int} (hb:body.length<=1048576):g_impl_callsBelow body n=some (!(body.any (tooFar n))):=by
 unfold g_impl_callsBelow g_slices_ContainsFunc_Op_impl_callsBelowc1 g_slices_IndexFunc_Op_impl_callsBelowc1
 obtain ⟨o,h1,h2⟩:=idxLoop (L:=body) (tooFar n) (g_slices_IndexFunc_Op_impl_callsBelowc1_l0 body (body.length:Int) n) (λ k i x hx hi=>by
  rw[g_slices_IndexFunc_Op_impl_callsBelowc1_l0,decide_eq_true (by omega),cond_true,getI_nat,hx,Option.bind_some]
  unfold g_impl_callsBelowc1 tooFar
  rw[nxt (by omega)]
  cases x.Kind==2<;>rfl) (λ k i hi=>by rw[g_slices_IndexFunc_Op_impl_callsBelowc1_l0,decide_eq_false (by omega),cond_false]) (by omega)
 rw[h1]
 cases o with
 | inl u=>simp only[Option.bind_some];rw[h2];rfl
 | inr v=>simp only[Option.bind_some];rw[h2.2,decide_eq_true h2.1]
def defB (n:Int) (d:GDef):Bool:=shapeB d.Body && !(d.Body.any (tooFar n))
def defsB (defs:List GDef):Bool:=decide (defs.length<=24)&&defs.all (defB defs.length)
structure DW (defs:List GDef):Prop where
 n:defs.length<=1000
 nm:∀ d ∈ defs,g_impl_NameOk d.Name=some true/\g_spec_NameOk d.Name=some true
 l:∀ d ∈ defs,d.Body.length<=1000
theorem defsOk_impl {defs:List GDef} (h:DW defs):g_impl_DefsOk defs=some (defsB defs):=by
 have hn:=h.n
 unfold g_impl_DefsOk defsB
 by_cases hl:defs.length<=24
 ·rw[decide_eq_true (by omega),decide_eq_true hl,cond_true,Bool.true_and]
  unfold g_slices_ContainsFunc_Def_impl_DefsOkc1 g_slices_IndexFunc_Def_impl_DefsOkc1
  obtain ⟨o,h1,h2⟩:=idxLoop (L:=defs) (λ d => !(defB defs.length d)) (g_slices_IndexFunc_Def_impl_DefsOkc1_l0 defs (defs.length:Int) defs) (λ k i d hx hi=>by
   have hd:=List.mem_of_getElem? hx
   rw[g_slices_IndexFunc_Def_impl_DefsOkc1_l0,decide_eq_true (by omega),cond_true,getI_nat,hx,Option.bind_some]
   unfold g_impl_DefsOkc1
   have:=h.l d hd
   rw[(h.nm d hd).1,implShape (by omega),below_eq (by omega),nxt (by omega)]
   simp only[Option.bind_some,Bool.not_true,cond_false]
   unfold defB
   cases shapeB d.Body
   ·rfl
   ·simp) (λ k i hi=>by rw[g_slices_IndexFunc_Def_impl_DefsOkc1_l0,decide_eq_false (by omega),cond_false]) (by omega)
  rw[h1]
  have e:defs.all (defB defs.length) = !(defs.any λ d => !(defB defs.length d)):=by rw[List.not_any_eq_all_not];simp
  rw[e]
  cases o with
  | inl u=>simp only[Option.bind_some];rw[h2];rfl
  | inr v=>simp only[Option.bind_some];rw[h2.2,decide_eq_true h2.1]
 ·rw[decide_eq_false (by omega),decide_eq_false hl,cond_false,Bool.false_and]
theorem defsOk_spec {defs:List GDef} (h:DW defs):g_spec_DefsOk defs=some (defsB defs):=by
 have hn:=h.n
 unfold g_spec_DefsOk defsB
 by_cases hl:defs.length<=24
 ·rw[decide_eq_false (by omega),decide_eq_true hl,cond_false,Bool.true_and]
  have h0:=allLoop (L:=defs) (bad:=false) (λ _ d=>defB defs.length d) (g_spec_DefsOk_l0 defs) (λ k n d hx hi=>by
   have hd:=List.mem_of_getElem? hx
   have hb:=h.l d hd
   have h1:=allLoop (L:=d.Body) (bad:=false) (λ _ o => !(tooFar defs.length o)) (g_spec_DefsOk_l1 defs (n:Int)) (λ k m o ho hm=>by
    rw[g_spec_DefsOk_l1,getI_nat,hx]
    simp only[Option.bind_some]
    rw[decide_eq_true (by omega),cond_true,getI_nat,ho]
    simp only[Option.bind_some]
    rw[nxt (by omega)]
    unfold tooFar
    cases o.Kind==2
    ·rfl
    ·simp only[cond_true,Option.bind_some,Bool.true_and]
     cases decide (IntKind.wrap .i64 o.N ≥ (defs.length:Int))<;>rfl) (λ k m hm=>by
    rw[g_spec_DefsOk_l1,getI_nat,hx]
    simp only[Option.bind_some]
    rw[decide_eq_false (by omega),cond_false]) (by omega)
   rw[g_spec_DefsOk_l0,decide_eq_true (by omega),cond_true,getI_nat,hx]
   simp only[Option.bind_some]
   rw[(h.nm d hd).2,specShape (by omega),h1,allN_const,nxt (by omega)]
   simp only[Option.bind_some,Bool.not_true,cond_false]
   unfold defB
   have e:(d.Body.all λ o => !(tooFar defs.length o)) = !(d.Body.any (tooFar defs.length)):=by rw[List.not_any_eq_all_not]
   rw[e]
   cases shapeB d.Body
   ·rfl
   ·cases (d.Body.any (tooFar defs.length))<;>rfl) (λ k n hi=>by rw[g_spec_DefsOk_l0,decide_eq_false (by omega),cond_false]) (by omega)
  rw[h0,allN_const]
  cases defs.all (defB defs.length)<;>rfl
 ·rw[decide_eq_true (by omega),decide_eq_false hl,cond_true,Bool.false_and]
theorem okB_call {o:GOp} (h:okB o=true) (hk:o.Kind=2):0<=IntKind.wrap .i64 o.N:=by
 have:=okB_eq o
 rw[h]at this
 unfold g_spec_l09Op at this
 rw[hk]at this
 simp only[show ((2:Int)==0)=false from rfl,show ((2:Int)==1)=false from rfl,show ((2:Int)==2)=true from rfl,cond_false,cond_true]at this
 rw[specIn_eq]at this
 simp only[Option.bind_some,Option.some.injEq,decide_eq_true_eq]at this
 exact this.1
theorem sameNums {a:List Int} (h:a.length<=1048576):g_laws_sameNums a a=some true :=
 eqRefl (g_laws_sameNums_l0 a a) _ rfl (λ k n x hx hn=>by
  rw[g_laws_sameNums_l0,decide_eq_true (by omega),cond_true,getI_nat,hx]
  simp only[Option.bind_some,bne_self',cond_false]
  rw[nxt (by omega)]) (λ k n hn=>by rw[g_laws_sameNums_l0,decide_eq_false (by omega),cond_false]) (by omega)
theorem sameCells {a:List Int} (h:a.length<=1048576):g_laws_sameCells a a=some true :=
 eqRefl (g_laws_sameCells_l0 a a) _ rfl (λ k n x hx hn=>by
  rw[g_laws_sameCells_l0,decide_eq_true (by omega),cond_true,getI_nat,hx]
  simp only[Option.bind_some,bne_self',cond_false]
  rw[nxt (by omega)]) (λ k n hn=>by rw[g_laws_sameCells_l0,decide_eq_false (by omega),cond_false]) (by omega)
theorem sameBytes {a:List Int} (h:a.length<=1048576):g_laws_sameBytes a a=some true :=
 eqRefl (g_laws_sameBytes_l0 a a) _ rfl (λ k n x hx hn=>by
  rw[g_laws_sameBytes_l0,decide_eq_true (by omega),cond_true,getI_nat,hx]
  simp only[Option.bind_some,bne_self',cond_false]
  rw[nxt (by omega)]) (λ k n hn=>by rw[g_laws_sameBytes_l0,decide_eq_false (by omega),cond_false]) (by omega)
theorem sameInts {a:List Int} (h:a.length<=1048576):g_laws_sameInts a a=some true :=
 eqRefl (g_laws_sameInts_l0 a a) _ rfl (λ k n x hx hn=>by
  rw[g_laws_sameInts_l0,decide_eq_true (by omega),cond_true,getI_nat,hx]
  simp only[Option.bind_some,bne_self',cond_false]
  rw[nxt (by omega)]) (λ k n hn=>by rw[g_laws_sameInts_l0,decide_eq_false (by omega),cond_false]) (by omega)
theorem sameRet {a:List GSlot} (h:a.length<=1048576):g_laws_sameRet a a=some true :=
 eqRefl (g_laws_sameRet_l0 a a) _ rfl (λ k n x hx hn=>by
  rw[g_laws_sameRet_l0,decide_eq_true (by omega),cond_true,getI_nat,hx]
  simp only[Option.bind_some,beq_self_eq_true,Bool.and_true,Bool.not_true,cond_false]
  rw[nxt (by omega)]) (λ k n hn=>by rw[g_laws_sameRet_l0,decide_eq_false (by omega),cond_false]) (by omega)
def B9 (b:List GOp):Prop:=b.length<=1000/\∀ o ∈ b,i32B o.N
theorem B9.app {b:List GOp} {o:GOp} (h:B9 b) (hl:b.length<=999) (ho:i32B o.N):B9 (b++[o]) :=
 ⟨by simp;omega,λ x hx=>(List.mem_append.1 hx).elim (h.2 x) λ hx=>by rw[List.mem_singleton.1 hx];exact ho⟩
theorem B9.set {b:List GOp} {o:GOp} (h:B9 b) (n:Nat) (ho:i32B o.N):B9 (b.set n o) :=
 ⟨by rw[List.length_set];exact h.1,λ x hx=>(List.mem_or_eq_of_mem_set hx).elim (h.2 x) λ hx=>by rw[hx];exact ho⟩
theorem l32:i32B 1:=by unfold i32B;omega
theorem any9 {c:GL01Cur} (h:Cok c):Tot (g_spec_l09Any c) λ r=>B9 r.1/\Cok r.2:=by
 have loop:∀ (k:Nat) (b:List GOp) (x:GL01Cur),Cok x->B9 b->1001-b.length < k->Tot (g_spec_l09Any_l0 k b x) λ r=>B9 r.1/\Cok r.2:=by
  intro k
  induction k with
  | zero=>intro b x hx h0 h1;omega
  | succ k ih =>
   intro b x hx h0 h1
   unfold g_spec_l09Any_l0
   refine .bind (below_ok hx (by decide)) λ a ha => ?_
   rw[wI64 (by omega) (by omega)]
   refine .condD (λ hlt => ?_) λ _=>.some ⟨h0,ha.2.2⟩
   refine .bindE (app_eq (by simp;omega)) (ih _ _ ha.2.2 (h0.app (by omega) l32) (by simp;omega))
 unfold g_spec_l09Any
 refine .bind (body_ok 3 bigK (by unfold bigK;omega) (by omega) h (by omega)) λ y hy => ?_
 have hyl:y.1.length<=677:=hy.1.2
 have hy9:B9 y.1:=⟨by omega,λ o ho=>(hy.1.1.ok o ho).1.2⟩
 refine .bind (Q:=λ o=>match o with | .inl r=>B9 r.1/\Cok r.2 | .inr r=>B9 r.1/\Cok r.2) ?_ λ o ho => ?_
 ·refine .bind (below_ok hy.2 (by decide)) λ a ha=>.cond (λ _ => ?_) λ _=>.cond (λ _ => ?_) λ _=>.cond (λ _ => ?_) λ _ => ?_
  ·refine .bind (below_ok ha.2.2 (by decide)) λ b hb=>.bind (below_ok hb.2.2 (by decide)) λ d hd=>.bindE (app_eq (by simp;omega)) (.some ?_)
   exact ⟨hy9.app (by omega) (i32w _),hd.2.2⟩
  ·refine .condD (λ hp => ?_) λ _=>.some ⟨hy9,ha.2.2⟩
   refine .bind (below_ok ha.2.2 hp) λ b hb=>.bind (below_ok hb.2.2 (by decide)) λ d hd=>.bind (pickInt_ok hd.2.2 (by decide)) λ e he => ?_
   obtain ⟨x,hx,_⟩:=getI_ex hb.1 hb.2.1
   exact .bindE hx (.some ⟨hy9.set _ (i32w _),he.2⟩)
  ·refine .bind (loop bigK y.1 a.2 ha.2.2 hy9 (by unfold bigK;omega)) λ r hr=>.some hr
  ·exact .some ⟨hy9,ha.2.2⟩
 ·cases o with
  | inl r=>exact .some ho
  | inr r=>exact .some ho
theorem any9i {c:GL01Cur} (h:Cok c):Tot (g_spec_l09Any_imm c) λ r=>B9 r.1/\Cok r.2:=by
 have loop:∀ (k:Nat) (b:List GOp) (x:GL01Cur),Cok x->B9 b->1001-b.length < k->Tot (g_spec_l09Any_imm_l0 k b x) λ r=>B9 r.1/\Cok r.2:=by
  intro k
  induction k with
  | zero=>intro b x hx h0 h1;omega
  | succ k ih =>
   intro b x hx h0 h1
   unfold g_spec_l09Any_imm_l0
   refine .bind (below_ok hx (by decide)) λ a ha => ?_
   rw[wI64 (by omega) (by omega)]
   refine .condD (λ hlt => ?_) λ _=>.some ⟨h0,ha.2.2⟩
   refine .bindE (app_eq (by simp;omega)) (ih _ _ ha.2.2 (h0.app (by omega) l32) (by simp;omega))
 unfold g_spec_l09Any_imm
 refine .bind (body_ok 3 bigK (by unfold bigK;omega) (by omega) h (by omega)) λ y hy => ?_
 have hyl:y.1.length<=677:=hy.1.2
 have hy9:B9 y.1:=⟨by omega,λ o ho=>(hy.1.1.ok o ho).1.2⟩
 refine .bind (Q:=λ o=>match o with | .inl r=>B9 r.1/\Cok r.2 | .inr r=>B9 r.1/\Cok r.2) ?_ λ o ho => ?_
 ·refine .bind (below_ok hy.2 (by decide)) λ a ha=>.cond (λ _ => ?_) λ _=>.cond (λ _ => ?_) λ _=>.cond (λ _ => ?_) λ _ => ?_
  ·refine .bind (below_ok ha.2.2 (by decide)) λ b hb=>.bind (below_ok hb.2.2 (by decide)) λ d hd=>.bindE (app_eq (by simp;omega)) (.some ?_)
   exact ⟨hy9.app (by omega) (i32w _),hd.2.2⟩
  ·refine .condD (λ hp => ?_) λ _=>.some ⟨hy9,ha.2.2⟩
   refine .bind (below_ok ha.2.2 hp) λ b hb=>.bind (below_ok hb.2.2 (by decide)) λ d hd=>.bind (pickInt_ok hd.2.2 (by decide)) λ e he => ?_
   obtain ⟨x,hx,_⟩:=getI_ex hb.1 hb.2.1
   exact .bindE hx (.some ⟨hy9.set _ (i32w _),he.2⟩)
  ·refine .bind (loop bigK y.1 a.2 ha.2.2 hy9 (by unfold bigK;omega)) λ r hr=>.some hr
  ·exact .some ⟨hy9,ha.2.2⟩
 ·cases o with
  | inl r=>exact .some ho
  | inr r=>exact .some ho
theorem means_draw {code:List Int} (hc:code.length<=1048576):Tot (g_spec_DrawMeans code) λ r=>DS r.2.2:=by
 unfold g_spec_DrawMeans
 refine .bind (new_ok hc) λ c h=>.bind (make9_ok h) λ m hm=>.bind (make8_ok hm.2) λ s hs => ?_
 refine .bind (Q:=λ r=>Cok r.1/\DS r.2) (.bind (once_ok hs.2 (by decide)) λ o ho=>.cond (λ _=>.bind (any8_ok ho) λ a ha=>.some ⟨ha.2,ha.1⟩) λ _=>.some ⟨ho,hs.1.1⟩) λ p hp => ?_
 obtain ⟨p1,p2⟩:=p
 obtain ⟨hp1,hp2⟩:=hp
 have hl:=hm.1.1
 refine .bind (Q:=λ r=>(1<=r.1.length/\r.1.length<=4)/\Cok r.2) (.bind (once_ok hp1 (by decide)) λ o ho=>.cond (λ _=>.bind (any9i ho) λ a ha => ?_) λ _=>.some ⟨hl,ho⟩) λ r hr => ?_
 ·obtain ⟨d,e1,e2,e3⟩:=getI_ex (xs:=m.1) (i:=0) (by decide) (by omega)
  refine .bindE e1 (.some ⟨?_,ha.2⟩)
  show 1<=(m.1.set 0 _).length/\(m.1.set 0 _).length<=4
  rw[List.length_set];exact hl
 ·obtain ⟨r1,r2⟩:=r
  obtain ⟨hr1,hr2⟩:=hr
  simp only at hr1 hr2
  show Tot ((g_spec_l01Below (IntKind.wrap .i64 ((r1.length:Int)+1)) r2).bind _) _
  rw[wI64 (by omega) (by omega)]
  exact .bind (below_ok hr2 (by omega)) λ b hb=>.bind (below_ok hb.2.2 (by decide)) λ e he=>.some hp2
theorem okB_word {o:GOp} (h:okB o=true) (hk:o.Kind=1):0<=IntKind.wrap .i64 o.N/\IntKind.wrap .i64 o.N<=23:=by
 have:=okB_eq o
 rw[h]at this
 unfold g_spec_l09Op at this
 rw[hk]at this
 simp only[show ((1:Int)==0)=false from rfl,show ((1:Int)==1)=true from rfl,cond_false,cond_true]at this
 obtain ⟨s,e1,e2⟩:=name_ne (IntKind.wrap .i64 o.N)
 rw[e1]at this
 simp only[Option.bind_some,Option.some.injEq,bne,e2,Bool.not_not]at this
 unfold nameB at this
 exact of_decide_eq_true this
theorem goes_of {st:GSt} (h:SB st) (hf:st.Fault=0):g_impl_goes st=some true:=by
 unfold g_impl_goes
 rw[impl_st ⟨by have:=h.r;omega,by have:=h.v;omega⟩,stB_iff.2 h,Option.bind_some,cond_true,hf];rfl
end Go.Proofs.YtmedombacbpofaaGreatDoor
