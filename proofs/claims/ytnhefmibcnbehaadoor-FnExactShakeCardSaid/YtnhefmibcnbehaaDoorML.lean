import Derived.Test.YtnhefmibcnbehaaDoorCS
import Derived.Shelf.Sort.Plain
import Derived.KernelRfl
set_option linter.all false
namespace Go.Proofs.YtnhefmibcnbehaaDoor
open Go Go.Fm
set_option maxRecDepth 100000
abbrev Bs:=List UInt8
structure GOp where
 Kind:Int
 N:Int
 deriving DecidableEq,Inhabited
structure GDef where
 Name:Bs
 Body:List GOp
 deriving DecidableEq,Inhabited
def GOp.cs (x:GOp):List CV:=[.int .i64 x.Kind, .int .i32 x.N]
def GDef.cs (x:GDef):List CV:=[.str x.Name, .imm 2 x.Body.length (x.Body.flatMap GOp.cs)]
instance:StTy:=⟨λ n=>match n with|0=>GDef|1=>GOp|_=>Unit,λ n=>match n with|0=>2|1=>2|_=>0,lkA [(40,0),(45,0),(56,1),(81,1)],0⟩
noncomputable instance:StCs:=⟨λ n=>match n with|0=>GDef.cs|1=>GOp.cs|_=>λ _=>[]⟩
noncomputable def GDef.lv (x:GDef):List TC:=[.str x.Name, .imm (.st 1) x.Body]
noncomputable def GDef.of:List TC->Option GDef
 | [c0,c1]=>(tStr c0).bind λ x0=>(tImm (.st 1) c1).bind λ x1=>some ⟨x0,x1⟩
 | _=>none
theorem GDef.made {l:List TC} {v:GDef} (h:GDef.of l=some v):CRs l v.lv:=by
 match l,h with
 | [c0,c1],h =>
  obtain ⟨x0,e0,h⟩:=bS h
  obtain ⟨x1,e1,h⟩:=bS h
  cases h
  exact ⟨tStr_cr e0,tImm_cr e1,trivial⟩
noncomputable def GOp.lv (x:GOp):List TC:=[.int .i64 x.Kind, .int .i32 x.N]
noncomputable def GOp.of:List TC->Option GOp
 | [c0,c1]=>(tInt .i64 c0).bind λ x0=>(tInt .i32 c1).bind λ x1=>some ⟨x0,x1⟩
 | _=>none
theorem GOp.made {l:List TC} {v:GOp} (h:GOp.of l=some v):CRs l v.lv:=by
 match l,h with
 | [c0,c1],h =>
  obtain ⟨x0,e0,h⟩:=bS h
  obtain ⟨x1,e1,h⟩:=bS h
  cases h
  exact ⟨tInt_cr e0,tInt_cr e1,trivial⟩
noncomputable instance:Structs where
 leaves:=λ n=>match n with|0=>GDef.lv|1=>GOp.lv|_=>λ _=>[]
 make:=λ n=>match n with|0=>GDef.of|1=>GOp.of|_=>λ _=>none
 plain:=λ n=>match n with|0=>false|1=>true|_=>false
 lt:=λ n=>match n with|0=>[.bool,(.st 1)]|1=>[.bool, .bool]|_=>[]
 dp:=λ n=>match n with|0=>true|1=>false|_=>false
 deep:=λ n v h=>match n,v,h with|0,_,_=>rfl|1,_,h=>nomatch h|_+2,_,h=>nomatch h
 len:=λ n v=>match n,v with|0,_=>rfl|1,_=>rfl|_+2,_=>rfl
 conc:=λ n v=>match n,v with|0,_=>rfl|1,_=>rfl|_+2,_=>rfl
 pure:=λ n v=>match n,v with|0,_=>rfl|1,_=>rfl|_+2,_=>rfl
 made:=λ n l v h=>match n,v,h with|0,v,h=>GDef.made h|1,v,h=>GOp.made h|_+2,_,h=>nomatch h
 flat:=λ n v h=>match n,v,h with|0,_,h=>nomatch h|1,_,_=>rfl|_+2,_,h=>nomatch h
noncomputable instance:Tabs:=⟨λ g=>match g with|0=>some ⟨.int .u8,gtAscii⟩|_=>none,λ g=>match g with|0=>rfl|_+1=>rfl⟩
abbrev K0:Ty:=.str
abbrev K1:Ty:=.int .i64
abbrev K2:Ty:=.int .i32
abbrev K3:Ty:=.st 1
abbrev K4:Ty:=.list K3
abbrev K5:Ty:=.st 0
abbrev K6:Ty:=.list K5
abbrev K7:Ty:=.bool
abbrev K8:Ty:=.int .u8
abbrev K9:Ty:=.list K0
abbrev K10:Ty:=.list K1
end Go.Proofs.YtnhefmibcnbehaaDoor
namespace Go.Proofs.YtnhefmibcnbehaaDoor
open Go Go.Fm
set_option maxRecDepth 1000000
def g_laws_szOpS (a_1:List GOp) (left_2:Int):Option Int:=cond (decide ((IntKind.wrap .i64 (left_2-(a_1.length:Int))) < 0)) (some (-1)) (some (IntKind.wrap .i64 (left_2-(a_1.length:Int))))
def g_laws_szDef (a_1:GDef) (left_2:Int):Option Int:=cond (decide ((IntKind.wrap .i64 (left_2-(a_1.Name.length:Int))) < 0)) (some (-1)) ((g_laws_szOpS a_1.Body (IntKind.wrap .i64 (left_2-(a_1.Name.length:Int)))).bind λ y_4=>cond (decide (y_4 < 0)) (some (-1)) (some y_4))
def g_laws_szDefS_l0 (a_1:List GDef):Nat->Int->Int->Option (Int ⊕ Int)
 | 0,_,_=>none
 | k+1,left_6,i_7=>cond (decide (i_7 < (a_1.length:Int))) ((getI a_1 i_7).bind λ v_10=>(g_laws_szDef v_10 left_6).bind λ y_11=>cond (decide (y_11 < 0)) (some (.inr (-1))) (g_laws_szDefS_l0 a_1 k y_11 (IntKind.wrap .i64 (i_7+1)))) (some (.inl left_6))
def g_laws_szDefS (a_1:List GDef) (left_2:Int):Option Int:=cond (decide ((IntKind.wrap .i64 (left_2-(a_1.length:Int))) < 0)) (some (-1)) (((g_laws_szDefS_l0 a_1 bigK (IntKind.wrap .i64 (left_2-(a_1.length:Int))) 0).bind λ o=>match o with | .inl left_8=>some (.inl left_8) | .inr v_9=>some (.inr v_9):Option (Int ⊕ Int)).bind λ o=>match o with | .inl left_4=>some left_4 | .inr v_5=>some v_5)
def g_laws_toOp (a_1:GOp):Option GOp:=some a_1
def g_laws_toOpS_l0 (a_1:List GOp):Nat->(List GOp)->Int->Option (List GOp)
 | 0,_,_=>none
 | k+1,out_5,i_6=>cond (decide (i_6 < (a_1.length:Int))) ((getI a_1 i_6).bind λ v_8=>(g_laws_toOp v_8).bind λ y_9=>(getI out_5 i_6).bind λ v_10=>g_laws_toOpS_l0 a_1 k (out_5.set i_6.toNat y_9) (IntKind.wrap .i64 (i_6+1))) (some out_5)
def g_laws_toOpS (a_1:List GOp):Option (List GOp):=(mk ((⟨0,0⟩:GOp):GOp) (a_1.length:Int)).bind λ v_3=>((g_laws_toOpS_l0 a_1 bigK v_3 0).bind λ out_7=>some out_7:Option ((List GOp))).bind λ out_4=>some out_4
def g_laws_toDef (a_1:GDef):Option GDef:=(g_laws_toOpS a_1.Body).bind λ y_3=>some (⟨a_1.Name,y_3⟩:GDef)
def g_laws_toDefS_l0 (a_1:List GDef):Nat->(List GDef)->Int->Option (List GDef)
 | 0,_,_=>none
 | k+1,out_5,i_6=>cond (decide (i_6 < (a_1.length:Int))) ((getI a_1 i_6).bind λ v_8=>(g_laws_toDef v_8).bind λ y_9=>(getI out_5 i_6).bind λ v_10=>g_laws_toDefS_l0 a_1 k (out_5.set i_6.toNat y_9) (IntKind.wrap .i64 (i_6+1))) (some out_5)
def g_laws_toDefS (a_1:List GDef):Option (List GDef):=(mk ((⟨[],[]⟩:GDef):GDef) (a_1.length:Int)).bind λ v_3=>((g_laws_toDefS_l0 a_1 bigK v_3 0).bind λ out_7=>some out_7:Option ((List GDef))).bind λ out_4=>some out_4
def g_spec_l01In (x_1:Int) (a_2:Int) (b_3:Int):Option Bool:=cond (decide (x_1 ≥ a_2)) (some (decide (x_1<=b_3))) (some false)
def g_spec_l02All:Option Bs:=some [32,114,116,111,101,97,110,105,115,109,99,121,108,103,102,119,100,118,112,98,104,120,117,113,48,49,50,51,52,53,54,55,56,57,106,45,107,46,122,47,59,39,33,43,64,42,44,63]
def g_spec_LetterOf_l0 (b_1:Int) (y_3:Bs):Nat->Int->Option (Unit ⊕ Int)
 | 0,_=>none
 | k+1,i_5=>cond (decide (i_5 < (y_3.length:Int))) ((idxS y_3 i_5).bind λ v_7=>cond (v_7==b_1) (some (.inr i_5)) (g_spec_LetterOf_l0 b_1 y_3 k (IntKind.wrap .i64 (i_5+1)))) (some (.inl ()))
def g_spec_LetterOf (b_1:Int):Option Int:=(g_spec_l02All).bind λ y_3=>((g_spec_LetterOf_l0 b_1 y_3 bigK 0).bind λ o=>match o with | .inl ()=>some (.inl ()) | .inr v_6=>some (.inr v_6):Option (Unit ⊕ Int)).bind λ o=>match o with | .inl ()=>some (-1) | .inr v_4=>some v_4
def g_spec_NameOk_l0 (s_1:Bs):Nat->Int->Option (Unit ⊕ Bool)
 | 0,_=>none
 | k+1,i_5=>cond (decide (i_5 < (s_1.length:Int))) ((idxS s_1 i_5).bind λ v_7=>(g_spec_LetterOf v_7).bind λ y_8=>cond (decide (y_8 < 1)) (some (.inr false)) (g_spec_NameOk_l0 s_1 k (IntKind.wrap .i64 (i_5+1)))) (some (.inl ()))
def g_spec_NameOk (s_1:Bs):Option Bool:=(g_spec_l01In (s_1.length:Int) 1 24).bind λ y_3=>cond (!y_3) (some false) (((g_spec_NameOk_l0 s_1 bigK 0).bind λ o=>match o with | .inl ()=>some (.inl ()) | .inr v_6=>some (.inr v_6):Option (Unit ⊕ Bool)).bind λ o=>match o with | .inl ()=>some true | .inr v_4=>some v_4)
def g_spec_l08Names:Option (List Bs):=some [[100,117,112],[100,114,111,112],[111,118,101,114],[110,105,112],[115,119,97,112],[43],[45],[42],[97,110,100],[111,114],[50,42],[50,47],[47,109,111,100],[64],[33],[97],[97,33],[101,109,105,116],[107,101,121],[112,117,115,104],[112,111,112],[105],[46],[110,111,112]]
def g_spec_PrimName (k_1:Int):Option Bs:=(g_spec_l08Names).bind λ y_3=>(g_spec_l01In k_1 0 (IntKind.wrap .i64 ((y_3.length:Int)-1))).bind λ y_4=>cond (!y_4) (some []) ((getI y_3 k_1).bind λ v_5=>some v_5)
def g_spec_l09Op (o_1:GOp):Option Bool:=cond (o_1.Kind==0) (some true) (cond (o_1.Kind==1) ((g_spec_PrimName (IntKind.wrap .i64 o_1.N)).bind λ y_3=>some (y_3 != [])) (cond (o_1.Kind==2) ((g_spec_l01In (IntKind.wrap .i64 o_1.N) 0 23).bind λ y_4=>some y_4) ((g_spec_l01In o_1.Kind 3 8).bind λ y_5=>cond y_5 (some (o_1.N==0)) (some false))))
def g_spec_l09Open_l0 (body_1:List GOp):Nat->(List Int)->Int->Option ((List Int) ⊕ Bool)
 | 0,_,_=>none
 | k+1,vopen_6,i_7=>cond (decide (i_7 < (body_1.length:Int))) (((getI body_1 i_7).bind λ v_12=>(cond (v_12.Kind==3) (some (v_12.Kind==3)) (cond (v_12.Kind==4) (some (v_12.Kind==4)) (some (v_12.Kind==6))):Option (Bool)).bind λ v_13=>cond v_13 ((app vopen_6 [v_12.Kind]).bind λ v_14=>some (.inl v_14)) ((cond (v_12.Kind==5) (some (v_12.Kind==5)) (some (v_12.Kind==7)):Option (Bool)).bind λ v_15=>cond v_15 ((cond ((vopen_6.length:Int)==0) (some true) ((getI vopen_6 (IntKind.wrap .i64 ((vopen_6.length:Int)-1))).bind λ v_17=>some ((v_17==6) != (v_12.Kind==7))):Option (Bool)).bind λ v_16=>cond v_16 (some (.inr false)) ((subL vopen_6 0 (IntKind.wrap .i64 ((vopen_6.length:Int)-1))).bind λ v_18=>some (.inl v_18))) (some (.inl vopen_6))):Option ((List Int) ⊕ Bool)).bind λ o=>match o with | .inl vopen_10=>g_spec_l09Open_l0 body_1 k vopen_10 (IntKind.wrap .i64 (i_7+1)) | .inr v_11=>some (.inr v_11)) (some (.inl vopen_6))
def g_spec_l09Open (body_1:List GOp):Option ((List Int)×Bool):=((g_spec_l09Open_l0 body_1 bigK ([]:List Int) 0).bind λ o=>match o with | .inl vopen_8=>some (.inl vopen_8) | .inr v_9=>some (.inr v_9):Option ((List Int) ⊕ Bool)).bind λ o=>match o with | .inl vopen_4=>some (vopen_4,true) | .inr v_5=>some ([],v_5)
def g_spec_ShapeOk_l0 (body_1:List GOp):Nat->Int->Option (Unit ⊕ Bool)
 | 0,_=>none
 | k+1,i_4=>cond (decide (i_4 < (body_1.length:Int))) ((getI body_1 i_4).bind λ v_6=>(g_spec_l09Op v_6).bind λ y_7=>cond (!y_7) (some (.inr false)) (g_spec_ShapeOk_l0 body_1 k (IntKind.wrap .i64 (i_4+1)))) (some (.inl ()))
def g_spec_ShapeOk (body_1:List GOp):Option Bool:=cond (decide ((body_1.length:Int) > 60)) (some false) (((g_spec_ShapeOk_l0 body_1 bigK 0).bind λ o=>match o with | .inl ()=>some (.inl ()) | .inr v_5=>some (.inr v_5):Option (Unit ⊕ Bool)).bind λ o=>match o with | .inl ()=>(g_spec_l09Open body_1).bind λ y_8=>cond y_8.2 (some ((y_8.1.length:Int)==0)) (some false) | .inr v_3=>some v_3)
def g_spec_DefsOk_l1 (defs_1:List GDef) (i_4:Int):Nat->Int->Option (Unit ⊕ Bool)
 | 0,_=>none
 | k+1,k_12=>(getI defs_1 i_4).bind λ v_14=>cond (decide (k_12 < (v_14.Body.length:Int))) ((getI defs_1 i_4).bind λ v_15=>(getI v_15.Body k_12).bind λ v_16=>(cond (v_16.Kind==2) (some (decide ((IntKind.wrap .i64 v_16.N) ≥ (defs_1.length:Int)))) (some false):Option (Bool)).bind λ v_17=>cond v_17 (some (.inr false)) (g_spec_DefsOk_l1 defs_1 i_4 k (IntKind.wrap .i64 (k_12+1)))) (some (.inl ()))
def g_spec_DefsOk_l0 (defs_1:List GDef):Nat->Int->Option (Unit ⊕ Bool)
 | 0,_=>none
 | k+1,i_4=>cond (decide (i_4 < (defs_1.length:Int))) ((((getI defs_1 i_4).bind λ v_8=>(g_spec_NameOk v_8.Name).bind λ y_9=>cond (!y_9) (some true) ((getI defs_1 i_4).bind λ v_10=>(g_spec_ShapeOk v_10.Body).bind λ y_11=>some (!y_11)):Option (Bool)).bind λ v_7=>cond v_7 (some (.inr false)) ((g_spec_DefsOk_l1 defs_1 i_4 bigK 0).bind λ o=>match o with | .inl ()=>some (.inl ()) | .inr v_13=>some (.inr v_13)):Option (Unit ⊕ Bool)).bind λ o=>match o with | .inl ()=>g_spec_DefsOk_l0 defs_1 k (IntKind.wrap .i64 (i_4+1)) | .inr v_6=>some (.inr v_6)) (some (.inl ()))
def g_spec_DefsOk (defs_1:List GDef):Option Bool:=cond (decide ((defs_1.length:Int) > 24)) (some false) (((g_spec_DefsOk_l0 defs_1 bigK 0).bind λ o=>match o with | .inl ()=>some (.inl ()) | .inr v_5=>some (.inr v_5):Option (Unit ⊕ Bool)).bind λ o=>match o with | .inl ()=>some true | .inr v_3=>some v_3)
def g_spec_l20Put_l0 (list_1:List Int) (n_2:Int):Nat->Int->Option Int
 | 0,_=>none
 | k+1,vat_4=>(cond (decide (vat_4 < (list_1.length:Int))) ((getI list_1 vat_4).bind λ v_7=>some (decide (v_7 < n_2))) (some false):Option (Bool)).bind λ v_6=>cond v_6 (g_spec_l20Put_l0 list_1 n_2 k (IntKind.wrap .i64 (vat_4+1))) (some vat_4)
def g_spec_l20Put (list_1:List Int) (n_2:Int):Option (List Int):=(g_spec_l20Put_l0 list_1 n_2 bigK 0).bind λ vat_5=>(cond (decide (vat_5 < (list_1.length:Int))) ((getI list_1 vat_5).bind λ v_9=>some (v_9==n_2)) (some false):Option (Bool)).bind λ v_8=>cond v_8 (some list_1) ((subL list_1 0 vat_5).bind λ v_10=>(app ([]:List Int) v_10).bind λ v_11=>(app v_11 [n_2]).bind λ v_12=>(subL list_1 vat_5 (list_1.length:Int)).bind λ v_13=>(app v_12 v_13).bind λ v_14=>some v_14)
def g_spec_CallsOf_l0 (body_1:List GOp):Nat->(List Int)->Int->Option (List Int)
 | 0,_,_=>none
 | k+1,out_5,i_6=>cond (decide (i_6 < (body_1.length:Int))) (((getI body_1 i_6).bind λ v_9=>cond (v_9.Kind==2) ((getI body_1 i_6).bind λ v_10=>(g_spec_l20Put out_5 (IntKind.wrap .i64 v_10.N)).bind λ y_11=>some y_11) (some out_5):Option ((List Int))).bind λ out_8=>g_spec_CallsOf_l0 body_1 k out_8 (IntKind.wrap .i64 (i_6+1))) (some out_5)
def g_spec_Falls (body_1:List GOp):Option Bool:=(g_spec_ShapeOk body_1).bind λ y_3=>cond y_3 (cond ((body_1.length:Int)==0) (some true) ((getI body_1 (IntKind.wrap .i64 ((body_1.length:Int)-1))).bind λ v_4=>some (v_4.Kind != 8))) (some false)
def g_spec_l20Put_own_l0 (list_1:List Int) (n_2:Int):Nat->Int->Option Int
 | 0,_=>none
 | k+1,vat_4=>(cond (decide (vat_4 < (list_1.length:Int))) ((getI list_1 vat_4).bind λ v_7=>some (decide (v_7 < n_2))) (some false):Option (Bool)).bind λ v_6=>cond v_6 (g_spec_l20Put_own_l0 list_1 n_2 k (IntKind.wrap .i64 (vat_4+1))) (some vat_4)
def g_spec_l20Put_own (list_1:List Int) (n_2:Int):Option (List Int):=(g_spec_l20Put_own_l0 list_1 n_2 bigK 0).bind λ vat_5=>(cond (decide (vat_5 < (list_1.length:Int))) ((getI list_1 vat_5).bind λ v_9=>some (v_9==n_2)) (some false):Option (Bool)).bind λ v_8=>cond v_8 (some list_1) ((subL list_1 0 vat_5).bind λ v_10=>(app ([]:List Int) v_10).bind λ v_11=>(app v_11 [n_2]).bind λ v_12=>(subL list_1 vat_5 ((list_1.length:Nat):Int)).bind λ v_13=>(app v_12 v_13).bind λ v_14=>some v_14)
def g_spec_CallsOf_own_l0 (body_1:List GOp):Nat->(List Int)->Int->Option (List Int)
 | 0,_,_=>none
 | k+1,out_5,i_6=>cond (decide (i_6 < (body_1.length:Int))) (((getI body_1 i_6).bind λ v_9=>cond (v_9.Kind==2) ((getI body_1 i_6).bind λ v_10=>(g_spec_l20Put_own out_5 (IntKind.wrap .i64 v_10.N)).bind λ y_11=>some y_11) (some out_5):Option ((List Int))).bind λ out_8=>g_spec_CallsOf_own_l0 body_1 k out_8 (IntKind.wrap .i64 (i_6+1))) (some out_5)
def g_spec_CallsOf_own (body_1:List GOp):Option (List Int):=(g_spec_ShapeOk body_1).bind λ y_3=>cond (!y_3) (some ([]:List Int)) (((g_spec_CallsOf_own_l0 body_1 bigK ([]:List Int) 0).bind λ out_7=>some out_7:Option ((List Int))).bind λ out_4=>some out_4)
def g_spec_Reach_l2 (list_21:List Int):Nat->(List Int)->Int->Option (List Int)
 | 0,_,_=>none
 | k+1,next_28,j_29=>cond (decide (j_29 < (list_21.length:Int))) ((getI list_21 j_29).bind λ v_31=>(g_spec_l20Put next_28 v_31).bind λ y_32=>g_spec_Reach_l2 list_21 k y_32 (IntKind.wrap .i64 (j_29+1))) (some next_28)
def g_spec_Reach_l1 (defs_1:List GDef) (n_12:Int):Nat->(List Int)->Int->Option (List Int)
 | 0,_,_=>none
 | k+1,out_13,i_14=>cond (decide (i_14 < n_12)) (((getI out_13 i_14).bind λ v_18=>(getI defs_1 v_18).bind λ v_19=>(g_spec_CallsOf_own v_19.Body).bind λ y_20=>(((g_spec_Falls v_19.Body).bind λ y_23=>cond y_23 ((getI out_13 i_14).bind λ v_24=>some (decide ((IntKind.wrap .i64 (v_24+1)) < (defs_1.length:Int)))) (some false):Option (Bool)).bind λ v_22=>cond v_22 ((getI out_13 i_14).bind λ v_25=>(app y_20 [IntKind.wrap .i64 (v_25+1)]).bind λ v_26=>some v_26) (some y_20):Option ((List Int))).bind λ list_21=>((g_spec_Reach_l2 list_21 bigK out_13 0).bind λ next_30=>some next_30:Option ((List Int))).bind λ next_27=>cond (decide ((next_27.length:Int) > (out_13.length:Int))) (some (.inr next_27)) (some (.inl out_13)):Option ((List Int) ⊕ (List Int))).bind λ o=>match o with | .inl out_16=>g_spec_Reach_l1 defs_1 n_12 k out_16 (IntKind.wrap .i64 (i_14+1)) | .inr out_17=>some out_17) (some out_13)
def g_spec_Reach_l0 (defs_1:List GDef):Nat->(List Int)->Bool->Option (List Int)
 | 0,_,_=>none
 | k+1,out_8,more_9=>cond more_9 (((g_spec_Reach_l1 defs_1 (out_8.length:Int) bigK out_8 0).bind λ out_15=>some out_15:Option ((List Int))).bind λ out_11=>g_spec_Reach_l0 defs_1 k out_11 (decide ((out_11.length:Int) > (out_8.length:Int)))) (some out_8)
def g_spec_Reach (defs_1:List GDef) (k_2:Int):Option (List Int):=((g_spec_DefsOk defs_1).bind λ y_5=>cond (!y_5) (some true) ((g_spec_l01In k_2 0 (IntKind.wrap .i64 ((defs_1.length:Int)-1))).bind λ y_6=>some (!y_6)):Option (Bool)).bind λ v_4=>cond v_4 (some ([]:List Int)) (((g_spec_Reach_l0 defs_1 bigK [k_2] true).bind λ out_10=>some out_10:Option ((List Int))).bind λ out_7=>some out_7)
def g_spec_l20At_l0 (list_1:List Int) (n_2:Int):Nat->Int->Option (Unit ⊕ Int)
 | 0,_=>none
 | k+1,i_5=>cond (decide (i_5 < (list_1.length:Int))) ((getI list_1 i_5).bind λ v_7=>cond (v_7==n_2) (some (.inr i_5)) (g_spec_l20At_l0 list_1 n_2 k (IntKind.wrap .i64 (i_5+1)))) (some (.inl ()))
def g_spec_l20At (list_1:List Int) (n_2:Int):Option Int:=((g_spec_l20At_l0 list_1 n_2 bigK 0).bind λ o=>match o with | .inl ()=>some (.inl ()) | .inr v_6=>some (.inr v_6):Option (Unit ⊕ Int)).bind λ o=>match o with | .inl ()=>some (-1) | .inr v_4=>some v_4
def g_spec_Shake_l1 (keep_8:List Int):Nat->(List GOp)->Int->Option (List GOp)
 | 0,_,_=>none
 | k+1,body_17,j_18=>cond (decide (j_18 < (body_17.length:Int))) (((getI body_17 j_18).bind λ v_21=>cond (v_21.Kind==2) ((getI body_17 j_18).bind λ v_22=>(g_spec_l20At keep_8 (IntKind.wrap .i64 v_22.N)).bind λ y_23=>(getI body_17 j_18).bind λ v_24=>some (body_17.set j_18.toNat (⟨v_24.Kind,IntKind.wrap .i32 y_23⟩:GOp))) (some body_17):Option ((List GOp))).bind λ body_20=>g_spec_Shake_l1 keep_8 k body_20 (IntKind.wrap .i64 (j_18+1))) (some body_17)
def g_spec_Shake_l0 (defs_1:List GDef) (keep_8:List Int):Nat->(List GDef)->Int->Option (List GDef)
 | 0,_,_=>none
 | k+1,out_9,i_10=>cond (decide (i_10 < (keep_8.length:Int))) (((getI keep_8 i_10).bind λ v_13=>(getI defs_1 v_13).bind λ v_14=>(app ([]:List GOp) v_14.Body).bind λ v_15=>((g_spec_Shake_l1 keep_8 bigK v_15 0).bind λ body_19=>some body_19:Option ((List GOp))).bind λ body_16=>(app out_9 [(⟨v_14.Name,body_16⟩:GDef)]).bind λ v_25=>some v_25:Option ((List GDef))).bind λ out_12=>g_spec_Shake_l0 defs_1 keep_8 k out_12 (IntKind.wrap .i64 (i_10+1))) (some out_9)
def g_spec_Shake (defs_1:List GDef) (k_2:Int):Option ((List GDef)×Int):=(g_spec_Reach defs_1 k_2).bind λ y_5=>((g_spec_Shake_l0 defs_1 y_5 bigK ([]:List GDef) 0).bind λ out_11=>some out_11:Option ((List GDef))).bind λ out_6=>(g_spec_l20At y_5 k_2).bind λ y_26=>some (out_6,y_26)
def g_impl_letters:Option Bs:=some [32,114,116,111,101,97,110,105,115,109,99,121,108,103,102,119,100,118,112,98,104,120,117,113,48,49,50,51,52,53,54,55,56,57,106,45,107,46,122,47,59,39,33,43,64,42,44,63]
def g_ibytealg_IndexByteString (s_1:Bs) (c_2:Int):Option Int:=gIdxB s_1 c_2
def g_istringslite_IndexByte (s_1:Bs) (c_2:Int):Option Int:=(g_ibytealg_IndexByteString s_1 c_2).bind λ y_4=>some y_4
def g_strings_IndexByte (s_1:Bs) (c_2:Int):Option Int:=(g_istringslite_IndexByte s_1 c_2).bind λ y_4=>some y_4
def g_impl_LetterOf (b_1:Int):Option Int:=(g_impl_letters).bind λ y_3=>(g_strings_IndexByte y_3 b_1).bind λ y_4=>some y_4
def g_impl_within (n_1:Int) (low_2:Int) (high_3:Int):Option Bool:=cond (decide (low_2<=n_1)) (some (decide (n_1<=high_3))) (some false)
def g_impl_NameOk_l0 (s_1:Bs) (v_4:Int):Nat->Int->Option (Unit ⊕ Bool)
 | 0,_=>none
 | k+1,v_5=>cond (decide (v_5 < v_4)) ((idxS s_1 v_5).bind λ v_7=>(g_impl_LetterOf v_7).bind λ y_8=>cond (decide (y_8 < 1)) (some (.inr false)) (g_impl_NameOk_l0 s_1 v_4 k (IntKind.wrap .i64 (v_5+1)))) (some (.inl ()))
def g_impl_NameOk (s_1:Bs):Option Bool:=((g_impl_NameOk_l0 s_1 (s_1.length:Int) bigK 0).bind λ o=>match o with | .inl ()=>some (.inl ()) | .inr v_6=>some (.inr v_6):Option (Unit ⊕ Bool)).bind λ o=>match o with | .inl ()=>(g_impl_within (s_1.length:Int) 1 24).bind λ y_9=>some y_9 | .inr v_3=>some v_3
def g_strings_Fields_l0 (s_1:Bs):Nat->Int->Int->Int->Int->Option (Int×Int)
 | 0,_,_,_,_=>none
 | k+1,n_5,wasSpace_6,setBits_7,i_8=>cond (decide (i_8 < (s_1.length:Int))) ((idxS s_1 i_8).bind λ v_11=>(getI gtAscii v_11).bind λ v_12=>g_strings_Fields_l0 s_1 k (IntKind.wrap .i64 (n_5+(andI .i64 wasSpace_6 (notI .i64 (IntKind.wrap .i64 v_12))))) (IntKind.wrap .i64 v_12) (orI .u8 setBits_7 v_11) (IntKind.wrap .i64 (i_8+1))) (some (n_5,setBits_7))
def g_strings_Fields_l1 (s_1:Bs):Nat->Int->Option Int
 | 0,_=>none
 | k+1,i_15=>(cond (decide (i_15 < (s_1.length:Int))) ((idxS s_1 i_15).bind λ v_18=>(getI gtAscii v_18).bind λ v_19=>some (v_19 != 0)) (some false):Option (Bool)).bind λ v_17=>cond v_17 (g_strings_Fields_l1 s_1 k (IntKind.wrap .i64 (i_15+1))) (some i_15)
def g_strings_Fields_l3 (s_1:Bs):Nat->Int->Option Int
 | 0,_=>none
 | k+1,i_33=>(cond (decide (i_33 < (s_1.length:Int))) ((idxS s_1 i_33).bind λ v_36=>(getI gtAscii v_36).bind λ v_37=>some (v_37 != 0)) (some false):Option (Bool)).bind λ v_35=>cond v_35 (g_strings_Fields_l3 s_1 k (IntKind.wrap .i64 (i_33+1))) (some i_33)
def g_strings_Fields_l2 (s_1:Bs):Nat->(List Bs)->Int->Int->Int->Option ((List Bs)×Int×Int)
 | 0,_,_,_,_=>none
 | k+1,a_20,na_21,fieldStart_22,i_23=>cond (decide (i_23 < (s_1.length:Int))) ((idxS s_1 i_23).bind λ v_27=>(getI gtAscii v_27).bind λ v_28=>cond (v_28==0) (g_strings_Fields_l2 s_1 k a_20 na_21 fieldStart_22 (IntKind.wrap .i64 (i_23+1))) ((subL s_1 fieldStart_22 i_23).bind λ v_29=>(getI a_20 na_21).bind λ v_30=>(g_strings_Fields_l3 s_1 bigK (IntKind.wrap .i64 (i_23+1))).bind λ i_34=>g_strings_Fields_l2 s_1 k (a_20.set na_21.toNat v_29) (IntKind.wrap .i64 (na_21+1)) i_34 i_34)) (some (a_20,na_21,fieldStart_22))
def g_strings_Fields (s_1:Bs):Option (List Bs):=((g_strings_Fields_l0 s_1 bigK 0 1 0 0).bind λ (n_9,setBits_10)=>some (n_9,setBits_10):Option ((Int×Int))).bind λ (n_3,setBits_4)=>cond (decide (setBits_4 ≥ 128)) (none) ((mk ([]:Bs) n_3).bind λ v_13=>(g_strings_Fields_l1 s_1 bigK 0).bind λ i_16=>(g_strings_Fields_l2 s_1 bigK v_13 0 i_16 i_16).bind λ (a_24,na_25,fieldStart_26)=>(cond (decide (fieldStart_26 < (s_1.length:Int))) ((subL s_1 fieldStart_26 (s_1.length:Int)).bind λ v_39=>(getI a_24 na_25).bind λ v_40=>some (a_24.set na_25.toNat v_39)) (some a_24):Option ((List Bs))).bind λ a_38=>some a_38)
def g_impl_prims:Option (List Bs):=(g_strings_Fields [100,117,112,32,100,114,111,112,32,111,118,101,114,32,110,105,112,32,115,119,97,112,32,43,32,45,32,42,32,97,110,100,32,111,114,32,50,42,32,50,47,32,47,109,111,100,32,64,32,33,32,97,32,97,33,32,101,109,105,116,32,107,101,121,32,112,117,115,104,32,112,111,112,32,105,32,46,32,110,111,112]).bind λ y_2=>some y_2
def g_impl_PrimName (k_1:Int):Option Bs:=(g_impl_prims).bind λ y_3=>(g_impl_within k_1 0 (IntKind.wrap .i64 ((y_3.length:Int)-1))).bind λ y_4=>cond y_4 ((getI y_3 k_1).bind λ v_5=>some v_5) (some [])
def g_impl_opOk (o_1:GOp):Option Bool:=cond (o_1.Kind==0) (some true) (cond (o_1.Kind==1) ((g_impl_PrimName (IntKind.wrap .i64 o_1.N)).bind λ y_3=>some (y_3 != [])) (cond (o_1.Kind==2) ((g_impl_within (IntKind.wrap .i64 o_1.N) 0 23).bind λ y_4=>some y_4) ((g_impl_within o_1.Kind 3 8).bind λ y_5=>cond y_5 (some (o_1.N==0)) (some false))))
def g_impl_openIn_l0 (v_7:List GOp) (v_8:Int):Nat->(List Int)->Int->Option ((List Int) ⊕ ((List Int)×Bool))
 | 0,_,_=>none
 | k+1,vopen_9,v_10=>cond (decide (v_10 < v_8)) (((getI v_7 v_10).bind λ v_17=>(g_impl_opOk v_17).bind λ y_18=>cond (!y_18) (some (.inr ([],false))) ((cond (v_17.Kind==3) (some true) (cond (v_17.Kind==4) (some true) (some (v_17.Kind==6))):Option (Bool)).bind λ v_19=>cond v_19 ((app vopen_9 [v_17.Kind]).bind λ v_20=>some (.inl v_20)) ((cond (v_17.Kind==5) (some true) (some (v_17.Kind==7)):Option (Bool)).bind λ v_21=>cond v_21 ((cond (decide ((IntKind.wrap .i64 ((vopen_9.length:Int)-1)) < 0)) (some true) ((getI vopen_9 (IntKind.wrap .i64 ((vopen_9.length:Int)-1))).bind λ v_23=>some ((v_23==6) != (v_17.Kind==7))):Option (Bool)).bind λ v_22=>cond v_22 (some (.inr ([],false))) ((subL vopen_9 0 (IntKind.wrap .i64 ((vopen_9.length:Int)-1))).bind λ v_24=>some (.inl v_24))) (some (.inl vopen_9)))):Option ((List Int) ⊕ ((List Int)×Bool))).bind λ o=>match o with | .inl vopen_14=>g_impl_openIn_l0 v_7 v_8 k vopen_14 (IntKind.wrap .i64 (v_10+1)) | .inr (v_15,v_16)=>some (.inr (v_15,v_16))) (some (.inl vopen_9))
def g_impl_openIn (body_1:List GOp):Option ((List Int)×Bool):=((g_impl_openIn_l0 body_1 (body_1.length:Int) bigK ([]:List Int) 0).bind λ o=>match o with | .inl vopen_11=>some (.inl vopen_11) | .inr (v_12,v_13)=>some (.inr (v_12,v_13)):Option ((List Int) ⊕ ((List Int)×Bool))).bind λ o=>match o with | .inl vopen_4=>some (vopen_4,decide ((body_1.length:Int)<=60)) | .inr (v_5,v_6)=>some (v_5,v_6)
def g_impl_ShapeOk (body_1:List GOp):Option Bool:=(g_impl_openIn body_1).bind λ y_3=>cond y_3.2 (some ((y_3.1.length:Int)==0)) (some false)
def g_impl_callsBelowc1 (o_1:GOp) (a_2:Int):Option Bool:=cond (o_1.Kind==2) (some (decide ((IntKind.wrap .i64 o_1.N) ≥ a_2))) (some false)
def g_slices_IndexFunc_Op_impl_callsBelowc1_l0 (s_1:List GOp) (v_5:Int) (c_2:Int):Nat->Int->Option (Unit ⊕ Int)
 | 0,_=>none
 | k+1,v_6=>cond (decide (v_6 < v_5)) ((getI s_1 v_6).bind λ v_8=>(g_impl_callsBelowc1 v_8 c_2).bind λ y_9=>cond y_9 (some (.inr v_6)) (g_slices_IndexFunc_Op_impl_callsBelowc1_l0 s_1 v_5 c_2 k (IntKind.wrap .i64 (v_6+1)))) (some (.inl ()))
def g_slices_IndexFunc_Op_impl_callsBelowc1 (s_1:List GOp) (c_2:Int):Option Int:=((g_slices_IndexFunc_Op_impl_callsBelowc1_l0 s_1 (s_1.length:Int) c_2 bigK 0).bind λ o=>match o with | .inl ()=>some (.inl ()) | .inr v_7=>some (.inr v_7):Option (Unit ⊕ Int)).bind λ o=>match o with | .inl ()=>some (-1) | .inr v_4=>some v_4
def g_slices_ContainsFunc_Op_impl_callsBelowc1 (s_1:List GOp) (c_2:Int):Option Bool:=(g_slices_IndexFunc_Op_impl_callsBelowc1 s_1 c_2).bind λ y_4=>some (decide (y_4 ≥ 0))
def g_impl_callsBelow (body_1:List GOp) (n_2:Int):Option Bool:=(g_slices_ContainsFunc_Op_impl_callsBelowc1 body_1 n_2).bind λ y_4=>some (!y_4)
def g_impl_DefsOkc1 (d_1:GDef) (a_2:List GDef):Option Bool:=(g_impl_NameOk d_1.Name).bind λ y_4=>cond (!y_4) (some true) ((g_impl_ShapeOk d_1.Body).bind λ y_5=>cond (!y_5) (some true) ((g_impl_callsBelow d_1.Body (a_2.length:Int)).bind λ y_6=>some (!y_6)))
def g_slices_IndexFunc_Def_impl_DefsOkc1_l0 (s_1:List GDef) (v_5:Int) (c_2:List GDef):Nat->Int->Option (Unit ⊕ Int)
 | 0,_=>none
 | k+1,v_6=>cond (decide (v_6 < v_5)) ((getI s_1 v_6).bind λ v_8=>(g_impl_DefsOkc1 v_8 c_2).bind λ y_9=>cond y_9 (some (.inr v_6)) (g_slices_IndexFunc_Def_impl_DefsOkc1_l0 s_1 v_5 c_2 k (IntKind.wrap .i64 (v_6+1)))) (some (.inl ()))
def g_slices_IndexFunc_Def_impl_DefsOkc1 (s_1:List GDef) (c_2:List GDef):Option Int:=((g_slices_IndexFunc_Def_impl_DefsOkc1_l0 s_1 (s_1.length:Int) c_2 bigK 0).bind λ o=>match o with | .inl ()=>some (.inl ()) | .inr v_7=>some (.inr v_7):Option (Unit ⊕ Int)).bind λ o=>match o with | .inl ()=>some (-1) | .inr v_4=>some v_4
def g_slices_ContainsFunc_Def_impl_DefsOkc1 (s_1:List GDef) (c_2:List GDef):Option Bool:=(g_slices_IndexFunc_Def_impl_DefsOkc1 s_1 c_2).bind λ y_4=>some (decide (y_4 ≥ 0))
def g_impl_DefsOk (defs_1:List GDef):Option Bool:=cond (decide ((defs_1.length:Int)<=24)) ((g_slices_ContainsFunc_Def_impl_DefsOkc1 defs_1 defs_1).bind λ y_3=>some (!y_3)) (some false)
def g_slices_Index_int_l0 (s_1:List Int) (v_2:Int) (v_5:Int):Nat->Int->Option (Unit ⊕ Int)
 | 0,_=>none
 | k+1,v_6=>cond (decide (v_6 < v_5)) ((getI s_1 v_6).bind λ v_8=>cond (v_2==v_8) (some (.inr v_6)) (g_slices_Index_int_l0 s_1 v_2 v_5 k (IntKind.wrap .i64 (v_6+1)))) (some (.inl ()))
def g_slices_Index_int (s_1:List Int) (v_2:Int):Option Int:=((g_slices_Index_int_l0 s_1 v_2 (s_1.length:Int) bigK 0).bind λ o=>match o with | .inl ()=>some (.inl ()) | .inr v_7=>some (.inr v_7):Option (Unit ⊕ Int)).bind λ o=>match o with | .inl ()=>some (-1) | .inr v_4=>some v_4
def g_slices_Contains_int (s_1:List Int) (v_2:Int):Option Bool:=(g_slices_Index_int s_1 v_2).bind λ y_4=>some (decide (y_4 ≥ 0))
def g_slices_Sort_int (x_1:List Int):Option (List Int):=gSort x_1
def g_impl_callsOf_l0 (v_4:List GOp) (v_5:Int):Nat->(List Int)->Int->Option (List Int)
 | 0,_,_=>none
 | k+1,out_6,v_7=>cond (decide (v_7 < v_5)) (((getI v_4 v_7).bind λ v_10=>(cond (v_10.Kind==2) ((g_slices_Contains_int out_6 (IntKind.wrap .i64 v_10.N)).bind λ y_12=>some (!y_12)) (some false):Option (Bool)).bind λ v_11=>cond v_11 ((app out_6 [IntKind.wrap .i64 v_10.N]).bind λ v_13=>some v_13) (some out_6):Option ((List Int))).bind λ out_9=>g_impl_callsOf_l0 v_4 v_5 k out_9 (IntKind.wrap .i64 (v_7+1))) (some out_6)
def g_impl_callsOf (body_1:List GOp):Option (List Int):=((g_impl_callsOf_l0 body_1 (body_1.length:Int) bigK ([]:List Int) 0).bind λ out_8=>some out_8:Option ((List Int))).bind λ out_3=>(g_slices_Sort_int out_3).bind λ y_14=>some y_14
def g_impl_Falls (body_1:List GOp):Option Bool:=(g_impl_ShapeOk body_1).bind λ y_3=>cond y_3 (cond ((body_1.length:Int)==0) (some true) ((getI body_1 (IntKind.wrap .i64 ((body_1.length:Int)-1))).bind λ v_4=>some (v_4.Kind != 8))) (some false)
def g_impl_Reach_l1 (list_15:List Int) (v_20:Int):Nat->(List Int)->Int->Option (List Int)
 | 0,_,_=>none
 | k+1,out_21,v_22=>cond (decide (v_22 < v_20)) (((getI list_15 v_22).bind λ v_25=>(g_slices_Contains_int out_21 v_25).bind λ y_26=>cond (!y_26) ((app out_21 [v_25]).bind λ v_27=>some v_27) (some out_21):Option ((List Int))).bind λ out_24=>g_impl_Reach_l1 list_15 v_20 k out_24 (IntKind.wrap .i64 (v_22+1))) (some out_21)
def g_impl_Reach_l0 (defs_1:List GDef):Nat->(List Int)->Int->Option (List Int)
 | 0,_,_=>none
 | k+1,out_8,i_9=>cond (decide (i_9 < (out_8.length:Int))) (((getI out_8 i_9).bind λ v_12=>(getI defs_1 v_12).bind λ v_13=>(g_impl_callsOf v_13.Body).bind λ y_14=>(((getI defs_1 v_12).bind λ v_17=>(g_impl_Falls v_17.Body).bind λ y_18=>cond y_18 (some (decide ((IntKind.wrap .i64 (v_12+1)) < (defs_1.length:Int)))) (some false):Option (Bool)).bind λ v_16=>cond v_16 ((app y_14 [IntKind.wrap .i64 (v_12+1)]).bind λ v_19=>some v_19) (some y_14):Option ((List Int))).bind λ list_15=>(g_impl_Reach_l1 list_15 (list_15.length:Int) bigK out_8 0).bind λ out_23=>some out_23:Option ((List Int))).bind λ out_11=>g_impl_Reach_l0 defs_1 k out_11 (IntKind.wrap .i64 (i_9+1))) (some out_8)
def g_impl_Reach (defs_1:List GDef) (k_2:Int):Option (List Int):=((g_impl_DefsOk defs_1).bind λ y_5=>cond (!y_5) (some true) ((g_impl_within k_2 0 (IntKind.wrap .i64 ((defs_1.length:Int)-1))).bind λ y_6=>some (!y_6)):Option (Bool)).bind λ v_4=>cond v_4 (some []) (((g_impl_Reach_l0 defs_1 bigK [k_2] 0).bind λ out_10=>some out_10:Option ((List Int))).bind λ out_7=>(g_slices_Sort_int out_7).bind λ y_28=>some y_28)
def g_slices_Clone_Op (s_1:List GOp):Option (List GOp):=app ([]:List GOp) s_1
def g_impl_Shake_l1 (list_8:List Int) (v_20:Int):Nat->(List GOp)->(List GOp)->Int->Option (List GOp)
 | 0,_,_,_=>none
 | k+1,body_21,v_22,v_23=>cond (decide (v_23 < v_20)) (((getI body_21 v_23).bind λ v_27=>cond (v_27.Kind==2) ((g_slices_Index_int list_8 (IntKind.wrap .i64 v_27.N)).bind λ y_28=>(getI body_21 v_23).bind λ v_29=>some (body_21.set v_23.toNat (⟨v_29.Kind,IntKind.wrap .i32 y_28⟩:GOp),body_21.set v_23.toNat (⟨v_29.Kind,IntKind.wrap .i32 y_28⟩:GOp))) (some (body_21,body_21)):Option (((List GOp)×(List GOp)))).bind λ (body_25,v_26)=>g_impl_Shake_l1 list_8 v_20 k body_25 body_25 (IntKind.wrap .i64 (v_23+1))) (some body_21)
def g_laws_eqOp (a_1:GOp) (b_2:GOp):Option Bool:=cond (a_1.Kind != b_2.Kind) (some false) (cond (a_1.N != b_2.N) (some false) (some true))
def g_laws_eqOpS_l0 (a_1:List GOp) (b_2:List GOp):Nat->Int->Option (Unit ⊕ Bool)
 | 0,_=>none
 | k+1,i_5=>cond (decide (i_5 < (a_1.length:Int))) ((getI a_1 i_5).bind λ v_7=>(getI b_2 i_5).bind λ v_8=>(g_laws_eqOp v_7 v_8).bind λ y_9=>cond (!y_9) (some (.inr false)) (g_laws_eqOpS_l0 a_1 b_2 k (IntKind.wrap .i64 (i_5+1)))) (some (.inl ()))
def g_laws_eqOpS (a_1:List GOp) (b_2:List GOp):Option Bool:=cond ((a_1.length:Int) != (b_2.length:Int)) (some false) (((g_laws_eqOpS_l0 a_1 b_2 bigK 0).bind λ o=>match o with | .inl ()=>some (.inl ()) | .inr v_6=>some (.inr v_6):Option (Unit ⊕ Bool)).bind λ o=>match o with | .inl ()=>some true | .inr v_4=>some v_4)
def g_laws_eqDef (a_1:GDef) (b_2:GDef):Option Bool:=cond (a_1.Name != b_2.Name) (some false) ((g_laws_eqOpS a_1.Body b_2.Body).bind λ y_4=>cond (!y_4) (some false) (some true))
def g_laws_eqDefS_l0 (a_1:List GDef) (b_2:List GDef):Nat->Int->Option (Unit ⊕ Bool)
 | 0,_=>none
 | k+1,i_5=>cond (decide (i_5 < (a_1.length:Int))) ((getI a_1 i_5).bind λ v_7=>(getI b_2 i_5).bind λ v_8=>(g_laws_eqDef v_7 v_8).bind λ y_9=>cond (!y_9) (some (.inr false)) (g_laws_eqDefS_l0 a_1 b_2 k (IntKind.wrap .i64 (i_5+1)))) (some (.inl ()))
def g_laws_eqDefS (a_1:List GDef) (b_2:List GDef):Option Bool:=cond ((a_1.length:Int) != (b_2.length:Int)) (some false) (((g_laws_eqDefS_l0 a_1 b_2 bigK 0).bind λ o=>match o with | .inl ()=>some (.inl ()) | .inr v_6=>some (.inr v_6):Option (Unit ⊕ Bool)).bind λ o=>match o with | .inl ()=>some true | .inr v_4=>some v_4)
def g_impl_Shake_deep_l1 (list_8:List Int) (v_20:Int):Nat->(List GOp)->(List GOp)->Int->Option (List GOp)
 | 0,_,_,_=>none
 | k+1,body_21,v_22,v_23=>cond (decide (v_23 < v_20)) (((getI body_21 v_23).bind λ v_27=>cond (v_27.Kind==2) ((g_slices_Index_int list_8 (IntKind.wrap .i64 v_27.N)).bind λ y_28=>(getI body_21 v_23).bind λ v_29=>some (body_21.set v_23.toNat (⟨v_29.Kind,IntKind.wrap .i32 y_28⟩:GOp),body_21.set v_23.toNat (⟨v_29.Kind,IntKind.wrap .i32 y_28⟩:GOp))) (some (body_21,body_21)):Option (((List GOp)×(List GOp)))).bind λ (body_25,v_26)=>g_impl_Shake_deep_l1 list_8 v_20 k body_25 body_25 (IntKind.wrap .i64 (v_23+1))) (some body_21)
def g_impl_Shake_deep_l0 (defs_1:List GDef) (list_8:List Int) (v_10:Int):Nat->(List GDef)->Int->Option (List GDef)
 | 0,_,_=>none
 | k+1,out_11,v_12=>cond (decide (v_12 < v_10)) (((getI list_8 v_12).bind λ v_15=>(getI defs_1 v_15).bind λ v_16=>(g_slices_Clone_Op v_16.Body).bind λ y_17=>((g_impl_Shake_deep_l1 list_8 (y_17.length:Int) bigK y_17 y_17 0).bind λ body_24=>some body_24:Option ((List GOp))).bind λ body_18=>(getI defs_1 v_15).bind λ v_30=>(app out_11 [(⟨v_30.Name,body_18⟩:GDef)]).bind λ v_31=>some v_31:Option ((List GDef))).bind λ out_14=>g_impl_Shake_deep_l0 defs_1 list_8 v_10 k out_14 (IntKind.wrap .i64 (v_12+1))) (some out_11)
def g_impl_Shake_deep (defs_1:List GDef) (k_2:Int):Option ((List GDef)×Int):=(g_impl_Reach defs_1 k_2).bind λ y_5=>cond ((y_5.length:Int)==0) (some ([],(-1))) (((g_impl_Shake_deep_l0 defs_1 y_5 (y_5.length:Int) bigK ([]:List GDef) 0).bind λ out_13=>some out_13:Option ((List GDef))).bind λ out_6=>(g_slices_Index_int y_5 k_2).bind λ y_32=>some (out_6,y_32))
def g_laws_markText_l0:Nat->Int->Bs->Option Bs
 | 0,_,_=>none
 | k+1,k_4,out_5=>cond (decide (k_4 > 0)) ((catS (strOf [IntKind.wrap .u8 (IntKind.wrap .i64 (48+(Int.tmod k_4 10)))]) out_5).bind λ v_7=>g_laws_markText_l0 k (IntKind.wrap .i64 (Int.tdiv k_4 10)) v_7) (some out_5)
def g_laws_markText (k_1:Int):Option Bs:=cond (decide (k_1<=0)) (some [109,48]) ((g_laws_markText_l0 bigK k_1 []).bind λ out_6=>(catS [109] out_6).bind λ v_8=>some v_8)
def g_laws_markOpS_l0:Nat->(List GOp)->Int->Int->Option (Int×(List GOp))
 | 0,_,_,_=>none
 | k+1,a_8,k_9,i_10=>cond (decide (i_10 < (a_8.length:Int))) ((getI a_8 i_10).bind λ v_13=>(getI (a_8.set i_10.toNat (⟨k_9,v_13.N⟩:GOp)) i_10).bind λ v_14=>g_laws_markOpS_l0 k ((a_8.set i_10.toNat (⟨k_9,v_13.N⟩:GOp)).set i_10.toNat (⟨v_14.Kind,IntKind.wrap .i32 (IntKind.wrap .i64 (k_9+1))⟩:GOp)) (IntKind.wrap .i64 ((IntKind.wrap .i64 (k_9+1))+1)) (IntKind.wrap .i64 (i_10+1))) (some (k_9,a_8))
def g_laws_markOpS (a_1:List GOp) (k_2:Int):Option (Int×(List GOp)):=((g_laws_markOpS_l0 bigK a_1 k_2 0).bind λ (k_11,p_12)=>some (k_11,p_12):Option ((Int×(List GOp)))).bind λ (k_5,p_6)=>some (k_5,p_6)
def g_laws_markDefS_l0:Nat->(List GDef)->Int->Int->Option (Int×(List GDef))
 | 0,_,_,_=>none
 | k+1,a_8,k_9,i_10=>cond (decide (i_10 < (a_8.length:Int))) ((g_laws_markText k_9).bind λ y_13=>(getI a_8 i_10).bind λ v_14=>(getI (a_8.set i_10.toNat (⟨y_13,v_14.Body⟩:GDef)) i_10).bind λ v_15=>(g_laws_markOpS v_15.Body (IntKind.wrap .i64 (k_9+1))).bind λ y_16=>g_laws_markDefS_l0 k ((a_8.set i_10.toNat (⟨y_13,v_14.Body⟩:GDef)).set i_10.toNat (⟨v_15.Name,y_16.2⟩:GDef)) y_16.1 (IntKind.wrap .i64 (i_10+1))) (some (k_9,a_8))
def g_laws_markDefS (a_1:List GDef) (k_2:Int):Option (Int×(List GDef)):=((g_laws_markDefS_l0 bigK a_1 k_2 0).bind λ (k_11,p_12)=>some (k_11,p_12):Option ((Int×(List GDef)))).bind λ (k_5,p_6)=>some (k_5,p_6)
def g_laws_heldOpS_l0 (a_1:List GOp):Nat->Int->Int->Option (Int ⊕ Int)
 | 0,_,_=>none
 | k+1,k_6,i_7=>cond (decide (i_7 < (a_1.length:Int))) ((getI a_1 i_7).bind λ v_10=>cond (v_10.Kind != k_6) (some (.inr (-1))) ((getI a_1 i_7).bind λ v_11=>cond (v_11.N != (IntKind.wrap .i32 (IntKind.wrap .i64 (k_6+1)))) (some (.inr (-1))) (g_laws_heldOpS_l0 a_1 k (IntKind.wrap .i64 ((IntKind.wrap .i64 (k_6+1))+1)) (IntKind.wrap .i64 (i_7+1))))) (some (.inl k_6))
def g_laws_heldOpS (a_1:List GOp) (k_2:Int):Option Int:=((g_laws_heldOpS_l0 a_1 bigK k_2 0).bind λ o=>match o with | .inl k_8=>some (.inl k_8) | .inr v_9=>some (.inr v_9):Option (Int ⊕ Int)).bind λ o=>match o with | .inl k_4=>some k_4 | .inr v_5=>some v_5
def g_laws_heldDefS_l0 (a_1:List GDef):Nat->Int->Int->Option (Int ⊕ Int)
 | 0,_,_=>none
 | k+1,k_6,i_7=>cond (decide (i_7 < (a_1.length:Int))) ((getI a_1 i_7).bind λ v_10=>(g_laws_markText k_6).bind λ y_11=>cond (v_10.Name != y_11) (some (.inr (-1))) ((getI a_1 i_7).bind λ v_12=>(g_laws_heldOpS v_12.Body (IntKind.wrap .i64 (k_6+1))).bind λ y_13=>cond (decide (y_13 < 0)) (some (.inr (-1))) (g_laws_heldDefS_l0 a_1 k y_13 (IntKind.wrap .i64 (i_7+1))))) (some (.inl k_6))
def g_laws_heldDefS (a_1:List GDef) (k_2:Int):Option Int:=((g_laws_heldDefS_l0 a_1 bigK k_2 0).bind λ o=>match o with | .inl k_8=>some (.inl k_8) | .inr v_9=>some (.inr v_9):Option (Int ⊕ Int)).bind λ o=>match o with | .inl k_4=>some k_4 | .inr v_5=>some v_5
def g_laws_FnExactShake (aDefs_1:List GDef) (aK_2:Int):Option Bool:=(g_laws_szDefS aDefs_1 1048576).bind λ y_4=>cond (decide (y_4 < 0)) (some true) ((g_laws_toDefS aDefs_1).bind λ y_5=>(g_spec_Shake y_5 aK_2).bind λ y_6=>(g_laws_toDefS aDefs_1).bind λ y_7=>(g_impl_Shake_deep y_7 aK_2).bind λ y_8=>((g_laws_eqDefS y_8.1 y_6.1).bind λ y_10=>cond (!y_10) (some true) (some (y_8.2 != y_6.2)):Option (Bool)).bind λ v_9=>cond v_9 (some false) ((g_laws_toDefS aDefs_1).bind λ y_11=>(g_laws_eqDefS y_7 y_11).bind λ y_12=>cond (!y_12) (some false) ((g_laws_markDefS y_7 1).bind λ y_13=>(cond (decide (y_13.1 < 0)) (some true) ((g_laws_eqDefS y_8.1 y_6.1).bind λ y_15=>cond (!y_15) (some true) (some (y_8.2 != y_6.2))):Option (Bool)).bind λ v_14=>cond v_14 (some false) ((g_laws_markDefS y_8.1 1).bind λ y_16=>(g_laws_heldDefS y_16.2 1).bind λ y_17=>cond (decide (y_17 < 0)) (some false) (cond (y_17 != y_16.1) (some false) ((g_laws_toDefS aDefs_1).bind λ y_18=>(g_impl_Shake_deep y_18 aK_2).bind λ y_19=>((g_laws_eqDefS y_19.1 y_6.1).bind λ y_21=>cond (!y_21) (some true) (some (y_19.2 != y_6.2)):Option (Bool)).bind λ v_20=>cond v_20 (some false) ((g_laws_heldDefS y_16.2 1).bind λ y_22=>cond (decide (y_22 < 0)) (some false) (cond (y_22 != y_16.1) (some false) (some true)))))))))
def bodyOf (f:Func):Code:=match f.body with|some c=>c|none=>.skip
end Go.Proofs.YtnhefmibcnbehaaDoor
namespace Go.Proofs.YtnhefmibcnbehaaDoor
open Go Go.Fm
set_option maxRecDepth 1000000
def sortLays_ren:Go.Shelf.Ren:=⟨fun|189=>32|125=>54|257=>53|128=>83|129=>84|294=>74|295=>75|296=>76|297=>77|298=>78|299=>79|216=>80|300=>81|301=>82|328=>108|329=>109|330=>110|331=>111|332=>112|215=>113|343=>120|n=>n,fun|28=>24|3=>3|46=>66|0=>0|51=>94|53=>96|4=>4|183=>86|182=>85|131=>91|5=>5|9=>9|218=>123|222=>127|228=>136|229=>137|n=>n,fun|n=>n⟩
theorem sortLays:Go.Proofs.Lays.n189 Tryd.prog sortLays_ren where
 mixed:=by kernel_rfl
 f125:=Tryd.func54.trans (congrArg some (by kernel_rfl))
 f128:=Tryd.func83.trans (congrArg some (by kernel_rfl))
 f129:=Tryd.func84.trans (congrArg some (by kernel_rfl))
 f189:=Tryd.func32.trans (congrArg some (by kernel_rfl))
 f215:=Tryd.func113.trans (congrArg some (by kernel_rfl))
 f216:=Tryd.func80.trans (congrArg some (by kernel_rfl))
 f257:=Tryd.func53.trans (congrArg some (by kernel_rfl))
 f294:=Tryd.func74.trans (congrArg some (by kernel_rfl))
 f295:=Tryd.func75.trans (congrArg some (by kernel_rfl))
 f296:=Tryd.func76.trans (congrArg some (by kernel_rfl))
 f297:=Tryd.func77.trans (congrArg some (by kernel_rfl))
 f298:=Tryd.func78.trans (congrArg some (by kernel_rfl))
 f299:=Tryd.func79.trans (congrArg some (by kernel_rfl))
 f300:=Tryd.func81.trans (congrArg some (by kernel_rfl))
 f301:=Tryd.func82.trans (congrArg some (by kernel_rfl))
 f328:=Tryd.func108.trans (congrArg some (by kernel_rfl))
 f329:=Tryd.func109.trans (congrArg some (by kernel_rfl))
 f330:=Tryd.func110.trans (congrArg some (by kernel_rfl))
 f331:=Tryd.func111.trans (congrArg some (by kernel_rfl))
 f332:=Tryd.func112.trans (congrArg some (by kernel_rfl))
 f343:=Tryd.func120.trans (congrArg some (by kernel_rfl))
 t0:=Tryd.underlying0
 a0:=Tryd.isAgg0
 z0:=Tryd.sizeOf0
 v0:=Tryd.zeroValue0
 t3:=Tryd.underlying3
 a3:=Tryd.isAgg3
 z3:=Tryd.sizeOf3
 v3:=Tryd.zeroValue3
 t4:=Tryd.underlying4
 a4:=Tryd.isAgg4
 z4:=Tryd.sizeOf4
 v4:=Tryd.zeroValue4
 t5:=Tryd.underlying5
 a5:=Tryd.isAgg5
 z5:=Tryd.sizeOf5
 v5:=Tryd.zeroValue5
 t9:=Tryd.underlying9
 a9:=Tryd.isAgg9
 z9:=Tryd.sizeOf9
 v9:=Tryd.zeroValue9
 t28:=Tryd.underlying24
 a28:=Tryd.isAgg24
 z28:=Tryd.sizeOf24
 v28:=Tryd.zeroValue24
 t46:=Tryd.underlying66
 a46:=Tryd.isAgg66
 z46:=Tryd.sizeOf66
 v46:=Tryd.zeroValue66
 t51:=Tryd.underlying94
 a51:=Tryd.isAgg94
 z51:=Tryd.sizeOf94
 v51:=Tryd.zeroValue94
 t53:=Tryd.underlying96
 a53:=Tryd.isAgg96
 z53:=Tryd.sizeOf96
 v53:=Tryd.zeroValue96
 t131:=Tryd.underlying91
 a131:=Tryd.isAgg91
 z131:=Tryd.sizeOf91
 v131:=Tryd.zeroValue91
 t182:=Tryd.underlying85
 a182:=Tryd.isAgg85
 z182:=Tryd.sizeOf85
 v182:=Tryd.zeroValue85
 t183:=Tryd.underlying86
 a183:=Tryd.isAgg86
 z183:=Tryd.sizeOf86
 v183:=Tryd.zeroValue86
 t218:=Tryd.underlying123
 a218:=Tryd.isAgg123
 z218:=Tryd.sizeOf123
 v218:=Tryd.zeroValue123
 t222:=Tryd.underlying127
 a222:=Tryd.isAgg127
 z222:=Tryd.sizeOf127
 v222:=Tryd.zeroValue127
 t228:=Tryd.underlying136
 a228:=Tryd.isAgg136
 z228:=Tryd.sizeOf136
 v228:=Tryd.zeroValue136
 t229:=Tryd.underlying137
 a229:=Tryd.isAgg137
 z229:=Tryd.sizeOf137
 v229:=Tryd.zeroValue137
end Go.Proofs.YtnhefmibcnbehaaDoor
namespace Go.Proofs.YtnhefmibcnbehaaDoor
open Go Go.Fm
set_option maxRecDepth 1000000
noncomputable def e_laws_szOpS:Con:=⟨44,⟨[(0, .s K4 []),(1, .s K1 [])],[]⟩,⟨[(0, .s K1 [])],[]⟩,false,[],λ (a_1,left_2)=>g_laws_szOpS a_1 left_2⟩
noncomputable def e_laws_szDef:Con:=⟨20,⟨[(0, .s K5 []),(1, .s K1 [])],[]⟩,⟨[(0, .s K1 [])],[]⟩,false,[],λ (a_1,left_2)=>g_laws_szDef a_1 left_2⟩
noncomputable def e_laws_szDefS:Con:=⟨6,⟨[(0, .s K6 []),(1, .s K1 [])],[]⟩,⟨[(0, .s K1 [])],[]⟩,false,[],λ (a_1,left_2)=>g_laws_szDefS a_1 left_2⟩
noncomputable def e_laws_toOp:Con:=⟨68,⟨[(0, .s K3 [])],[]⟩,⟨[(0, .s K3 [])],[]⟩,false,[],λ a_1=>g_laws_toOp a_1⟩
noncomputable def e_laws_toOpS:Con:=⟨47,⟨[(0, .s K4 [])],[]⟩,⟨[(0, .s K4 [(0,0)])],[.o]⟩,false,[],λ a_1=>g_laws_toOpS a_1⟩
noncomputable def e_laws_toDef:Con:=⟨26,⟨[(0, .s K5 [])],[]⟩,⟨[(0, .s K5 [(1,0)])],[.o]⟩,false,[],λ a_1=>g_laws_toDef a_1⟩
noncomputable def e_laws_toDefS:Con:=⟨8,⟨[(0, .s K6 [])],[]⟩,⟨[(0, .s K6 [(0,0)])],[.od]⟩,false,[],λ a_1=>g_laws_toDefS a_1⟩
noncomputable def e_spec_l01In:Con:=⟨22,⟨[(0, .s K1 []),(1, .s K1 []),(2, .s K1 [])],[]⟩,⟨[(0, .s K7 [])],[]⟩,false,[],λ (x_1,a_2,b_3)=>g_spec_l01In x_1 a_2 b_3⟩
noncomputable def e_spec_l02All:Con:=⟨102,⟨[],[]⟩,⟨[(0, .s K0 [])],[]⟩,false,[],λ _=>g_spec_l02All⟩
noncomputable def e_spec_LetterOf:Con:=⟨65,⟨[(0, .s K8 [])],[]⟩,⟨[(0, .s K1 [])],[]⟩,false,[],λ b_1=>g_spec_LetterOf b_1⟩
noncomputable def e_spec_NameOk:Con:=⟨45,⟨[(0, .s K0 [])],[]⟩,⟨[(0, .s K7 [])],[]⟩,false,[],λ s_1=>g_spec_NameOk s_1⟩
noncomputable def e_spec_l08Names:Con:=⟨118,⟨[],[]⟩,⟨[(0, .s K9 [(0,0)])],[.o]⟩,false,[],λ _=>g_spec_l08Names⟩
noncomputable def e_spec_PrimName:Con:=⟨103,⟨[(0, .s K1 [])],[]⟩,⟨[(0, .s K0 [])],[]⟩,false,[],λ k_1=>g_spec_PrimName k_1⟩
noncomputable def e_spec_l09Op:Con:=⟨66,⟨[(0, .s K3 [])],[]⟩,⟨[(0, .s K7 [])],[]⟩,false,[],λ o_1=>g_spec_l09Op o_1⟩
noncomputable def e_spec_l09Open:Con:=⟨67,⟨[(0, .s K4 [])],[]⟩,⟨[(0, .s K10 [(0,0)]),(1, .s K7 [])],[.o]⟩,false,[],λ body_1=>g_spec_l09Open body_1⟩
noncomputable def e_spec_ShapeOk:Con:=⟨46,⟨[(0, .s K4 [])],[]⟩,⟨[(0, .s K7 [])],[]⟩,false,[],λ body_1=>g_spec_ShapeOk body_1⟩
noncomputable def e_spec_DefsOk:Con:=⟨21,⟨[(0, .s K6 [])],[]⟩,⟨[(0, .s K7 [])],[]⟩,false,[],λ defs_1=>g_spec_DefsOk defs_1⟩
noncomputable def e_spec_l20Put:Con:=⟨25,⟨[(0, .s K10 []),(1, .s K1 [])],[]⟩,⟨[(0, .s K10 [])],[]⟩,true,[],λ (list_1,n_2)=>g_spec_l20Put list_1 n_2⟩
noncomputable def e_spec_Falls:Con:=⟨24,⟨[(0, .s K4 [])],[]⟩,⟨[(0, .s K7 [])],[]⟩,false,[],λ body_1=>g_spec_Falls body_1⟩
noncomputable def e_spec_l20Put_own:Con:=⟨25,⟨[(0, .s K10 [(0,0)]),(1, .s K1 [])],[.o]⟩,⟨[(0, .s K10 [(0,1)])],[.d, .o]⟩,false,[],λ (list_1,n_2)=>g_spec_l20Put_own list_1 n_2⟩
noncomputable def e_spec_CallsOf_own:Con:=⟨23,⟨[(0, .s K4 [])],[]⟩,⟨[(0, .s K10 [(0,0)])],[.o]⟩,false,[],λ body_1=>g_spec_CallsOf_own body_1⟩
noncomputable def e_spec_Reach:Con:=⟨7,⟨[(0, .s K6 []),(1, .s K1 [])],[]⟩,⟨[(0, .s K10 [])],[]⟩,true,[],λ (defs_1,k_2)=>g_spec_Reach defs_1 k_2⟩
noncomputable def e_spec_l20At:Con:=⟨36,⟨[(0, .s K10 []),(1, .s K1 [])],[]⟩,⟨[(0, .s K1 [])],[]⟩,false,[],λ (list_1,n_2)=>g_spec_l20At list_1 n_2⟩
noncomputable def e_spec_Shake:Con:=⟨15,⟨[(0, .s K6 []),(1, .s K1 [])],[]⟩,⟨[(0, .s K6 [(0,0)]),(1, .s K1 [])],[.o]⟩,true,[],λ (defs_1,k_2)=>g_spec_Shake defs_1 k_2⟩
noncomputable def e_impl_letters:Con:=⟨105,⟨[],[]⟩,⟨[(0, .s K0 [])],[]⟩,false,[],λ _=>g_impl_letters⟩
noncomputable def e_ibytealg_IndexByteString:Con:=⟨124,⟨[(0, .s K0 []),(1, .s K8 [])],[]⟩,⟨[(0, .s K1 [])],[]⟩,false,[],λ a=>g_ibytealg_IndexByteString a.1 a.2⟩
noncomputable def e_istringslite_IndexByte:Con:=⟨119,⟨[(0, .s K0 []),(1, .s K8 [])],[]⟩,⟨[(0, .s K1 [])],[]⟩,false,[],λ (s_1,c_2)=>g_istringslite_IndexByte s_1 c_2⟩
noncomputable def e_strings_IndexByte:Con:=⟨104,⟨[(0, .s K0 []),(1, .s K8 [])],[]⟩,⟨[(0, .s K1 [])],[]⟩,false,[],λ (s_1,c_2)=>g_strings_IndexByte s_1 c_2⟩
noncomputable def e_impl_LetterOf:Con:=⟨70,⟨[(0, .s K8 [])],[]⟩,⟨[(0, .s K1 [])],[]⟩,false,[],λ b_1=>g_impl_LetterOf b_1⟩
noncomputable def e_impl_within:Con:=⟨28,⟨[(0, .s K1 []),(1, .s K1 []),(2, .s K1 [])],[]⟩,⟨[(0, .s K7 [])],[]⟩,false,[],λ (n_1,low_2,high_3)=>g_impl_within n_1 low_2 high_3⟩
noncomputable def e_impl_NameOk:Con:=⟨50,⟨[(0, .s K0 [])],[]⟩,⟨[(0, .s K7 [])],[]⟩,false,[],λ s_1=>g_impl_NameOk s_1⟩
noncomputable def e_strings_Fields:Con:=⟨122,⟨[(0, .s K0 [])],[]⟩,⟨[(0, .s K9 [(0,0)])],[.o]⟩,false,[],λ s_1=>g_strings_Fields s_1⟩
noncomputable def e_impl_prims:Con:=⟨116,⟨[],[]⟩,⟨[(0, .s K9 [(0,0)])],[.o]⟩,false,[],λ _=>g_impl_prims⟩
noncomputable def e_impl_PrimName:Con:=⟨95,⟨[(0, .s K1 [])],[]⟩,⟨[(0, .s K0 [])],[]⟩,false,[],λ k_1=>g_impl_PrimName k_1⟩
noncomputable def e_impl_opOk:Con:=⟨106,⟨[(0, .s K3 [])],[]⟩,⟨[(0, .s K7 [])],[]⟩,false,[],λ o_1=>g_impl_opOk o_1⟩
noncomputable def e_impl_openIn:Con:=⟨71,⟨[(0, .s K4 [])],[]⟩,⟨[(0, .s K10 [(0,0)]),(1, .s K7 [])],[.o]⟩,false,[],λ body_1=>g_impl_openIn body_1⟩
noncomputable def e_impl_ShapeOk:Con:=⟨51,⟨[(0, .s K4 [])],[]⟩,⟨[(0, .s K7 [])],[]⟩,false,[],λ body_1=>g_impl_ShapeOk body_1⟩
noncomputable def e_impl_callsBelowc1:Con:=⟨73,⟨[(0, .s K3 []),(1, .c (.one (.ptr 0 0)))],[.v K1 []]⟩,⟨[(0, .s K7 [])],[.f]⟩,false,[0],λ (o_1,a_2)=>g_impl_callsBelowc1 o_1 a_2⟩
noncomputable def e_slices_IndexFunc_Op_impl_callsBelowc1:Con:=⟨107,⟨[(0, .s K4 []),(1, .c (.one (.fn 73 [(0,0)])))],[.v K1 []]⟩,⟨[(0, .s K1 [])],[.f]⟩,false,[0],λ (s_1,c_2)=>g_slices_IndexFunc_Op_impl_callsBelowc1 s_1 c_2⟩
noncomputable def e_slices_ContainsFunc_Op_impl_callsBelowc1:Con:=⟨72,⟨[(0, .s K4 []),(1, .c (.one (.fn 73 [(0,0)])))],[.v K1 []]⟩,⟨[(0, .s K7 [])],[.f]⟩,false,[0],λ (s_1,c_2)=>g_slices_ContainsFunc_Op_impl_callsBelowc1 s_1 c_2⟩
noncomputable def e_impl_callsBelow:Con:=⟨52,⟨[(0, .s K4 []),(1, .s K1 [])],[]⟩,⟨[(0, .s K7 [])],[]⟩,false,[],λ (body_1,n_2)=>g_impl_callsBelow body_1 n_2⟩
noncomputable def e_impl_DefsOkc1:Con:=⟨49,⟨[(0, .s K5 []),(1, .c (.one (.ptr 0 0)))],[.v K6 []]⟩,⟨[(0, .s K7 [])],[.f]⟩,false,[0],λ (d_1,a_2)=>g_impl_DefsOkc1 d_1 a_2⟩
noncomputable def e_slices_IndexFunc_Def_impl_DefsOkc1:Con:=⟨69,⟨[(0, .s K6 []),(1, .c (.one (.fn 49 [(0,0)])))],[.v K6 []]⟩,⟨[(0, .s K1 [])],[.f]⟩,false,[0],λ (s_1,c_2)=>g_slices_IndexFunc_Def_impl_DefsOkc1 s_1 c_2⟩
noncomputable def e_slices_ContainsFunc_Def_impl_DefsOkc1:Con:=⟨48,⟨[(0, .s K6 []),(1, .c (.one (.fn 49 [(0,0)])))],[.v K6 []]⟩,⟨[(0, .s K7 [])],[.f]⟩,false,[0],λ (s_1,c_2)=>g_slices_ContainsFunc_Def_impl_DefsOkc1 s_1 c_2⟩
noncomputable def e_impl_DefsOk:Con:=⟨27,⟨[(0, .s K6 [])],[]⟩,⟨[(0, .s K7 [])],[]⟩,false,[],λ defs_1=>g_impl_DefsOk defs_1⟩
noncomputable def e_slices_Index_int:Con:=⟨38,⟨[(0, .s K10 []),(1, .s K1 [])],[]⟩,⟨[(0, .s K1 [])],[]⟩,false,[],λ (s_1,v_2)=>g_slices_Index_int s_1 v_2⟩
noncomputable def e_slices_Contains_int:Con:=⟨31,⟨[(0, .s K10 []),(1, .s K1 [])],[]⟩,⟨[(0, .s K7 [])],[]⟩,false,[],λ (s_1,v_2)=>g_slices_Contains_int s_1 v_2⟩
noncomputable def e_slices_Sort_int:Con:=⟨32,⟨[(0, .s K10 [(0,0)])],[.o]⟩,⟨[],[.r K1]⟩,false,[],λ x_1=>g_slices_Sort_int x_1⟩
noncomputable def e_impl_callsOf:Con:=⟨29,⟨[(0, .s K4 [])],[]⟩,⟨[(0, .s K10 [(0,0)])],[.o]⟩,false,[],λ body_1=>g_impl_callsOf body_1⟩
noncomputable def e_impl_Falls:Con:=⟨30,⟨[(0, .s K4 [])],[]⟩,⟨[(0, .s K7 [])],[]⟩,false,[],λ body_1=>g_impl_Falls body_1⟩
noncomputable def e_impl_Reach:Con:=⟨9,⟨[(0, .s K6 []),(1, .s K1 [])],[]⟩,⟨[(0, .s K10 [(0,0)])],[.o]⟩,false,[],λ (defs_1,k_2)=>g_impl_Reach defs_1 k_2⟩
noncomputable def e_slices_Clone_Op:Con:=⟨37,⟨[(0, .s K4 [])],[]⟩,⟨[(0, .s K4 [(0,0)])],[.o]⟩,false,[],λ s_1=>g_slices_Clone_Op s_1⟩
noncomputable def e_laws_eqOp:Con:=⟨85,⟨[(0, .s K3 []),(1, .s K3 [])],[]⟩,⟨[(0, .s K7 [])],[]⟩,false,[],λ (a_1,b_2)=>g_laws_eqOp a_1 b_2⟩
noncomputable def e_laws_eqOpS:Con:=⟨55,⟨[(0, .s K4 []),(1, .s K4 [])],[]⟩,⟨[(0, .s K7 [])],[]⟩,false,[],λ (a_1,b_2)=>g_laws_eqOpS a_1 b_2⟩
noncomputable def e_laws_eqDef:Con:=⟨33,⟨[(0, .s K5 []),(1, .s K5 [])],[]⟩,⟨[(0, .s K7 [])],[]⟩,false,[],λ (a_1,b_2)=>g_laws_eqDef a_1 b_2⟩
noncomputable def e_laws_eqDefS:Con:=⟨11,⟨[(0, .s K6 []),(1, .s K6 [])],[]⟩,⟨[(0, .s K7 [])],[]⟩,false,[],λ (a_1,b_2)=>g_laws_eqDefS a_1 b_2⟩
noncomputable def e_impl_Shake_deep:Con:=⟨16,⟨[(0, .s K6 []),(1, .s K1 [])],[]⟩,⟨[(0, .s K6 [(0,0)]),(1, .s K1 [])],[.od]⟩,false,[],λ (defs_1,k_2)=>g_impl_Shake_deep defs_1 k_2⟩
noncomputable def e_laws_markText:Con:=⟨34,⟨[(0, .s K1 [])],[]⟩,⟨[(0, .s K0 [])],[]⟩,false,[],λ k_1=>g_laws_markText k_1⟩
noncomputable def e_laws_markOpS:Con:=⟨35,⟨[(0, .s K4 [(0,0)]),(1, .s K1 [])],[.o]⟩,⟨[(0, .s K1 [])],[.r K3]⟩,false,[],λ (a_1,k_2)=>g_laws_markOpS a_1 k_2⟩
noncomputable def e_laws_markDefS:Con:=⟨12,⟨[(0, .s K6 [(0,0)]),(1, .s K1 [])],[.od]⟩,⟨[(0, .s K1 [])],[.rd K5]⟩,false,[],λ (a_1,k_2)=>g_laws_markDefS a_1 k_2⟩
noncomputable def e_laws_heldOpS:Con:=⟨39,⟨[(0, .s K4 []),(1, .s K1 [])],[]⟩,⟨[(0, .s K1 [])],[]⟩,false,[],λ (a_1,k_2)=>g_laws_heldOpS a_1 k_2⟩
noncomputable def e_laws_heldDefS:Con:=⟨17,⟨[(0, .s K6 []),(1, .s K1 [])],[]⟩,⟨[(0, .s K1 [])],[]⟩,false,[],λ (a_1,k_2)=>g_laws_heldDefS a_1 k_2⟩
noncomputable def e_laws_FnExactShake:Con:=⟨4,⟨[(0, .s K6 []),(1, .s K1 [])],[]⟩,⟨[(0, .s K7 [])],[]⟩,false,[],λ (aDefs_1,aK_2)=>g_laws_FnExactShake aDefs_1 aK_2⟩
abbrev CO (c:Con):Prop:=ConOk Tryd.prog c
abbrev CK (Γ:List Con) (n:Nat) (an:An) (f:Func) (e:Con):Prop:=AnOk TrydT Γ n an (bodyOf f)/\∀ a,fnRun TrydT Γ an (bodyOf f) f.results.toList e.ro e.ps e.rs a=e.g a
theorem fnc {Γ:List Con} {n:Nat} {an:An} {fn:Func} {C:Con} (h:Tryd.prog.follows .mixedOrders=true->∀ c ∈ Γ,CO c) (hf:Tryd.prog.funcs[C.f]? = some fn) (hk:CK Γ n an fn C) (h1:(!(fn.name == "runtime.NumGoroutine")&&okC fn.ntmps (bodyOf fn))=true)
  (h2:∀ a,entB C n fn.ntmps a=true) (h3:∀ r,endB C fn.results.toList.length r=true) (hb:fn.body=some (bodyOf fn)):CO C:=by
 rw[Bool.and_eq_true,Bool.not_eq_true']at h1
 exact fn_ok (P:=λ _=>Tryd.prog) (n:=n) TrydT_eq h hf hb h1.1 rfl rfl h1.2 rfl h2 h3 hk.1 λ a r e=>(hk.2 a).trans e
end Go.Proofs.YtnhefmibcnbehaaDoor
namespace Go.Proofs.YtnhefmibcnbehaaDoor
open Go Go.Fm
set_option maxRecDepth 1000000
noncomputable def ane_laws_szOpS:An:=.z
theorem ke_laws_szOpS:CK [] 0 ane_laws_szOpS Tryd.f44 e_laws_szOpS:=⟨trivial,λ _=>by kernel_rfl⟩
noncomputable def ane_laws_szDef:An:=.z
theorem ke_laws_szDef:CK [e_laws_szOpS] 0 ane_laws_szDef Tryd.f20 e_laws_szDef:=⟨trivial,λ _=>by kernel_rfl⟩
noncomputable def ane_laws_szDefS:An:=.q .z (.q .z (.q .z (.m [(.normal,⟨[(1, .s K1 [])],[]⟩),(.ret,⟨[(4, .s K1 [])],[]⟩)] [0] [] (.q .z (.b (.l ⟨[(0, .s K6 [])],[]⟩ ⟨[(1, .s K1 []),(5, .s K1 [])],[]⟩ [(.exit 0,⟨[(1, .s K1 [])],[]⟩),(.ret,⟨[(4, .s K1 [])],[]⟩)] (λ a_1 k (left_6,i_7)=>g_laws_szDefS_l0 a_1 k left_6 i_7) .z))) .z)))
theorem ke_laws_szDefS:CK [e_laws_szDef] 0 ane_laws_szDefS Tryd.f6 e_laws_szDefS:=⟨⟨trivial,⟨trivial,⟨trivial,⟨⟨trivial,⟨λ _ _=>rfl,λ _ _ _ _=>by kernel_rfl,trivial⟩⟩,trivial⟩⟩⟩⟩,λ _=>by kernel_rfl⟩
noncomputable def ane_laws_toOp:An:=.z
theorem ke_laws_toOp:CK [] 0 ane_laws_toOp Tryd.f68 e_laws_toOp:=⟨trivial,λ _=>by kernel_rfl⟩
noncomputable def ane_laws_toOpS:An:=.q .z (.q .z (.m [(.normal,⟨[(3, .s K4 [(0,0)])],[.o]⟩)] [0,2] [] (.q .z (.b (.l ⟨[(0, .s K4 []),(2, .c (.one (.emp)))],[.n]⟩ ⟨[(3, .s K4 [(0,0)]),(4, .s K1 [])],[.o]⟩ [(.exit 0,⟨[(3, .s K4 [(0,0)])],[.o]⟩)] (λ a_1 k (out_5,i_6)=>g_laws_toOpS_l0 a_1 k out_5 i_6) .z))) .z))
theorem ke_laws_toOpS:CK [e_laws_toOp] 0 ane_laws_toOpS Tryd.f47 e_laws_toOpS:=⟨⟨trivial,⟨trivial,⟨⟨trivial,⟨λ _ _=>rfl,λ _ _ _ _=>by kernel_rfl,trivial⟩⟩,trivial⟩⟩⟩,λ _=>by kernel_rfl⟩
noncomputable def ane_laws_toDef:An:=.z
theorem ke_laws_toDef:CK [e_laws_toOpS] 0 ane_laws_toDef Tryd.f26 e_laws_toDef:=⟨trivial,λ _=>by kernel_rfl⟩
noncomputable def ane_laws_toDefS:An:=.q .z (.q .z (.m [(.normal,⟨[(3, .s K6 [(0,0)])],[.od]⟩)] [0,2] [] (.q .z (.b (.l ⟨[(0, .s K6 []),(2, .c (.one (.emp)))],[.n]⟩ ⟨[(3, .s K6 [(0,0)]),(4, .s K1 [])],[.od]⟩ [(.exit 0,⟨[(3, .s K6 [(0,0)])],[.od]⟩)] (λ a_1 k (out_5,i_6)=>g_laws_toDefS_l0 a_1 k out_5 i_6) .z))) .z))
theorem ke_laws_toDefS:CK [e_laws_toDef] 0 ane_laws_toDefS Tryd.f8 e_laws_toDefS:=⟨⟨trivial,⟨trivial,⟨⟨trivial,⟨λ _ _=>rfl,λ _ _ _ _=>by kernel_rfl,trivial⟩⟩,trivial⟩⟩⟩,λ _=>by kernel_rfl⟩
noncomputable def ane_spec_l01In:An:=.z
theorem ke_spec_l01In:CK [] 0 ane_spec_l01In Tryd.f22 e_spec_l01In:=⟨trivial,λ _=>by kernel_rfl⟩
end Go.Proofs.YtnhefmibcnbehaaDoor
namespace Go.Proofs.YtnhefmibcnbehaaDoor
open Go Go.Fm
set_option maxRecDepth 1000000
noncomputable def ane_spec_l02All:An:=.z
theorem ke_spec_l02All:CK [] 0 ane_spec_l02All Tryd.f102 e_spec_l02All:=⟨trivial,λ _=>by kernel_rfl⟩
noncomputable def ane_spec_LetterOf:An:=.q .z (.q .z (.m [(.normal,⟨[],[]⟩),(.ret,⟨[(2, .s K1 [])],[]⟩)] [0,3] [] (.q .z (.b (.l ⟨[(0, .s K8 []),(3, .s K0 [])],[]⟩ ⟨[(4, .s K1 [])],[]⟩ [(.exit 0,⟨[],[]⟩),(.ret,⟨[(2, .s K1 [])],[]⟩)] (λ (b_1,yu57_3) k i_5=>g_spec_LetterOf_l0 b_1 yu57_3 k i_5) .z))) .z))
theorem ke_spec_LetterOf:CK [e_spec_l02All] 0 ane_spec_LetterOf Tryd.f65 e_spec_LetterOf:=⟨⟨trivial,⟨trivial,⟨⟨trivial,⟨λ _ _=>rfl,λ _ _ _ _=>by kernel_rfl,trivial⟩⟩,trivial⟩⟩⟩,λ _=>by kernel_rfl⟩
noncomputable def ane_spec_NameOk:An:=.q .z (.q .z (.m [(.normal,⟨[],[]⟩),(.ret,⟨[(2, .s K7 [])],[]⟩)] [0] [] (.q .z (.b (.l ⟨[(0, .s K0 [])],[]⟩ ⟨[(3, .s K1 [])],[]⟩ [(.exit 0,⟨[],[]⟩),(.ret,⟨[(2, .s K7 [])],[]⟩)] (λ s_1 k i_5=>g_spec_NameOk_l0 s_1 k i_5) .z))) .z))
theorem ke_spec_NameOk:CK [e_spec_l01In,e_spec_LetterOf] 0 ane_spec_NameOk Tryd.f45 e_spec_NameOk:=⟨⟨trivial,⟨trivial,⟨⟨trivial,⟨λ _ _=>rfl,λ _ _ _ _=>by kernel_rfl,trivial⟩⟩,trivial⟩⟩⟩,λ _=>by kernel_rfl⟩
noncomputable def ane_spec_l08Names:An:=.z
theorem ke_spec_l08Names:CK [] 0 ane_spec_l08Names Tryd.f118 e_spec_l08Names:=⟨trivial,λ _=>by kernel_rfl⟩
noncomputable def ane_spec_PrimName:An:=.z
theorem ke_spec_PrimName:CK [e_spec_l08Names,e_spec_l01In] 0 ane_spec_PrimName Tryd.f103 e_spec_PrimName:=⟨trivial,λ _=>by kernel_rfl⟩
noncomputable def ane_spec_l09Op:An:=.z
theorem ke_spec_l09Op:CK [e_spec_PrimName,e_spec_l01In] 0 ane_spec_l09Op Tryd.f66 e_spec_l09Op:=⟨trivial,λ _=>by kernel_rfl⟩
noncomputable def ane_spec_l09Open:An:=.q .z (.q .z (.m [(.normal,⟨[(4, .s K10 [(0,1)])],[.d, .o]⟩),(.ret,⟨[(2, .c (.one (.emp))),(3, .s K7 [])],[.d]⟩)] [0] [] (.q .z (.b (.l ⟨[(0, .s K4 [])],[.n, .n]⟩ ⟨[(4, .s K10 [(0,1)]),(5, .s K1 [])],[.d, .o]⟩ [(.exit 0,⟨[(4, .s K10 [(0,1)])],[.d, .o]⟩),(.ret,⟨[(2, .c (.one (.emp))),(3, .s K7 [])],[.d, .d]⟩)] (λ body_1 k (vopen_6,i_7)=>g_spec_l09Open_l0 body_1 k vopen_6 i_7) (.q .z (.m [(.normal,⟨[(4, .s K10 [(0,2)])],[.d, .d, .o]⟩),(.ret,⟨[(2, .c (.one (.emp))),(3, .s K7 [])],[.d, .d]⟩)] [5] [] (.b (.q .z (.q .z (.b (.m [(.normal,⟨[(21, .s K7 [])],[.d, .f]⟩)] [4,6,20] [1] .z (.q .z (.m [(.normal,⟨[(29, .s K7 [])],[.d, .f]⟩)] [4,6,20] [1] .z (.q (.q .z (.q (.m [(.normal,⟨[(46, .s K7 [])],[.d, .f]⟩)] [4,6,7] [1] .z .z) .z)) .z)))))))) .z))))) .z))
theorem ke_spec_l09Open:CK [] 0 ane_spec_l09Open Tryd.f67 e_spec_l09Open:=⟨⟨trivial,⟨trivial,⟨⟨trivial,⟨λ _ _=>rfl,λ _ _ _ _=>by kernel_rfl,⟨trivial,⟨⟨trivial,⟨trivial,⟨trivial,⟨trivial,⟨trivial,⟨⟨trivial,⟨⟨trivial,trivial⟩,trivial⟩⟩,trivial⟩⟩⟩⟩⟩⟩,trivial⟩⟩⟩⟩,trivial⟩⟩⟩,λ _=>by kernel_rfl⟩
noncomputable def ane_spec_ShapeOk:An:=.q .z (.q .z (.m [(.normal,⟨[],[]⟩),(.ret,⟨[(2, .s K7 [])],[]⟩)] [0] [] (.q .z (.b (.l ⟨[(0, .s K4 [])],[]⟩ ⟨[(3, .s K1 [])],[]⟩ [(.exit 0,⟨[],[]⟩),(.ret,⟨[(2, .s K7 [])],[]⟩)] (λ body_1 k i_4=>g_spec_ShapeOk_l0 body_1 k i_4) .z))) .z))
theorem ke_spec_ShapeOk:CK [e_spec_l09Op,e_spec_l09Open] 0 ane_spec_ShapeOk Tryd.f46 e_spec_ShapeOk:=⟨⟨trivial,⟨trivial,⟨⟨trivial,⟨λ _ _=>rfl,λ _ _ _ _=>by kernel_rfl,trivial⟩⟩,trivial⟩⟩⟩,λ _=>by kernel_rfl⟩
end Go.Proofs.YtnhefmibcnbehaaDoor
namespace Go.Proofs.YtnhefmibcnbehaaDoor
open Go Go.Fm
set_option maxRecDepth 1000000
noncomputable def ane_spec_DefsOk:An:=.q .z (.q .z (.m [(.normal,⟨[],[]⟩),(.ret,⟨[(2, .s K7 [])],[]⟩)] [0] [] (.q .z (.b (.l ⟨[(0, .s K6 [])],[]⟩ ⟨[(3, .s K1 [])],[]⟩ [(.exit 0,⟨[],[]⟩),(.ret,⟨[(2, .s K7 [])],[]⟩)] (λ defs_1 k i_4=>g_spec_DefsOk_l0 defs_1 k i_4) (.q .z (.m [(.normal,⟨[],[]⟩),(.ret,⟨[(2, .s K7 [])],[]⟩)] [3] [] (.b (.q (.m [(.normal,⟨[(30, .s K7 [])],[]⟩)] [] [] .z .z) (.q .z (.b (.l ⟨[(0, .s K6 []),(3, .s K1 [])],[]⟩ ⟨[(4, .s K1 [])],[]⟩ [(.exit 2,⟨[],[]⟩),(.ret,⟨[(2, .s K7 [])],[]⟩)] (λ (defs_1,i_4) k k_12=>g_spec_DefsOk_l1 defs_1 i_4 k k_12) (.q .z (.q (.b (.q .z (.m [(.normal,⟨[(59, .s K7 [])],[.f]⟩)] [4,5] [0] .z .z))) .z))))))) .z))))) .z))
theorem ke_spec_DefsOk:CK [e_spec_NameOk,e_spec_ShapeOk] 0 ane_spec_DefsOk Tryd.f21 e_spec_DefsOk:=⟨⟨trivial,⟨trivial,⟨⟨trivial,⟨λ _ _=>rfl,λ _ _ _ _=>by kernel_rfl,⟨trivial,⟨⟨⟨trivial,trivial⟩,⟨trivial,⟨λ _ _=>rfl,λ _ _ _ _=>by kernel_rfl,⟨trivial,⟨⟨trivial,⟨trivial,trivial⟩⟩,trivial⟩⟩⟩⟩⟩,trivial⟩⟩⟩⟩,trivial⟩⟩⟩,λ _=>by kernel_rfl⟩
noncomputable def ane_spec_l20Put:An:=.q .z (.q .z (.q (.b (.l ⟨[(0, .s K10 []),(1, .s K1 []),(4, .c (.one (.emp)))],[]⟩ ⟨[(5, .s K1 [])],[]⟩ [(.exit 0,⟨[(5, .s K1 [])],[]⟩)] (λ (list_1,n_2) k vat_4=>g_spec_l20Put_l0 list_1 n_2 k vat_4) (.q (.m [(.normal,⟨[(17, .s K7 [])],[]⟩)] [5] [] .z .z) .z))) (.q (.m [(.normal,⟨[(31, .s K7 [])],[]⟩)] [0,1,4,5] [] .z .z) .z)))
theorem ke_spec_l20Put:CK [] 0 ane_spec_l20Put Tryd.f25 e_spec_l20Put:=⟨⟨trivial,⟨trivial,⟨⟨λ _ _=>rfl,λ _ _ _ _=>by kernel_rfl,⟨⟨trivial,trivial⟩,trivial⟩⟩,⟨⟨trivial,trivial⟩,trivial⟩⟩⟩⟩,λ _=>by kernel_rfl⟩
noncomputable def ane_spec_Falls:An:=.z
theorem ke_spec_Falls:CK [e_spec_ShapeOk] 0 ane_spec_Falls Tryd.f24 e_spec_Falls:=⟨trivial,λ _=>by kernel_rfl⟩
noncomputable def ane_spec_l20Put_own:An:=.q .z (.q .z (.q (.b (.l ⟨[(0, .s K10 [(0,0)]),(1, .s K1 []),(4, .c (.one (.emp)))],[.o]⟩ ⟨[(5, .s K1 [])],[.f]⟩ [(.exit 0,⟨[(5, .s K1 [])],[.f]⟩)] (λ (list_1,n_2) k vat_4=>g_spec_l20Put_own_l0 list_1 n_2 k vat_4) (.q (.m [(.normal,⟨[(17, .s K7 [])],[.f]⟩)] [5] [] .z .z) .z))) (.q (.m [(.normal,⟨[(31, .s K7 [])],[.f]⟩)] [0,1,4,5] [0] .z .z) .z)))
theorem ke_spec_l20Put_own:CK [] 1 ane_spec_l20Put_own Tryd.f25 e_spec_l20Put_own:=⟨⟨trivial,⟨trivial,⟨⟨λ _ _=>rfl,λ _ _ _ _=>by kernel_rfl,⟨⟨trivial,trivial⟩,trivial⟩⟩,⟨⟨trivial,trivial⟩,trivial⟩⟩⟩⟩,λ _=>by kernel_rfl⟩
noncomputable def ane_spec_CallsOf_own:An:=.q .z (.q .z (.q .z (.m [(.normal,⟨[(3, .s K10 [(0,1)])],[.d, .o]⟩)] [0,2] [] (.q .z (.b (.l ⟨[(0, .s K4 []),(2, .c (.one (.emp)))],[.n, .n]⟩ ⟨[(3, .s K10 [(0,1)]),(4, .s K1 [])],[.d, .o]⟩ [(.exit 0,⟨[(3, .s K10 [(0,1)])],[.d, .o]⟩)] (λ body_1 k (out_5,i_6)=>g_spec_CallsOf_own_l0 body_1 k out_5 i_6) (.q .z (.m [(.normal,⟨[(3, .s K10 [(0,2)])],[.d, .d, .o]⟩)] [4] [] .z .z))))) .z)))
theorem ke_spec_CallsOf_own:CK [e_spec_ShapeOk,e_spec_l20Put_own] 0 ane_spec_CallsOf_own Tryd.f23 e_spec_CallsOf_own:=⟨⟨trivial,⟨trivial,⟨trivial,⟨⟨trivial,⟨λ _ _=>rfl,λ _ _ _ _=>by kernel_rfl,⟨trivial,⟨trivial,trivial⟩⟩⟩⟩,trivial⟩⟩⟩⟩,λ _=>by kernel_rfl⟩
noncomputable def ane_spec_Reach:An:=.q .z (.q (.m [(.normal,⟨[(23, .s K7 [])],[]⟩)] [0,1,4] [] .z .z) (.q .z (.m [(.normal,⟨[(5, .s K10 [])],[.d]⟩)] [0,4] [] (.q .z (.b (.l ⟨[(0, .s K6 []),(4, .c (.one (.emp)))],[.n]⟩ ⟨[(5, .s K10 []),(6, .s K7 [])],[.d]⟩ [(.exit 0,⟨[(5, .s K10 [])],[.d]⟩)] (λ defs_1 k (out_8,more_9)=>g_spec_Reach_l0 defs_1 k out_8 more_9) (.q .z (.b (.q .z (.m [(.normal,⟨[(5, .s K10 [])],[.d]⟩)] [6,7] [] (.q .z (.b (.l ⟨[(0, .s K6 []),(4, .c (.one (.emp))),(6, .s K7 []),(7, .s K1 [])],[.n]⟩ ⟨[(5, .s K10 []),(8, .s K1 [])],[.d]⟩ [(.exit 2,⟨[(5, .s K10 [])],[.d]⟩)] (λ (defs_1,_,n_12) k (out_13,i_14)=>g_spec_Reach_l1 defs_1 n_12 k out_13 i_14) (.q .z (.m [(.normal,⟨[(5, .s K10 [])],[.d]⟩),(.exit 2,⟨[(5, .s K10 [])],[.d]⟩)] [8] [] (.b (.q .z (.q .z (.m [(.normal,⟨[(10, .s K10 [(0,2)])],[.d, .d, .o]⟩)] [5,9] [] (.m [(.normal,⟨[(56, .s K7 [])],[.d, .f]⟩)] [10] [1] .z .z) (.q .z (.m [(.normal,⟨[(11, .s K10 [])],[.d, .d, .f]⟩)] [5,10] [2] (.q .z (.b (.l ⟨[(0, .s K6 []),(4, .c (.one (.emp))),(5, .s K10 []),(6, .s K7 []),(7, .s K1 []),(8, .s K1 []),(10, .s K10 [(0,2)])],[.n, .n, .o]⟩ ⟨[(11, .s K10 []),(12, .s K1 [])],[.d, .d, .f]⟩ [(.exit 4,⟨[(11, .s K10 [])],[.d, .d, .f]⟩)] (λ (_,_,_,_,_,list_21) k (next_28,j_29)=>g_spec_Reach_l2 list_21 k next_28 j_29) .z))) .z)))))) .z))))) .z))))))) .z)))
theorem ke_spec_Reach:CK [e_spec_DefsOk,e_spec_l01In,e_spec_CallsOf_own,e_spec_Falls,e_spec_l20Put] 0 ane_spec_Reach Tryd.f7 e_spec_Reach:=⟨⟨trivial,⟨⟨trivial,trivial⟩,⟨trivial,⟨⟨trivial,⟨λ _ _=>rfl,λ _ _ _ _=>by kernel_rfl,⟨trivial,⟨trivial,⟨⟨trivial,⟨λ _ _=>rfl,λ _ _ _ _=>by kernel_rfl,⟨trivial,⟨⟨trivial,⟨trivial,⟨⟨trivial,trivial⟩,⟨trivial,⟨⟨trivial,⟨λ _ _=>rfl,λ _ _ _ _=>by kernel_rfl,trivial⟩⟩,trivial⟩⟩⟩⟩⟩,trivial⟩⟩⟩⟩,trivial⟩⟩⟩⟩⟩,trivial⟩⟩⟩⟩,λ _=>by kernel_rfl⟩
noncomputable def ane_spec_l20At:An:=.q .z (.m [(.normal,⟨[],[]⟩),(.ret,⟨[(4, .s K1 [])],[]⟩)] [0,1] [] (.q .z (.b (.l ⟨[(0, .s K10 []),(1, .s K1 [])],[]⟩ ⟨[(5, .s K1 [])],[]⟩ [(.exit 0,⟨[],[]⟩),(.ret,⟨[(4, .s K1 [])],[]⟩)] (λ (list_1,n_2) k i_5=>g_spec_l20At_l0 list_1 n_2 k i_5) .z))) .z)
theorem ke_spec_l20At:CK [] 0 ane_spec_l20At Tryd.f36 e_spec_l20At:=⟨⟨trivial,⟨⟨trivial,⟨λ _ _=>rfl,λ _ _ _ _=>by kernel_rfl,trivial⟩⟩,trivial⟩⟩,λ _=>by kernel_rfl⟩
end Go.Proofs.YtnhefmibcnbehaaDoor
namespace Go.Proofs.YtnhefmibcnbehaaDoor
open Go Go.Fm
set_option maxRecDepth 1000000
noncomputable def ane_spec_Shake:An:=.q .z (.q .z (.q .z (.m [(.normal,⟨[(7, .s K6 [(0,1)])],[.d, .o]⟩)] [0,1,4,5,6] [] (.q .z (.b (.l ⟨[(0, .s K6 []),(1, .s K1 []),(4, .c (.one (.emp))),(5, .s K1 []),(6, .s K10 [])],[.n, .n]⟩ ⟨[(7, .s K6 [(0,1)]),(8, .s K1 [])],[.d, .o]⟩ [(.exit 0,⟨[(7, .s K6 [(0,1)])],[.d, .o]⟩)] (λ (defs_1,_,_,keep_8) k (out_9,i_10)=>g_spec_Shake_l0 defs_1 keep_8 k out_9 i_10) (.q .z (.m [(.normal,⟨[(7, .s K6 [(0,2)])],[.d, .d, .o]⟩)] [8] [] (.b (.q .z (.q .z (.m [(.normal,⟨[(10, .s K4 [])],[.d, .f, .f, .d, .d]⟩)] [7,9] [1,2] (.q .z (.b (.l ⟨[(0, .s K6 []),(1, .s K1 []),(4, .c (.one (.emp))),(5, .s K1 []),(6, .s K10 []),(7, .s K6 [(0,1)]),(8, .s K1 []),(9, .c (.one (.ptr 2 0)))],[.n, .o, .v K5 [], .n, .n]⟩ ⟨[(10, .s K4 [(0,4)]),(11, .s K1 [])],[.d, .f, .f, .d, .o]⟩ [(.exit 2,⟨[(10, .s K4 [(0,4)])],[.d, .f, .f, .d, .o]⟩)] (λ (_,_,_,keep_8,_,_,_) k (body_17,j_18)=>g_spec_Shake_l1 keep_8 k body_17 j_18) (.q .z (.m [(.normal,⟨[(10, .s K4 [(0,4)])],[.d, .f, .f, .d, .o]⟩)] [11] [] .z .z))))) .z)))) .z))))) .z)))
theorem ke_spec_Shake:CK [e_spec_Reach,e_spec_l20At] 0 ane_spec_Shake Tryd.f15 e_spec_Shake:=⟨⟨trivial,⟨trivial,⟨trivial,⟨⟨trivial,⟨λ _ _=>rfl,λ _ _ _ _=>by kernel_rfl,⟨trivial,⟨⟨trivial,⟨trivial,⟨⟨trivial,⟨λ _ _=>rfl,λ _ _ _ _=>by kernel_rfl,⟨trivial,⟨trivial,trivial⟩⟩⟩⟩,trivial⟩⟩⟩,trivial⟩⟩⟩⟩,trivial⟩⟩⟩⟩,λ _=>by kernel_rfl⟩
noncomputable def ane_impl_letters:An:=.z
theorem ke_impl_letters:CK [] 0 ane_impl_letters Tryd.f105 e_impl_letters:=⟨trivial,λ _=>by kernel_rfl⟩
theorem fe_ibytealg_IndexByteString:ConOk Tryd.prog e_ibytealg_IndexByteString:=index_ok (fn:=Tryd.f124) Tryd.func124 (by kernel_rfl) (by kernel_rfl) (by kernel_rfl) (by kernel_rfl)
noncomputable def ane_istringslite_IndexByte:An:=.z
theorem ke_istringslite_IndexByte:CK [e_ibytealg_IndexByteString] 0 ane_istringslite_IndexByte Tryd.f119 e_istringslite_IndexByte:=⟨trivial,λ _=>by kernel_rfl⟩
noncomputable def ane_strings_IndexByte:An:=.z
theorem ke_strings_IndexByte:CK [e_istringslite_IndexByte] 0 ane_strings_IndexByte Tryd.f104 e_strings_IndexByte:=⟨trivial,λ _=>by kernel_rfl⟩
noncomputable def ane_impl_LetterOf:An:=.z
theorem ke_impl_LetterOf:CK [e_impl_letters,e_strings_IndexByte] 0 ane_impl_LetterOf Tryd.f70 e_impl_LetterOf:=⟨trivial,λ _=>by kernel_rfl⟩
noncomputable def ane_impl_within:An:=.z
theorem ke_impl_within:CK [] 0 ane_impl_within Tryd.f28 e_impl_within:=⟨trivial,λ _=>by kernel_rfl⟩
noncomputable def ane_impl_NameOk:An:=.q .z (.m [(.normal,⟨[],[]⟩),(.ret,⟨[(2, .s K7 [])],[]⟩)] [0] [] (.q .z (.b (.l ⟨[(0, .s K0 []),(5, .s K1 [])],[]⟩ ⟨[(6, .s K1 [])],[]⟩ [(.exit 0,⟨[],[]⟩),(.ret,⟨[(2, .s K7 [])],[]⟩)] (λ (s_1,v_4) k v_5=>g_impl_NameOk_l0 s_1 v_4 k v_5) .z))) .z)
theorem ke_impl_NameOk:CK [e_impl_LetterOf,e_impl_within] 0 ane_impl_NameOk Tryd.f50 e_impl_NameOk:=⟨⟨trivial,⟨⟨trivial,⟨λ _ _=>rfl,λ _ _ _ _=>by kernel_rfl,trivial⟩⟩,trivial⟩⟩,λ _=>by kernel_rfl⟩
end Go.Proofs.YtnhefmibcnbehaaDoor
namespace Go.Proofs.YtnhefmibcnbehaaDoor
open Go Go.Fm
set_option maxRecDepth 1000000
noncomputable def ane_strings_Fields:An:=.q .z (.q .z (.q .z (.q .z (.m [(.normal,⟨[(3, .s K1 []),(5, .s K8 [])],[]⟩)] [0,2] [] (.q .z (.b (.l ⟨[(0, .s K0 []),(2, .c (.one (.emp)))],[]⟩ ⟨[(3, .s K1 []),(4, .s K1 []),(5, .s K8 []),(6, .s K1 [])],[]⟩ [(.exit 0,⟨[(3, .s K1 []),(5, .s K8 [])],[]⟩)] (λ s_1 k (n_5,wasSpace_6,setBits_7,i_8)=>g_strings_Fields_l0 s_1 k n_5 wasSpace_6 setBits_7 i_8) .z))) (.q .z (.q .z (.q .z (.q .z (.q .z (.q (.b (.l ⟨[(0, .s K0 []),(2, .c (.one (.emp))),(9, .s K9 [(0,0)]),(10, .s K1 [])],[.o]⟩ ⟨[(12, .s K1 [])],[.f]⟩ [(.exit 2,⟨[(12, .s K1 [])],[.f]⟩)] (λ (s_1,_,_) k i_15=>g_strings_Fields_l1 s_1 k i_15) (.q (.m [(.normal,⟨[(53, .s K7 [])],[.f]⟩)] [12] [] .z .z) .z))) (.q .z (.q (.b (.l ⟨[(0, .s K0 []),(2, .c (.one (.emp)))],[.n]⟩ ⟨[(9, .s K9 [(0,0)]),(10, .s K1 []),(11, .s K1 []),(12, .s K1 [])],[.o]⟩ [(.exit 4,⟨[(9, .s K9 [(0,0)]),(10, .s K1 []),(11, .s K1 [])],[.o]⟩)] (λ s_1 k (a_20,na_21,fieldStart_22,i_23)=>g_strings_Fields_l2 s_1 k a_20 na_21 fieldStart_22 i_23) (.q .z (.b (.q .z (.q .z (.q .z (.q .z (.q (.b (.l ⟨[(0, .s K0 []),(2, .c (.one (.emp))),(9, .s K9 [(0,0)]),(10, .s K1 []),(11, .s K1 [])],[.o]⟩ ⟨[(12, .s K1 [])],[.f]⟩ [(.exit 6,⟨[(12, .s K1 [])],[.f]⟩)] (λ (s_1,_,_,_) k i_33=>g_strings_Fields_l3 s_1 k i_33) (.q (.m [(.normal,⟨[(91, .s K7 [])],[.f]⟩)] [12] [] .z .z) .z))) .z))))))))) (.m [(.normal,⟨[(9, .s K9 [(0,0)])],[.o]⟩)] [0,2,10,11] [] .z .z)))))))))))))
theorem ke_strings_Fields:CK [] 0 ane_strings_Fields Tryd.f122 e_strings_Fields:=⟨⟨trivial,⟨trivial,⟨trivial,⟨trivial,⟨⟨trivial,⟨λ _ _=>rfl,λ _ _ _ _=>by kernel_rfl,trivial⟩⟩,⟨trivial,⟨trivial,⟨trivial,⟨trivial,⟨trivial,⟨⟨λ _ _=>rfl,λ _ _ _ _=>by kernel_rfl,⟨⟨trivial,trivial⟩,trivial⟩⟩,⟨trivial,⟨⟨λ _ _=>rfl,λ _ _ _ _=>by kernel_rfl,⟨trivial,⟨trivial,⟨trivial,⟨trivial,⟨trivial,⟨⟨λ _ _=>rfl,λ _ _ _ _=>by kernel_rfl,⟨⟨trivial,trivial⟩,trivial⟩⟩,trivial⟩⟩⟩⟩⟩⟩⟩,⟨trivial,trivial⟩⟩⟩⟩⟩⟩⟩⟩⟩⟩⟩⟩⟩⟩,λ _=>by kernel_rfl⟩
noncomputable def ane_impl_prims:An:=.z
theorem ke_impl_prims:CK [e_strings_Fields] 0 ane_impl_prims Tryd.f116 e_impl_prims:=⟨trivial,λ _=>by kernel_rfl⟩
noncomputable def ane_impl_PrimName:An:=.z
theorem ke_impl_PrimName:CK [e_impl_prims,e_impl_within] 0 ane_impl_PrimName Tryd.f95 e_impl_PrimName:=⟨trivial,λ _=>by kernel_rfl⟩
noncomputable def ane_impl_opOk:An:=.z
theorem ke_impl_opOk:CK [e_impl_PrimName,e_impl_within] 0 ane_impl_opOk Tryd.f106 e_impl_opOk:=⟨trivial,λ _=>by kernel_rfl⟩
noncomputable def ane_impl_openIn:An:=.q .z (.q .z (.m [(.normal,⟨[(4, .s K10 [(0,1)])],[.d, .o]⟩),(.ret,⟨[(2, .s K10 [(0,1)]),(3, .s K7 [])],[.d, .o]⟩)] [0] [] (.q .z (.b (.l ⟨[(0, .s K4 []),(9, .s K4 []),(10, .s K1 [])],[.n, .n]⟩ ⟨[(4, .s K10 [(0,1)]),(11, .s K1 [])],[.d, .o]⟩ [(.exit 0,⟨[(4, .s K10 [(0,1)])],[.d, .o]⟩),(.ret,⟨[(2, .s K10 [(0,2)]),(3, .s K7 [])],[.d, .d, .o]⟩)] (λ (_,v_7,v_8) k (vopen_9,v_10)=>g_impl_openIn_l0 v_7 v_8 k vopen_9 v_10) (.q .z (.q .z (.m [(.normal,⟨[(4, .s K10 [(0,2)])],[.d, .d, .o]⟩),(.ret,⟨[(2, .s K10 [(0,2)]),(3, .s K7 [])],[.d, .d, .o]⟩)] [11] [] (.b (.q .z (.q .z (.b (.q .z (.q .z (.m [(.normal,⟨[(22, .s K7 [])],[.d, .f, .f]⟩)] [4,6,7] [1,2] .z (.q .z (.m [(.normal,⟨[(41, .s K7 [])],[.d, .f, .f]⟩)] [4,6,7] [1,2] .z (.q (.q (.m [(.normal,⟨[(62, .s K7 [])],[.d, .f, .f]⟩)] [4,6,7] [1,2] .z .z) .z) .z)))))))))) .z)))))) .z))
theorem ke_impl_openIn:CK [e_impl_opOk] 0 ane_impl_openIn Tryd.f71 e_impl_openIn:=⟨⟨trivial,⟨trivial,⟨⟨trivial,⟨λ _ _=>rfl,λ _ _ _ _=>by kernel_rfl,⟨trivial,⟨trivial,⟨⟨trivial,⟨trivial,⟨trivial,⟨trivial,⟨trivial,⟨trivial,⟨trivial,⟨⟨⟨trivial,trivial⟩,trivial⟩,trivial⟩⟩⟩⟩⟩⟩⟩⟩,trivial⟩⟩⟩⟩⟩,trivial⟩⟩⟩,λ _=>by kernel_rfl⟩
noncomputable def ane_impl_ShapeOk:An:=.z
theorem ke_impl_ShapeOk:CK [e_impl_openIn] 0 ane_impl_ShapeOk Tryd.f51 e_impl_ShapeOk:=⟨trivial,λ _=>by kernel_rfl⟩
noncomputable def ane_impl_callsBelowc1:An:=.z
theorem ke_impl_callsBelowc1:CK [] 1 ane_impl_callsBelowc1 Tryd.f73 e_impl_callsBelowc1:=⟨trivial,λ _=>by kernel_rfl⟩
noncomputable def ane_slices_IndexFunc_Op_impl_callsBelowc1:An:=.q .z (.m [(.normal,⟨[],[.f]⟩),(.ret,⟨[(4, .s K1 [])],[.f]⟩)] [0,1] [] (.q .z (.b (.l ⟨[(0, .s K4 []),(1, .c (.one (.fn 73 [(0,0)]))),(7, .s K1 [])],[.v K1 []]⟩ ⟨[(8, .s K1 [])],[.f]⟩ [(.exit 0,⟨[],[.f]⟩),(.ret,⟨[(4, .s K1 [])],[.f]⟩)] (λ (s_1,v_5,c_2) k v_6=>g_slices_IndexFunc_Op_impl_callsBelowc1_l0 s_1 v_5 c_2 k v_6) .z))) .z)
theorem ke_slices_IndexFunc_Op_impl_callsBelowc1:CK [e_impl_callsBelowc1] 1 ane_slices_IndexFunc_Op_impl_callsBelowc1 Tryd.f107 e_slices_IndexFunc_Op_impl_callsBelowc1:=⟨⟨trivial,⟨⟨trivial,⟨λ _ _=>rfl,λ _ _ _ _=>by kernel_rfl,trivial⟩⟩,trivial⟩⟩,λ _=>by kernel_rfl⟩
end Go.Proofs.YtnhefmibcnbehaaDoor
namespace Go.Proofs.YtnhefmibcnbehaaDoor
open Go Go.Fm
set_option maxRecDepth 1000000
noncomputable def ane_slices_ContainsFunc_Op_impl_callsBelowc1:An:=.z
theorem ke_slices_ContainsFunc_Op_impl_callsBelowc1:CK [e_slices_IndexFunc_Op_impl_callsBelowc1] 1 ane_slices_ContainsFunc_Op_impl_callsBelowc1 Tryd.f72 e_slices_ContainsFunc_Op_impl_callsBelowc1:=⟨trivial,λ _=>by kernel_rfl⟩
noncomputable def ane_impl_callsBelow:An:=.z
theorem ke_impl_callsBelow:CK [e_slices_ContainsFunc_Op_impl_callsBelowc1] 0 ane_impl_callsBelow Tryd.f52 e_impl_callsBelow:=⟨trivial,λ _=>by kernel_rfl⟩
noncomputable def ane_impl_DefsOkc1:An:=.z
theorem ke_impl_DefsOkc1:CK [e_impl_NameOk,e_impl_ShapeOk,e_impl_callsBelow] 1 ane_impl_DefsOkc1 Tryd.f49 e_impl_DefsOkc1:=⟨trivial,λ _=>by kernel_rfl⟩
noncomputable def ane_slices_IndexFunc_Def_impl_DefsOkc1:An:=.q .z (.m [(.normal,⟨[],[.f]⟩),(.ret,⟨[(4, .s K1 [])],[.f]⟩)] [0,1] [] (.q .z (.b (.l ⟨[(0, .s K6 []),(1, .c (.one (.fn 49 [(0,0)]))),(7, .s K1 [])],[.v K6 []]⟩ ⟨[(8, .s K1 [])],[.f]⟩ [(.exit 0,⟨[],[.f]⟩),(.ret,⟨[(4, .s K1 [])],[.f]⟩)] (λ (s_1,v_5,c_2) k v_6=>g_slices_IndexFunc_Def_impl_DefsOkc1_l0 s_1 v_5 c_2 k v_6) .z))) .z)
theorem ke_slices_IndexFunc_Def_impl_DefsOkc1:CK [e_impl_DefsOkc1] 1 ane_slices_IndexFunc_Def_impl_DefsOkc1 Tryd.f69 e_slices_IndexFunc_Def_impl_DefsOkc1:=⟨⟨trivial,⟨⟨trivial,⟨λ _ _=>rfl,λ _ _ _ _=>by kernel_rfl,trivial⟩⟩,trivial⟩⟩,λ _=>by kernel_rfl⟩
noncomputable def ane_slices_ContainsFunc_Def_impl_DefsOkc1:An:=.z
theorem ke_slices_ContainsFunc_Def_impl_DefsOkc1:CK [e_slices_IndexFunc_Def_impl_DefsOkc1] 1 ane_slices_ContainsFunc_Def_impl_DefsOkc1 Tryd.f48 e_slices_ContainsFunc_Def_impl_DefsOkc1:=⟨trivial,λ _=>by kernel_rfl⟩
noncomputable def ane_impl_DefsOk:An:=.z
theorem ke_impl_DefsOk:CK [e_slices_ContainsFunc_Def_impl_DefsOkc1] 0 ane_impl_DefsOk Tryd.f27 e_impl_DefsOk:=⟨trivial,λ _=>by kernel_rfl⟩
noncomputable def ane_slices_Index_int:An:=.q .z (.m [(.normal,⟨[],[]⟩),(.ret,⟨[(4, .s K1 [])],[]⟩)] [0,1] [] (.q .z (.b (.l ⟨[(0, .s K10 []),(1, .s K1 []),(7, .s K1 [])],[]⟩ ⟨[(8, .s K1 [])],[]⟩ [(.exit 0,⟨[],[]⟩),(.ret,⟨[(4, .s K1 [])],[]⟩)] (λ (s_1,v_2,v_5) k v_6=>g_slices_Index_int_l0 s_1 v_2 v_5 k v_6) .z))) .z)
theorem ke_slices_Index_int:CK [] 0 ane_slices_Index_int Tryd.f38 e_slices_Index_int:=⟨⟨trivial,⟨⟨trivial,⟨λ _ _=>rfl,λ _ _ _ _=>by kernel_rfl,trivial⟩⟩,trivial⟩⟩,λ _=>by kernel_rfl⟩
noncomputable def ane_slices_Contains_int:An:=.z
theorem ke_slices_Contains_int:CK [e_slices_Index_int] 0 ane_slices_Contains_int Tryd.f31 e_slices_Contains_int:=⟨trivial,λ _=>by kernel_rfl⟩
end Go.Proofs.YtnhefmibcnbehaaDoor
namespace Go.Proofs.YtnhefmibcnbehaaDoor
open Go Go.Fm
set_option maxRecDepth 1000000
theorem fe_slices_Sort_int:ConOk Tryd.prog e_slices_Sort_int:=sort_ok sortLays rfl
noncomputable def ane_impl_callsOf:An:=.q .z (.q .z (.m [(.normal,⟨[(3, .s K10 [(0,1)])],[.d, .o]⟩)] [0,2] [] (.q .z (.b (.l ⟨[(0, .s K4 []),(2, .c (.one (.emp))),(7, .s K4 []),(8, .s K1 [])],[.n, .n]⟩ ⟨[(3, .s K10 [(0,1)]),(9, .s K1 [])],[.d, .o]⟩ [(.exit 0,⟨[(3, .s K10 [(0,1)])],[.d, .o]⟩)] (λ (_,v_4,v_5) k (out_6,v_7)=>g_impl_callsOf_l0 v_4 v_5 k out_6 v_7) (.q .z (.q .z (.m [(.normal,⟨[(3, .s K10 [(0,2)])],[.d, .d, .o]⟩)] [9] [] (.b (.q .z (.m [(.normal,⟨[(23, .s K7 [])],[.d, .f, .f]⟩)] [3,5] [1,2] .z .z))) .z)))))) .z))
theorem ke_impl_callsOf:CK [e_slices_Contains_int,e_slices_Sort_int] 0 ane_impl_callsOf Tryd.f29 e_impl_callsOf:=⟨⟨trivial,⟨trivial,⟨⟨trivial,⟨λ _ _=>rfl,λ _ _ _ _=>by kernel_rfl,⟨trivial,⟨trivial,⟨⟨trivial,⟨trivial,trivial⟩⟩,trivial⟩⟩⟩⟩⟩,trivial⟩⟩⟩,λ _=>by kernel_rfl⟩
noncomputable def ane_impl_Falls:An:=.z
theorem ke_impl_Falls:CK [e_impl_ShapeOk] 0 ane_impl_Falls Tryd.f30 e_impl_Falls:=⟨trivial,λ _=>by kernel_rfl⟩
noncomputable def ane_impl_Reach:An:=.q .z (.q (.m [(.normal,⟨[(21, .s K7 [])],[]⟩)] [0,1,4] [] .z .z) (.q .z (.m [(.normal,⟨[(5, .s K10 [(0,1)])],[.d, .o]⟩)] [0,4] [] (.q .z (.b (.l ⟨[(0, .s K6 []),(4, .c (.one (.emp)))],[.n, .n]⟩ ⟨[(5, .s K10 [(0,1)]),(6, .s K1 [])],[.d, .o]⟩ [(.exit 0,⟨[(5, .s K10 [(0,1)])],[.d, .o]⟩)] (λ defs_1 k (out_8,i_9)=>g_impl_Reach_l0 defs_1 k out_8 i_9) (.q .z (.m [(.normal,⟨[(5, .s K10 [(0,2)])],[.d, .d, .o]⟩)] [6] [] (.b (.q .z (.q .z (.m [(.normal,⟨[(8, .s K10 [(0,3)])],[.d, .f, .d, .o]⟩)] [5,7] [1] (.m [(.normal,⟨[(52, .s K7 [])],[.d, .f, .f]⟩)] [8] [2] .z .z) (.q .z (.b (.l ⟨[(0, .s K6 []),(4, .c (.one (.emp))),(6, .s K1 []),(58, .s K10 [(0,3)]),(59, .s K1 [])],[.n, .n, .n, .o, .n]⟩ ⟨[(5, .s K10 [(0,4)]),(60, .s K1 [])],[.d, .d, .d, .f, .o]⟩ [(.exit 2,⟨[(5, .s K10 [(0,4)])],[.d, .d, .d, .f, .o]⟩)] (λ (_,_,list_15,v_20) k (out_21,v_22)=>g_impl_Reach_l1 list_15 v_20 k out_21 v_22) (.q .z (.q .z (.m [(.normal,⟨[(5, .s K10 [(0,5)])],[.d, .d, .d, .f, .d, .o]⟩)] [60] [] .z .z)))))))))) .z))))) .z)))
theorem ke_impl_Reach:CK [e_impl_DefsOk,e_impl_within,e_impl_callsOf,e_impl_Falls,e_slices_Contains_int,e_slices_Sort_int] 0 ane_impl_Reach Tryd.f9 e_impl_Reach:=⟨⟨trivial,⟨⟨trivial,trivial⟩,⟨trivial,⟨⟨trivial,⟨λ _ _=>rfl,λ _ _ _ _=>by kernel_rfl,⟨trivial,⟨⟨trivial,⟨trivial,⟨⟨trivial,trivial⟩,⟨trivial,⟨λ _ _=>rfl,λ _ _ _ _=>by kernel_rfl,⟨trivial,⟨trivial,⟨trivial,trivial⟩⟩⟩⟩⟩⟩⟩⟩,trivial⟩⟩⟩⟩,trivial⟩⟩⟩⟩,λ _=>by kernel_rfl⟩
theorem fe_slices_Clone_Op:ConOk Tryd.prog e_slices_Clone_Op:=clone_own (P:=λ _=>Tryd.prog) (τ:=K3) TrydT_eq Tryd.func37 rfl rfl ⟨by kernel_rfl,by kernel_rfl,by kernel_rfl⟩ (congrArg TyI.kind TrydT_43) (λ a=>by kernel_rfl)
noncomputable def ane_laws_eqOp:An:=.z
theorem ke_laws_eqOp:CK [] 0 ane_laws_eqOp Tryd.f85 e_laws_eqOp:=⟨trivial,λ _=>by kernel_rfl⟩
noncomputable def ane_laws_eqOpS:An:=.q .z (.q .z (.m [(.normal,⟨[],[]⟩),(.ret,⟨[(4, .s K7 [])],[]⟩)] [0,1] [] (.q .z (.b (.l ⟨[(0, .s K4 []),(1, .s K4 [])],[]⟩ ⟨[(5, .s K1 [])],[]⟩ [(.exit 0,⟨[],[]⟩),(.ret,⟨[(4, .s K7 [])],[]⟩)] (λ (a_1,b_2) k i_5=>g_laws_eqOpS_l0 a_1 b_2 k i_5) .z))) .z))
theorem ke_laws_eqOpS:CK [e_laws_eqOp] 0 ane_laws_eqOpS Tryd.f55 e_laws_eqOpS:=⟨⟨trivial,⟨trivial,⟨⟨trivial,⟨λ _ _=>rfl,λ _ _ _ _=>by kernel_rfl,trivial⟩⟩,trivial⟩⟩⟩,λ _=>by kernel_rfl⟩
end Go.Proofs.YtnhefmibcnbehaaDoor
namespace Go.Proofs.YtnhefmibcnbehaaDoor
open Go Go.Fm
set_option maxRecDepth 1000000
noncomputable def ane_laws_eqDef:An:=.z
theorem ke_laws_eqDef:CK [e_laws_eqOpS] 0 ane_laws_eqDef Tryd.f33 e_laws_eqDef:=⟨trivial,λ _=>by kernel_rfl⟩
noncomputable def ane_laws_eqDefS:An:=.q .z (.q .z (.m [(.normal,⟨[],[]⟩),(.ret,⟨[(4, .s K7 [])],[]⟩)] [0,1] [] (.q .z (.b (.l ⟨[(0, .s K6 []),(1, .s K6 [])],[]⟩ ⟨[(5, .s K1 [])],[]⟩ [(.exit 0,⟨[],[]⟩),(.ret,⟨[(4, .s K7 [])],[]⟩)] (λ (a_1,b_2) k i_5=>g_laws_eqDefS_l0 a_1 b_2 k i_5) .z))) .z))
theorem ke_laws_eqDefS:CK [e_laws_eqDef] 0 ane_laws_eqDefS Tryd.f11 e_laws_eqDefS:=⟨⟨trivial,⟨trivial,⟨⟨trivial,⟨λ _ _=>rfl,λ _ _ _ _=>by kernel_rfl,trivial⟩⟩,trivial⟩⟩⟩,λ _=>by kernel_rfl⟩
noncomputable def ane_impl_Shake_deep:An:=.q .z (.q .z (.q .z (.q .z (.m [(.normal,⟨[(7, .s K6 [(0,2)])],[.f, .d, .od]⟩)] [0,1,4,5,6] [0] (.q .z (.b (.l ⟨[(0, .s K6 []),(1, .s K1 []),(4, .c (.one (.emp))),(5, .s K1 []),(6, .s K10 [(0,0)]),(20, .s K10 [(0,0)]),(21, .s K1 [])],[.o, .n, .n]⟩ ⟨[(7, .s K6 [(0,2)]),(22, .s K1 [])],[.f, .d, .od]⟩ [(.exit 0,⟨[(7, .s K6 [(0,2)])],[.f, .d, .od]⟩)] (λ (defs_1,_,_,list_8,_,v_10) k (out_11,v_12)=>g_impl_Shake_deep_l0 defs_1 list_8 v_10 k out_11 v_12) (.q .z (.q .z (.m [(.normal,⟨[(7, .s K6 [(0,3)])],[.f, .d, .d, .od]⟩)] [22] [] (.b (.q .z (.q .z (.m [(.normal,⟨[(10, .s K4 [(0,3)])],[.f, .d, .f, .o]⟩)] [7,9] [2] (.q .z (.b (.l ⟨[(0, .s K6 []),(1, .s K1 []),(4, .c (.one (.emp))),(5, .s K1 []),(6, .s K10 [(0,0)]),(7, .s K6 [(0,2)]),(9, .s K1 []),(20, .s K10 [(0,0)]),(21, .s K1 []),(22, .s K1 []),(33, .s K1 [])],[.o, .n, .od, .n]⟩ ⟨[(10, .s K4 [(0,3)]),(32, .s K4 [(0,3)]),(34, .s K1 [])],[.f, .d, .f, .o]⟩ [(.exit 2,⟨[(10, .s K4 [(0,3)])],[.f, .d, .f, .o]⟩)] (λ (_,_,_,list_8,_,_,_,_,_,v_20) k (body_21,v_22,v_23)=>g_impl_Shake_deep_l1 list_8 v_20 k body_21 v_22 v_23) (.q .z (.q .z (.m [(.normal,⟨[(10, .s K4 [(0,3)]),(32, .s K4 [(0,3)])],[.f, .d, .f, .o]⟩)] [34] [] .z .z)))))) .z)))) .z)))))) .z))))
theorem ke_impl_Shake_deep:CK [e_impl_Reach,e_slices_Clone_Op,e_slices_Index_int] 0 ane_impl_Shake_deep Tryd.f16 e_impl_Shake_deep:=⟨⟨trivial,⟨trivial,⟨trivial,⟨trivial,⟨⟨trivial,⟨λ _ _=>rfl,λ _ _ _ _=>by kernel_rfl,⟨trivial,⟨trivial,⟨⟨trivial,⟨trivial,⟨⟨trivial,⟨λ _ _=>rfl,λ _ _ _ _=>by kernel_rfl,⟨trivial,⟨trivial,⟨trivial,trivial⟩⟩⟩⟩⟩,trivial⟩⟩⟩,trivial⟩⟩⟩⟩⟩,trivial⟩⟩⟩⟩⟩,λ _=>by kernel_rfl⟩
noncomputable def ane_laws_markText:An:=.q .z (.q .z (.q .z (.q (.b (.l ⟨[(2, .s K0 [])],[]⟩ ⟨[(0, .s K1 []),(3, .s K0 [])],[]⟩ [(.exit 0,⟨[(3, .s K0 [])],[]⟩)] (λ _ k (k_4,out_5)=>g_laws_markText_l0 k k_4 out_5) .z)) .z)))
theorem ke_laws_markText:CK [] 0 ane_laws_markText Tryd.f34 e_laws_markText:=⟨⟨trivial,⟨trivial,⟨trivial,⟨⟨λ _ _=>rfl,λ _ _ _ _=>by kernel_rfl,trivial⟩,trivial⟩⟩⟩⟩,λ _=>by kernel_rfl⟩
noncomputable def ane_laws_markOpS:An:=.q .z (.m [(.normal,⟨[(1, .s K1 [])],[.r K3]⟩)] [4] [] (.q .z (.b (.l ⟨[(4, .s K1 [])],[.n]⟩ ⟨[(0, .s K4 [(0,0)]),(1, .s K1 []),(5, .s K1 [])],[.o]⟩ [(.exit 0,⟨[(1, .s K1 [])],[.r K3]⟩)] (λ _ k (a_8,k_9,i_10)=>g_laws_markOpS_l0 k a_8 k_9 i_10) .z))) .z)
theorem ke_laws_markOpS:CK [] 1 ane_laws_markOpS Tryd.f35 e_laws_markOpS:=⟨⟨trivial,⟨⟨trivial,⟨λ _ _=>rfl,λ _ _ _ _=>by kernel_rfl,trivial⟩⟩,trivial⟩⟩,λ _=>by kernel_rfl⟩
noncomputable def ane_laws_markDefS:An:=.q .z (.m [(.normal,⟨[(1, .s K1 [])],[.rd K5]⟩)] [4] [] (.q .z (.b (.l ⟨[(4, .s K1 [])],[.n]⟩ ⟨[(0, .s K6 [(0,0)]),(1, .s K1 []),(5, .s K1 [])],[.od]⟩ [(.exit 0,⟨[(1, .s K1 [])],[.rd K5]⟩)] (λ _ k (a_8,k_9,i_10)=>g_laws_markDefS_l0 k a_8 k_9 i_10) .z))) .z)
theorem ke_laws_markDefS:CK [e_laws_markText,e_laws_markOpS] 1 ane_laws_markDefS Tryd.f12 e_laws_markDefS:=⟨⟨trivial,⟨⟨trivial,⟨λ _ _=>rfl,λ _ _ _ _=>by kernel_rfl,trivial⟩⟩,trivial⟩⟩,λ _=>by kernel_rfl⟩
noncomputable def ane_laws_heldOpS:An:=.q .z (.m [(.normal,⟨[(1, .s K1 [])],[]⟩),(.ret,⟨[(4, .s K1 [])],[]⟩)] [0] [] (.q .z (.b (.l ⟨[(0, .s K4 [])],[]⟩ ⟨[(1, .s K1 []),(5, .s K1 [])],[]⟩ [(.exit 0,⟨[(1, .s K1 [])],[]⟩),(.ret,⟨[(4, .s K1 [])],[]⟩)] (λ a_1 k (k_6,i_7)=>g_laws_heldOpS_l0 a_1 k k_6 i_7) .z))) .z)
theorem ke_laws_heldOpS:CK [] 0 ane_laws_heldOpS Tryd.f39 e_laws_heldOpS:=⟨⟨trivial,⟨⟨trivial,⟨λ _ _=>rfl,λ _ _ _ _=>by kernel_rfl,trivial⟩⟩,trivial⟩⟩,λ _=>by kernel_rfl⟩
noncomputable def ane_laws_heldDefS:An:=.q .z (.m [(.normal,⟨[(1, .s K1 [])],[]⟩),(.ret,⟨[(4, .s K1 [])],[]⟩)] [0] [] (.q .z (.b (.l ⟨[(0, .s K6 [])],[]⟩ ⟨[(1, .s K1 []),(5, .s K1 [])],[]⟩ [(.exit 0,⟨[(1, .s K1 [])],[]⟩),(.ret,⟨[(4, .s K1 [])],[]⟩)] (λ a_1 k (k_6,i_7)=>g_laws_heldDefS_l0 a_1 k k_6 i_7) .z))) .z)
theorem ke_laws_heldDefS:CK [e_laws_markText,e_laws_heldOpS] 0 ane_laws_heldDefS Tryd.f17 e_laws_heldDefS:=⟨⟨trivial,⟨⟨trivial,⟨λ _ _=>rfl,λ _ _ _ _=>by kernel_rfl,trivial⟩⟩,trivial⟩⟩,λ _=>by kernel_rfl⟩
end Go.Proofs.YtnhefmibcnbehaaDoor
namespace Go.Proofs.YtnhefmibcnbehaaDoor
open Go Go.Fm
set_option maxRecDepth 1000000
noncomputable def ane_laws_FnExactShake:An:=.q .z (.q .z (.q .z (.q .z (.q .z (.q .z (.q .z (.q (.m [(.normal,⟨[(44, .s K7 [])],[.d, .f, .f, .f]⟩)] [0,1,4,6,7,8,9,10] [1,2,3] .z .z) (.q .z (.q .z (.q .z (.q (.m [(.normal,⟨[(65, .s K7 [])],[.d, .f, .d, .f, .d]⟩)] [0,1,4,6,7,9,10,11] [1,3] .z .z) (.q .z (.q .z (.q .z (.q .z (.q .z (.q .z (.q .z (.q (.m [(.normal,⟨[(92, .s K7 [])],[.d, .f, .d, .f, .d, .d, .f]⟩)] [4,6,7,9,12,14,15] [1,3,6] .z .z) .z)))))))))))))))))))
theorem ke_laws_FnExactShake:CK [e_laws_szDefS,e_laws_toDefS,e_spec_Shake,e_impl_Shake_deep,e_laws_eqDefS,e_laws_markDefS,e_laws_heldDefS] 0 ane_laws_FnExactShake Tryd.f4 e_laws_FnExactShake:=⟨⟨trivial,⟨trivial,⟨trivial,⟨trivial,⟨trivial,⟨trivial,⟨trivial,⟨⟨trivial,trivial⟩,⟨trivial,⟨trivial,⟨trivial,⟨⟨trivial,trivial⟩,⟨trivial,⟨trivial,⟨trivial,⟨trivial,⟨trivial,⟨trivial,⟨trivial,⟨⟨trivial,trivial⟩,trivial⟩⟩⟩⟩⟩⟩⟩⟩⟩⟩⟩⟩⟩⟩⟩⟩⟩⟩⟩⟩,λ _=>by kernel_rfl⟩
end Go.Proofs.YtnhefmibcnbehaaDoor
namespace Go.Proofs.YtnhefmibcnbehaaDoor
open Go Go.Fm
set_option maxRecDepth 1000000
theorem ce_laws_szOpS:CO e_laws_szOpS:=fnc (λ _=>con_nil) Tryd.func44 ke_laws_szOpS (by kernel_rfl) (λ _=>by kernel_rfl) (λ _=>by kernel_rfl) rfl
theorem ce_laws_szDef:CO e_laws_szDef:=fnc (λ _=>con_cons ce_laws_szOpS con_nil) Tryd.func20 ke_laws_szDef (by kernel_rfl) (λ _=>by kernel_rfl) (λ _=>by kernel_rfl) rfl
theorem ce_laws_szDefS:CO e_laws_szDefS:=fnc (λ _=>con_cons ce_laws_szDef con_nil) Tryd.func6 ke_laws_szDefS (by kernel_rfl) (λ _=>by kernel_rfl) (λ _=>by kernel_rfl) rfl
theorem ce_laws_toOp:CO e_laws_toOp:=fnc (λ _=>con_nil) Tryd.func68 ke_laws_toOp (by kernel_rfl) (λ _=>by kernel_rfl) (λ _=>by kernel_rfl) rfl
theorem ce_laws_toOpS:CO e_laws_toOpS:=fnc (λ _=>con_cons ce_laws_toOp con_nil) Tryd.func47 ke_laws_toOpS (by kernel_rfl) (λ _=>by kernel_rfl) (λ _=>by kernel_rfl) rfl
theorem ce_laws_toDef:CO e_laws_toDef:=fnc (λ _=>con_cons ce_laws_toOpS con_nil) Tryd.func26 ke_laws_toDef (by kernel_rfl) (λ _=>by kernel_rfl) (λ _=>by kernel_rfl) rfl
theorem ce_laws_toDefS:CO e_laws_toDefS:=fnc (λ _=>con_cons ce_laws_toDef con_nil) Tryd.func8 ke_laws_toDefS (by kernel_rfl) (λ _=>by kernel_rfl) (λ _=>by kernel_rfl) rfl
theorem ce_spec_l01In:CO e_spec_l01In:=fnc (λ _=>con_nil) Tryd.func22 ke_spec_l01In (by kernel_rfl) (λ _=>by kernel_rfl) (λ _=>by kernel_rfl) rfl
theorem ce_spec_l02All:CO e_spec_l02All:=fnc (λ _=>con_nil) Tryd.func102 ke_spec_l02All (by kernel_rfl) (λ _=>by kernel_rfl) (λ _=>by kernel_rfl) rfl
theorem ce_spec_LetterOf:CO e_spec_LetterOf:=fnc (λ _=>con_cons ce_spec_l02All con_nil) Tryd.func65 ke_spec_LetterOf (by kernel_rfl) (λ _=>by kernel_rfl) (λ _=>by kernel_rfl) rfl
theorem ce_spec_NameOk:CO e_spec_NameOk:=fnc (λ _=>con_cons ce_spec_l01In (con_cons ce_spec_LetterOf con_nil)) Tryd.func45 ke_spec_NameOk (by kernel_rfl) (λ _=>by kernel_rfl) (λ _=>by kernel_rfl) rfl
theorem ce_spec_l08Names:CO e_spec_l08Names:=fnc (λ _=>con_nil) Tryd.func118 ke_spec_l08Names (by kernel_rfl) (λ _=>by kernel_rfl) (λ _=>by kernel_rfl) rfl
theorem ce_spec_PrimName:CO e_spec_PrimName:=fnc (λ _=>con_cons ce_spec_l08Names (con_cons ce_spec_l01In con_nil)) Tryd.func103 ke_spec_PrimName (by kernel_rfl) (λ _=>by kernel_rfl) (λ _=>by kernel_rfl) rfl
theorem ce_spec_l09Op:CO e_spec_l09Op:=fnc (λ _=>con_cons ce_spec_PrimName (con_cons ce_spec_l01In con_nil)) Tryd.func66 ke_spec_l09Op (by kernel_rfl) (λ _=>by kernel_rfl) (λ _=>by kernel_rfl) rfl
theorem ce_spec_l09Open:CO e_spec_l09Open:=fnc (λ _=>con_nil) Tryd.func67 ke_spec_l09Open (by kernel_rfl) (λ _=>by kernel_rfl) (λ _=>by kernel_rfl) rfl
theorem ce_spec_ShapeOk:CO e_spec_ShapeOk:=fnc (λ _=>con_cons ce_spec_l09Op (con_cons ce_spec_l09Open con_nil)) Tryd.func46 ke_spec_ShapeOk (by kernel_rfl) (λ _=>by kernel_rfl) (λ _=>by kernel_rfl) rfl
theorem ce_spec_DefsOk:CO e_spec_DefsOk:=fnc (λ _=>con_cons ce_spec_NameOk (con_cons ce_spec_ShapeOk con_nil)) Tryd.func21 ke_spec_DefsOk (by kernel_rfl) (λ _=>by kernel_rfl) (λ _=>by kernel_rfl) rfl
theorem ce_spec_l20Put:CO e_spec_l20Put:=fnc (λ _=>con_nil) Tryd.func25 ke_spec_l20Put (by kernel_rfl) (λ _=>by kernel_rfl) (λ _=>by kernel_rfl) rfl
theorem ce_spec_Falls:CO e_spec_Falls:=fnc (λ _=>con_cons ce_spec_ShapeOk con_nil) Tryd.func24 ke_spec_Falls (by kernel_rfl) (λ _=>by kernel_rfl) (λ _=>by kernel_rfl) rfl
theorem ce_spec_l20Put_own:CO e_spec_l20Put_own:=fnc (λ _=>con_nil) Tryd.func25 ke_spec_l20Put_own (by kernel_rfl) (λ _=>by kernel_rfl) (λ _=>by kernel_rfl) rfl
theorem ce_spec_CallsOf_own:CO e_spec_CallsOf_own:=fnc (λ _=>con_cons ce_spec_ShapeOk (con_cons ce_spec_l20Put_own con_nil)) Tryd.func23 ke_spec_CallsOf_own (by kernel_rfl) (λ _=>by kernel_rfl) (λ _=>by kernel_rfl) rfl
theorem ce_spec_Reach:CO e_spec_Reach:=fnc (λ _=>con_cons ce_spec_DefsOk (con_cons ce_spec_l01In (con_cons ce_spec_CallsOf_own (con_cons ce_spec_Falls (con_cons ce_spec_l20Put con_nil))))) Tryd.func7 ke_spec_Reach (by kernel_rfl) (λ _=>by kernel_rfl) (λ _=>by kernel_rfl) rfl
theorem ce_spec_l20At:CO e_spec_l20At:=fnc (λ _=>con_nil) Tryd.func36 ke_spec_l20At (by kernel_rfl) (λ _=>by kernel_rfl) (λ _=>by kernel_rfl) rfl
theorem ce_spec_Shake:CO e_spec_Shake:=fnc (λ _=>con_cons ce_spec_Reach (con_cons ce_spec_l20At con_nil)) Tryd.func15 ke_spec_Shake (by kernel_rfl) (λ _=>by kernel_rfl) (λ _=>by kernel_rfl) rfl
theorem ce_impl_letters:CO e_impl_letters:=fnc (λ _=>con_nil) Tryd.func105 ke_impl_letters (by kernel_rfl) (λ _=>by kernel_rfl) (λ _=>by kernel_rfl) rfl
theorem ce_ibytealg_IndexByteString:ConOk Tryd.prog e_ibytealg_IndexByteString:=fe_ibytealg_IndexByteString
theorem ce_istringslite_IndexByte:CO e_istringslite_IndexByte:=fnc (λ _=>con_cons ce_ibytealg_IndexByteString con_nil) Tryd.func119 ke_istringslite_IndexByte (by kernel_rfl) (λ _=>by kernel_rfl) (λ _=>by kernel_rfl) rfl
theorem ce_strings_IndexByte:CO e_strings_IndexByte:=fnc (λ _=>con_cons ce_istringslite_IndexByte con_nil) Tryd.func104 ke_strings_IndexByte (by kernel_rfl) (λ _=>by kernel_rfl) (λ _=>by kernel_rfl) rfl
theorem ce_impl_LetterOf:CO e_impl_LetterOf:=fnc (λ _=>con_cons ce_impl_letters (con_cons ce_strings_IndexByte con_nil)) Tryd.func70 ke_impl_LetterOf (by kernel_rfl) (λ _=>by kernel_rfl) (λ _=>by kernel_rfl) rfl
theorem ce_impl_within:CO e_impl_within:=fnc (λ _=>con_nil) Tryd.func28 ke_impl_within (by kernel_rfl) (λ _=>by kernel_rfl) (λ _=>by kernel_rfl) rfl
theorem ce_impl_NameOk:CO e_impl_NameOk:=fnc (λ _=>con_cons ce_impl_LetterOf (con_cons ce_impl_within con_nil)) Tryd.func50 ke_impl_NameOk (by kernel_rfl) (λ _=>by kernel_rfl) (λ _=>by kernel_rfl) rfl
theorem ce_strings_Fields:CO e_strings_Fields:=fnc (λ _=>con_nil) Tryd.func122 ke_strings_Fields (by kernel_rfl) (λ _=>by kernel_rfl) (λ _=>by kernel_rfl) rfl
theorem ce_impl_prims:CO e_impl_prims:=fnc (λ _=>con_cons ce_strings_Fields con_nil) Tryd.func116 ke_impl_prims (by kernel_rfl) (λ _=>by kernel_rfl) (λ _=>by kernel_rfl) rfl
theorem ce_impl_PrimName:CO e_impl_PrimName:=fnc (λ _=>con_cons ce_impl_prims (con_cons ce_impl_within con_nil)) Tryd.func95 ke_impl_PrimName (by kernel_rfl) (λ _=>by kernel_rfl) (λ _=>by kernel_rfl) rfl
theorem ce_impl_opOk:CO e_impl_opOk:=fnc (λ _=>con_cons ce_impl_PrimName (con_cons ce_impl_within con_nil)) Tryd.func106 ke_impl_opOk (by kernel_rfl) (λ _=>by kernel_rfl) (λ _=>by kernel_rfl) rfl
theorem ce_impl_openIn:CO e_impl_openIn:=fnc (λ _=>con_cons ce_impl_opOk con_nil) Tryd.func71 ke_impl_openIn (by kernel_rfl) (λ _=>by kernel_rfl) (λ _=>by kernel_rfl) rfl
theorem ce_impl_ShapeOk:CO e_impl_ShapeOk:=fnc (λ _=>con_cons ce_impl_openIn con_nil) Tryd.func51 ke_impl_ShapeOk (by kernel_rfl) (λ _=>by kernel_rfl) (λ _=>by kernel_rfl) rfl
theorem ce_impl_callsBelowc1:CO e_impl_callsBelowc1:=fnc (λ _=>con_nil) Tryd.func73 ke_impl_callsBelowc1 (by kernel_rfl) (λ _=>by kernel_rfl) (λ _=>by kernel_rfl) rfl
theorem ce_slices_IndexFunc_Op_impl_callsBelowc1:CO e_slices_IndexFunc_Op_impl_callsBelowc1:=fnc (λ _=>con_cons ce_impl_callsBelowc1 con_nil) Tryd.func107 ke_slices_IndexFunc_Op_impl_callsBelowc1 (by kernel_rfl) (λ _=>by kernel_rfl) (λ _=>by kernel_rfl) rfl
theorem ce_slices_ContainsFunc_Op_impl_callsBelowc1:CO e_slices_ContainsFunc_Op_impl_callsBelowc1:=fnc (λ _=>con_cons ce_slices_IndexFunc_Op_impl_callsBelowc1 con_nil) Tryd.func72 ke_slices_ContainsFunc_Op_impl_callsBelowc1 (by kernel_rfl) (λ _=>by kernel_rfl) (λ _=>by kernel_rfl) rfl
theorem ce_impl_callsBelow:CO e_impl_callsBelow:=fnc (λ _=>con_cons ce_slices_ContainsFunc_Op_impl_callsBelowc1 con_nil) Tryd.func52 ke_impl_callsBelow (by kernel_rfl) (λ _=>by kernel_rfl) (λ _=>by kernel_rfl) rfl
theorem ce_impl_DefsOkc1:CO e_impl_DefsOkc1:=fnc (λ _=>con_cons ce_impl_NameOk (con_cons ce_impl_ShapeOk (con_cons ce_impl_callsBelow con_nil))) Tryd.func49 ke_impl_DefsOkc1 (by kernel_rfl) (λ _=>by kernel_rfl) (λ _=>by kernel_rfl) rfl
theorem ce_slices_IndexFunc_Def_impl_DefsOkc1:CO e_slices_IndexFunc_Def_impl_DefsOkc1:=fnc (λ _=>con_cons ce_impl_DefsOkc1 con_nil) Tryd.func69 ke_slices_IndexFunc_Def_impl_DefsOkc1 (by kernel_rfl) (λ _=>by kernel_rfl) (λ _=>by kernel_rfl) rfl
theorem ce_slices_ContainsFunc_Def_impl_DefsOkc1:CO e_slices_ContainsFunc_Def_impl_DefsOkc1:=fnc (λ _=>con_cons ce_slices_IndexFunc_Def_impl_DefsOkc1 con_nil) Tryd.func48 ke_slices_ContainsFunc_Def_impl_DefsOkc1 (by kernel_rfl) (λ _=>by kernel_rfl) (λ _=>by kernel_rfl) rfl
theorem ce_impl_DefsOk:CO e_impl_DefsOk:=fnc (λ _=>con_cons ce_slices_ContainsFunc_Def_impl_DefsOkc1 con_nil) Tryd.func27 ke_impl_DefsOk (by kernel_rfl) (λ _=>by kernel_rfl) (λ _=>by kernel_rfl) rfl
theorem ce_slices_Index_int:CO e_slices_Index_int:=fnc (λ _=>con_nil) Tryd.func38 ke_slices_Index_int (by kernel_rfl) (λ _=>by kernel_rfl) (λ _=>by kernel_rfl) rfl
theorem ce_slices_Contains_int:CO e_slices_Contains_int:=fnc (λ _=>con_cons ce_slices_Index_int con_nil) Tryd.func31 ke_slices_Contains_int (by kernel_rfl) (λ _=>by kernel_rfl) (λ _=>by kernel_rfl) rfl
theorem ce_slices_Sort_int:ConOk Tryd.prog e_slices_Sort_int:=fe_slices_Sort_int
theorem ce_impl_callsOf:CO e_impl_callsOf:=fnc (λ _=>con_cons ce_slices_Contains_int (con_cons ce_slices_Sort_int con_nil)) Tryd.func29 ke_impl_callsOf (by kernel_rfl) (λ _=>by kernel_rfl) (λ _=>by kernel_rfl) rfl
theorem ce_impl_Falls:CO e_impl_Falls:=fnc (λ _=>con_cons ce_impl_ShapeOk con_nil) Tryd.func30 ke_impl_Falls (by kernel_rfl) (λ _=>by kernel_rfl) (λ _=>by kernel_rfl) rfl
theorem ce_impl_Reach:CO e_impl_Reach:=fnc (λ _=>con_cons ce_impl_DefsOk (con_cons ce_impl_within (con_cons ce_impl_callsOf (con_cons ce_impl_Falls (con_cons ce_slices_Contains_int (con_cons ce_slices_Sort_int con_nil)))))) Tryd.func9 ke_impl_Reach (by kernel_rfl) (λ _=>by kernel_rfl) (λ _=>by kernel_rfl) rfl
theorem ce_slices_Clone_Op:ConOk Tryd.prog e_slices_Clone_Op:=fe_slices_Clone_Op
theorem ce_laws_eqOp:CO e_laws_eqOp:=fnc (λ _=>con_nil) Tryd.func85 ke_laws_eqOp (by kernel_rfl) (λ _=>by kernel_rfl) (λ _=>by kernel_rfl) rfl
theorem ce_laws_eqOpS:CO e_laws_eqOpS:=fnc (λ _=>con_cons ce_laws_eqOp con_nil) Tryd.func55 ke_laws_eqOpS (by kernel_rfl) (λ _=>by kernel_rfl) (λ _=>by kernel_rfl) rfl
theorem ce_laws_eqDef:CO e_laws_eqDef:=fnc (λ _=>con_cons ce_laws_eqOpS con_nil) Tryd.func33 ke_laws_eqDef (by kernel_rfl) (λ _=>by kernel_rfl) (λ _=>by kernel_rfl) rfl
theorem ce_laws_eqDefS:CO e_laws_eqDefS:=fnc (λ _=>con_cons ce_laws_eqDef con_nil) Tryd.func11 ke_laws_eqDefS (by kernel_rfl) (λ _=>by kernel_rfl) (λ _=>by kernel_rfl) rfl
theorem ce_impl_Shake_deep:CO e_impl_Shake_deep:=fnc (λ _=>con_cons ce_impl_Reach (con_cons ce_slices_Clone_Op (con_cons ce_slices_Index_int con_nil))) Tryd.func16 ke_impl_Shake_deep (by kernel_rfl) (λ _=>by kernel_rfl) (λ _=>by kernel_rfl) rfl
theorem ce_laws_markText:CO e_laws_markText:=fnc (λ _=>con_nil) Tryd.func34 ke_laws_markText (by kernel_rfl) (λ _=>by kernel_rfl) (λ _=>by kernel_rfl) rfl
theorem ce_laws_markOpS:CO e_laws_markOpS:=fnc (λ _=>con_nil) Tryd.func35 ke_laws_markOpS (by kernel_rfl) (λ _=>by kernel_rfl) (λ _=>by kernel_rfl) rfl
theorem ce_laws_markDefS:CO e_laws_markDefS:=fnc (λ _=>con_cons ce_laws_markText (con_cons ce_laws_markOpS con_nil)) Tryd.func12 ke_laws_markDefS (by kernel_rfl) (λ _=>by kernel_rfl) (λ _=>by kernel_rfl) rfl
theorem ce_laws_heldOpS:CO e_laws_heldOpS:=fnc (λ _=>con_nil) Tryd.func39 ke_laws_heldOpS (by kernel_rfl) (λ _=>by kernel_rfl) (λ _=>by kernel_rfl) rfl
theorem ce_laws_heldDefS:CO e_laws_heldDefS:=fnc (λ _=>con_cons ce_laws_markText (con_cons ce_laws_heldOpS con_nil)) Tryd.func17 ke_laws_heldDefS (by kernel_rfl) (λ _=>by kernel_rfl) (λ _=>by kernel_rfl) rfl
theorem ce_laws_FnExactShake:CO e_laws_FnExactShake:=fnc (λ _=>con_cons ce_laws_szDefS (con_cons ce_laws_toDefS (con_cons ce_spec_Shake (con_cons ce_impl_Shake_deep (con_cons ce_laws_eqDefS (con_cons ce_laws_markDefS (con_cons ce_laws_heldDefS con_nil))))))) Tryd.func4 ke_laws_FnExactShake (by kernel_rfl) (λ _=>by kernel_rfl) (λ _=>by kernel_rfl) rfl
end Go.Proofs.YtnhefmibcnbehaaDoor

namespace Go.Fm
theorem wI64 {x:Int} (h1 : -9223372036854775808<=x) (h2:x < 9223372036854775808):IntKind.wrap .i64 x=x:=by
 simp[IntKind.wrap,IntKind.bits,IntKind.signed];omega
theorem getI_ex {α:Type} {xs:List α} {i:Int} (h0:0<=i) (h1:i < xs.length):∃ x,getI xs i=some x/\x ∈ xs/\xs[i.toNat]? = some x:=by
 have hi:i.toNat < xs.length:=by omega
 unfold getI
 rw[if_pos h0,List.getElem?_eq_getElem hi]
 exact ⟨_,rfl,List.getElem_mem hi,rfl⟩
theorem getI_nat {α:Type} {xs:List α} {i:Nat}:getI xs (i:Int)=xs[i]? := by
 unfold getI;rw[if_pos (Int.natCast_nonneg i)];rfl
theorem app_eq {α:Type} {xs ys:List α} (h:xs.length+ys.length<=4294967296):app xs ys=some (xs++ys):=by
 unfold app
 rw[if_pos (by rw[List.length_append];exact h)]
theorem subL_eq {α:Type} {xs:List α} {a b:Int} (h0:0<=a) (h1:a<=b) (h2:b<=xs.length):subL xs a b=some ((xs.drop a.toNat).take (b.toNat-a.toNat)):=by
 unfold subL;rw[if_pos ⟨h0,h1,h2⟩]
theorem subL_drop {α:Type} {xs:List α} {a:Int} (h0:0<=a) (h2:a<=xs.length):subL xs a xs.length=some (xs.drop a.toNat):=by
 rw[subL_eq h0 h2 (Int.le_refl _),List.take_of_length_le]
 rw[List.length_drop];omega
theorem subL_take {α:Type} {xs:List α} {b:Int} (h0:0<=b) (h2:b<=xs.length):subL xs 0 b=some (xs.take b.toNat):=by
 rw[subL_eq (Int.le_refl _) h0 h2];rfl
theorem mk_eq {α:Type} {z:α} {n:Int} (h0:0<=n) (h1:n<=4294967296):mk z n=some (List.replicate n.toNat z):=by
 unfold mk;rw[if_pos ⟨h0,h1⟩]
theorem catS_eq {a b:List UInt8} (h:a.length+b.length < 4611686018427387904):catS a b=some (a++b):=by
 unfold catS;rw[if_pos h]
def Tot {α:Type} (o:Option α) (Q:α->Prop):Prop:=∃ a,o=some a/\Q a
section
variable {α β:Type} {Q Q':α->Prop} {R:β->Prop}
theorem Tot.some {a:α} (h:Q a):Tot (some a) Q:=⟨a,rfl,h⟩
theorem Tot.bind {o:Option α} {f:α->Option β} (h:Tot o Q) (hf:∀ a,Q a->Tot (f a) R):Tot (o.bind f) R:=by
 obtain ⟨a,rfl,ha⟩:=h;exact hf a ha
theorem Tot.bindE {o:Option α} {f:α->Option β} {a:α} (h:o=.some a) (hf:Tot (f a) R):Tot (o.bind f) R:=by subst h;exact hf
theorem Tot.cond {c:Bool} {x y:Option α} (h1:c=true->Tot x Q) (h2:c=false->Tot y Q):Tot (cond c x y) Q:=by
 cases c with
 | true=>exact h1 rfl
 | false=>exact h2 rfl
theorem Tot.condD {p:Prop} [Decidable p] {x y:Option α} (h1:p->Tot x Q) (h2:¬ p->Tot y Q):Tot (_root_.cond (decide p) x y) Q :=
 .cond (λ h=>h1 (of_decide_eq_true h)) (λ h=>h2 (of_decide_eq_false h))
theorem Tot.mono {o:Option α} (h:Tot o Q) (hq:∀ a,Q a->Q' a):Tot o Q':=by obtain ⟨a,e,ha⟩:=h;exact ⟨a,e,hq a ha⟩
end
end Go.Fm
namespace Go.Fm
theorem nxt {n:Nat} (h:n < 16777216):IntKind.wrap .i64 ((n:Int)+1)=((n+1:Nat):Int):=by rw[wI64 (by omega) (by omega)];omega
def allN {α:Type} (p:Nat->α->Bool):Nat->List α->Bool
 | _,[]=>true
 | n,x::r=>p n x&&allN p (n+1) r
theorem allN_const {α:Type} (p:α->Bool):∀ (n:Nat) (l:List α),allN (λ _=>p) n l=l.all p
 | n,[]=>rfl
 | n,x::r=>by simp only[allN,List.all_cons,allN_const p (n+1) r]
theorem allLoop {α β:Type} {L:List α} {bad:β} (p:Nat->α->Bool) (F:Nat->Int->Option (Unit ⊕ β)) (step:∀ (k n:Nat) (x:α),L[n]? = some x->n < L.length->F (k+1) n=cond (p n x) (F k ((n+1:Nat):Int)) (some (.inr bad)))
  (fin:∀ k n:Nat,L.length<=n->F (k+1) n=some (.inl ())) (hm:L.length<=16777216):F bigK 0=some (cond (allN p 0 L) (.inl ()) (.inr bad)):=by
 have key:∀ (k n:Nat),n<=L.length->L.length-n < k->F k n=some (cond (allN p n (L.drop n)) (.inl ()) (.inr bad)):=by
  intro k
  induction k with
  | zero=>intro n h0 h1;omega
  | succ k ih =>
   intro n h0 h1
   by_cases hn:n < L.length
   ·rw[step k n L[n] (List.getElem?_eq_getElem hn) hn,List.drop_eq_getElem_cons hn]
    show _=some (cond (p n L[n]&&allN p (n+1) (L.drop (n+1))) _ _)
    cases p n L[n] with
    | false=>rfl
    | true=>rw[cond_true,ih (n+1) (by omega) (by omega),Bool.true_and]
   ·rw[fin k n (by omega),List.drop_eq_nil_of_le (by omega)];rfl
 have:=key bigK 0 (Nat.zero_le _) (by unfold bigK;omega)
 rw[List.drop_zero]at this
 exact this
theorem eqList {α:Type} [DecidableEq α] {a b:List α} (F:Nat->Int->Option (Unit ⊕ Bool)) (g:Option Bool) (hg:g=cond ((a.length:Int) != (b.length:Int)) (some false) (((F bigK 0).bind λ o=>match o with | .inl ()=>some (.inl ()) | .inr v=>some (.inr v):Option (Unit ⊕ Bool)).bind λ o=>match o with | .inl ()=>some true | .inr v=>some v))
  (hF:∀ (k:Nat) (i:Int),F (k+1) i=cond (decide (i < (a.length:Int))) ((getI a i).bind λ x=>(getI b i).bind λ y=>cond (!decide (x=y)) (some (.inr false)) (F k (IntKind.wrap .i64 (i+1)))) (some (.inl ()))) (hm:a.length<=1048576):g=some (decide (a=b)):=by
 rw[hg]
 by_cases hl:a.length=b.length
 ·have key:∀ (k n:Nat),n<=a.length->a.length-n < k->F k n=some (if a.drop n=b.drop n then .inl () else .inr false):=by
   intro k
   induction k with
   | zero=>intro n h0 h1;omega
   | succ k ih =>
    intro n h0 h1
    rw[hF]
    by_cases hn:n < a.length
    ·have hn':n < b.length:=by omega
     rw[decide_eq_true (by omega),getI_nat,getI_nat,List.getElem?_eq_getElem hn,List.getElem?_eq_getElem hn',List.drop_eq_getElem_cons hn,List.drop_eq_getElem_cons hn']
     simp only[cond_true,Option.bind_some]
     by_cases he:a[n]=b[n]
     ·rw[decide_eq_true he,Bool.not_true,cond_false,wI64 (by omega) (by omega),show ((n:Int)+1)=((n+1:Nat):Int) by omega,ih (n+1) (by omega) (by omega),he]
      simp only[List.cons.injEq,true_and]
     ·rw[decide_eq_false he,Bool.not_false,cond_true,if_neg (λ h=>he (List.cons.inj h).1)]
    ·rw[decide_eq_false (by omega),cond_false,List.drop_eq_nil_of_le (by omega),List.drop_eq_nil_of_le (by omega),if_pos rfl]
  have:((a.length:Int) != (b.length:Int))=false:=by rw[hl];simp
  rw[this,cond_false]
  have h:=key bigK 0 (Nat.zero_le _) (by unfold bigK;omega)
  rw[show ((0:Nat):Int)=0 from rfl]at h
  rw[h]
  by_cases he:a=b
  ·simp[he]
  ·simp[he]
 ·have:((a.length:Int) != (b.length:Int))=true:=by simp;omega
  rw[this,cond_true,decide_eq_false (λ h=>hl (by rw[h]))]
theorem copyM {α:Type} {a:List α} (F:Nat->List α->Int->Option (List α))
  (hs:∀ (k n:Nat) (out:List α) (x y:α),a[n]? = some x->n < a.length->out[n]? = some y->F (k+1) out n=F k (out.set n x) ((n+1:Nat):Int))
  (he:∀ (k n:Nat) (out:List α),a.length<=n->F (k+1) out n=some out) (hm:a.length<=16777216) {z:List α} (hz:z.length=a.length):F bigK z 0=some a:=by
 have key:∀ (k n:Nat) (rest:List α),n<=a.length->a.length-n < k->rest.length=a.length-n->F k (a.take n++rest) n=some a:=by
  intro k
  induction k with
  | zero=>intro n rest h0 h1;omega
  | succ k ih =>
   intro n rest h0 h1 h2
   by_cases hn:n < a.length
   ·cases rest with
    | nil=>simp at h2;omega
    | cons x r =>
     have hl:(a.take n).length=n:=by rw[List.length_take];omega
     rw[hs k n _ a[n] x (List.getElem?_eq_getElem hn) hn (by rw[List.getElem?_append_right (by omega),hl,Nat.sub_self];rfl)]
     have hset:(a.take n++x::r).set n a[n]=a.take (n+1)++r:=by
      rw[List.set_append_right _ _ (by omega),hl,Nat.sub_self,List.set_cons_zero,List.take_succ_eq_append_getElem hn,List.append_assoc]
      rfl
     rw[hset]
     exact ih (n+1) r (by omega) (by omega) (by simp at h2;omega)
   ·have hr:rest=[]:=List.length_eq_zero_iff.1 (by omega)
    rw[he k n _ (by omega),hr,List.append_nil,List.take_of_length_le (by omega)]
 have h:=key bigK 0 z (Nat.zero_le _) (by unfold bigK;omega) (by omega)
 rw[Int.natCast_zero,List.take_zero,List.nil_append]at h
 exact h
theorem copyLoop {α:Type} {a:List α} (F:Nat->List α->Int->Option (List α))
  (hs:∀ (k:Nat) (out:List α) (i:Int),F (k+1) out i=cond (decide (i < (a.length:Int))) ((getI a i).bind λ x=>(getI out i).bind λ _=>F k (out.set i.toNat x) (IntKind.wrap .i64 (i+1))) (some out))
  (hm:a.length<=16777216) {z:List α} (hz:z.length=a.length):F bigK z 0=some a:=by
 by_cases hb:a.length < 16777216
 ·exact copyM F (λ k n out x y hx hn hy=>by
   rw[hs,decide_eq_true (by omega),cond_true,getI_nat,hx]
   simp only[Option.bind_some]
   rw[getI_nat,hy,nxt (by omega)]
   rfl) (λ k n out hn=>by rw[hs,decide_eq_false (by omega),cond_false]) hm hz
 ·exact copyM F (λ k n out x y hx hn hy=>by
   rw[hs,decide_eq_true (by omega),cond_true,getI_nat,hx]
   simp only[Option.bind_some]
   rw[getI_nat,hy,nxt (by omega)]
   rfl) (λ k n out hn=>by rw[hs,decide_eq_false (by omega),cond_false]) hm hz
theorem eqRefl {α:Type} {a:List α} (F:Nat->Int->Option (Unit ⊕ Bool)) (f:Option Bool)
  (hf:f=cond ((a.length:Int) != (a.length:Int)) (some false) (((F bigK 0).bind λ o=>match o with | .inl ()=>some (.inl ()) | .inr v=>some (.inr v):Option (Unit ⊕ Bool)).bind λ o=>match o with | .inl ()=>some true | .inr v=>some v))
  (hs:∀ (k n:Nat) (x:α),a[n]? = some x->n < a.length->F (k+1) n=F k ((n+1:Nat):Int)) (he:∀ (k n:Nat),a.length<=n->F (k+1) n=some (.inl ())) (hm:a.length<=16777216):f=some true:=by
 have h:=allLoop (L:=a) (bad:=false) (λ _ _=>true) F (λ k n x hx hn=>by rw[hs k n x hx hn];rfl) he hm
 rw[hf,h]
 have e:∀ (n:Nat) (l:List α),allN (λ _ _=>true) n l=true:=λ n l=>by rw[allN_const (λ _=>true)];simp
 rw[e]
 simp
theorem bne_self' {α:Type} [BEq α] [LawfulBEq α] (x:α):(x != x)=false:=by simp
abbrev LN:Nat:=9223372036854775807
def marksN {β:Type} (val:Nat->β) (s:Nat):Nat->Nat->List β
 | _,0=>[]
 | k,n+1=>val k::marksN val s (k+s) n
theorem marksN_len {β:Type} (val:Nat->β) (s:Nat):∀ (n k:Nat),(marksN val s k n).length=n
 | 0,k=>rfl
 | n+1,k=>by rw[marksN,List.length_cons,marksN_len val s n]
theorem markL {β:Type} (val:Nat->β) (s N:Nat) (F:Nat->List β->Int->Int->Option (Int×List β)) 
  (hs:∀ (k:Nat) (a:List β) (kk n:Nat),n < a.length->a.length<=1048576->kk<=N->F (k+1) a kk n=F k (a.set n (val kk)) ((kk+s:Nat):Int) ((n+1:Nat):Int))
  (he:∀ (k:Nat) (a:List β) (kk n:Nat),a.length<=n->F (k+1) a kk n=some ((kk:Int),a)) :
  ∀ (k:Nat) (done rest:List β) (kk:Nat),kk+s*rest.length<=N->done.length+rest.length<=1048576->rest.length < k->F k (done++rest) kk done.length=some (((kk+s*rest.length:Nat):Int),done++marksN val s kk rest.length):=by
 intro k
 induction k with
 | zero=>intro done rest kk h0 h1 h2;omega
 | succ k ih =>
  intro done rest kk h0 h1 h2
  cases rest with
  | nil=>rw[he _ _ _ _ (by simp)];simp[marksN]
  | cons x r =>
   simp only[List.length_cons,Nat.mul_add,Nat.mul_one]at h0 h1 h2
   rw[hs _ _ _ _ (by simp) (by simp;omega) (by omega),List.set_append_right _ _ (Nat.le_refl _),Nat.sub_self,List.set_cons_zero]
   have:=ih (done++[val kk]) r (kk+s) (by omega) (by simp;omega) (by omega)
   simp only[List.append_assoc,List.singleton_append,List.length_append,List.length_singleton]at this
   rw[this]
   simp only[marksN,List.length_cons,Nat.mul_add,Nat.mul_one]
   congr 3
   omega
theorem heldL {β:Type} (val:Nat->β) (s N:Nat) {L:List β} (F:Nat->Int->Int->Option (Int ⊕ Int))
  (hs:∀ (k kk n:Nat) (h:n < L.length),n<=1048576->kk<=N->L[n]=val kk->F (k+1) kk n=F k ((kk+s:Nat):Int) ((n+1:Nat):Int))
  (he:∀ (k kk n:Nat),L.length<=n->F (k+1) kk n=some (.inl (kk:Int))) :
  ∀ (k:Nat) (done:List β) (kk m:Nat),L=done++marksN val s kk m->L.length<=1048576->kk+s*m<=N->m < k->F k kk done.length=some (.inl ((kk+s*m:Nat):Int)):=by
 intro k
 induction k with
 | zero=>intro done kk m h0 hL h1 h2;omega
 | succ k ih =>
  intro done kk m h0 hL h1 h2
  cases m with
  | zero=>rw[he _ _ _ (by rw[h0];simp[marksN])];simp
  | succ m =>
   have hl:done.length < L.length:=by rw[h0];simp[marksN]
   have hg:L[done.length]=val kk:=by
    have:L[done.length]? = some (val kk):=by rw[h0,List.getElem?_append_right (Nat.le_refl _),Nat.sub_self];rfl
    rw[List.getElem?_eq_getElem hl]at this
    exact Option.some.inj this
   simp only[Nat.mul_add,Nat.mul_one]at h1
   rw[hs _ _ _ hl (by omega) (by omega) hg]
   have:=ih (done++[val kk]) (kk+s) m (by rw[h0,List.append_assoc];rfl) hL (by omega) (by omega)
   rw[List.length_append,List.length_singleton]at this
   rw[this]
   simp only[Nat.mul_add,Nat.mul_one]
   congr 3
   omega
end Go.Fm
namespace Go.Proofs.YtnhefmibcnbehaaDoor
open Go Go.Fm
set_option maxRecDepth 1000000
end Go.Proofs.YtnhefmibcnbehaaDoor
namespace Go.Proofs.YtnhefmibcnbehaaDoor
open Go Go.Fm
set_option maxRecDepth 100000
theorem specIn_eq {x a b:Int}:g_spec_l01In x a b=some (decide (a<=x/\x<=b)):=by
 unfold g_spec_l01In
 by_cases h:x ≥ a
 ·rw[decide_eq_true h]
  simp only[cond_true]
  congr 1
  exact decide_eq_decide.2 ⟨λ h2=>⟨h,h2⟩,λ h2=>h2.2⟩
 ·rw[decide_eq_false h]
  simp only[cond_false]
  congr 1
  exact (decide_eq_false λ h2=>h h2.1).symm
theorem within_eq {x a b:Int}:g_impl_within x a b=some (decide (a<=x/\x<=b)):=by
 unfold g_impl_within
 by_cases h:a<=x
 ·rw[decide_eq_true h]
  simp only[cond_true]
  congr 1
  exact decide_eq_decide.2 ⟨λ h2=>⟨h,h2⟩,λ h2=>h2.2⟩
 ·rw[decide_eq_false h]
  simp only[cond_false]
  congr 1
  exact (decide_eq_false λ h2=>h h2.1).symm
theorem prims_eq:g_impl_prims=g_spec_l08Names:=by kernel_rfl
theorem name_eq (k:Int):g_impl_PrimName k=g_spec_PrimName k:=by
 unfold g_impl_PrimName g_spec_PrimName
 rw[prims_eq]
 unfold g_spec_l08Names
 simp only[Option.bind_some]
 rw[within_eq,specIn_eq]
 simp only[Option.bind_some]
 have key:∀ (b:Bool) (x y:Option Bs),cond b x y=cond (!b) y x:=λ b x y=>by cases b<;>rfl
 exact key _ _ _
theorem op_eq (o:GOp):g_impl_opOk o=g_spec_l09Op o:=by
 unfold g_impl_opOk g_spec_l09Op
 simp only[name_eq,within_eq,specIn_eq]
theorem name_tot (k:Int):∃ s,g_spec_PrimName k=some s:=by
 unfold g_spec_PrimName
 unfold g_spec_l08Names
 simp only[Option.bind_some]
 rw[specIn_eq]
 simp only[Option.bind_some]
 by_cases h:(0:Int)<=k/\k<=IntKind.wrap .i64 (((([[100,117,112],[100,114,111,112],[111,118,101,114],[110,105,112],[115,119,97,112],[43],[45],[42],[97,110,100],[111,114],[50,42],[50,47],[47,109,111,100],[64],[33],[97],[97,33],[101,109,105,116],[107,101,121],[112,117,115,104],[112,111,112],[105],[46],[110,111,112]]:List Bs).length:Nat):Int)-1)
 ·rw[decide_eq_true h,Bool.not_true,cond_false]
  have h2:k<=23:=h.2
  obtain ⟨x,hx,_⟩:=getI_ex (xs:=([[100,117,112],[100,114,111,112],[111,118,101,114],[110,105,112],[115,119,97,112],[43],[45],[42],[97,110,100],[111,114],[50,42],[50,47],[47,109,111,100],[64],[33],[97],[97,33],[101,109,105,116],[107,101,121],[112,117,115,104],[112,111,112],[105],[46],[110,111,112]]:List Bs)) (i:=k) h.1 (by simp;omega)
  rw[hx]
  exact ⟨_,rfl⟩
 ·rw[decide_eq_false h,Bool.not_false,cond_true]
  exact ⟨_,rfl⟩
theorem op_tot (o:GOp):∃ b,g_spec_l09Op o=some b:=by
 unfold g_spec_l09Op
 obtain ⟨s,hs⟩:=name_tot (IntKind.wrap .i64 o.N)
 rw[hs,specIn_eq,specIn_eq]
 simp only[Option.bind_some]
 cases o.Kind==0
 ·cases o.Kind==1
  ·cases o.Kind==2
   ·simp only[cond_false]
    by_cases h:3<=o.Kind/\o.Kind<=8
    ·rw[decide_eq_true h,cond_true]
     exact ⟨_,rfl⟩
    ·rw[decide_eq_false h,cond_false]
     exact ⟨_,rfl⟩
   ·exact ⟨_,rfl⟩
  ·exact ⟨_,rfl⟩
 ·exact ⟨_,rfl⟩
def okB (o:GOp):Bool:=(g_spec_l09Op o).getD false
theorem okB_eq (o:GOp):g_spec_l09Op o=some (okB o):=by
 obtain ⟨b,h⟩:=op_tot o
 unfold okB
 rw[h]
 rfl
def stepF (v:List Int) (o:GOp):Option (List Int) :=
 if o.Kind=3\/o.Kind=4\/o.Kind=6 then some (v++[o.Kind])
 else if o.Kind=5\/o.Kind=7 then (match v.getLast? with|none=>none|some l=>if decide (l=6)=decide (o.Kind=7) then some v.dropLast else none)
 else some v
def openF:List GOp->List Int->Option (List Int)
 | [],v=>some v
 | o::r,v=>(stepF v o).bind (openF r)
def openG:List GOp->List Int->Option (List Int)
 | [],v=>some v
 | o::r,v=>cond (okB o) ((stepF v o).bind (openG r)) none
theorem openG_eq:∀ (l:List GOp) (v:List Int),openG l v=cond (l.all okB) (openF l v) none
 | [],v=>rfl
 | o::r,v=>by
  rw[List.all_cons]
  unfold openG openF
  cases ho:okB o
  ·rfl
  ·rw[Bool.true_and,cond_true]
   cases hs:stepF v o with
   | none=>cases r.all okB<;>rfl
   | some w=>simp only[Option.bind_some];exact openG_eq r w
theorem stepF_len {v w:List Int} {o:GOp} (h:stepF v o=some w):w.length<=v.length+1:=by
 unfold stepF at h
 split at h
 ·cases h;simp
 ·split at h
  ·split at h
   ·cases h
   ·split at h
    ·cases h;simp;omega
    ·cases h
  ·cases h;omega
def sumE {β:Type} (e:β) (o:Option (List Int)):List Int ⊕ β:=match o with|some w=>.inl w|none=>.inr e
theorem kinds (k:Int):(k==3)=decide (k=3)/\(k==4)=decide (k=4)/\(k==5)=decide (k=5)/\(k==6)=decide (k=6)/\(k==7)=decide (k=7):=by
 refine ⟨?_,?_,?_,?_,?_⟩<;>rw[Bool.eq_iff_iff]<;>simp
theorem last_get {v:List Int} (h:v≠[]) (hl:v.length<=16777216):getI v (IntKind.wrap .i64 ((v.length:Int)-1))=v.getLast? ∧ subL v 0 (IntKind.wrap .i64 ((v.length:Int)-1))=some v.dropLast:=by
 have h0:0 < v.length:=by
  cases v with
  | nil=>exact absurd rfl h
  | cons a r=>simp
 rw[wI64 (by omega) (by omega),show (v.length:Int)-1=((v.length-1:Nat):Int) by omega,getI_nat,subL_take (by omega) (by omega),Int.toNat_natCast,List.getLast?_eq_getElem?,List.dropLast_eq_take]
 exact ⟨rfl,rfl⟩
theorem spec_step {β:Type} (e:β) (v:List Int) (o:GOp) (hl:v.length<=16777216) :
  ((cond (o.Kind==3) (some (o.Kind==3)) (cond (o.Kind==4) (some (o.Kind==4)) (some (o.Kind==6))):Option (Bool)).bind λ v_17=>cond v_17 ((app v [o.Kind]).bind λ v_23=>some (Sum.inl v_23)) ((cond (o.Kind==5) (some (o.Kind==5)) (some (o.Kind==7)):Option (Bool)).bind λ v_24=>cond v_24 ((cond ((v.length:Int)==0) (some true) ((getI v (IntKind.wrap .i64 ((v.length:Int)-1))).bind λ v_33=>some ((v_33==6) != (o.Kind==7))):Option (Bool)).bind λ v_29=>cond v_29 (some (Sum.inr e)) ((subL v 0 (IntKind.wrap .i64 ((v.length:Int)-1))).bind λ v_35=>some (Sum.inl v_35))) (some (Sum.inl v))):Option ((List Int) ⊕ β))=some (sumE e (stepF v o)):=by
 obtain ⟨e3,e4,e5,e6,e7⟩:=kinds o.Kind
 rw[e3,e4,e5,e6,e7]
 unfold stepF
 by_cases h3:o.Kind=3
 ·simp only[h3,decide_true,cond_true,Option.bind_some]
  rw[app_eq (by simp;omega)]
  rfl
 ·by_cases h4:o.Kind=4
  ·rw[decide_eq_false h3,cond_false,decide_eq_true h4,cond_true,Option.bind_some,cond_true,app_eq (by simp;omega),if_pos (.inr (.inl h4))]
   rfl
  ·by_cases h6:o.Kind=6
   ·rw[decide_eq_false h3,cond_false,decide_eq_false h4,cond_false,Option.bind_some,decide_eq_true h6,cond_true,app_eq (by simp;omega),if_pos (.inr (.inr h6))]
    rfl
   ·rw[decide_eq_false h3,cond_false,decide_eq_false h4,cond_false,Option.bind_some,decide_eq_false h6,cond_false,if_neg (by omega)]
    by_cases h57:o.Kind=5\/o.Kind=7
    ·have hc:(cond (decide (o.Kind=5)) (some (decide (o.Kind=5))) (some (decide (o.Kind=7))):Option Bool)=some true:=by
      rcases h57 with h|h
      ·rw[decide_eq_true h];rfl
      ·rw[decide_eq_true h,decide_eq_false (by omega)];rfl
     rw[hc,Option.bind_some,cond_true,if_pos h57]
     cases v with
     | nil=>rfl
     | cons a r =>
      obtain ⟨g1,g2⟩:=last_get (v:=a::r) (by simp) hl
      have hz:(((a::r).length:Int)==0)=false:=by simp;omega
      rw[hz,cond_false,g1,g2]
      obtain ⟨x,hx⟩:∃ x,(a::r).getLast? = some x:=by rw[List.getLast?_cons];exact ⟨_,rfl⟩
      rw[hx]
      simp only[Option.bind_some]
      have ex:(x==6)=decide (x=6):=(kinds x).2.2.2.1
      rw[ex]
      by_cases hq:decide (x=6)=decide (o.Kind=7)
      ·rw[hq,if_pos rfl]
       simp[sumE]
      ·rw[if_neg hq]
       have:(decide (x=6) != decide (o.Kind=7))=true:=by simpa using hq
       rw[this,cond_true]
       rfl
    ·have hc:(cond (decide (o.Kind=5)) (some (decide (o.Kind=5))) (some (decide (o.Kind=7))):Option Bool)=some false:=by
      rw[decide_eq_false (by omega),decide_eq_false (by omega)];rfl
     rw[hc,Option.bind_some,cond_false,if_neg h57]
     rfl
theorem impl_step {β:Type} (e:β) (v:List Int) (o:GOp) (hl:v.length<=16777216) :
  ((cond (o.Kind==3) (some true) (cond (o.Kind==4) (some true) (some (o.Kind==6))):Option (Bool)).bind λ v_19=>cond v_19 ((app v [o.Kind]).bind λ v_25=>some (Sum.inl v_25)) ((cond (o.Kind==5) (some true) (some (o.Kind==7)):Option (Bool)).bind λ v_26=>cond v_26 ((cond (decide ((IntKind.wrap .i64 ((v.length:Int)-1)) < 0)) (some true) ((getI v (IntKind.wrap .i64 ((v.length:Int)-1))).bind λ v_35=>some ((v_35==6) != (o.Kind==7))):Option (Bool)).bind λ v_31=>cond v_31 (some (Sum.inr e)) ((subL v 0 (IntKind.wrap .i64 ((v.length:Int)-1))).bind λ v_37=>some (Sum.inl v_37))) (some (Sum.inl v))):Option ((List Int) ⊕ β))=some (sumE e (stepF v o)):=by
 rw[<-spec_step e v o hl]
 have c1:∀ b:Bool,∀ x:Option Bool,(cond b (some true) x:Option Bool)=cond b (some b) x:=λ b x=>by cases b<;>rfl
 have c2:decide ((IntKind.wrap .i64 ((v.length:Int)-1)) < 0)=((v.length:Int)==0):=by
  rw[wI64 (by omega) (by omega)]
  by_cases h0:v.length=0
  ·rw[h0];rfl
  ·rw[decide_eq_false (by omega),beq_eq_false_iff_ne.2 (by omega)]
 rw[c2,c1 (o.Kind==3),c1 (o.Kind==4),c1 (o.Kind==5)]
theorem spec_l0 {body:List GOp} (hb:body.length<=1048576):∀ (k n:Nat) (v:List Int),n<=body.length->body.length-n < k->v.length<=n->g_spec_l09Open_l0 body k v n=some (sumE false (openF (body.drop n) v)):=by
 intro k
 induction k with
 | zero=>intro n v h0 h1;omega
 | succ k ih =>
  intro n v h0 h1 h2
  rw[g_spec_l09Open_l0]
  by_cases hn:n < body.length
  ·rw[decide_eq_true (by omega),cond_true,getI_nat,List.getElem?_eq_getElem hn,List.drop_eq_getElem_cons hn]
   simp only[Option.bind_some]
   rw[spec_step _ v body[n] (by omega)]
   simp only[Option.bind_some,openF]
   cases hs:stepF v body[n] with
   | none=>rfl
   | some w =>
    have:=stepF_len hs
    simp only[sumE,Option.bind_some]
    rw[wI64 (by omega) (by omega),show (n:Int)+1=((n+1:Nat):Int) by omega,ih (n+1) w (by omega) (by omega) (by omega)]
    rfl
  ·rw[decide_eq_false (by omega),cond_false,List.drop_eq_nil_of_le (by omega)]
   rfl
theorem impl_l0 {body:List GOp} (hb:body.length<=1048576):∀ (k n:Nat) (v:List Int),n<=body.length->body.length-n < k->v.length<=n->g_impl_openIn_l0 body (body.length:Int) k v n=some (sumE (([]:List Int),false) (openG (body.drop n) v)):=by
 intro k
 induction k with
 | zero=>intro n v h0 h1;omega
 | succ k ih =>
  intro n v h0 h1 h2
  rw[g_impl_openIn_l0]
  by_cases hn:n < body.length
  ·rw[decide_eq_true (by omega),cond_true,getI_nat,List.getElem?_eq_getElem hn,List.drop_eq_getElem_cons hn]
   simp only[Option.bind_some]
   rw[op_eq,okB_eq]
   simp only[Option.bind_some,openG]
   cases ho:okB body[n]
   ·rw[Bool.not_false,cond_true,cond_false]
    rfl
   ·rw[Bool.not_true,cond_false,cond_true,impl_step _ v body[n] (by omega)]
    simp only[Option.bind_some]
    cases hs:stepF v body[n] with
    | none=>rfl
    | some w =>
     have:=stepF_len hs
     simp only[sumE,Option.bind_some]
     rw[wI64 (by omega) (by omega),show (n:Int)+1=((n+1:Nat):Int) by omega,ih (n+1) w (by omega) (by omega) (by omega)]
     rfl
  ·rw[decide_eq_false (by omega),cond_false,List.drop_eq_nil_of_le (by omega)]
   rfl
theorem spec_open {body:List GOp} (hb:body.length<=1048576):g_spec_l09Open body=some (match openF body [] with|none=>([],false)|some w=>(w,true)):=by
 unfold g_spec_l09Open
 have h1:=spec_l0 hb bigK 0 [] (Nat.zero_le _) (by unfold bigK;omega) (Nat.le_refl _)
 rw[Int.natCast_zero,List.drop_zero]at h1
 rw[h1]
 cases openF body []<;>rfl
theorem impl_open {body:List GOp} (hb:body.length<=1048576):g_impl_openIn body=some (match cond (body.all okB) (openF body []) none with|none=>([],false)|some w=>(w,decide ((body.length:Int)<=60))):=by
 unfold g_impl_openIn
 have h1:=impl_l0 hb bigK 0 [] (Nat.zero_le _) (by unfold bigK;omega) (Nat.le_refl _)
 rw[Int.natCast_zero,List.drop_zero]at h1
 rw[h1,openG_eq]
 cases cond (body.all okB) (openF body []) none<;>rfl
def shapeB (body:List GOp):Bool:=decide (body.length<=60)&&body.all okB&&decide (openF body []=some [])
theorem specShape {body:List GOp} (hb:body.length<=1048576):g_spec_ShapeOk body=some (shapeB body):=by
 unfold g_spec_ShapeOk shapeB
 by_cases h60:body.length<=60
 ·rw[decide_eq_false (by omega),cond_false,decide_eq_true h60,spec_open hb]
  have:=allLoop (L:=body) (bad:=false) (λ _ o=>okB o) (g_spec_ShapeOk_l0 body) (λ k n x hx hn=>by
   rw[g_spec_ShapeOk_l0,decide_eq_true (by omega),cond_true,getI_nat,hx,Option.bind_some,okB_eq,Option.bind_some,wI64 (by omega) (by omega),show ((n:Int)+1)=((n+1:Nat):Int) by omega]
   cases okB x<;>rfl) (λ k n hn=>by rw[g_spec_ShapeOk_l0,decide_eq_false (by omega),cond_false]) (by omega)
  rw[this,allN_const,Bool.true_and]
  cases body.all okB with
  | false=>rfl
  | true =>
   simp only[cond_true,Option.bind_some,Bool.true_and]
   cases openF body [] with
   | none=>rfl
   | some w=>cases w<;>simp<;>omega
 ·rw[decide_eq_true (by omega),cond_true,decide_eq_false h60];rfl
theorem implShape {body:List GOp} (hb:body.length<=1048576):g_impl_ShapeOk body=some (shapeB body):=by
 unfold g_impl_ShapeOk shapeB
 rw[impl_open hb]
 cases body.all okB with
 | false=>simp
 | true =>
  simp only[cond_true,Option.bind_some,Bool.and_true]
  cases openF body [] with
  | none=>simp
  | some w =>
   by_cases h60:body.length<=60
   ·rw[decide_eq_true (p:=(body.length:Int)<=60) (by omega),decide_eq_true h60]
    cases w<;>simp<;>omega
   ·rw[decide_eq_false (p:=(body.length:Int)<=60) (by omega),decide_eq_false h60];simp
end Go.Proofs.YtnhefmibcnbehaaDoor
namespace Go.Proofs.YtnhefmibcnbehaaDoor
open Go Go.Fm
def ins (n:Int):List Int->List Int
 | []=>[n]
 | x::r=>if x < n then x::ins n r else if x=n then x::r else n::x::r
theorem ins_mem (n:Int):∀ (l:List Int) (y:Int),y ∈ ins n l ↔ y=n\/y ∈ l
 | [],y=>by simp[ins]
 | x::r,y=>by
  unfold ins
  split
  ·rw[List.mem_cons,ins_mem n r,List.mem_cons]
   constructor<;>(rintro (h|h|h)<;>simp[h])
  ·split
   ·rename_i h1 h2;subst h2;simp
   ·simp
theorem ins_asc (n:Int):∀ (l:List Int),l.Pairwise (· < ·)->(ins n l).Pairwise (· < ·)
 | [],_=>by simp[ins]
 | x::r,h=>by
  rw[List.pairwise_cons]at h
  unfold ins
  split
  ·rename_i hx
   rw[List.pairwise_cons]
   refine ⟨λ y hy => ?_,ins_asc n r h.2⟩
   rcases (ins_mem n r y).1 hy with rfl|hy
   ·exact hx
   ·exact h.1 y hy
  ·split
   ·rw[List.pairwise_cons];exact h
   ·rename_i h1 h2
    rw[List.pairwise_cons,List.pairwise_cons]
    refine ⟨λ y hy => ?_,h⟩
    rcases List.mem_cons.1 hy with rfl|hy
    ·omega
    ·have:=h.1 y hy;omega
theorem ins_len (n:Int):∀ (l:List Int),(ins n l).length<=l.length+1
 | []=>by simp[ins]
 | x::r=>by
  have:=ins_len n r
  unfold ins
  split
  ·simp;omega
  ·split<;>simp
def ahd (n:Int):List Int->Nat
 | []=>0
 | x::r=>if x < n then ahd n r+1 else 0
theorem ahd_le (n:Int):∀ l,ahd n l<=l.length
 | []=>Nat.le_refl _
 | x::r=>by have:=ahd_le n r;unfold ahd;split<;>simp;omega
theorem ins_eq (n:Int):∀ l:List Int,ins n l=if l[ahd n l]? = some n then l else l.take (ahd n l)++n::l.drop (ahd n l)
 | []=>by simp[ins,ahd]
 | x::r=>by
  unfold ins ahd
  by_cases h:x < n
  ·rw[if_pos h,if_pos h,ins_eq n r]
   simp only[List.getElem?_cons_succ,List.take_succ_cons,List.drop_succ_cons]
   split<;>rfl
  ·rw[if_neg h,if_neg h]
   by_cases h2:x=n
   ·simp[h2]
   ·simp[h2]
theorem put_l0 {l:List Int} {n:Int} (hl:l.length<=1000):∀ (k i:Nat),i<=l.length->l.length-i < k->g_spec_l20Put_l0 l n k (i:Int)=some ((i+ahd n (l.drop i):Nat):Int):=by
 intro k
 induction k with
 | zero=>intro i h0 h1;omega
 | succ k ih =>
  intro i h0 h1
  rw[g_spec_l20Put_l0]
  by_cases hn:i < l.length
  ·rw[decide_eq_true (by omega),cond_true,getI_nat,List.getElem?_eq_getElem hn,List.drop_eq_getElem_cons hn]
   simp only[Option.bind_some]
   unfold ahd
   by_cases hx:l[i] < n
   ·rw[decide_eq_true hx,cond_true,if_pos hx,nxt (by omega),ih (i+1) (by omega) (by omega)]
    congr 2;omega
   ·rw[decide_eq_false hx,cond_false,if_neg hx];rfl
  ·rw[decide_eq_false (by omega),cond_false,List.drop_eq_nil_of_le (by omega)]
   rfl
theorem put_eq {l:List Int} {n:Int} (hl:l.length<=1000):g_spec_l20Put l n=some (ins n l):=by
 unfold g_spec_l20Put
 have h:=put_l0 (n:=n) hl bigK 0 (Nat.zero_le _) (by unfold bigK;omega)
 rw[show ((0:Nat):Int)=0 from rfl]at h
 have ha:=ahd_le n l
 rw[h,Option.bind_some,List.drop_zero,Nat.zero_add,ins_eq]
 by_cases hn:ahd n l < l.length
 ·rw[decide_eq_true (by omega),cond_true,getI_nat,List.getElem?_eq_getElem hn]
  simp only[Option.bind_some]
  by_cases hx:l[ahd n l]=n
  ·rw[show (l[ahd n l]==n)=true by simp[hx],cond_true,if_pos (by rw[hx])]
  ·rw[show (l[ahd n l]==n)=false by simp[hx],cond_false,if_neg (λ e=>hx (Option.some.inj e)),subL_take (by omega) (by omega),Option.bind_some,app_eq (by simp;omega),Option.bind_some,app_eq (by simp;omega),Option.bind_some,subL_drop (by omega) (by omega),Option.bind_some,app_eq (by simp;omega)]
   simp
 ·rw[decide_eq_false (by omega),cond_false]
  simp only[Option.bind_some,cond_false]
  rw[if_neg (by rw[List.getElem?_eq_none (by omega)];simp),subL_take (by omega) (by omega),Option.bind_some,app_eq (by simp;omega),Option.bind_some,app_eq (by simp;omega),Option.bind_some,subL_drop (by omega) (by omega),Option.bind_some,app_eq (by simp;omega)]
  simp
theorem has_eq {l:List Int} {v:Int} (hl:l.length<=1000):g_slices_Contains_int l v=some (decide (v ∈ l)):=by
 unfold g_slices_Contains_int g_slices_Index_int
 have key:∀ (k n:Nat),n<=l.length->l.length-n < k->∃ o:Unit ⊕ Int,g_slices_Index_int_l0 l v (l.length:Int) k n=some o/\(match o with | .inl _=>v ∉ l.drop n | .inr i=>0<=i/\v ∈ l.drop n):=by
  intro k
  induction k with
  | zero=>intro n h0 h1;omega
  | succ k ih =>
   intro n h0 h1
   rw[g_slices_Index_int_l0]
   by_cases hn:n < l.length
   ·rw[decide_eq_true (by omega),cond_true,getI_nat,List.getElem?_eq_getElem hn]
    have hd:l.drop n=l[n]::l.drop (n+1):=List.drop_eq_getElem_cons hn
    simp only[Option.bind_some]
    by_cases hk:v=l[n]
    ·rw[show (v==l[n])=true by simp[hk],cond_true]
     exact ⟨_,rfl,by show 0<=(n:Int)/\v ∈ l.drop n;rw[hd,List.mem_cons];exact ⟨by omega, .inl hk⟩⟩
    ·rw[show (v==l[n])=false by simp[hk],cond_false,nxt (by omega)]
     obtain ⟨o,g1,g2⟩:=ih (n+1) (by omega) (by omega)
     refine ⟨o,g1,?_⟩
     cases o with
     | inl u=>show v ∉ l.drop n;rw[hd,List.mem_cons];exact λ h=>h.elim hk g2
     | inr i=>show 0<=i/\v ∈ l.drop n;rw[hd,List.mem_cons];exact ⟨g2.1, .inr g2.2⟩
   ·rw[decide_eq_false (by omega),cond_false,List.drop_eq_nil_of_le (by omega)]
    exact ⟨_,rfl,by simp⟩
 obtain ⟨o,h,g⟩:=key bigK 0 (Nat.zero_le _) (by unfold bigK;omega)
 rw[Int.natCast_zero]at h
 rw[List.drop_zero]at g
 rw[h]
 cases o with
 | inl u=>simp only[Option.bind_some];rw[decide_eq_false (show v ∉ l from g)];rfl
 | inr i=>simp only[Option.bind_some];rw[decide_eq_true g.2,decide_eq_true g.1]
structure Same (u s:List Int) (n:Nat):Prop where
 asc:s.Pairwise (· < ·)
 nd:u.Nodup
 mem:∀ x,x ∈ u ↔ x ∈ s
 lu:u.length<=n
 ls:s.length<=n
theorem Same.sort {u s:List Int} {n:Nat} (h:Same u s n):sortI u=s:=by
 have hs:s.Nodup:=h.asc.imp λ hab=>by omega
 have hp:List.Perm (sortI u) s:=(List.mergeSort_perm u _).trans ((List.perm_ext_iff_of_nodup h.nd hs).2 h.mem)
 have h1:(sortI u).Pairwise (λ a b=>decide (a<=b)=true):=List.pairwise_mergeSort (λ a b c=>by simp;omega) (λ a b=>by simp;omega) u
 exact List.Perm.eq_of_pairwise (le:=λ a b=>a<=b) (λ a b _ _ h1 h2=>by omega) (h1.imp λ h=>by simpa using h) (h.asc.imp λ h=>by omega) hp
theorem Same.step {u s:List Int} {n:Nat} (h:Same u s n) (v:Int):Same (if v ∈ u then u else u++[v]) (ins v s) (n+1):=by
 have hl:=ins_len v s
 refine ⟨ins_asc v s h.asc,?_,λ x => ?_,?_,by have:=h.ls;omega⟩
 ·split
  ·exact h.nd
  ·rename_i hv
   rw[List.nodup_append]
   refine ⟨h.nd,by simp,λ a ha b hb => ?_⟩
   rw[List.mem_singleton]at hb
   subst hb
   rintro rfl
   exact hv ha
 ·rw[ins_mem]
  split
  ·rename_i hv
   rw[h.mem]
   constructor
   ·exact λ hx=>.inr hx
   ·rintro (rfl|hx)
    ·exact (h.mem _).1 hv
    ·exact hx
  ·rw[List.mem_append,List.mem_singleton,h.mem]
   constructor
   ·rintro (h|h)
    ·exact .inr h
    ·exact .inl h
   ·rintro (h|h)
    ·exact .inr h
    ·exact .inl h
 ·have:=h.lu
  split
  ·omega
  ·simp;omega
theorem calls_loops {body:List GOp} (hb:body.length<=60):∀ (k i:Nat) (u s:List Int),i<=body.length->body.length-i < k->Same u s i →
  ∃ u' s',Same u' s' body.length/\g_impl_callsOf_l0 body (body.length:Int) k u (i:Int)=some u'/\g_spec_CallsOf_l0 body k s (i:Int)=some s':=by
 intro k
 induction k with
 | zero=>intro i u s h0 h1;omega
 | succ k ih =>
  intro i u s h0 h1 h
  rw[g_impl_callsOf_l0,g_spec_CallsOf_l0]
  by_cases hn:i < body.length
  case neg =>
   have:i=body.length:=by omega
   subst this
   exact ⟨u,s,h,by rw[decide_eq_false (by omega),cond_false],by rw[decide_eq_false (by omega),cond_false]⟩
  rw[decide_eq_true (by omega),cond_true,cond_true,getI_nat,List.getElem?_eq_getElem hn,nxt (by omega)]
  simp only[Option.bind_some]
  cases hk:(body[i].Kind==2) with
  | false =>
   simp only[cond_false,Option.bind_some]
   exact ih (i+1) u s (by omega) (by omega) ⟨h.asc,h.nd,h.mem,by have:=h.lu;omega,by have:=h.ls;omega⟩
  | true =>
   have:=h.lu;have:=h.ls
   simp only[cond_true,Option.bind_some]
   rw[has_eq (by omega),put_eq (by omega)]
   simp only[Option.bind_some]
   have:=h.step (IntKind.wrap .i64 body[i].N)
   by_cases hv:IntKind.wrap .i64 body[i].N ∈ u
   ·rw[if_pos hv]at this
    rw[decide_eq_true hv]
    exact ih (i+1) _ _ (by omega) (by omega) this
   ·rw[if_neg hv]at this
    rw[decide_eq_false hv,Bool.not_false,cond_true,app_eq (by simp;omega)]
    exact ih (i+1) _ _ (by omega) (by omega) this
theorem Same.nil:Same [] [] 0:=⟨.nil,by simp,λ _=>Iff.rfl,Nat.le_refl _,Nat.le_refl _⟩
theorem calls_body {body:List GOp} (hb:body.length<=60):∃ s:List Int,s.length<=60/\s.Pairwise (· < ·)/\g_impl_callsOf body=some s/\g_spec_CallsOf_l0 body bigK [] 0=some s:=by
 obtain ⟨u,s,h,e1,e2⟩:=calls_loops hb bigK 0 [] [] (Nat.zero_le _) (by unfold bigK;omega) .nil
 rw[show ((0:Nat):Int)=0 from rfl]at e1 e2
 have:=h.lu;have:=h.ls
 refine ⟨s,by omega,h.asc,?_,e2⟩
 rw[g_impl_callsOf,e1]
 simp only[Option.bind_some]
 rw[g_slices_Sort_int,gSort,decide_eq_true (by omega),cond_true,h.sort]
 rfl
end Go.Proofs.YtnhefmibcnbehaaDoor
namespace Go.Proofs.YtnhefmibcnbehaaDoor
open Go Go.Fm
inductive Rch (nx:Int->List Int) (k:Int):Int->Prop where
 | refl:Rch nx k k
 | step {x y:Int} (h:Rch nx k x) (hy:y ∈ nx x):Rch nx k y
theorem Rch.iff {nx:Int->List Int} {k:Int} {out:List Int} (hk:k ∈ out) (hr:∀ x ∈ out,Rch nx k x) (hc:∀ x ∈ out,∀ y ∈ nx x,y ∈ out) (x:Int):x ∈ out ↔ Rch nx k x:=by
 refine ⟨hr x,λ h => ?_⟩
 induction h with
 | refl=>exact hk
 | step h hy ih=>exact hc _ ih _ hy
theorem sub_len:∀ {a b:List Int},a.Nodup->(∀ x ∈ a,x ∈ b)->a.length<=b.length
 | [],b,_,_=>Nat.zero_le _
 | x::a,b,hn,hs=>by
  have hx:x ∈ b:=hs x (by simp)
  rw[List.nodup_cons]at hn
  have:=sub_len (a:=a) (b:=b.erase x) hn.2 λ y hy=>by
   have hne:y≠x:=λ e=>hn.1 (e▸hy)
   exact (List.mem_erase_of_ne hne).2 (hs y (by simp[hy]))
  rw[List.length_erase_of_mem hx]at this
  have:0 < b.length:=List.length_pos_of_mem hx
  simp only[List.length_cons]
  omega
def upto:Nat->List Int
 | 0=>[]
 | n+1=>upto n++[(n:Int)]
theorem upto_len:∀ n,(upto n).length=n
 | 0=>rfl
 | n+1=>by simp[upto,upto_len n]
theorem upto_mem:∀ {n:Nat} {x:Int},x ∈ upto n ↔ 0<=x/\x < n
 | 0,x=>by first|(simp[upto];done)|(simp[upto];omega)
 | n+1,x=>by
  simp only[upto,List.mem_append,List.mem_singleton,upto_mem (n:=n)]
  omega
theorem nd_len {u:List Int} {n:Nat} (hn:u.Nodup) (h:∀ x ∈ u,0<=x/\x < n):u.length<=n:=by
 have:=sub_len (b:=upto n) hn λ x hx=>upto_mem.2 (h x hx)
 rwa [upto_len]at this
theorem asc_nodup {s:List Int} (h:s.Pairwise (· < ·)):s.Nodup:=h.imp λ hab=>by omega
theorem asc_eq {a b:List Int} (ha:a.Pairwise (· < ·)) (hb:b.Pairwise (· < ·)) (h:∀ x,x ∈ a ↔ x ∈ b):a=b:=by
 have h1:=Same.sort (u:=a) (s:=b) (n:=a.length+b.length) ⟨hb,asc_nodup ha,h,by omega,by omega⟩
 have h2:=Same.sort (u:=a) (s:=a) (n:=a.length) ⟨ha,asc_nodup ha,λ _=>Iff.rfl,by omega,by omega⟩
 rw[<-h1,h2]
theorem sort_mem {u:List Int} {x:Int}:x ∈ sortI u ↔ x ∈ u:=(List.mergeSort_perm u _).mem_iff
theorem sort_asc {u:List Int} (h:u.Nodup):(sortI u).Pairwise (· < ·):=by
 have h1:(sortI u).Pairwise (λ a b=>decide (a<=b)=true):=List.pairwise_mergeSort (λ a b c=>by simp;omega) (λ a b=>by simp;omega) u
 have h2:(sortI u).Nodup:=(List.mergeSort_perm u _).nodup_iff.2 h
 exact (h1.and h2).imp λ ⟨h3,h4⟩=>by have:=of_decide_eq_true h3;omega
def addAll:List Int->List Int->List Int
 | out,[]=>out
 | out,v::r=>addAll (if v ∈ out then out else out++[v]) r
theorem addAll_mem:∀ {l out:List Int} {x:Int},x ∈ addAll out l ↔ x ∈ out\/x ∈ l
 | [],out,x=>by simp[addAll]
 | v::r,out,x=>by
  rw[addAll,addAll_mem]
  split
  ·rename_i h
   constructor
   ·rintro (h1|h1)
    ·exact .inl h1
    ·exact .inr (by simp[h1])
   ·rintro (h1|h1)
    ·exact .inl h1
    ·rcases List.mem_cons.1 h1 with rfl|h1
     ·exact .inl h
     ·exact .inr h1
  ·simp only[List.mem_append,List.mem_cons,List.not_mem_nil,or_false]
   constructor
   ·rintro ((h1|h1)|h1)
    ·exact .inl h1
    ·exact .inr (.inl h1)
    ·exact .inr (.inr h1)
   ·rintro (h1|h1|h1)
    ·exact .inl (.inl h1)
    ·exact .inl (.inr h1)
    ·exact .inr h1
theorem addAll_nodup:∀ {l out:List Int},out.Nodup->(addAll out l).Nodup
 | [],out,h=>h
 | v::r,out,h=>by
  rw[addAll]
  refine addAll_nodup ?_
  split
  ·exact h
  ·rename_i hv
   rw[List.nodup_append]
   refine ⟨h,by simp,λ a ha b hb => ?_⟩
   rw[List.mem_singleton]at hb
   subst hb
   rintro rfl
   exact hv ha
theorem addAll_get:∀ {l out:List Int} {i:Nat},i < out.length->(addAll out l)[i]? = out[i]? ∧ out.length<=(addAll out l).length
 | [],out,i,h=>⟨rfl,Nat.le_refl _⟩
 | v::r,out,i,h=>by
  rw[addAll]
  split
  ·exact addAll_get h
  ·have:=addAll_get (l:=r) (out:=out++[v]) (i:=i) (by simp;omega)
   rw[List.getElem?_append_left h]at this
   exact ⟨this.1,by have:=this.2;simp at this;omega⟩
def insAll:List Int->List Int->List Int
 | out,[]=>out
 | out,v::r=>insAll (ins v out) r
theorem insAll_mem:∀ {l out:List Int} {x:Int},x ∈ insAll out l ↔ x ∈ out\/x ∈ l
 | [],out,x=>by simp[insAll]
 | v::r,out,x=>by
  rw[insAll,insAll_mem,ins_mem,List.mem_cons]
  constructor
  ·rintro ((h|h)|h)
   ·exact .inr (.inl h)
   ·exact .inl h
   ·exact .inr (.inr h)
  ·rintro (h|h|h)
   ·exact .inl (.inr h)
   ·exact .inl (.inl h)
   ·exact .inr h
theorem insAll_asc:∀ {l out:List Int},out.Pairwise (· < ·)->(insAll out l).Pairwise (· < ·)
 | [],out,h=>h
 | v::r,out,h=>by rw[insAll];exact insAll_asc (ins_asc v out h)
theorem insAll_same {l out:List Int} (ha:out.Pairwise (· < ·)) (h:¬ (insAll out l).length > out.length):∀ y ∈ l,y ∈ out:=by
 intro y hy
 by_cases hm:y ∈ out
 ·exact hm
 ·exfalso
  have h1:(y::out).Nodup:=List.nodup_cons.2 ⟨hm,asc_nodup ha⟩
  have:=sub_len (b:=insAll out l) h1 λ x hx=>by
   rw[insAll_mem]
   rcases List.mem_cons.1 hx with rfl|hx
   ·exact .inr hy
   ·exact .inl hx
  simp at this
  omega
end Go.Proofs.YtnhefmibcnbehaaDoor
namespace Go.Proofs.YtnhefmibcnbehaaDoor
open Go Go.Fm
set_option maxRecDepth 100000
theorem put_own {l:List Int} {n:Int} (hl:l.length<=1000):g_spec_l20Put_own l n=some (ins n l):=by
 rw[<-put_eq hl]
 have e:∀ k i,g_spec_l20Put_own_l0 l n k i=g_spec_l20Put_l0 l n k i:=by
  intro k
  induction k with
  | zero=>intro i;rfl
  | succ k ih=>intro i;unfold g_spec_l20Put_own_l0 g_spec_l20Put_l0;simp only[ih]
 unfold g_spec_l20Put_own g_spec_l20Put
 simp only[e]
theorem calls_own {body:List GOp} (hb:body.length<=60):∀ (k i:Nat) (s:List Int),i<=body.length->body.length-i < k->s.length<=i →
  ∃ s',g_spec_CallsOf_l0 body k s (i:Int)=some s'/\g_spec_CallsOf_own_l0 body k s (i:Int)=some s'/\∀ x,x ∈ s' ↔ x ∈ s\/∃ o ∈ body.drop i,o.Kind=2/\x=IntKind.wrap .i64 o.N:=by
 intro k
 induction k with
 | zero=>intro i s h0 h1;omega
 | succ k ih =>
  intro i s h0 h1 h2
  rw[g_spec_CallsOf_l0,g_spec_CallsOf_own_l0]
  by_cases hn:i < body.length
  case neg =>
   rw[decide_eq_false (by omega),cond_false,cond_false,List.drop_eq_nil_of_le (by omega)]
   exact ⟨s,rfl,rfl,λ x=>by simp⟩
  rw[decide_eq_true (by omega),cond_true,cond_true,getI_nat,List.getElem?_eq_getElem hn,nxt (by omega),List.drop_eq_getElem_cons hn]
  simp only[Option.bind_some]
  by_cases hk:body[i].Kind=2
  ·rw[show (body[i].Kind==2)=true by simp[hk],cond_true,cond_true,put_eq (by omega),put_own (by omega)]
   simp only[Option.bind_some]
   have hl:=ins_len (IntKind.wrap .i64 body[i].N) s
   obtain ⟨s',e1,e2,e3⟩:=ih (i+1) (ins (IntKind.wrap .i64 body[i].N) s) (by omega) (by omega) (by omega)
   refine ⟨s',e1,e2,λ x => ?_⟩
   rw[e3,ins_mem]
   constructor
   ·rintro ((h|h)|⟨o,ho,h3,h4⟩)
    ·exact .inr ⟨body[i],List.mem_cons_self,hk,h⟩
    ·exact .inl h
    ·exact .inr ⟨o,List.mem_cons_of_mem _ ho,h3,h4⟩
   ·rintro (h|⟨o,ho,h3,h4⟩)
    ·exact .inl (.inr h)
    ·rcases List.mem_cons.1 ho with rfl|ho
     ·exact .inl (.inl h4)
     ·exact .inr ⟨o,ho,h3,h4⟩
  ·rw[show (body[i].Kind==2)=false by simp[hk],cond_false,cond_false]
   simp only[Option.bind_some]
   obtain ⟨s',e1,e2,e3⟩:=ih (i+1) s (by omega) (by omega) (by omega)
   refine ⟨s',e1,e2,λ x => ?_⟩
   rw[e3]
   constructor
   ·rintro (h|⟨o,ho,h3,h4⟩)
    ·exact .inl h
    ·exact .inr ⟨o,List.mem_cons_of_mem _ ho,h3,h4⟩
   ·rintro (h|⟨o,ho,h3,h4⟩)
    ·exact .inl h
    ·rcases List.mem_cons.1 ho with rfl|ho
     ·exact absurd h3 hk
     ·exact .inr ⟨o,ho,h3,h4⟩
def callsL (body:List GOp):List Int:=(g_impl_callsOf body).getD []
structure CallsOk (body:List GOp):Prop where
 i:g_impl_callsOf body=some (callsL body)
 s:g_spec_CallsOf_own_l0 body bigK [] 0=some (callsL body)
 m:∀ x,x ∈ callsL body ↔ ∃ o ∈ body,o.Kind=2/\x=IntKind.wrap .i64 o.N
 l:(callsL body).length<=60
theorem callsL_ok {body:List GOp} (hb:body.length<=60):CallsOk body:=by
 obtain ⟨s,h1,_,h2,h3⟩:=calls_body hb
 have e:callsL body=s:=by unfold callsL;rw[h2];rfl
 obtain ⟨s',e1,e2,e3⟩:=calls_own hb bigK 0 [] (Nat.zero_le _) (by unfold bigK;omega) (Nat.le_refl _)
 rw[show ((0:Nat):Int)=0 from rfl]at e1 e2
 rw[h3]at e1
 cases e1
 refine ⟨by rw[e];exact h2,by rw[e];exact e2,λ x => ?_,by rw[e];exact h1⟩
 rw[e,e3,List.drop_zero]
 simp
def fallsB (body:List GOp):Bool:=shapeB body&&(decide (body.length=0) || decide (∃ o,body.getLast? = some o/\o.Kind≠8))
theorem falls_both {body:List GOp} (hb:body.length<=1048576):g_impl_Falls body=some (fallsB body)/\g_spec_Falls body=some (fallsB body):=by
 have key:(cond (shapeB body) (cond ((body.length:Int)==0) (some true) ((getI body (IntKind.wrap .i64 ((body.length:Int)-1))).bind λ v_4=>some (v_4.Kind != 8))) (some false):Option Bool)=some (fallsB body):=by
  unfold fallsB
  cases shapeB body
  ·rfl
  ·rw[cond_true,Bool.true_and]
   by_cases h0:body.length=0
   ·rw[show ((body.length:Int)==0)=true by simp[h0],cond_true,decide_eq_true h0,Bool.true_or]
   ·rw[show ((body.length:Int)==0)=false by rw[beq_eq_false_iff_ne];omega,cond_false,decide_eq_false h0,Bool.false_or,wI64 (by omega) (by omega),show (body.length:Int)-1=((body.length-1:Nat):Int) by omega,getI_nat,List.getElem?_eq_getElem (by omega),Option.bind_some]
    have e:body.getLast? = some body[body.length-1]:=by
     rw[List.getLast?_eq_getElem?,List.getElem?_eq_getElem (by omega)]
    rw[e]
    congr 1
    by_cases hk:body[body.length-1].Kind=8
    ·rw[hk]
     rw[decide_eq_false]
     ·rfl
     ·rintro ⟨o,ho,h8⟩
      cases ho
      exact h8 hk
    ·rw[decide_eq_true ⟨_,rfl,hk⟩]
     simp[hk]
 unfold g_impl_Falls g_spec_Falls
 rw[implShape hb,specShape hb]
 simp only[Option.bind_some]
 exact ⟨key,key⟩
def bodyAt (defs:List GDef) (x:Int):List GOp:=match defs[x.toNat]? with|some d=>d.Body|none=>[]
def nx (defs:List GDef) (x:Int):List Int:=callsL (bodyAt defs x)++(if fallsB (bodyAt defs x)=true/\x+1 < defs.length then [x+1] else [])
structure DG (defs:List GDef):Prop where
 n:defs.length<=24
 s:∀ d ∈ defs,shapeB d.Body=true
 c:∀ d ∈ defs,∀ o ∈ d.Body,o.Kind=2->0<=IntKind.wrap .i64 o.N/\IntKind.wrap .i64 o.N < defs.length
theorem shape_len {body:List GOp} (h:shapeB body=true):body.length<=60:=by
 unfold shapeB at h;simp only[Bool.and_eq_true,decide_eq_true_eq]at h;exact h.1.1
theorem DG.at {defs:List GDef} (h:DG defs) {x:Int} (h0:0<=x) (h1:x < defs.length):∃ d,getI defs x=some d/\d ∈ defs/\bodyAt defs x=d.Body:=by
 obtain ⟨d,e1,e2,e3⟩:=getI_ex h0 h1
 exact ⟨d,e1,e2,by unfold bodyAt;rw[e3]⟩
theorem DG.nx {defs:List GDef} (h:DG defs) {x y:Int} (h0:0<=x) (h1:x < defs.length) (hy:y ∈ nx defs x):0<=y/\y < defs.length:=by
 obtain ⟨d,_,e2,e3⟩:=h.at h0 h1
 unfold YtnhefmibcnbehaaDoor.nx at hy
 rw[e3]at hy
 rcases List.mem_append.1 hy with hy|hy
 ·obtain ⟨o,ho,hk,rfl⟩:=((callsL_ok (shape_len (h.s d e2))).m y).1 hy
  exact h.c d e2 o ho hk
 ·split at hy
  ·rename_i hc
   rw[List.mem_singleton]at hy
   omega
  ·cases hy
theorem nx_len {defs:List GDef} (h:DG defs) {x:Int} (h0:0<=x) (h1:x < defs.length):(nx defs x).length<=61:=by
 obtain ⟨d,_,e2,e3⟩:=h.at h0 h1
 unfold nx
 rw[e3,List.length_append]
 have:=(callsL_ok (shape_len (h.s d e2))).l
 split<;>simp<;>omega
theorem l1_impl {list:List Int}:∀ (k n:Nat) (out:List Int),n<=list.length->list.length-n < k->list.length<=100->out.length+list.length<=n+800->g_impl_Reach_l1 list (list.length:Int) k out (n:Int)=some (addAll out (list.drop n)):=by
 intro k
 induction k with
 | zero=>intro n out h0 h1;omega
 | succ k ih =>
  intro n out h0 h1 hl h2
  rw[g_impl_Reach_l1]
  by_cases hn:n < list.length
  ·rw[decide_eq_true (by omega),cond_true,getI_nat,List.getElem?_eq_getElem hn,List.drop_eq_getElem_cons hn,addAll]
   simp only[Option.bind_some]
   rw[has_eq (by omega)]
   simp only[Option.bind_some]
   by_cases hm:list[n] ∈ out
   ·rw[decide_eq_true hm,Bool.not_true,cond_false,if_pos hm,Option.bind_some,nxt (by omega)]
    exact ih (n+1) out (by omega) (by omega) hl (by omega)
   ·rw[decide_eq_false hm,Bool.not_false,cond_true,if_neg hm,app_eq (by simp;omega)]
    simp only[Option.bind_some]
    rw[nxt (by omega)]
    exact ih (n+1) _ (by omega) (by omega) hl (by simp;omega)
  ·rw[decide_eq_false (by omega),cond_false,List.drop_eq_nil_of_le (by omega)];rfl
structure RcI (defs:List GDef) (k:Int) (out:List Int) (i:Nat):Prop where
 nd:out.Nodup
 m0:k ∈ out
 v:∀ x ∈ out,0<=x/\x < defs.length
 r:∀ x ∈ out,Rch (nx defs) k x
 le:i<=out.length
 c:∀ (j:Nat) (x:Int),j < i->out[j]? = some x->∀ y ∈ nx defs x,y ∈ out
theorem RcI.len {defs:List GDef} {k:Int} {out:List Int} {i:Nat} (h:RcI defs k out i):out.length<=defs.length:=nd_len h.nd h.v
theorem impl_reach_loop {defs:List GDef} (hd:DG defs) {kk:Int}:∀ (k:Nat) (out:List Int) (i:Nat),RcI defs kk out i->defs.length-i < k →
  ∃ r,g_impl_Reach_l0 defs k out (i:Int)=some r/\RcI defs kk r r.length:=by
 intro k
 induction k with
 | zero=>intro out i h h1;have:=h.len;have:=h.le;omega
 | succ k ih =>
  intro out i h h1
  have hlen:=h.len
  have hi:=h.le
  have hn24:=hd.n
  rw[g_impl_Reach_l0]
  by_cases hn:i < out.length
  case neg =>
   rw[decide_eq_false (by omega),cond_false]
   have:i=out.length:=by omega
   subst this
   exact ⟨out,rfl,h⟩
  have hx:=h.v out[i] (List.getElem_mem hn)
  obtain ⟨d,e1,e2,e3⟩:=hd.at hx.1 hx.2
  have hs:=shape_len (hd.s d e2)
  have hc:=callsL_ok hs
  obtain ⟨f1,_⟩:=falls_both (body:=d.Body) (by omega)
  rw[decide_eq_true (by omega),cond_true,getI_nat,List.getElem?_eq_getElem hn,Option.bind_some,e1]
  simp only[Option.bind_some]
  rw[hc.i,f1]
  simp only[Option.bind_some]
  have hl:((cond (fallsB d.Body) (some (decide ((IntKind.wrap .i64 (out[i]+1)) < (defs.length:Int)))) (some false):Option Bool).bind λ v_16=>cond v_16 ((app (callsL d.Body) [IntKind.wrap .i64 (out[i]+1)]).bind λ v_19=>some v_19) (some (callsL d.Body)):Option (List Int))=some (nx defs out[i]):=by
   unfold nx
   rw[e3,wI64 (by omega) (by omega)]
   cases hf:fallsB d.Body
   ·simp
   ·rw[cond_true,Option.bind_some]
    by_cases hlt:out[i]+1 < defs.length
    ·rw[decide_eq_true hlt,cond_true,app_eq (by have:=hc.l;simp;omega),if_pos ⟨rfl,hlt⟩];rfl
    ·rw[decide_eq_false hlt,cond_false,if_neg (λ h=>hlt h.2)];simp
  rw[hl,Option.bind_some]
  have hnl:=nx_len hd hx.1 hx.2
  have l1:=l1_impl (list:=nx defs out[i]) bigK 0 out (Nat.zero_le _) (by unfold bigK;omega) (by omega) (by omega)
  rw[show ((0:Nat):Int)=0 from rfl,List.drop_zero]at l1
  rw[l1]
  simp only[Option.bind_some]
  rw[nxt (by omega)]
  have hget:∀ j,j < out.length->(addAll out (nx defs out[i]))[j]? = out[j]? := λ j hj=>(addAll_get hj).1
  refine ih _ (i+1) ⟨addAll_nodup h.nd,addAll_mem.2 (.inl h.m0),λ x hx2 => ?_,λ x hx2 => ?_,?_,λ j x hj hjx y hy => ?_⟩ (by omega)
  ·rcases addAll_mem.1 hx2 with hx2|hx2
   ·exact h.v x hx2
   ·exact hd.nx hx.1 hx.2 hx2
  ·rcases addAll_mem.1 hx2 with hx2|hx2
   ·exact h.r x hx2
   ·exact .step (h.r _ (List.getElem_mem hn)) hx2
  ·have:=(addAll_get (l:=nx defs out[i]) hn).2;omega
  ·rw[hget j (by omega)]at hjx
   by_cases hji:j < i
   ·exact addAll_mem.2 (.inl (h.c j x hji hjx y hy))
   ·have:j=i:=by omega
    subst this
    rw[List.getElem?_eq_getElem hn]at hjx
    cases hjx
    exact addAll_mem.2 (.inr hy)
structure IsR (defs:List GDef) (k:Int) (r:List Int):Prop where
 asc:r.Pairwise (· < ·)
 v:∀ x ∈ r,0<=x/\x < defs.length
 m:∀ x,x ∈ r ↔ Rch (nx defs) k x
theorem IsR.len {defs:List GDef} {k:Int} {r:List Int} (h:IsR defs k r):r.length<=defs.length:=nd_len (asc_nodup h.asc) h.v
theorem IsR.uniq {defs:List GDef} {k:Int} {r s:List Int} (h:IsR defs k r) (g:IsR defs k s):r=s:=asc_eq h.asc g.asc λ x=>(h.m x).trans (g.m x).symm
theorem RcI.done {defs:List GDef} {k:Int} {r:List Int} (h:RcI defs k r r.length) (x:Int):x ∈ r ↔ Rch (nx defs) k x :=
 Rch.iff h.m0 h.r (λ x hx y hy=>by
  obtain ⟨j,hj,e⟩:=List.getElem_of_mem hx
  exact h.c j x hj (by rw[List.getElem?_eq_getElem hj,e]) y hy) x
theorem impl_reach_set {defs:List GDef} (hd:DG defs) {k:Int} (h0:0<=k) (h1:k < defs.length):∃ r,(((g_impl_Reach_l0 defs bigK [k] 0).bind λ out_10=>some out_10:Option ((List Int))).bind λ out_7=>(g_slices_Sort_int out_7).bind λ y_28=>some y_28)=some r/\IsR defs k r:=by
 have hn24:=hd.n
 obtain ⟨r,e,h⟩:=impl_reach_loop hd (kk:=k) bigK [k] 0 ⟨by simp,by simp,λ x hx=>by rw[List.mem_singleton.1 hx];exact ⟨h0,h1⟩,λ x hx=>by rw[List.mem_singleton.1 hx];exact .refl,by simp,λ j x hj=>by omega⟩ (by unfold bigK;omega)
 rw[show ((0:Nat):Int)=0 from rfl]at e
 have hl:=h.len
 refine ⟨sortI r,?_,sort_asc h.nd,λ x hx=>h.v x (sort_mem.1 hx),λ x=>sort_mem.trans (h.done x)⟩
 rw[e]
 simp only[Option.bind_some]
 rw[g_slices_Sort_int,gSort,decide_eq_true (by omega),cond_true]
 rfl
theorem l2_spec {list:List Int}:∀ (k n:Nat) (out:List Int),n<=list.length->list.length-n < k->list.length<=100->out.length+list.length<=n+800->g_spec_Reach_l2 list k out (n:Int)=some (insAll out (list.drop n)):=by
 intro k
 induction k with
 | zero=>intro n out h0 h1;omega
 | succ k ih =>
  intro n out h0 h1 hl h2
  rw[g_spec_Reach_l2]
  by_cases hn:n < list.length
  ·rw[decide_eq_true (by omega),cond_true,getI_nat,List.getElem?_eq_getElem hn,List.drop_eq_getElem_cons hn,insAll]
   simp only[Option.bind_some]
   rw[put_eq (by omega)]
   simp only[Option.bind_some]
   rw[nxt (by omega)]
   have:=ins_len list[n] out
   exact ih (n+1) _ (by omega) (by omega) hl (by omega)
  ·rw[decide_eq_false (by omega),cond_false,List.drop_eq_nil_of_le (by omega)];rfl
structure SI (defs:List GDef) (k:Int) (out:List Int):Prop where
 asc:out.Pairwise (· < ·)
 m0:k ∈ out
 v:∀ x ∈ out,0<=x/\x < defs.length
 r:∀ x ∈ out,Rch (nx defs) k x
theorem SI.len {defs:List GDef} {k:Int} {out:List Int} (h:SI defs k out):out.length<=defs.length:=nd_len (asc_nodup h.asc) h.v
theorem l1_spec {defs:List GDef} (hd:DG defs) {kk:Int} {out:List Int} (h:SI defs kk out):∀ (k i:Nat),i<=out.length->out.length-i < k →
  ∃ r,g_spec_Reach_l1 defs (out.length:Int) k out (i:Int)=some r/\SI defs kk r/\(r.length > out.length\/(r=out/\∀ (j:Nat) (x:Int),i<=j->out[j]? = some x->∀ y ∈ nx defs x,y ∈ out)):=by
 intro k
 induction k with
 | zero=>intro i h0 h1;omega
 | succ k ih =>
  intro i h0 h1
  have hlen:=h.len
  have hn24:=hd.n
  rw[g_spec_Reach_l1]
  by_cases hn:i < out.length
  case neg =>
   rw[decide_eq_false (by omega),cond_false]
   exact ⟨out,rfl,h, .inr ⟨rfl,λ j x hj hjx=>by rw[List.getElem?_eq_none (by omega)]at hjx;cases hjx⟩⟩
  have hx:=h.v out[i] (List.getElem_mem hn)
  obtain ⟨d,e1,e2,e3⟩:=hd.at hx.1 hx.2
  have hsh:=hd.s d e2
  have hs:=shape_len hsh
  have hc:=callsL_ok hs
  obtain ⟨_,f1⟩:=falls_both (body:=d.Body) (by omega)
  have hcs:g_spec_CallsOf_own d.Body=some (callsL d.Body):=by
   unfold g_spec_CallsOf_own
   rw[specShape (by omega),hsh,Option.bind_some,Bool.not_true,cond_false,hc.s];rfl
  rw[decide_eq_true (by omega),cond_true,getI_nat,List.getElem?_eq_getElem hn]
  simp only[Option.bind_some]
  rw[e1]
  simp only[Option.bind_some]
  rw[hcs,f1]
  simp only[Option.bind_some]
  have hl:((cond (fallsB d.Body) (some (decide ((IntKind.wrap .i64 (out[i]+1)) < (defs.length:Int)))) (some false):Option Bool).bind λ v_16=>cond v_16 ((app (callsL d.Body) [IntKind.wrap .i64 (out[i]+1)]).bind λ v_19=>some v_19) (some (callsL d.Body)):Option (List Int))=some (nx defs out[i]):=by
   unfold nx
   rw[e3,wI64 (by omega) (by omega)]
   cases hf:fallsB d.Body
   ·simp
   ·rw[cond_true,Option.bind_some]
    by_cases hlt:out[i]+1 < defs.length
    ·rw[decide_eq_true hlt,cond_true,app_eq (by have:=hc.l;simp;omega),if_pos ⟨rfl,hlt⟩];rfl
    ·rw[decide_eq_false hlt,cond_false,if_neg (λ h=>hlt h.2)];simp
  rw[hl,Option.bind_some]
  have hnl:=nx_len hd hx.1 hx.2
  have l2:=l2_spec (list:=nx defs out[i]) bigK 0 out (Nat.zero_le _) (by unfold bigK;omega) (by omega) (by omega)
  rw[show ((0:Nat):Int)=0 from rfl,List.drop_zero]at l2
  rw[l2]
  simp only[Option.bind_some]
  by_cases hg:(insAll out (nx defs out[i])).length > out.length
  ·rw[decide_eq_true (by omega),cond_true]
   refine ⟨_,rfl,⟨insAll_asc h.asc,insAll_mem.2 (.inl h.m0),λ x hx2 => ?_,λ x hx2 => ?_⟩, .inl hg⟩
   ·rcases insAll_mem.1 hx2 with hx2|hx2
    ·exact h.v x hx2
    ·exact hd.nx hx.1 hx.2 hx2
   ·rcases insAll_mem.1 hx2 with hx2|hx2
    ·exact h.r x hx2
    ·exact .step (h.r _ (List.getElem_mem hn)) hx2
  ·rw[decide_eq_false (by omega),cond_false]
   simp only[Option.bind_some]
   rw[nxt (by omega)]
   obtain ⟨r,g1,g2,g3⟩:=ih (i+1) (by omega) (by omega)
   refine ⟨r,g1,g2,g3.imp id λ ⟨g4,g5⟩=>⟨g4,λ j x hj hjx y hy => ?_⟩⟩
   by_cases hji:j=i
   ·subst hji
    rw[List.getElem?_eq_getElem hn]at hjx
    cases hjx
    exact insAll_same h.asc hg y hy
   ·exact g5 j x (by omega) hjx y hy
theorem spec_reach_loop {defs:List GDef} (hd:DG defs) {kk:Int}:∀ (k:Nat) (out:List Int) (more:Bool),SI defs kk out->(more=false->∀ x ∈ out,∀ y ∈ nx defs x,y ∈ out)->defs.length-out.length+(if more then 1 else 0) < k →
  ∃ r,g_spec_Reach_l0 defs k out more=some r/\IsR defs kk r:=by
 intro k
 induction k with
 | zero=>intro out more h hm h1;omega
 | succ k ih =>
  intro out more h hm h1
  have hlen:=h.len
  rw[g_spec_Reach_l0]
  cases more with
  | false=>exact ⟨out,rfl,h.asc,h.v,Rch.iff h.m0 h.r (hm rfl)⟩
  | true =>
   rw[cond_true]
   obtain ⟨r,g1,g2,g3⟩:=l1_spec hd h bigK 0 (Nat.zero_le _) (by have:=hd.n;unfold bigK;omega)
   rw[show ((0:Nat):Int)=0 from rfl]at g1
   rw[g1]
   simp only[Option.bind_some]
   have hr:=g2.len
   simp only[if_true]at h1
   rcases g3 with g3|⟨rfl,g3⟩
   ·rw[decide_eq_true (by omega)]
    exact ih r true g2 (λ h=>by cases h) (by simp only[if_true];omega)
   ·rw[decide_eq_false (by omega)]
    exact ih r false g2 (λ _ x hx y hy=>by
     obtain ⟨j,hj,e⟩:=List.getElem_of_mem hx
     exact g3 j x (Nat.zero_le _) (by rw[List.getElem?_eq_getElem hj,e]) y hy) (by simp;omega)
theorem spec_reach_set {defs:List GDef} (hd:DG defs) {k:Int} (h0:0<=k) (h1:k < defs.length):∃ r,(((g_spec_Reach_l0 defs bigK [k] true).bind λ out_10=>some out_10:Option ((List Int))).bind λ out_7=>some out_7)=some r/\IsR defs k r:=by
 have hn24:=hd.n
 obtain ⟨r,e,h⟩:=spec_reach_loop hd (kk:=k) bigK [k] true ⟨by simp,by simp,λ x hx=>by rw[List.mem_singleton.1 hx];exact ⟨h0,h1⟩,λ x hx=>by rw[List.mem_singleton.1 hx];exact .refl⟩ (λ h=>by cases h) (by unfold bigK;simp;omega)
 exact ⟨r,by rw[e];rfl,h⟩
end Go.Proofs.YtnhefmibcnbehaaDoor
namespace Go.Proofs.YtnhefmibcnbehaaDoor
open Go Go.Fm
set_option maxRecDepth 100000
structure DefSz (d:GDef):Prop where
 n:d.Name.length<=1048576
 b:d.Body.length<=1048576
theorem toOpS {a:List GOp} (h:a.length<=1048576):g_laws_toOpS a=some a:=by
 unfold g_laws_toOpS
 rw[mk_eq (by omega) (by omega),Option.bind_some,copyLoop (g_laws_toOpS_l0 a) (λ _ _ _=>rfl) (by omega) (by simp)]
 rfl
theorem toDefS {a:List GDef} (h:a.length<=1048576) (hd:∀ d ∈ a,DefSz d):g_laws_toDefS a=some a:=by
 unfold g_laws_toDefS
 rw[mk_eq (by omega) (by omega),Option.bind_some,copyM (a:=a) (g_laws_toDefS_l0 a) (λ k n out x y hx hn hy=>by
  rw[g_laws_toDefS_l0,decide_eq_true (by omega),cond_true,getI_nat,hx]
  simp only[Option.bind_some]
  unfold g_laws_toDef
  rw[toOpS (hd x (List.mem_of_getElem? hx)).b]
  simp only[Option.bind_some]
  rw[getI_nat,hy,nxt (by omega)]
  rfl) (λ k n out hn=>by rw[g_laws_toDefS_l0,decide_eq_false (by omega),cond_false]) (by omega) (by simp)]
 rfl
theorem eqOpS {a:List GOp} (h:a.length<=1048576):g_laws_eqOpS a a=some true :=
 eqRefl (g_laws_eqOpS_l0 a a) _ rfl (λ k n x hx hn=>by
  rw[g_laws_eqOpS_l0,decide_eq_true (by omega),cond_true,getI_nat,hx]
  unfold g_laws_eqOp
  simp only[Option.bind_some,bne_self',cond_false,Bool.not_true]
  rw[nxt (by omega)]) (λ k n hn=>by rw[g_laws_eqOpS_l0,decide_eq_false (by omega),cond_false]) (by omega)
theorem eqDefS {a:List GDef} (h:a.length<=1048576) (hd:∀ d ∈ a,DefSz d):g_laws_eqDefS a a=some true :=
 eqRefl (g_laws_eqDefS_l0 a a) _ rfl (λ k n x hx hn=>by
  rw[g_laws_eqDefS_l0,decide_eq_true (by omega),cond_true,getI_nat,hx]
  unfold g_laws_eqDef
  simp only[Option.bind_some,bne_self',cond_false]
  rw[eqOpS (hd x (List.mem_of_getElem? hx)).b]
  simp only[Option.bind_some,Bool.not_true,cond_false]
  rw[nxt (by omega)]) (λ k n hn=>by rw[g_laws_eqDefS_l0,decide_eq_false (by omega),cond_false]) (by omega)
def Fits (f:Int->Option Int) (c:Nat) (Q:Prop):Prop:=∀ left:Int,0<=left->left<=1048576->Tot (f left) λ r=>r < 0\/(0<=r/\r+c<=left/\Q)
theorem Fits.one {f:Int->Option Int} {n:Nat} (hn:n<=9223372036854775807) (hf:∀ left,f left=cond (decide ((IntKind.wrap .i64 (left-(n:Int))) < 0)) (some (-1)) (some (IntKind.wrap .i64 (left-(n:Int))))):Fits f n True:=λ left h0 h1=>by
 rw[hf,wI64 (by omega) (by omega)]
 exact .condD (λ _=>.some (.inl (by decide))) λ h=>.some (.inr ⟨by omega,by omega,trivial⟩)
theorem Fits.list {α:Type} {a:List α} {f:Int->Option Int} {F:Nat->Int->Int->Option (Int ⊕ Int)} {g:α->Int->Option Int} {Q:α->Prop} (hl:a.length<=9223372036854775807) (hg:∀ x ∈ a,Fits (g x) 0 (Q x))
  (hs:∀ k left i,F (k+1) left i=cond (decide (i < (a.length:Int))) ((getI a i).bind λ v=>(g v left).bind λ y=>cond (decide (y < 0)) (some (.inr (-1))) (F k y (IntKind.wrap .i64 (i+1)))) (some (.inl left)))
  (hf:∀ left,f left=cond (decide ((IntKind.wrap .i64 (left-(a.length:Int))) < 0)) (some (-1)) (((F bigK (IntKind.wrap .i64 (left-(a.length:Int))) 0).bind λ o=>match o with | .inl l=>some (.inl l) | .inr v=>some (.inr v):Option (Int ⊕ Int)).bind λ o=>match o with | .inl l=>some l | .inr v=>some v)) :
  Fits f a.length (∀ x ∈ a,Q x):=λ left h0 h1=>by
 rw[hf,wI64 (by omega) (by omega)]
 refine .condD (λ h=>.some (.inl (by decide))) λ h => ?_
 have key:∀ (k n:Nat) (l:Int),n<=a.length->a.length-n < k->0<=l->l<=left-a.length->(∀ x ∈ a.take n,Q x)->Tot (F k l (n:Int)) λ o=>match o with | .inl r=>0<=r/\r<=left-a.length/\∀ x ∈ a,Q x | .inr v=>v < 0:=by
  intro k
  induction k with
  | zero=>intro n l g0 g1;omega
  | succ k ih =>
   intro n l g0 g1 g2 g3 g4
   rw[hs]
   refine .condD (λ hi => ?_) λ hi=>.some ⟨g2,g3,by rw[List.take_of_length_le (by omega)]at g4;exact g4⟩
   have hn:n < a.length:=by omega
   refine .bindE (a:=a[n]) (by rw[getI_nat,List.getElem?_eq_getElem hn]) (.bind (hg _ (List.getElem_mem hn) l g2 (by omega)) λ y hy=>.condD (λ _=>.some (by show (-1:Int) < 0;decide)) λ hy0 => ?_)
   have hy:=hy.resolve_left hy0
   rw[nxt (by omega)]
   refine ih (n+1) y (by omega) (by omega) hy.1 (by omega) λ x hx => ?_
   rw[List.take_succ_eq_append_getElem hn]at hx
   rcases List.mem_append.1 hx with hx|hx
   ·exact g4 x hx
   ·rw[List.mem_singleton.1 hx];exact hy.2.2
 have k0:=key bigK 0 (left-a.length) (Nat.zero_le _) (by unfold bigK;omega) (by omega) (Int.le_refl _) (λ x hx=>by rw[List.take_zero]at hx;cases hx)
 obtain ⟨o,e,ho⟩:=k0
 rw[Int.natCast_zero]at e
 rw[e]
 cases o with
 | inl r=>exact .some (.inr ⟨ho.1,by have:=ho.2.1;omega,ho.2.2⟩)
 | inr u=>exact .some (.inl ho)
theorem Fits.weak {f:Int->Option Int} {c:Nat} {Q R:Prop} (h:Fits f c Q) (hq:c<=1048576->Q->R):Fits f 0 R:=λ left h0 h1=>(h left h0 h1).mono λ r hr=>by
 rcases hr with hr|hr
 ·exact .inl hr
 ·exact .inr ⟨hr.1,by omega,hq (by omega) hr.2.2⟩
structure DefW (d:GDef):Prop where
 n:d.Name.length<=LN
 b:d.Body.length<=LN
theorem fitsDefs {a:List GDef} (hl:a.length<=LN) (hd:∀ d ∈ a,DefW d):Fits (g_laws_szDefS a) 0 (a.length<=1048576/\∀ d ∈ a,DefSz d) :=
 Fits.weak (Fits.list (F:=g_laws_szDefS_l0 a) (g:=g_laws_szDef) hl (λ x hx=>(show Fits (g_laws_szDef x) 0 (DefSz x) from λ left h0 h1=>by
  have hw:=hd x hx
  unfold g_laws_szDef
  have hn:x.Name.length<=9223372036854775807:=hw.n
  rw[wI64 (by omega) (by omega)]
  refine .condD (λ _=>.some (.inl (by decide))) λ hk => ?_
  refine .bind ((Fits.one hw.b λ _=>rfl:Fits (g_laws_szOpS x.Body) _ _) _ (by omega) (by omega)) λ y hy=>.condD (λ _=>.some (.inl (by decide))) λ hy0 => ?_
  have hy:=hy.resolve_left hy0
  exact .some (.inr ⟨hy.1,by omega,⟨by omega,by omega⟩⟩))) (λ _ _ _=>rfl) (λ _=>rfl)) λ hc hq=>⟨hc,hq⟩
theorem markText_ok {k:Nat} (hk:k<=1152921504606846976):Tot (g_laws_markText k) λ _=>True:=by
 unfold g_laws_markText
 have key:∀ (f kk:Nat) (out:Bs),kk < f->kk+out.length<=1152921504606846976->Tot (g_laws_markText_l0 f kk out) λ r=>r.length<=1152921504606846976:=by
  intro f
  induction f with
  | zero=>intro kk out h0;omega
  | succ f ih =>
   intro kk out h0 h1
   unfold g_laws_markText_l0
   refine .condD (λ h => ?_) λ h=>.some (by omega)
   refine .bindE (catS_eq (by simp[strOf];omega)) ?_
   rw[Int.tdiv_eq_ediv_of_nonneg (by omega),wI64 (by omega) (by omega),show (kk:Int) / 10=((kk / 10:Nat):Int) by omega]
   exact ih _ _ (by omega) (by simp[strOf];omega)
 refine .condD (λ _=>.some trivial) λ _=>.bind (key bigK k [] (by unfold bigK;omega) (by simp;omega)) λ r hr=>.bindE (catS_eq (by simp;omega)) (.some trivial)
def mt (k:Nat):Bs:=(g_laws_markText k).getD []
theorem mt_eq {k:Nat} (hk:k<=1152921504606846976):g_laws_markText k=some (mt k):=by
 obtain ⟨r,hr,_⟩:=markText_ok hk
 unfold mt
 rw[hr];rfl
def opV (k:Nat):GOp:=⟨(k:Int),IntKind.wrap .i32 ((k:Int)+1)⟩
abbrev NN:Nat:=1152921504606846976
theorem w2 {k:Nat} (hk:k<=NN):IntKind.wrap .i64 ((k:Int)+1)=(k:Int)+1/\IntKind.wrap .i64 ((k:Int)+1+1)=(k:Int)+1+1 :=
 ⟨wI64 (by omega) (by have:k<=1152921504606846976:=hk;omega),wI64 (by omega) (by have:k<=1152921504606846976:=hk;omega)⟩
theorem markOpS {a:List GOp} (h:a.length<=1048576) {k:Nat} (hk:k+2*a.length<=NN):g_laws_markOpS a (k:Int)=some (((k+2*a.length:Nat):Int),marksN opV 2 k a.length):=by
 have:=markL opV 2 NN (g_laws_markOpS_l0) (λ f a kk n hn hl hk=>by
  obtain ⟨e1,e2⟩:=w2 hk
  rw[g_laws_markOpS_l0,decide_eq_true (by omega),cond_true,e1,e2]
  simp only[getI_nat,List.getElem?_eq_getElem hn,Option.bind_some,Int.toNat_natCast,List.getElem?_set_self,List.length_set,hn,List.set_set]
  rw[wI64 (x:=(n:Int)+1) (by omega) (by omega)]
  rfl) (λ f a kk n hn=>by rw[g_laws_markOpS_l0,decide_eq_false (by omega),cond_false]) bigK [] a k hk (by simpa using h) (by unfold bigK;omega)
 unfold g_laws_markOpS
 rw[List.nil_append,List.length_nil,show ((0:Nat):Int)=0 from rfl]at this
 rw[this];rfl
theorem heldOpS {n k:Nat} (h:n<=1048576) (hk:k+2*n<=NN):g_laws_heldOpS (marksN opV 2 k n) (k:Int)=some ((k+2*n:Nat):Int):=by
 have:=heldL opV 2 NN (L:=marksN opV 2 k n) (g_laws_heldOpS_l0 (marksN opV 2 k n)) (λ f kk i hi hl hk he=>by
  obtain ⟨e1,e2⟩:=w2 hk
  rw[g_laws_heldOpS_l0,decide_eq_true (by omega),cond_true,e1,e2]
  have hg:getI (marksN opV 2 k n) (i:Int)=some (opV kk):=by rw[getI_nat,List.getElem?_eq_getElem hi,he]
  simp only[hg,Option.bind_some]
  rw[show (opV kk).Kind=(kk:Int) from rfl,bne_self',cond_false,show (opV kk).N=IntKind.wrap .i32 ((kk:Int)+1) from rfl,bne_self',cond_false,
   wI64 (x:=(i:Int)+1) (by omega) (by omega)]
  rfl) (λ f kk i hi=>by rw[g_laws_heldOpS_l0,decide_eq_false (by omega),cond_false]) bigK [] k n (by simp) (by rw[marksN_len];exact h) hk (by unfold bigK;omega)
 unfold g_laws_heldOpS
 rw[List.length_nil,show ((0:Nat):Int)=0 from rfl]at this
 rw[this];rfl
def mkD:Nat->List GDef->List GDef
 | _,[]=>[]
 | k,d::r=>⟨mt k,marksN opV 2 (k+1) d.Body.length⟩::mkD (k+1+2*d.Body.length) r
def mkC:Nat->List GDef->Nat
 | k,[]=>k
 | k,d::r=>mkC (k+1+2*d.Body.length) r
theorem markDef_l0:∀ (f:Nat) (done rest:List GDef) (kk:Nat),kk+2097153*rest.length<=1152921504606846976->done.length+rest.length<=1048576->(∀ d ∈ rest,d.Body.length<=1048576)->rest.length < f →
  g_laws_markDefS_l0 f (done++rest) (kk:Int) (done.length:Int)=some ((mkC kk rest:Int),done++mkD kk rest):=by
 intro f
 induction f with
 | zero=>intro done rest kk h0 h1 h2 h3;omega
 | succ f ih =>
  intro done rest kk h0 h1 h2 h3
  cases rest with
  | nil=>rw[g_laws_markDefS_l0,decide_eq_false (by simp),cond_false];simp[mkC,mkD]
  | cons d r =>
   simp only[List.length_cons,Nat.mul_add,Nat.mul_one]at h0 h1 h3
   have hb:=h2 d (List.mem_cons_self ..)
   rw[g_laws_markDefS_l0,decide_eq_true (by simp;omega),cond_true,mt_eq (k:=kk) (by omega)]
   have e1:∀ x:GDef,getI (done++x::r) (done.length:Int)=some x:=λ x=>by rw[getI_nat,List.getElem?_append_right (Nat.le_refl _),Nat.sub_self];rfl
   have e2:∀ x y:GDef,(done++x::r).set ((done.length:Int)).toNat y=done++y::r:=λ x y=>by rw[Int.toNat_natCast,List.set_append_right _ _ (Nat.le_refl _),Nat.sub_self,List.set_cons_zero]
   have e3:IntKind.wrap .i64 ((kk:Int)+1)=((kk+1:Nat):Int):=by rw[wI64 (by omega) (by omega)];omega
   simp only[Option.bind_some,e1,e2,e3]
   rw[markOpS (k:=kk+1) hb (by show _<=1152921504606846976;omega)]
   simp only[Option.bind_some,e2]
   rw[wI64 (x:=(done.length:Int)+1) (by omega) (by omega)]
   have:=ih (done++[⟨mt kk,marksN opV 2 (kk+1) d.Body.length⟩]) r (kk+1+2*d.Body.length) (by omega) (by simp;omega) (λ x hx=>h2 x (List.mem_cons_of_mem _ hx)) (by omega)
   simp only[List.append_assoc,List.singleton_append,List.length_append,List.length_singleton]at this
   rw[show ((done.length+1:Nat):Int)=(done.length:Int)+1 by omega]at this
   rw[this]
   rfl
theorem markDefS {a:List GDef} (h:a.length<=1048576) (hd:∀ d ∈ a,DefSz d):g_laws_markDefS a 1=some ((mkC 1 a:Int),mkD 1 a):=by
 have:=markDef_l0 bigK [] a 1 (by omega) (by simpa using h) (λ d hd'=>(hd d hd').b) (by unfold bigK;omega)
 unfold g_laws_markDefS
 rw[List.nil_append,List.length_nil,show ((0:Nat):Int)=0 from rfl,show ((1:Nat):Int)=1 from rfl]at this
 rw[this];rfl
theorem heldDef_l0 {L:List GDef}:∀ (f:Nat) (done rest:List GDef) (kk:Nat),L=done++mkD kk rest->kk+2097153*rest.length<=1152921504606846976->done.length+rest.length<=1048576->(∀ d ∈ rest,d.Body.length<=1048576)->rest.length < f →
  g_laws_heldDefS_l0 L f (kk:Int) (done.length:Int)=some (.inl (mkC kk rest:Int)):=by
 intro f
 induction f with
 | zero=>intro done rest kk hL h0 h1 h2 h3;omega
 | succ f ih =>
  intro done rest kk hL h0 h1 h2 h3
  cases rest with
  | nil=>rw[g_laws_heldDefS_l0,hL,decide_eq_false (by simp[mkD]),cond_false];rfl
  | cons d r =>
   simp only[List.length_cons,Nat.mul_add,Nat.mul_one]at h0 h1 h3
   have hb:=h2 d (List.mem_cons_self ..)
   have e1:getI L (done.length:Int)=some ⟨mt kk,marksN opV 2 (kk+1) d.Body.length⟩:=by rw[hL,mkD,getI_nat,List.getElem?_append_right (Nat.le_refl _),Nat.sub_self];rfl
   have e3:IntKind.wrap .i64 ((kk:Int)+1)=((kk+1:Nat):Int):=by rw[wI64 (by omega) (by omega)];omega
   have hlt:(done.length:Int) < (L.length:Int):=by rw[hL,mkD];simp;omega
   rw[g_laws_heldDefS_l0,decide_eq_true hlt,cond_true,mt_eq (k:=kk) (by omega),e1,e3]
   simp only[Option.bind_some,bne_self',cond_false]
   rw[heldOpS (k:=kk+1) hb (by show _<=1152921504606846976;omega)]
   simp only[Option.bind_some]
   rw[decide_eq_false (by omega),cond_false,wI64 (x:=(done.length:Int)+1) (by omega) (by omega)]
   have:=ih (done++[⟨mt kk,marksN opV 2 (kk+1) d.Body.length⟩]) r (kk+1+2*d.Body.length) (by rw[hL,mkD,List.append_assoc];rfl) (by omega) (by simp;omega) (λ x hx=>h2 x (List.mem_cons_of_mem _ hx)) (by omega)
   simp only[List.length_append,List.length_singleton]at this
   rw[show ((done.length+1:Nat):Int)=(done.length:Int)+1 by omega]at this
   rw[this]
   rfl
theorem heldDefS {a:List GDef} (h:a.length<=1048576) (hd:∀ d ∈ a,DefSz d):g_laws_heldDefS (mkD 1 a) 1=some (mkC 1 a:Int):=by
 have:=heldDef_l0 (L:=mkD 1 a) bigK [] a 1 rfl (by omega) (by simpa using h) (λ d hd'=>(hd d hd').b) (by unfold bigK;omega)
 unfold g_laws_heldDefS
 rw[List.length_nil,show ((0:Nat):Int)=0 from rfl,show ((1:Nat):Int)=1 from rfl]at this
 rw[this];rfl
end Go.Proofs.YtnhefmibcnbehaaDoor
namespace Go.Proofs.YtnhefmibcnbehaaDoor
open Go Go.Fm
theorem specIn_eqQ {x a b:Int}:g_spec_l01In x a b=some (decide (a<=x/\x<=b)):=by
 unfold g_spec_l01In
 by_cases h:x ≥ a
 ·rw[decide_eq_true h]
  simp only[cond_true]
  congr 1
  exact decide_eq_decide.2 ⟨λ h2=>⟨h,h2⟩,λ h2=>h2.2⟩
 ·rw[decide_eq_false h]
  simp only[cond_false]
  congr 1
  exact (decide_eq_false λ h2=>h h2.1).symm
end Go.Proofs.YtnhefmibcnbehaaDoor
namespace Go.Proofs.YtnhefmibcnbehaaDoor
open Go Go.Fm
theorem within_eqQ {x a b:Int}:g_impl_within x a b=some (decide (a<=x/\x<=b)):=by
 unfold g_impl_within
 by_cases h:a<=x
 ·rw[decide_eq_true h]
  simp only[cond_true]
  congr 1
  exact decide_eq_decide.2 ⟨λ h2=>⟨h,h2⟩,λ h2=>h2.2⟩
 ·rw[decide_eq_false h]
  simp only[cond_false]
  congr 1
  exact (decide_eq_false λ h2=>h h2.1).symm
def Letters:Bs:=[32,114,116,111,101,97,110,105,115,109,99,121,108,103,102,119,100,118,112,98,104,120,117,113,48,49,50,51,52,53,54,55,56,57,106,45,107,46,122,47,59,39,33,43,64,42,44,63]
theorem letters_len:Letters.length=48:=rfl
theorem idxB_bd {l:List UInt8} {c:Int} : -1<=idxB l c/\idxB l c < l.length:=by
 unfold idxB
 cases h:l.findIdx? (λ b=>(b.toNat:Int)==c) with
 | none=>exact ⟨by decide,by show (-1:Int) < _;omega⟩
 | some i =>
  have:=(List.findIdx?_eq_some_iff_getElem.1 h).1
  exact ⟨by show (-1:Int)<=(i:Int);omega,by show (i:Int) < _;omega⟩
theorem letterOf_ok {b:Int} (h0:0<=b) (h1:b < 256):Tot (g_impl_LetterOf b) λ r => -1<=r/\r<=47:=by
 unfold g_impl_LetterOf g_strings_IndexByte g_istringslite_IndexByte g_ibytealg_IndexByteString gIdxB
 refine .bindE (a:=Letters) rfl (.bind (Q:=λ r => -1<=r/\r<=47) (.bind (Q:=λ r => -1<=r/\r<=47) ?_ λ r h=>.some h) λ r h=>.some h)
 refine .bind (Q:=λ r => -1<=r/\r<=47) ?_ λ r h=>.some h
 rw[if_pos ⟨h0,h1⟩]
 refine .some ⟨idxB_bd.1,?_⟩
 have:=(idxB_bd (l:=Letters) (c:=b)).2
 rw[letters_len]at this
 omega
end Go.Proofs.YtnhefmibcnbehaaDoor
namespace Go.Proofs.YtnhefmibcnbehaaDoor
open Go Go.Fm
theorem letterOf_all:(List.range 256).all (λ b=>g_spec_LetterOf (b:Int)==g_impl_LetterOf (b:Int))=true:=by kernel_rfl
theorem letterOf_eq {b:Int} (h0:0<=b) (h1:b < 256):g_spec_LetterOf b=g_impl_LetterOf b:=by
 have h:=List.all_eq_true.1 letterOf_all b.toNat (List.mem_range.2 (by omega))
 rw[Int.toNat_of_nonneg h0]at h
 exact eq_of_beq h
def good (b:UInt8):Bool:=match g_impl_LetterOf (b.toNat:Int) with|some k=>decide (1<=k)|none=>false
theorem good_of {b:UInt8} {k:Int} (h:g_impl_LetterOf (b.toNat:Int)=some k):good b=decide (1<=k):=by unfold good;rw[h]
theorem idxS_nat {s:List UInt8} {n:Nat} (h:n < s.length):idxS s (n:Int)=some ((s[n].toNat:Nat):Int):=by
 unfold idxS
 rw[if_pos ⟨by omega,by omega⟩,Int.toNat_natCast,List.getD_eq_getElem?_getD,List.getElem?_eq_getElem h]
 rfl
theorem specNameOk_l0 {s:Bs} (hs:s.length<=1048576):∀ (k n:Nat),n<=s.length->s.length-n < k->g_spec_NameOk_l0 s k n=some (if (s.drop n).all good then .inl () else .inr false):=by
 intro k
 induction k with
 | zero=>intro n h0 h1;omega
 | succ k ih =>
  intro n h0 h1
  unfold g_spec_NameOk_l0
  by_cases hn:n < s.length
  ·have hb:=UInt8.toNat_lt s[n]
   obtain ⟨x,hx,x0,x1⟩:=letterOf_ok (b:=(s[n].toNat:Int)) (by omega) (by omega)
   rw[decide_eq_true (by omega),idxS_nat hn,List.drop_eq_getElem_cons hn,List.all_cons,good_of hx]
   simp only[cond_true,Option.bind_some,letterOf_eq (b:=(s[n].toNat:Int)) (by omega) (by omega),hx]
   by_cases hc:x < 1
   ·rw[decide_eq_true hc,decide_eq_false (p:=1<=x) (by omega)];rfl
   ·rw[decide_eq_false hc,decide_eq_true (p:=1<=x) (by omega),cond_false,wI64 (by omega) (by omega),show ((n:Int)+1)=((n+1:Nat):Int) by omega,ih (n+1) (by omega) (by omega),Bool.true_and]
  ·rw[decide_eq_false (by omega),List.drop_eq_nil_of_le (by omega)];rfl
theorem implNameOk_l0 {s:Bs} (hs:s.length<=1048576):∀ (k n:Nat),n<=s.length->s.length-n < k->g_impl_NameOk_l0 s (s.length:Int) k n=some (if (s.drop n).all good then .inl () else .inr false):=by
 intro k
 induction k with
 | zero=>intro n h0 h1;omega
 | succ k ih =>
  intro n h0 h1
  unfold g_impl_NameOk_l0
  by_cases hn:n < s.length
  ·have hb:=UInt8.toNat_lt s[n]
   obtain ⟨x,hx,x0,x1⟩:=letterOf_ok (b:=(s[n].toNat:Int)) (by omega) (by omega)
   rw[decide_eq_true (by omega),idxS_nat hn,List.drop_eq_getElem_cons hn,List.all_cons,good_of hx]
   simp only[cond_true,Option.bind_some,hx]
   by_cases hc:x < 1
   ·rw[decide_eq_true hc,decide_eq_false (p:=1<=x) (by omega)];rfl
   ·rw[decide_eq_false hc,decide_eq_true (p:=1<=x) (by omega),cond_false,wI64 (by omega) (by omega),show ((n:Int)+1)=((n+1:Nat):Int) by omega,ih (n+1) (by omega) (by omega),Bool.true_and]
  ·rw[decide_eq_false (by omega),List.drop_eq_nil_of_le (by omega)];rfl
def named (s:Bs):Bool:=s.all good&&decide (1<=s.length/\s.length<=24)
theorem implNameOk {s:Bs} (hs:s.length<=1048576):g_impl_NameOk s=some (named s):=by
 unfold g_impl_NameOk named
 have h:=implNameOk_l0 hs bigK 0 (Nat.zero_le _) (by unfold bigK;omega)
 rw[show ((0:Nat):Int)=0 from rfl]at h
 rw[h,List.drop_zero,within_eqQ]
 cases s.all good with
 | false=>rfl
 | true =>
  simp only[if_true,Option.bind_some,Bool.true_and]
  congr 1
  exact decide_eq_decide.2 (by omega)
theorem specNameOk {s:Bs} (hs:s.length<=1048576):g_spec_NameOk s=some (named s):=by
 unfold g_spec_NameOk named
 have h:=specNameOk_l0 hs bigK 0 (Nat.zero_le _) (by unfold bigK;omega)
 rw[show ((0:Nat):Int)=0 from rfl]at h
 rw[h,List.drop_zero,specIn_eqQ]
 have e:decide ((1:Int)<=s.length/\(s.length:Int)<=24)=decide (1<=s.length/\s.length<=24):=decide_eq_decide.2 (by omega)
 rw[e]
 cases decide (1<=s.length/\s.length<=24)<;>cases s.all good<;>rfl
end Go.Proofs.YtnhefmibcnbehaaDoor
namespace Go.Proofs.YtnhefmibcnbehaaDoor
open Go Go.Fm
set_option maxRecDepth 100000
theorem idxLoop {α:Type} {L:List α} (p:α->Bool) (F:Nat->Int->Option (Unit ⊕ Int)) (step:∀ (k n:Nat) (x:α),L[n]? = some x->n < L.length->F (k+1) n=cond (p x) (some (.inr (n:Int))) (F k ((n+1:Nat):Int)))
  (fin:∀ k n:Nat,L.length<=n->F (k+1) n=some (.inl ())) (hm:L.length<=16777216):∃ o,F bigK 0=some o/\(match o with | .inl _=>L.any p=false | .inr v=>0<=v/\L.any p=true):=by
 have key:∀ (k n:Nat),n<=L.length->L.length-n < k->∃ o,F k n=some o/\(match o with | .inl _=>(L.drop n).any p=false | .inr v=>0<=v/\(L.drop n).any p=true):=by
  intro k
  induction k with
  | zero=>intro n h0 h1;omega
  | succ k ih =>
   intro n h0 h1
   by_cases hn:n < L.length
   ·rw[step k n L[n] (List.getElem?_eq_getElem hn) hn,List.drop_eq_getElem_cons hn,List.any_cons]
    cases hp:p L[n] with
    | true=>exact ⟨_,rfl,by show 0<=(n:Int)/\_;exact ⟨by omega,rfl⟩⟩
    | false =>
     rw[cond_false,Bool.false_or]
     exact ih (n+1) (by omega) (by omega)
   ·rw[fin k n (by omega),List.drop_eq_nil_of_le (by omega)]
    exact ⟨_,rfl,rfl⟩
 have:=key bigK 0 (Nat.zero_le _) (by unfold bigK;omega)
 rw[List.drop_zero]at this
 exact this
def tooFar (n:Int) (o:GOp):Bool:=o.Kind==2&&decide (IntKind.wrap .i64 o.N ≥ n)
theorem below_eq {body:List GOp} {n:Int} (hb:body.length<=1048576):g_impl_callsBelow body n=some (!(body.any (tooFar n))):=by
 unfold g_impl_callsBelow g_slices_ContainsFunc_Op_impl_callsBelowc1 g_slices_IndexFunc_Op_impl_callsBelowc1
 obtain ⟨o,h1,h2⟩:=idxLoop (L:=body) (tooFar n) (g_slices_IndexFunc_Op_impl_callsBelowc1_l0 body (body.length:Int) n) (λ k i x hx hi=>by
  rw[g_slices_IndexFunc_Op_impl_callsBelowc1_l0,decide_eq_true (by omega),cond_true,getI_nat,hx,Option.bind_some]
  unfold g_impl_callsBelowc1 tooFar
  rw[nxt (by omega)]
  cases x.Kind==2<;>rfl) (λ k i hi=>by rw[g_slices_IndexFunc_Op_impl_callsBelowc1_l0,decide_eq_false (by omega),cond_false]) (by omega)
 rw[h1]
 cases o with
 | inl u=>simp only[Option.bind_some];rw[h2];rfl
 | inr v=>simp only[Option.bind_some];rw[h2.2,decide_eq_true h2.1]
def defB (n:Int) (d:GDef):Bool:=named d.Name&&shapeB d.Body && !(d.Body.any (tooFar n))
def defsB (defs:List GDef):Bool:=decide (defs.length<=24)&&defs.all (defB defs.length)
structure DW (defs:List GDef):Prop where
 n:defs.length<=1048576
 d:∀ d ∈ defs,DefSz d
theorem DW.l {defs:List GDef} (h:DW defs):∀ d ∈ defs,d.Body.length<=1048576:=λ d hd=>(h.d d hd).b
theorem defsOk_impl {defs:List GDef} (h:DW defs):g_impl_DefsOk defs=some (defsB defs):=by
 have hn:=h.n
 unfold g_impl_DefsOk defsB
 by_cases hl:defs.length<=24
 ·rw[decide_eq_true (by omega),decide_eq_true hl,cond_true,Bool.true_and]
  unfold g_slices_ContainsFunc_Def_impl_DefsOkc1 g_slices_IndexFunc_Def_impl_DefsOkc1
  obtain ⟨o,h1,h2⟩:=idxLoop (L:=defs) (λ d => !(defB defs.length d)) (g_slices_IndexFunc_Def_impl_DefsOkc1_l0 defs (defs.length:Int) defs) (λ k i d hx hi=>by
   have hd:=List.mem_of_getElem? hx
   rw[g_slices_IndexFunc_Def_impl_DefsOkc1_l0,decide_eq_true (by omega),cond_true,getI_nat,hx,Option.bind_some]
   unfold g_impl_DefsOkc1
   have:=h.l d hd
   rw[implNameOk (h.d d hd).n,implShape (by omega),below_eq (by omega),nxt (by omega)]
   unfold defB
   cases named d.Name<;>cases shapeB d.Body<;>cases d.Body.any (tooFar defs.length)<;>rfl) (λ k i hi=>by rw[g_slices_IndexFunc_Def_impl_DefsOkc1_l0,decide_eq_false (by omega),cond_false]) (by omega)
  rw[h1]
  have e:defs.all (defB defs.length) = !(defs.any λ d => !(defB defs.length d)):=by rw[List.not_any_eq_all_not];simp
  rw[e]
  cases o with
  | inl u=>simp only[Option.bind_some];rw[h2];rfl
  | inr v=>simp only[Option.bind_some];rw[h2.2,decide_eq_true h2.1]
 ·rw[decide_eq_false (by omega),decide_eq_false hl,cond_false,Bool.false_and]
theorem defsOk_spec {defs:List GDef} (h:DW defs):g_spec_DefsOk defs=some (defsB defs):=by
 have hn:=h.n
 unfold g_spec_DefsOk defsB
 by_cases hl:defs.length<=24
 ·rw[decide_eq_false (by omega),decide_eq_true hl,cond_false,Bool.true_and]
  have h0:=allLoop (L:=defs) (bad:=false) (λ _ d=>defB defs.length d) (g_spec_DefsOk_l0 defs) (λ k n d hx hi=>by
   have hd:=List.mem_of_getElem? hx
   have hb:=h.l d hd
   have h1:=allLoop (L:=d.Body) (bad:=false) (λ _ o => !(tooFar defs.length o)) (g_spec_DefsOk_l1 defs (n:Int)) (λ k m o ho hm=>by
    rw[g_spec_DefsOk_l1,getI_nat,hx]
    simp only[Option.bind_some]
    rw[decide_eq_true (by omega),cond_true,getI_nat,ho]
    simp only[Option.bind_some]
    rw[nxt (by omega)]
    unfold tooFar
    cases o.Kind==2
    ·rfl
    ·simp only[cond_true,Option.bind_some,Bool.true_and]
     cases decide (IntKind.wrap .i64 o.N ≥ (defs.length:Int))<;>rfl) (λ k m hm=>by
    rw[g_spec_DefsOk_l1,getI_nat,hx]
    simp only[Option.bind_some]
    rw[decide_eq_false (by omega),cond_false]) (by omega)
   rw[g_spec_DefsOk_l0,decide_eq_true (by omega),cond_true,getI_nat,hx]
   simp only[Option.bind_some]
   rw[specNameOk (h.d d hd).n,specShape (by omega),h1,allN_const,nxt (by omega)]
   unfold defB
   have e:(d.Body.all λ o => !(tooFar defs.length o)) = !(d.Body.any (tooFar defs.length)):=by rw[List.not_any_eq_all_not]
   rw[e]
   cases named d.Name<;>cases shapeB d.Body<;>cases d.Body.any (tooFar defs.length)<;>rfl) (λ k n hi=>by rw[g_spec_DefsOk_l0,decide_eq_false (by omega),cond_false]) (by omega)
  rw[h0,allN_const]
  cases defs.all (defB defs.length)<;>rfl
 ·rw[decide_eq_true (by omega),decide_eq_false hl,cond_true,Bool.false_and]
theorem okB_call {o:GOp} (h:okB o=true) (hk:o.Kind=2):0<=IntKind.wrap .i64 o.N:=by
 have:=okB_eq o
 rw[h]at this
 unfold g_spec_l09Op at this
 rw[hk]at this
 simp only[show ((2:Int)==0)=false from rfl,show ((2:Int)==1)=false from rfl,show ((2:Int)==2)=true from rfl,cond_false,cond_true]at this
 rw[specIn_eq]at this
 simp only[Option.bind_some,Option.some.injEq,decide_eq_true_eq]at this
 exact this.1
theorem DG.of {defs:List GDef} (h:defsB defs=true):DG defs:=by
 unfold defsB at h
 rw[Bool.and_eq_true,decide_eq_true_eq,List.all_eq_true]at h
 refine ⟨h.1,λ d hd => ?_,λ d hd o ho hk => ?_⟩
 ·have:=h.2 d hd
  unfold defB at this
  rw[Bool.and_eq_true,Bool.and_eq_true]at this
  exact this.1.2
 ·have:=h.2 d hd
  unfold defB at this
  rw[Bool.and_eq_true,Bool.and_eq_true,Bool.not_eq_true',List.any_eq_false]at this
  have h2:=this.2 o ho
  have h1:=this.1.2
  unfold shapeB at h1
  simp only[Bool.and_eq_true,List.all_eq_true]at h1
  have h3:=okB_call (h1.1.2 o ho) hk
  unfold tooFar at h2
  rw[hk]at h2
  simp only[beq_self_eq_true,Bool.true_and,decide_eq_true_eq]at h2
  omega
theorem reach_both {defs:List GDef} (h:DW defs) (k:Int):∃ r,g_impl_Reach defs k=some r/\g_spec_Reach defs k=some r/\((DG defs/\(0<=k/\k < defs.length)/\IsR defs k r)\/(r=[]/\¬ (defsB defs=true/\0<=k/\k < defs.length))):=by
 have hn:=h.n
 unfold g_impl_Reach g_spec_Reach
 rw[defsOk_impl h,defsOk_spec h,within_eq,specIn_eq,wI64 (by omega) (by omega)]
 simp only[Option.bind_some]
 by_cases hb:defsB defs=true
 ·rw[hb,Bool.not_true,cond_false]
  simp only[Option.bind_some]
  by_cases hk:0<=k/\k < defs.length
  ·rw[decide_eq_true (by omega),Bool.not_true,cond_false,cond_false]
   have hd:=DG.of hb
   obtain ⟨r,e1,h1⟩:=impl_reach_set hd hk.1 hk.2
   obtain ⟨s,e2,h2⟩:=spec_reach_set hd hk.1 hk.2
   obtain rfl:=h1.uniq h2
   exact ⟨r,e1,e2, .inl ⟨hd,hk,h1⟩⟩
  ·rw[decide_eq_false (by omega),Bool.not_false,cond_true,cond_true]
   exact ⟨[],rfl,rfl, .inr ⟨rfl,λ h=>hk h.2⟩⟩
 ·rw[Bool.not_eq_true]at hb
  rw[hb,Bool.not_false,cond_true]
  simp only[Option.bind_some,cond_true]
  exact ⟨[],rfl,rfl, .inr ⟨rfl,λ h=>by cases h.1⟩⟩
def ixI (v:Int):List Int->Int->Int
 | [],_ => -1
 | x::r,n=>if v=x then n else ixI v r (n+1)
theorem index_eq {l:List Int} {v:Int} (hl:l.length<=1000):g_slices_Index_int l v=some (ixI v l 0):=by
 unfold g_slices_Index_int
 have key:∀ (k n:Nat),n<=l.length->l.length-n < k->∃ o:Unit ⊕ Int,g_slices_Index_int_l0 l v (l.length:Int) k n=some o/\(match o with | .inl _=>ixI v (l.drop n) n = -1 | .inr i=>ixI v (l.drop n) n=i):=by
  intro k
  induction k with
  | zero=>intro n h0 h1;omega
  | succ k ih =>
   intro n h0 h1
   rw[g_slices_Index_int_l0]
   by_cases hn:n < l.length
   ·rw[decide_eq_true (by omega),cond_true,getI_nat,List.getElem?_eq_getElem hn,List.drop_eq_getElem_cons hn]
    simp only[Option.bind_some]
    by_cases hk:v=l[n]
    ·rw[show (v==l[n])=true by simp[hk],cond_true]
     exact ⟨_,rfl,by show ixI v (l[n]::_) n=n;rw[ixI,if_pos hk]⟩
    ·rw[show (v==l[n])=false by simp[hk],cond_false,nxt (by omega)]
     obtain ⟨o,g1,g2⟩:=ih (n+1) (by omega) (by omega)
     refine ⟨o,g1,?_⟩
     have e:ixI v (l[n]::l.drop (n+1)) n=ixI v (l.drop (n+1)) ((n+1:Nat):Int):=by rw[ixI,if_neg hk];rfl
     cases o with
     | inl u=>show ixI v (l[n]::l.drop (n+1)) n = -1;rw[e];exact g2
     | inr i=>show ixI v (l[n]::l.drop (n+1)) n=i;rw[e];exact g2
   ·rw[decide_eq_false (by omega),cond_false,List.drop_eq_nil_of_le (by omega)]
    exact ⟨_,rfl,rfl⟩
 obtain ⟨o,h,g⟩:=key bigK 0 (Nat.zero_le _) (by unfold bigK;omega)
 rw[Int.natCast_zero,]at h
 rw[List.drop_zero]at g
 rw[h]
 cases o with
 | inl u=>simp only[Option.bind_some];rw[show ixI v l 0 = -1 from g]
 | inr i=>simp only[Option.bind_some];rw[show ixI v l 0=i from g]
def reOp (r:List Int) (o:GOp):GOp:=if o.Kind=2 then ⟨o.Kind,IntKind.wrap .i32 (ixI (IntKind.wrap .i64 o.N) r 0)⟩ else o
theorem nnN (n:Nat):decide ((n:Int) < 0)=false:=decide_eq_false (by omega)
end Go.Proofs.YtnhefmibcnbehaaDoor
namespace Go.Proofs.YtnhefmibcnbehaaDoor
open Go Go.Fm
set_option maxRecDepth 100000
theorem shake_l1 {r:List Int} (hr:r.length<=1000) {body:List GOp} (hb:body.length<=1000):∀ (k i:Nat) (b v:List GOp),i<=body.length->body.length-i < k->b=(body.take i).map (reOp r)++body.drop i →
  g_impl_Shake_deep_l1 r (body.length:Int) k b v (i:Int)=some (body.map (reOp r)):=by
 intro k
 induction k with
 | zero=>intro i b v h0 h1;omega
 | succ k ih =>
  intro i b v h0 h1 h2
  rw[g_impl_Shake_deep_l1]
  by_cases hn:i < body.length
  case neg =>
   rw[decide_eq_false (by omega),cond_false,h2,List.drop_eq_nil_of_le (by omega),List.take_of_length_le (by omega),List.append_nil]
  have hl:((body.take i).map (reOp r)).length=i:=by rw[List.length_map,List.length_take];omega
  have hg:b[i]? = some body[i]:=by
   rw[h2,List.getElem?_append_right (by omega),hl,Nat.sub_self,List.getElem?_drop,Nat.add_zero,List.getElem?_eq_getElem hn]
  have hnext:∀ o,reOp r body[i]=o->b.set i o=(body.take (i+1)).map (reOp r)++body.drop (i+1):=by
   intro o ho
   rw[h2,List.set_append_right _ _ (by omega),hl,Nat.sub_self,List.drop_eq_getElem_cons hn,List.set_cons_zero,List.take_succ_eq_append_getElem hn,List.map_append,List.append_assoc,<-ho]
   rfl
  rw[decide_eq_true (by omega),cond_true,getI_nat,hg,nxt (by omega)]
  simp only[Option.bind_some]
  by_cases hk:body[i].Kind=2
  ·rw[show (body[i].Kind==2)=true by simp[hk],cond_true,index_eq hr]
   simp only[Option.bind_some,Int.toNat_natCast]
   exact ih (i+1) _ _ (by omega) (by omega) (hnext _ (by unfold reOp;rw[if_pos hk]))
  ·rw[show (body[i].Kind==2)=false by simp[hk],cond_false]
   simp only[Option.bind_some]
   refine ih (i+1) _ _ (by omega) (by omega) ?_
   rw[<-hnext body[i] (by unfold reOp;rw[if_neg hk])]
   obtain ⟨hib,hbe⟩:=List.getElem?_eq_some_iff.1 hg
   rw[<-hbe,List.set_getElem_self]
def shD (defs:List GDef) (r:List Int) (x:Int):GDef:=⟨(match defs[x.toNat]? with|some d=>d.Name|none=>[]),(bodyAt defs x).map (reOp r)⟩
theorem shake_l0 {defs:List GDef} (hw:∀ d ∈ defs,d.Body.length<=1000) {r:List Int} (hr:r.length<=1000) (hv:∀ x ∈ r,0<=x/\x < defs.length):∀ (k i:Nat) (out:List GDef),i<=r.length->r.length-i < k->out.length<=i →
  g_impl_Shake_deep_l0 defs r (r.length:Int) k out (i:Int)=some (out++(r.drop i).map (shD defs r)):=by
 intro k
 induction k with
 | zero=>intro i out h0 h1;omega
 | succ k ih =>
  intro i out h0 h1 h2
  rw[g_impl_Shake_deep_l0]
  by_cases hn:i < r.length
  ·have hx:=hv r[i] (List.getElem_mem hn)
   obtain ⟨d,e1,e2,e3⟩:=getI_ex hx.1 hx.2
   have hb:=hw d e2
   rw[decide_eq_true (by omega),cond_true,getI_nat,List.getElem?_eq_getElem hn,List.drop_eq_getElem_cons hn,List.map_cons]
   simp only[Option.bind_some]
   rw[e1]
   simp only[Option.bind_some]
   have hcl:g_slices_Clone_Op d.Body=some d.Body:=by unfold g_slices_Clone_Op;rw[app_eq (by simp;omega)];rfl
   rw[hcl]
   simp only[Option.bind_some]
   have l1:=shake_l1 hr hb bigK 0 d.Body d.Body (Nat.zero_le _) (by unfold bigK;omega) (by simp)
   rw[show ((0:Nat):Int)=0 from rfl]at l1
   rw[l1]
   simp only[Option.bind_some]
   rw[app_eq (by simp;omega)]
   simp only[Option.bind_some]
   rw[nxt (by omega),ih (i+1) _ (by omega) (by omega) (by simp;omega)]
   have es:(⟨d.Name,d.Body.map (reOp r)⟩:GDef)=shD defs r r[i]:=by unfold shD bodyAt;rw[e3]
   rw[es,List.append_assoc]
   rfl
  ·rw[decide_eq_false (by omega),cond_false,List.drop_eq_nil_of_le (by omega)];simp
theorem at_eq {l:List Int} {v:Int} (hl:l.length<=1000):g_spec_l20At l v=some (ixI v l 0):=by
 unfold g_spec_l20At
 have key:∀ (k n:Nat),n<=l.length->l.length-n < k->∃ o:Unit ⊕ Int,g_spec_l20At_l0 l v k n=some o/\(match o with | .inl _=>ixI v (l.drop n) n = -1 | .inr i=>ixI v (l.drop n) n=i):=by
  intro k
  induction k with
  | zero=>intro n h0 h1;omega
  | succ k ih =>
   intro n h0 h1
   rw[g_spec_l20At_l0]
   by_cases hn:n < l.length
   ·rw[decide_eq_true (by omega),cond_true,getI_nat,List.getElem?_eq_getElem hn,List.drop_eq_getElem_cons hn]
    simp only[Option.bind_some]
    by_cases hk:v=l[n]
    ·rw[show (l[n]==v)=true by simp[hk],cond_true]
     exact ⟨_,rfl,by show ixI v (l[n]::_) n=n;rw[ixI,if_pos hk]⟩
    ·rw[show (l[n]==v)=false by simp;exact λ h=>hk h.symm,cond_false,nxt (by omega)]
     obtain ⟨o,g1,g2⟩:=ih (n+1) (by omega) (by omega)
     refine ⟨o,g1,?_⟩
     have e:ixI v (l[n]::l.drop (n+1)) n=ixI v (l.drop (n+1)) ((n+1:Nat):Int):=by rw[ixI,if_neg hk];rfl
     cases o with
     | inl u=>show ixI v (l[n]::l.drop (n+1)) n = -1;rw[e];exact g2
     | inr i=>show ixI v (l[n]::l.drop (n+1)) n=i;rw[e];exact g2
   ·rw[decide_eq_false (by omega),cond_false,List.drop_eq_nil_of_le (by omega)]
    exact ⟨_,rfl,rfl⟩
 obtain ⟨o,h,g⟩:=key bigK 0 (Nat.zero_le _) (by unfold bigK;omega)
 rw[Int.natCast_zero,]at h
 rw[List.drop_zero]at g
 rw[h]
 cases o with
 | inl u=>simp only[Option.bind_some];rw[show ixI v l 0 = -1 from g]
 | inr i=>simp only[Option.bind_some];rw[show ixI v l 0=i from g]
theorem specSh_l1 {r:List Int} (hr:r.length<=1000) {body:List GOp} (hb:body.length<=1000):∀ (k i:Nat) (b:List GOp),i<=body.length->body.length-i < k->b=(body.take i).map (reOp r)++body.drop i →
  g_spec_Shake_l1 r k b (i:Int)=some (body.map (reOp r)):=by
 intro k
 induction k with
 | zero=>intro i b h0 h1;omega
 | succ k ih =>
  intro i b h0 h1 h2
  have hbl:b.length=body.length:=by rw[h2,List.length_append,List.length_map,List.length_take,List.length_drop];omega
  rw[g_spec_Shake_l1]
  by_cases hn:i < body.length
  case neg =>
   rw[decide_eq_false (by omega),cond_false,h2,List.drop_eq_nil_of_le (by omega),List.take_of_length_le (by omega),List.append_nil]
  have hl:((body.take i).map (reOp r)).length=i:=by rw[List.length_map,List.length_take];omega
  have hg:b[i]? = some body[i]:=by
   rw[h2,List.getElem?_append_right (by omega),hl,Nat.sub_self,List.getElem?_drop,Nat.add_zero,List.getElem?_eq_getElem hn]
  have hnext:∀ o,reOp r body[i]=o->b.set i o=(body.take (i+1)).map (reOp r)++body.drop (i+1):=by
   intro o ho
   rw[h2,List.set_append_right _ _ (by omega),hl,Nat.sub_self,List.drop_eq_getElem_cons hn,List.set_cons_zero,List.take_succ_eq_append_getElem hn,List.map_append,List.append_assoc,<-ho]
   rfl
  rw[decide_eq_true (by omega),cond_true,getI_nat,hg,nxt (by omega)]
  simp only[Option.bind_some]
  by_cases hk:body[i].Kind=2
  ·rw[show (body[i].Kind==2)=true by simp[hk],cond_true,at_eq hr]
   simp only[Option.bind_some,Int.toNat_natCast]
   exact ih (i+1) _ (by omega) (by omega) (hnext _ (by unfold reOp;rw[if_pos hk]))
  ·rw[show (body[i].Kind==2)=false by simp[hk],cond_false]
   simp only[Option.bind_some]
   refine ih (i+1) _ (by omega) (by omega) ?_
   rw[<-hnext body[i] (by unfold reOp;rw[if_neg hk])]
   obtain ⟨hib,hbe⟩:=List.getElem?_eq_some_iff.1 hg
   rw[<-hbe,List.set_getElem_self]
theorem specSh_l0 {defs:List GDef} (hw:∀ d ∈ defs,d.Body.length<=1000) {r:List Int} (hr:r.length<=1000) (hv:∀ x ∈ r,0<=x/\x < defs.length):∀ (k i:Nat) (out:List GDef),i<=r.length->r.length-i < k->out.length<=i →
  g_spec_Shake_l0 defs r k out (i:Int)=some (out++(r.drop i).map (shD defs r)):=by
 intro k
 induction k with
 | zero=>intro i out h0 h1;omega
 | succ k ih =>
  intro i out h0 h1 h2
  rw[g_spec_Shake_l0]
  by_cases hn:i < r.length
  ·have hx:=hv r[i] (List.getElem_mem hn)
   obtain ⟨d,e1,e2,e3⟩:=getI_ex hx.1 hx.2
   have hb:=hw d e2
   rw[decide_eq_true (by omega),cond_true,getI_nat,List.getElem?_eq_getElem hn,List.drop_eq_getElem_cons hn,List.map_cons]
   simp only[Option.bind_some]
   rw[e1]
   simp only[Option.bind_some]
   rw[app_eq (xs:=[]) (ys:=d.Body) (by simp;omega),List.nil_append]
   simp only[Option.bind_some]
   have l1:=specSh_l1 hr hb bigK 0 d.Body (Nat.zero_le _) (by unfold bigK;omega) (by simp)
   rw[show ((0:Nat):Int)=0 from rfl]at l1
   rw[l1]
   simp only[Option.bind_some]
   rw[app_eq (by simp;omega)]
   simp only[Option.bind_some]
   rw[nxt (by omega),ih (i+1) _ (by omega) (by omega) (by simp;omega)]
   have es:(⟨d.Name,d.Body.map (reOp r)⟩:GDef)=shD defs r r[i]:=by unfold shD bodyAt;rw[e3]
   rw[es,List.append_assoc]
   rfl
  ·rw[decide_eq_false (by omega),cond_false,List.drop_eq_nil_of_le (by omega)];simp
theorem shake_both {defs:List GDef} (h:DW defs) (k:Int):∃ o:List GDef×Int,g_impl_Shake_deep defs k=some o/\g_spec_Shake defs k=some o/\o.1.length<=1048576/\∀ d ∈ o.1,DefSz d:=by
 obtain ⟨r,e1,e2,h3⟩:=reach_both h k
 have hb:∃ n,r.length=n/\n<=24/\(∀ x ∈ r,0<=x/\x < defs.length)/\(r≠[]->∀ d ∈ defs,d.Body.length<=60):=by
  refine ⟨_,rfl,?_⟩
  rcases h3 with h3|h3
  ·have:=h3.2.2.len;have:=h3.1.n
   exact ⟨by omega,h3.2.2.v,λ _ d hd=>shape_len (h3.1.s d hd)⟩
  ·rw[h3.1];exact ⟨by simp,by simp,λ h=>absurd rfl h⟩
 obtain ⟨n,hn,hn24,hv,hbd⟩:=hb
 refine ⟨(r.map (shD defs r),ixI k r 0),?_,?_,by show (r.map _).length<=_;rw[List.length_map];omega,λ d hd => ?_⟩
 ·unfold g_impl_Shake_deep
  rw[e1]
  by_cases hr:r=[]
  ·subst hr;rfl
  ·have hpos:0 < r.length:=List.length_pos_iff.2 hr
   rw[Option.bind_some,show ((r.length:Int)==0)=false by simp;omega,cond_false]
   have:=shake_l0 (defs:=defs) (r:=r) (λ d hd=>by have:=hbd hr d hd;omega) (by omega) hv bigK 0 [] (Nat.zero_le _) (by unfold bigK;omega) (Nat.le_refl _)
   rw[show ((0:Nat):Int)=0 from rfl]at this
   rw[this,index_eq (by omega)]
   rfl
 ·unfold g_spec_Shake
  rw[e2]
  by_cases hr:r=[]
  ·subst hr;rfl
  ·have:=specSh_l0 (defs:=defs) (r:=r) (λ d hd=>by have:=hbd hr d hd;omega) (by omega) hv bigK 0 [] (Nat.zero_le _) (by unfold bigK;omega) (Nat.le_refl _)
   rw[show ((0:Nat):Int)=0 from rfl]at this
   rw[Option.bind_some,this,at_eq (by omega)]
   rfl
 ·obtain ⟨x,hx,rfl⟩:=List.mem_map.1 hd
  have hr:r≠[]:=λ e=>by rw[e]at hx;cases hx
  obtain ⟨d,e1,e2,e3⟩:=getI_ex (hv x hx).1 (hv x hx).2
  constructor
  ·show (match defs[x.toNat]? with|some d=>d.Name|none=>[]).length<=_
   rw[e3];exact (h.d d e2).n
  ·show ((bodyAt defs x).map (reOp r)).length<=_
   rw[List.length_map];unfold bodyAt;rw[e3];have:=hbd hr d e2;show d.Body.length<=_;omega
theorem law_FnExactShake {defs:List GDef} {k:Int} (hl:defs.length<=LN) (hd:∀ d ∈ defs,DefW d):g_laws_FnExactShake defs k=some true:=by
 obtain ⟨y,e,h⟩:=fitsDefs hl hd 1048576 (by omega) (by omega)
 unfold g_laws_FnExactShake
 rw[e]
 by_cases hy:y < 0
 ·simp only[Option.bind_some,decide_eq_true hy,cond_true]
 have hq:=(h.resolve_left hy).2.2
 obtain ⟨o,e1,e2,h3,h4⟩:=shake_both ⟨hq.1,hq.2⟩ k
 simp only[Option.bind_some,decide_eq_false hy,cond_false,toDefS hq.1 hq.2,e1,e2,eqDefS h3 h4,eqDefS hq.1 hq.2,markDefS hq.1 hq.2,markDefS h3 h4,heldDefS h3 h4,Bool.not_true,nnN,bne_self']
end Go.Proofs.YtnhefmibcnbehaaDoor

namespace Go.Proofs.YtnhefmibcnbehaaDoor
open Go Go.Fm
set_option maxRecDepth 100000
theorem typed_GOp:Typed [.int .i64, .int .i32] GOp.cs (λ x:GOp=>(λ n:Int=>(Lit.int .i64 n).wf=true) x.Kind/\(λ n:Int=>(Lit.int .i32 n).wf=true) x.N):=λ row hl h=>by
 match row,hl with
 | [c0,c1],_ =>
  obtain ⟨x0,e0,g0⟩:=(typed_int .i64) [c0] rfl (Go.Fm.one_cell (h 0 _ c0 rfl rfl))
  obtain ⟨x1,e1,g1⟩:=(typed_int .i32) [c1] rfl (Go.Fm.one_cell (h 1 _ c1 rfl rfl))
  obtain rfl:=(List.cons.inj e0).1
  obtain rfl:=(List.cons.inj e1).1
  exact ⟨(⟨x0,x1⟩:GOp),rfl,⟨g0,g1⟩⟩
theorem typed_GDef:Typed [.str, .sl [.int .i64, .int .i32]] GDef.cs (λ x:GDef=>(λ l:Bs=>l.length<=maxLen) x.Name/\(λ xs:List GOp=>xs.length<=maxLen/\∀ x ∈ xs,(λ x:GOp=>(λ n:Int=>(Lit.int .i64 n).wf=true) x.Kind/\(λ n:Int=>(Lit.int .i32 n).wf=true) x.N) x) x.Body):=λ row hl h=>by
 match row,hl with
 | [c0,c1],_ =>
  obtain ⟨x0,e0,g0⟩:=(typed_str) [c0] rfl (Go.Fm.one_cell (h 0 _ c0 rfl rfl))
  obtain ⟨x1,e1,g1⟩:=(typed_sl (typed_GOp) rfl (by decide)) [c1] rfl (Go.Fm.one_cell (h 1 _ c1 rfl rfl))
  obtain rfl:=(List.cons.inj e0).1
  obtain rfl:=(List.cons.inj e1).1
  exact ⟨(⟨x0,x1⟩:GDef),rfl,⟨g0,g1⟩⟩
theorem ans_FnExactShake (x0:List GDef) (g0:(λ xs:List GDef=>xs.length<=maxLen/\∀ x ∈ xs,(λ x:GDef=>(λ l:Bs=>l.length<=maxLen) x.Name/\(λ xs:List GOp=>xs.length<=maxLen/\∀ x ∈ xs,(λ x:GOp=>(λ n:Int=>(Lit.int .i64 n).wf=true) x.Kind/\(λ n:Int=>(Lit.int .i32 n).wf=true) x.N) x) x.Body) x) x0) (x1:Int) (g1:(λ n:Int=>(Lit.int .i64 n).wf=true) x1) :
  Ans Tryd.prog 4 [.one (.imm 2 x0.length (x0.flatMap GDef.cs)), .one (.int .i64 x1)] [] λ v _=>v=Go.Fm.one (.bool true):=λ hm=>by
 obtain ⟨r,h1,a,b,c,_⟩:=ce_laws_FnExactShake (x0,x1) true (good_pure rfl rfl) (law_FnExactShake g0.1 (λ d hd=>⟨(g0.2 d hd).1,(g0.2 d hd).2.1⟩)) hm
 exact ⟨r,h1,a,b⟩
end Go.Proofs.YtnhefmibcnbehaaDoor
