import Derived.Test.YtnhefmibcnbehaaDoorCS
import Derived.KernelRfl
set_option linter.all false
namespace Go.Proofs.YtnhefmibcnbehaaDoor
open Go Go.Fm
set_option maxRecDepth 100000
abbrev Bs:=List UInt8
structure GOp where
 Kind:Int
 N:Int
 deriving DecidableEq,Inhabited
structure GDef where
 Name:Bs
 Body:List GOp
 deriving DecidableEq,Inhabited
structure GTree where
 Kind:Int
 N:Int
 Kids:List GTree
 deriving Inhabited
def GOp.cs (x:GOp):List CV:=[.int .i64 x.Kind, .int .i32 x.N]
def GDef.cs (x:GDef):List CV:=[.str x.Name, .imm 2 x.Body.length (x.Body.flatMap GOp.cs)]
mutual
def GTree.cs:GTree->List CV
 | ⟨x_Kind,x_N,x_Kids⟩=>[.int .i64 x_Kind, .int .i32 x_N, .imm 3 x_Kids.length (GTree.css x_Kids)]
def GTree.css:List GTree->List CV
 | []=>[]
 | x::r=>GTree.cs x++GTree.css r
end
theorem GTree.css_eq:∀ l:List GTree,GTree.css l=l.flatMap GTree.cs
 | []=>rfl
 | x::r=>by rw[GTree.css,GTree.css_eq r];rfl
theorem GTree.cs_eq (x:GTree):x.cs=[.int .i64 x.Kind, .int .i32 x.N, .imm 3 x.Kids.length (x.Kids.flatMap GTree.cs)]:=by
 cases x;rw[GTree.cs];simp only[GTree.css_eq]
instance:StTy:=⟨λ n=>match n with|0=>GDef|1=>GOp|2=>GTree|_=>Unit,λ n=>match n with|0=>2|1=>2|2=>3|_=>0,lkA [(40,0),(45,0),(56,1),(81,1),(105,2)],0⟩
noncomputable instance:StCs:=⟨λ n=>match n with|0=>GDef.cs|1=>GOp.cs|2=>GTree.cs|_=>λ _=>[]⟩
noncomputable def GDef.lv (x:GDef):List TC:=[.str x.Name, .imm (.st 1) x.Body]
noncomputable def GDef.of:List TC->Option GDef
 | [c0,c1]=>(tStr c0).bind λ x0=>(tImm (.st 1) c1).bind λ x1=>some ⟨x0,x1⟩
 | _=>none
theorem GDef.made {l:List TC} {v:GDef} (h:GDef.of l=some v):CRs l v.lv:=by
 match l,h with
 | [c0,c1],h =>
  obtain ⟨x0,e0,h⟩:=bS h
  obtain ⟨x1,e1,h⟩:=bS h
  cases h
  exact ⟨tStr_cr e0,tImm_cr e1,trivial⟩
noncomputable def GOp.lv (x:GOp):List TC:=[.int .i64 x.Kind, .int .i32 x.N]
noncomputable def GOp.of:List TC->Option GOp
 | [c0,c1]=>(tInt .i64 c0).bind λ x0=>(tInt .i32 c1).bind λ x1=>some ⟨x0,x1⟩
 | _=>none
theorem GOp.made {l:List TC} {v:GOp} (h:GOp.of l=some v):CRs l v.lv:=by
 match l,h with
 | [c0,c1],h =>
  obtain ⟨x0,e0,h⟩:=bS h
  obtain ⟨x1,e1,h⟩:=bS h
  cases h
  exact ⟨tInt_cr e0,tInt_cr e1,trivial⟩
noncomputable def GTree.lv (x:GTree):List TC:=[.int .i64 x.Kind, .int .i32 x.N, .imm (.st 2) x.Kids]
noncomputable def GTree.of:List TC->Option GTree
 | [c0,c1,c2]=>(tInt .i64 c0).bind λ x0=>(tInt .i32 c1).bind λ x1=>(tImm (.st 2) c2).bind λ x2=>some ⟨x0,x1,x2⟩
 | _=>none
theorem GTree.made {l:List TC} {v:GTree} (h:GTree.of l=some v):CRs l v.lv:=by
 match l,h with
 | [c0,c1,c2],h =>
  obtain ⟨x0,e0,h⟩:=bS h
  obtain ⟨x1,e1,h⟩:=bS h
  obtain ⟨x2,e2,h⟩:=bS h
  cases h
  exact ⟨tInt_cr e0,tInt_cr e1,tImm_cr e2,trivial⟩
noncomputable instance:Structs where
 leaves:=λ n=>match n with|0=>GDef.lv|1=>GOp.lv|2=>GTree.lv|_=>λ _=>[]
 make:=λ n=>match n with|0=>GDef.of|1=>GOp.of|2=>GTree.of|_=>λ _=>none
 plain:=λ n=>match n with|0=>false|1=>true|2=>false|_=>false
 lt:=λ n=>match n with|0=>[.bool,(.st 1)]|1=>[.bool, .bool]|2=>[.bool, .bool,(.st 2)]|_=>[]
 dp:=λ n=>match n with|0=>true|1=>false|2=>false|_=>false
 deep:=λ n v h=>match n,v,h with|0,_,_=>rfl|1,_,h=>nomatch h|2,_,h=>nomatch h|_+3,_,h=>nomatch h
 len:=λ n v=>match n,v with|0,_=>rfl|1,_=>rfl|2,_=>rfl|_+3,_=>rfl
 conc:=λ n v=>match n,v with|0,_=>rfl|1,_=>rfl|2,v=>(GTree.cs_eq v).symm|_+3,_=>rfl
 pure:=λ n v=>match n,v with|0,_=>rfl|1,_=>rfl|2,_=>rfl|_+3,_=>rfl
 made:=λ n l v h=>match n,v,h with|0,v,h=>GDef.made h|1,v,h=>GOp.made h|2,v,h=>GTree.made h|_+3,_,h=>nomatch h
 flat:=λ n v h=>match n,v,h with|0,_,h=>nomatch h|1,_,_=>rfl|2,_,h=>nomatch h|_+3,_,h=>nomatch h
noncomputable instance:Tabs:=⟨λ g=>match g with|0=>some ⟨.int .u8,gtAscii⟩|_=>none,λ g=>match g with|0=>rfl|_+1=>rfl⟩
abbrev K0:Ty:=.str
abbrev K1:Ty:=.int .i64
abbrev K2:Ty:=.int .i32
abbrev K3:Ty:=.st 1
abbrev K4:Ty:=.list K3
abbrev K5:Ty:=.st 0
abbrev K6:Ty:=.list K5
abbrev K7:Ty:=.bool
abbrev K8:Ty:=.int .u8
abbrev K9:Ty:=.list K0
abbrev K10:Ty:=.list K1
abbrev K11:Ty:=.st 2
abbrev K12:Ty:=.list K11
abbrev K13:Ty:=.list K2
end Go.Proofs.YtnhefmibcnbehaaDoor
namespace Go.Proofs.YtnhefmibcnbehaaDoor
open Go Go.Fm
set_option maxRecDepth 1000000
def g_laws_szOpS (a_1:List GOp) (left_2:Int):Option Int:=cond (decide ((IntKind.wrap .i64 (left_2-(a_1.length:Int))) < 0)) (some (-1)) (some (IntKind.wrap .i64 (left_2-(a_1.length:Int))))
def g_laws_szDef (a_1:GDef) (left_2:Int):Option Int:=cond (decide ((IntKind.wrap .i64 (left_2-(a_1.Name.length:Int))) < 0)) (some (-1)) ((g_laws_szOpS a_1.Body (IntKind.wrap .i64 (left_2-(a_1.Name.length:Int)))).bind λ y_4=>cond (decide (y_4 < 0)) (some (-1)) (some y_4))
def g_laws_szDefS_l0 (a_1:List GDef):Nat->Int->Int->Option (Int ⊕ Int)
 | 0,_,_=>none
 | k+1,left_6,i_7=>cond (decide (i_7 < (a_1.length:Int))) ((getI a_1 i_7).bind λ v_10=>(g_laws_szDef v_10 left_6).bind λ y_11=>cond (decide (y_11 < 0)) (some (.inr (-1))) (g_laws_szDefS_l0 a_1 k y_11 (IntKind.wrap .i64 (i_7+1)))) (some (.inl left_6))
def g_laws_szDefS (a_1:List GDef) (left_2:Int):Option Int:=cond (decide ((IntKind.wrap .i64 (left_2-(a_1.length:Int))) < 0)) (some (-1)) (((g_laws_szDefS_l0 a_1 bigK (IntKind.wrap .i64 (left_2-(a_1.length:Int))) 0).bind λ o=>match o with | .inl left_8=>some (.inl left_8) | .inr v_9=>some (.inr v_9):Option (Int ⊕ Int)).bind λ o=>match o with | .inl left_4=>some left_4 | .inr v_5=>some v_5)
def g_laws_toOp (a_1:GOp):Option GOp:=some a_1
def g_laws_toOpS_l0 (a_1:List GOp):Nat->(List GOp)->Int->Option (List GOp)
 | 0,_,_=>none
 | k+1,out_5,i_6=>cond (decide (i_6 < (a_1.length:Int))) ((getI a_1 i_6).bind λ v_8=>(g_laws_toOp v_8).bind λ y_9=>(getI out_5 i_6).bind λ v_10=>g_laws_toOpS_l0 a_1 k (out_5.set i_6.toNat y_9) (IntKind.wrap .i64 (i_6+1))) (some out_5)
def g_laws_toOpS (a_1:List GOp):Option (List GOp):=(mk ((⟨0,0⟩:GOp):GOp) (a_1.length:Int)).bind λ v_3=>((g_laws_toOpS_l0 a_1 bigK v_3 0).bind λ out_7=>some out_7:Option ((List GOp))).bind λ out_4=>some out_4
def g_laws_toDef (a_1:GDef):Option GDef:=(g_laws_toOpS a_1.Body).bind λ y_3=>some (⟨a_1.Name,y_3⟩:GDef)
def g_laws_toDefS_l0 (a_1:List GDef):Nat->(List GDef)->Int->Option (List GDef)
 | 0,_,_=>none
 | k+1,out_5,i_6=>cond (decide (i_6 < (a_1.length:Int))) ((getI a_1 i_6).bind λ v_8=>(g_laws_toDef v_8).bind λ y_9=>(getI out_5 i_6).bind λ v_10=>g_laws_toDefS_l0 a_1 k (out_5.set i_6.toNat y_9) (IntKind.wrap .i64 (i_6+1))) (some out_5)
def g_laws_toDefS (a_1:List GDef):Option (List GDef):=(mk ((⟨[],[]⟩:GDef):GDef) (a_1.length:Int)).bind λ v_3=>((g_laws_toDefS_l0 a_1 bigK v_3 0).bind λ out_7=>some out_7:Option ((List GDef))).bind λ out_4=>some out_4
def g_spec_l01In (x_1:Int) (a_2:Int) (b_3:Int):Option Bool:=cond (decide (x_1 ≥ a_2)) (some (decide (x_1<=b_3))) (some false)
def g_spec_l02All:Option Bs:=some [32,114,116,111,101,97,110,105,115,109,99,121,108,103,102,119,100,118,112,98,104,120,117,113,48,49,50,51,52,53,54,55,56,57,106,45,107,46,122,47,59,39,33,43,64,42,44,63]
def g_spec_LetterOf_l0 (b_1:Int) (y_3:Bs):Nat->Int->Option (Unit ⊕ Int)
 | 0,_=>none
 | k+1,i_5=>cond (decide (i_5 < (y_3.length:Int))) ((idxS y_3 i_5).bind λ v_7=>cond (v_7==b_1) (some (.inr i_5)) (g_spec_LetterOf_l0 b_1 y_3 k (IntKind.wrap .i64 (i_5+1)))) (some (.inl ()))
def g_spec_LetterOf (b_1:Int):Option Int:=(g_spec_l02All).bind λ y_3=>((g_spec_LetterOf_l0 b_1 y_3 bigK 0).bind λ o=>match o with | .inl ()=>some (.inl ()) | .inr v_6=>some (.inr v_6):Option (Unit ⊕ Int)).bind λ o=>match o with | .inl ()=>some (-1) | .inr v_4=>some v_4
def g_spec_NameOk_l0 (s_1:Bs):Nat->Int->Option (Unit ⊕ Bool)
 | 0,_=>none
 | k+1,i_5=>cond (decide (i_5 < (s_1.length:Int))) ((idxS s_1 i_5).bind λ v_7=>(g_spec_LetterOf v_7).bind λ y_8=>cond (decide (y_8 < 1)) (some (.inr false)) (g_spec_NameOk_l0 s_1 k (IntKind.wrap .i64 (i_5+1)))) (some (.inl ()))
def g_spec_NameOk (s_1:Bs):Option Bool:=(g_spec_l01In (s_1.length:Int) 1 24).bind λ y_3=>cond (!y_3) (some false) (((g_spec_NameOk_l0 s_1 bigK 0).bind λ o=>match o with | .inl ()=>some (.inl ()) | .inr v_6=>some (.inr v_6):Option (Unit ⊕ Bool)).bind λ o=>match o with | .inl ()=>some true | .inr v_4=>some v_4)
def g_spec_l08Names:Option (List Bs):=some [[100,117,112],[100,114,111,112],[111,118,101,114],[110,105,112],[115,119,97,112],[43],[45],[42],[97,110,100],[111,114],[50,42],[50,47],[47,109,111,100],[64],[33],[97],[97,33],[101,109,105,116],[107,101,121],[112,117,115,104],[112,111,112],[105],[46],[110,111,112]]
def g_spec_PrimName (k_1:Int):Option Bs:=(g_spec_l08Names).bind λ y_3=>(g_spec_l01In k_1 0 (IntKind.wrap .i64 ((y_3.length:Int)-1))).bind λ y_4=>cond (!y_4) (some []) ((getI y_3 k_1).bind λ v_5=>some v_5)
def g_spec_l09Op (o_1:GOp):Option Bool:=cond (o_1.Kind==0) (some true) (cond (o_1.Kind==1) ((g_spec_PrimName (IntKind.wrap .i64 o_1.N)).bind λ y_3=>some (y_3 != [])) (cond (o_1.Kind==2) ((g_spec_l01In (IntKind.wrap .i64 o_1.N) 0 23).bind λ y_4=>some y_4) ((g_spec_l01In o_1.Kind 3 8).bind λ y_5=>cond y_5 (some (o_1.N==0)) (some false))))
def g_spec_l09Open_l0 (body_1:List GOp):Nat->(List Int)->Int->Option ((List Int) ⊕ Bool)
 | 0,_,_=>none
 | k+1,vopen_6,i_7=>cond (decide (i_7 < (body_1.length:Int))) (((getI body_1 i_7).bind λ v_12=>(cond (v_12.Kind==3) (some (v_12.Kind==3)) (cond (v_12.Kind==4) (some (v_12.Kind==4)) (some (v_12.Kind==6))):Option (Bool)).bind λ v_13=>cond v_13 ((app vopen_6 [v_12.Kind]).bind λ v_14=>some (.inl v_14)) ((cond (v_12.Kind==5) (some (v_12.Kind==5)) (some (v_12.Kind==7)):Option (Bool)).bind λ v_15=>cond v_15 ((cond ((vopen_6.length:Int)==0) (some true) ((getI vopen_6 (IntKind.wrap .i64 ((vopen_6.length:Int)-1))).bind λ v_17=>some ((v_17==6) != (v_12.Kind==7))):Option (Bool)).bind λ v_16=>cond v_16 (some (.inr false)) ((subL vopen_6 0 (IntKind.wrap .i64 ((vopen_6.length:Int)-1))).bind λ v_18=>some (.inl v_18))) (some (.inl vopen_6))):Option ((List Int) ⊕ Bool)).bind λ o=>match o with | .inl vopen_10=>g_spec_l09Open_l0 body_1 k vopen_10 (IntKind.wrap .i64 (i_7+1)) | .inr v_11=>some (.inr v_11)) (some (.inl vopen_6))
def g_spec_l09Open (body_1:List GOp):Option ((List Int)×Bool):=((g_spec_l09Open_l0 body_1 bigK ([]:List Int) 0).bind λ o=>match o with | .inl vopen_8=>some (.inl vopen_8) | .inr v_9=>some (.inr v_9):Option ((List Int) ⊕ Bool)).bind λ o=>match o with | .inl vopen_4=>some (vopen_4,true) | .inr v_5=>some ([],v_5)
def g_spec_ShapeOk_l0 (body_1:List GOp):Nat->Int->Option (Unit ⊕ Bool)
 | 0,_=>none
 | k+1,i_4=>cond (decide (i_4 < (body_1.length:Int))) ((getI body_1 i_4).bind λ v_6=>(g_spec_l09Op v_6).bind λ y_7=>cond (!y_7) (some (.inr false)) (g_spec_ShapeOk_l0 body_1 k (IntKind.wrap .i64 (i_4+1)))) (some (.inl ()))
def g_spec_ShapeOk (body_1:List GOp):Option Bool:=cond (decide ((body_1.length:Int) > 60)) (some false) (((g_spec_ShapeOk_l0 body_1 bigK 0).bind λ o=>match o with | .inl ()=>some (.inl ()) | .inr v_5=>some (.inr v_5):Option (Unit ⊕ Bool)).bind λ o=>match o with | .inl ()=>(g_spec_l09Open body_1).bind λ y_8=>cond y_8.2 (some ((y_8.1.length:Int)==0)) (some false) | .inr v_3=>some v_3)
def g_spec_DefsOk_l1 (defs_1:List GDef) (i_4:Int):Nat->Int->Option (Unit ⊕ Bool)
 | 0,_=>none
 | k+1,k_12=>(getI defs_1 i_4).bind λ v_14=>cond (decide (k_12 < (v_14.Body.length:Int))) ((getI defs_1 i_4).bind λ v_15=>(getI v_15.Body k_12).bind λ v_16=>(cond (v_16.Kind==2) (some (decide ((IntKind.wrap .i64 v_16.N) ≥ (defs_1.length:Int)))) (some false):Option (Bool)).bind λ v_17=>cond v_17 (some (.inr false)) (g_spec_DefsOk_l1 defs_1 i_4 k (IntKind.wrap .i64 (k_12+1)))) (some (.inl ()))
def g_spec_DefsOk_l0 (defs_1:List GDef):Nat->Int->Option (Unit ⊕ Bool)
 | 0,_=>none
 | k+1,i_4=>cond (decide (i_4 < (defs_1.length:Int))) ((((getI defs_1 i_4).bind λ v_8=>(g_spec_NameOk v_8.Name).bind λ y_9=>cond (!y_9) (some true) ((getI defs_1 i_4).bind λ v_10=>(g_spec_ShapeOk v_10.Body).bind λ y_11=>some (!y_11)):Option (Bool)).bind λ v_7=>cond v_7 (some (.inr false)) ((g_spec_DefsOk_l1 defs_1 i_4 bigK 0).bind λ o=>match o with | .inl ()=>some (.inl ()) | .inr v_13=>some (.inr v_13)):Option (Unit ⊕ Bool)).bind λ o=>match o with | .inl ()=>g_spec_DefsOk_l0 defs_1 k (IntKind.wrap .i64 (i_4+1)) | .inr v_6=>some (.inr v_6)) (some (.inl ()))
def g_spec_DefsOk (defs_1:List GDef):Option Bool:=cond (decide ((defs_1.length:Int) > 24)) (some false) (((g_spec_DefsOk_l0 defs_1 bigK 0).bind λ o=>match o with | .inl ()=>some (.inl ()) | .inr v_5=>some (.inr v_5):Option (Unit ⊕ Bool)).bind λ o=>match o with | .inl ()=>some true | .inr v_3=>some v_3)
def g_spec_l09Trees_l0 (rc_g_spec_l09Trees:(List GOp)->Int->Option ((List GTree)×Int)) (body_1:List GOp):Nat->Int->(List GTree)->Option (Int×(List GTree))
 | 0,_,_=>none
 | k+1,i_6,out_7=>(cond (decide (i_6 < (body_1.length:Int))) ((getI body_1 i_6).bind λ v_11=>cond (v_11.Kind != 5) ((getI body_1 i_6).bind λ v_12=>some (v_12.Kind != 7)) (some false)) (some false):Option (Bool)).bind λ v_10=>cond v_10 ((getI body_1 i_6).bind λ v_13=>(getI body_1 i_6).bind λ v_14=>((cond (v_13.Kind==3) (some true) (cond (v_13.Kind==4) (some true) (some (v_13.Kind==6))):Option (Bool)).bind λ v_17=>cond v_17 ((rc_g_spec_l09Trees body_1 (IntKind.wrap .i64 (i_6+1))).bind λ y_18=>some (IntKind.wrap .i64 (y_18.2+1),(⟨v_13.Kind,v_14.N,y_18.1⟩:GTree))) (some (IntKind.wrap .i64 (i_6+1),(⟨v_13.Kind,v_14.N,[]⟩:GTree))):Option ((Int×GTree))).bind λ (i_15,x_16)=>(app out_7 [(⟨x_16.Kind,x_16.N,x_16.Kids⟩:GTree)]).bind λ v_19=>g_spec_l09Trees_l0 rc_g_spec_l09Trees body_1 k i_15 v_19) (some (i_6,out_7))
def g_spec_l09Trees_b (rc_g_spec_l09Trees:(List GOp)->Int->Option ((List GTree)×Int)) (body_1:List GOp) (i_2:Int):Option ((List GTree)×Int):=(g_spec_l09Trees_l0 rc_g_spec_l09Trees body_1 bigK i_2 ([]:List GTree)).bind λ (i_8,out_9)=>some (out_9,i_8)
def g_spec_l09Trees_r:Nat->(List GOp)->Int->Option ((List GTree)×Int)
 | 0=>λ _ _=>none
 | k+1=>g_spec_l09Trees_b (g_spec_l09Trees_r k)
def g_spec_l09Trees (body_1:List GOp) (i_2:Int):Option ((List GTree)×Int):=g_spec_l09Trees_r bigK body_1 i_2
def g_spec_TreeOf (body_1:List GOp):Option (List GTree):=(g_spec_ShapeOk body_1).bind λ y_3=>cond (!y_3) (some []) ((g_spec_l09Trees body_1 0).bind λ y_4=>some y_4.1)
def g_spec_l15Prune_imm_l0 (rc_g_spec_l15Prune_imm:(List GTree)->Option (List GTree)) (list_1:List GTree):Nat->(List GTree)->Int->Option ((List GTree) ⊕ (List GTree))
 | 0,_,_=>none
 | k+1,out_5,i_6=>cond (decide (i_6 < (list_1.length:Int))) ((getI list_1 i_6).bind λ v_9=>(rc_g_spec_l15Prune_imm v_9.Kids).bind λ y_10=>(app out_5 [(⟨v_9.Kind,v_9.N,y_10⟩:GTree)]).bind λ v_11=>cond (v_9.Kind==8) (some (.inr v_11)) (g_spec_l15Prune_imm_l0 rc_g_spec_l15Prune_imm list_1 k v_11 (IntKind.wrap .i64 (i_6+1)))) (some (.inl out_5))
def g_spec_l15Prune_imm_b (rc_g_spec_l15Prune_imm:(List GTree)->Option (List GTree)) (list_1:List GTree):Option (List GTree):=((g_spec_l15Prune_imm_l0 rc_g_spec_l15Prune_imm list_1 bigK ([]:List GTree) 0).bind λ o=>match o with | .inl out_7=>some (.inl out_7) | .inr v_8=>some (.inr v_8):Option ((List GTree) ⊕ (List GTree))).bind λ o=>match o with | .inl out_3=>some out_3 | .inr v_4=>some v_4
def g_spec_l15Prune_imm_r:Nat->(List GTree)->Option (List GTree)
 | 0=>λ _=>none
 | k+1=>g_spec_l15Prune_imm_b (g_spec_l15Prune_imm_r k)
def g_spec_l15Prune_imm (list_1:List GTree):Option (List GTree):=g_spec_l15Prune_imm_r bigK list_1
def g_spec_l15Prune_l0 (list_1:List GTree):Nat->(List GTree)->Int->Option ((List GTree) ⊕ (List GTree))
 | 0,_,_=>none
 | k+1,out_5,i_6=>cond (decide (i_6 < (list_1.length:Int))) ((getI list_1 i_6).bind λ v_9=>(g_spec_l15Prune_imm v_9.Kids).bind λ y_10=>(app out_5 [(⟨v_9.Kind,v_9.N,y_10⟩:GTree)]).bind λ v_11=>cond (v_9.Kind==8) (some (.inr v_11)) (g_spec_l15Prune_l0 list_1 k v_11 (IntKind.wrap .i64 (i_6+1)))) (some (.inl out_5))
def g_spec_l15Prune (list_1:List GTree):Option (List GTree):=((g_spec_l15Prune_l0 list_1 bigK ([]:List GTree) 0).bind λ o=>match o with | .inl out_7=>some (.inl out_7) | .inr v_8=>some (.inr v_8):Option ((List GTree) ⊕ (List GTree))).bind λ o=>match o with | .inl out_3=>some out_3 | .inr v_4=>some v_4
def g_spec_l09Flat_l0 (rc_g_spec_l09Flat:(List GTree)->Int->Int->Option ((List GOp)×Bool)) (list_1:List GTree) (deep_2:Int) (left_3:Int):Nat->(List GOp)->Int->Option ((List GOp) ⊕ ((List GOp)×Bool))
 | 0,_,_=>none
 | k+1,out_9,i_10=>cond (decide (i_10 < (list_1.length:Int))) (((getI list_1 i_10).bind λ v_17=>(cond (v_17.Kind==3) (some true) (cond (v_17.Kind==4) (some true) (some (v_17.Kind==6))):Option (Bool)).bind λ nest_18=>(cond (decide ((out_9.length:Int) ≥ left_3)) (some true) (cond (decide (deep_2 < 0)) (some true) (cond (v_17.Kind==5) (some true) (cond (v_17.Kind==7) (some true) (cond (!nest_18) (some (decide ((v_17.Kids.length:Int) > 0))) (some false))))):Option (Bool)).bind λ v_19=>cond v_19 (some (.inr ([],false))) ((app out_9 [(⟨v_17.Kind,v_17.N⟩:GOp)]).bind λ v_20=>cond (!nest_18) (some (.inl v_20)) ((rc_g_spec_l09Flat v_17.Kids (IntKind.wrap .i64 (deep_2-1)) (IntKind.wrap .i64 (left_3-(v_20.length:Int)))).bind λ y_21=>cond (!y_21.2) (some (.inr ([],false))) ((app v_20 y_21.1).bind λ v_22=>cond (v_17.Kind==6) ((app v_22 [(⟨7,0⟩:GOp)]).bind λ v_23=>some (.inl v_23)) ((app v_22 [(⟨5,0⟩:GOp)]).bind λ v_24=>some (.inl v_24))))):Option ((List GOp) ⊕ ((List GOp)×Bool))).bind λ o=>match o with | .inl out_14=>g_spec_l09Flat_l0 rc_g_spec_l09Flat list_1 deep_2 left_3 k out_14 (IntKind.wrap .i64 (i_10+1)) | .inr (v_15,v_16)=>some (.inr (v_15,v_16))) (some (.inl out_9))
def g_spec_l09Flat_b (rc_g_spec_l09Flat:(List GTree)->Int->Int->Option ((List GOp)×Bool)) (list_1:List GTree) (deep_2:Int) (left_3:Int):Option ((List GOp)×Bool):=((g_spec_l09Flat_l0 rc_g_spec_l09Flat list_1 deep_2 left_3 bigK ([]:List GOp) 0).bind λ o=>match o with | .inl out_11=>some (.inl out_11) | .inr (v_12,v_13)=>some (.inr (v_12,v_13)):Option ((List GOp) ⊕ ((List GOp)×Bool))).bind λ o=>match o with | .inl out_6=>some (out_6,true) | .inr (v_7,v_8)=>some (v_7,v_8)
def g_spec_l09Flat_r:Nat->(List GTree)->Int->Int->Option ((List GOp)×Bool)
 | 0=>λ _ _ _=>none
 | k+1=>g_spec_l09Flat_b (g_spec_l09Flat_r k)
def g_spec_l09Flat (list_1:List GTree) (deep_2:Int) (left_3:Int):Option ((List GOp)×Bool):=g_spec_l09Flat_r bigK list_1 deep_2 left_3
def g_spec_FlatOf (list_1:List GTree):Option (List GOp):=(g_spec_l09Flat list_1 60 60).bind λ y_3=>(cond (!y_3.2) (some true) ((g_spec_ShapeOk y_3.1).bind λ y_5=>some (!y_5)):Option (Bool)).bind λ v_4=>cond v_4 (some []) (some y_3.1)
def g_spec_Prune (body_1:List GOp):Option (List GOp):=(g_spec_ShapeOk body_1).bind λ y_3=>cond (!y_3) (some []) ((g_spec_TreeOf body_1).bind λ y_4=>(g_spec_l15Prune y_4).bind λ y_5=>(g_spec_FlatOf y_5).bind λ y_6=>some y_6)
def g_spec_l15Is (o_1:GOp) (name_2:Bs):Option Bool:=cond (o_1.Kind==1) ((g_spec_PrimName (IntKind.wrap .i64 o_1.N)).bind λ y_4=>some (y_4==name_2)) (some false)
def g_spec_l08Pure (name_1:Bs) (x_2:Int) (y_3:Int):Option ((List Int)×Bool):=(cond (name_1==[100,117,112]) (some (.inr ([y_3,y_3],true))) ((cond (name_1==[100,114,111,112]) (some (name_1==[100,114,111,112])) (some (name_1==[110,111,112])):Option (Bool)).bind λ v_8=>cond v_8 (some (.inr (([]:List Int),true))) (cond (name_1==[111,118,101,114]) (some (.inr ([x_2,y_3,x_2],true))) (cond (name_1==[110,105,112]) (some (.inr ([y_3],true))) (cond (name_1==[115,119,97,112]) (some (.inr ([y_3,x_2],true))) (cond (name_1==[43]) (some (.inr ([IntKind.wrap .i32 (x_2+y_3)],true))) (cond (name_1==[45]) (some (.inr ([IntKind.wrap .i32 ((-1)-y_3)],true))) (cond (name_1==[42]) (some (.inr ([IntKind.wrap .i32 (x_2*y_3)],true))) (cond (name_1==[97,110,100]) (some (.inr ([andI .i32 x_2 y_3],true))) (cond (name_1==[111,114]) (some (.inr ([xorI .i32 x_2 y_3],true))) (cond (name_1==[50,42]) (some (.inr ([IntKind.wrap .i32 (y_3+y_3)],true))) (cond (name_1==[50,47]) (some (.inr ([y_3 / 2],true))) (some (.inl ()))))))))))))):Option (Unit ⊕ ((List Int)×Bool))).bind λ o=>match o with | .inl ()=>some ([],false) | .inr (v_6,v_7)=>some (v_6,v_7)
def g_spec_l15Two (o_1:GOp) (x_2:Int) (y_3:Int):Option (Int×Bool):=((g_spec_l15Is o_1 [43]).bind λ y_7=>cond (!y_7) ((g_spec_l15Is o_1 [42]).bind λ y_8=>cond (!y_8) ((g_spec_l15Is o_1 [97,110,100]).bind λ y_9=>cond (!y_9) ((g_spec_l15Is o_1 [111,114]).bind λ y_10=>some (!y_10)) (some false)) (some false)) (some false):Option (Bool)).bind λ v_6=>cond v_6 (some (0,false)) ((g_spec_PrimName (IntKind.wrap .i64 o_1.N)).bind λ y_11=>(g_spec_l08Pure y_11 x_2 y_3).bind λ y_12=>(getI y_12.1 0).bind λ v_13=>some (v_13,true))
def g_spec_l15One (o_1:GOp) (x_2:Int):Option (Int×Bool):=((g_spec_l15Is o_1 [45]).bind λ y_6=>cond (!y_6) ((g_spec_l15Is o_1 [50,42]).bind λ y_7=>cond (!y_7) ((g_spec_l15Is o_1 [50,47]).bind λ y_8=>some (!y_8)) (some false)) (some false):Option (Bool)).bind λ v_5=>cond v_5 (some (0,false)) ((g_spec_PrimName (IntKind.wrap .i64 o_1.N)).bind λ y_9=>(g_spec_l08Pure y_9 0 x_2).bind λ y_10=>(getI y_10.1 0).bind λ v_11=>some (v_11,true))
def g_spec_l15At (l_1:List GOp):Option ((List GOp)×Int):=((cond (decide ((l_1.length:Int) > 2)) ((getI l_1 0).bind λ v_7=>cond (v_7.Kind==0) ((getI l_1 1).bind λ v_8=>some (v_8.Kind==0)) (some false)) (some false):Option (Bool)).bind λ v_6=>cond v_6 ((getI l_1 2).bind λ v_9=>(getI l_1 0).bind λ v_10=>(getI l_1 1).bind λ v_11=>(g_spec_l15Two v_9 v_10.N v_11.N).bind λ y_12=>cond y_12.2 (some (.inr ([(⟨0,y_12.1⟩:GOp)],3))) (some (.inl ()))) (some (.inl ())):Option (Unit ⊕ ((List GOp)×Int))).bind λ o=>match o with | .inl ()=>((cond (decide ((l_1.length:Int) > 1)) ((getI l_1 0).bind λ v_15=>(getI l_1 1).bind λ v_16=>(g_spec_l15One v_16 v_15.N).bind λ y_17=>(cond y_17.2 (some (v_15.Kind==0)) (some false):Option (Bool)).bind λ v_18=>cond v_18 (some (.inr ([(⟨0,y_17.1⟩:GOp)],2))) ((cond (v_15.Kind==0) ((g_spec_l15Is v_16 [100,114,111,112]).bind λ y_20=>cond y_20 (some true) ((g_spec_l15Is v_15 [100,117,112]).bind λ y_21=>cond y_21 ((g_spec_l15Is v_16 [100,114,111,112]).bind λ y_22=>cond y_22 (some true) ((g_spec_l15Is v_15 [115,119,97,112]).bind λ y_23=>cond y_23 ((g_spec_l15Is v_16 [115,119,97,112]).bind λ y_24=>cond y_24 (some true) ((g_spec_l15Is v_15 [45]).bind λ y_25=>cond y_25 ((g_spec_l15Is v_16 [45]).bind λ y_26=>some y_26) (some false))) ((g_spec_l15Is v_15 [45]).bind λ y_27=>cond y_27 ((g_spec_l15Is v_16 [45]).bind λ y_28=>some y_28) (some false)))) ((g_spec_l15Is v_15 [115,119,97,112]).bind λ y_29=>cond y_29 ((g_spec_l15Is v_16 [115,119,97,112]).bind λ y_30=>cond y_30 (some true) ((g_spec_l15Is v_15 [45]).bind λ y_31=>cond y_31 ((g_spec_l15Is v_16 [45]).bind λ y_32=>some y_32) (some false))) ((g_spec_l15Is v_15 [45]).bind λ y_33=>cond y_33 ((g_spec_l15Is v_16 [45]).bind λ y_34=>some y_34) (some false))))) ((g_spec_l15Is v_15 [100,117,112]).bind λ y_35=>cond y_35 ((g_spec_l15Is v_16 [100,114,111,112]).bind λ y_36=>cond y_36 (some true) ((g_spec_l15Is v_15 [115,119,97,112]).bind λ y_37=>cond y_37 ((g_spec_l15Is v_16 [115,119,97,112]).bind λ y_38=>cond y_38 (some true) ((g_spec_l15Is v_15 [45]).bind λ y_39=>cond y_39 ((g_spec_l15Is v_16 [45]).bind λ y_40=>some y_40) (some false))) ((g_spec_l15Is v_15 [45]).bind λ y_41=>cond y_41 ((g_spec_l15Is v_16 [45]).bind λ y_42=>some y_42) (some false)))) ((g_spec_l15Is v_15 [115,119,97,112]).bind λ y_43=>cond y_43 ((g_spec_l15Is v_16 [115,119,97,112]).bind λ y_44=>cond y_44 (some true) ((g_spec_l15Is v_15 [45]).bind λ y_45=>cond y_45 ((g_spec_l15Is v_16 [45]).bind λ y_46=>some y_46) (some false))) ((g_spec_l15Is v_15 [45]).bind λ y_47=>cond y_47 ((g_spec_l15Is v_16 [45]).bind λ y_48=>some y_48) (some false)))):Option (Bool)).bind λ v_19=>cond v_19 (some (.inr ([],2))) (some (.inl ())))) (some (.inl ())):Option (Unit ⊕ ((List GOp)×Int))).bind λ o=>match o with | .inl ()=>(getI l_1 0).bind λ v_49=>(g_spec_l15Is v_49 [110,111,112]).bind λ y_50=>cond y_50 (some ([],1)) (some ([],0)) | .inr (v_13,v_14)=>some (v_13,v_14)) | .inr (v_4,v_5)=>some (v_4,v_5)
def g_spec_Fold_l0:Nat->(List GOp)->Int->Option (List GOp)
 | 0,_,_=>none
 | k+1,out_6,i_7=>cond (decide (i_7 < (out_6.length:Int))) (((subL out_6 i_7 ((out_6.length:Nat):Int)).bind λ v_11=>(g_spec_l15At v_11).bind λ y_12=>cond (decide (y_12.2 > 0)) ((subL out_6 0 i_7).bind λ v_13=>(app ([]:List GOp) v_13).bind λ v_14=>(app v_14 y_12.1).bind λ v_15=>(subL out_6 (IntKind.wrap .i64 (i_7+y_12.2)) ((out_6.length:Nat):Int)).bind λ v_16=>(app v_15 v_16).bind λ v_17=>some (v_17,(-1))) (some (out_6,i_7)):Option (((List GOp)×Int))).bind λ (out_9,i_10)=>g_spec_Fold_l0 k out_9 (IntKind.wrap .i64 (i_10+1))) (some out_6)
def g_spec_Fold (body_1:List GOp):Option (List GOp):=(g_spec_ShapeOk body_1).bind λ y_3=>cond (!y_3) (some []) ((app ([]:List GOp) body_1).bind λ v_4=>((g_spec_Fold_l0 bigK v_4 0).bind λ out_8=>some out_8:Option ((List GOp))).bind λ out_5=>some out_5)
def g_spec_Fold_imm_l0:Nat->(List GOp)->Int->Option (List GOp)
 | 0,_,_=>none
 | k+1,out_6,i_7=>cond (decide (i_7 < (out_6.length:Int))) (((subL out_6 i_7 ((out_6.length:Nat):Int)).bind λ v_11=>(g_spec_l15At v_11).bind λ y_12=>cond (decide (y_12.2 > 0)) ((subL out_6 0 i_7).bind λ v_13=>(app ([]:List GOp) v_13).bind λ v_14=>(app v_14 y_12.1).bind λ v_15=>(subL out_6 (IntKind.wrap .i64 (i_7+y_12.2)) ((out_6.length:Nat):Int)).bind λ v_16=>(app v_15 v_16).bind λ v_17=>some (v_17,(-1))) (some (out_6,i_7)):Option (((List GOp)×Int))).bind λ (out_9,i_10)=>g_spec_Fold_imm_l0 k out_9 (IntKind.wrap .i64 (i_10+1))) (some out_6)
def g_spec_Fold_imm (body_1:List GOp):Option (List GOp):=(g_spec_ShapeOk body_1).bind λ y_3=>cond (!y_3) (some []) ((app ([]:List GOp) body_1).bind λ v_4=>((g_spec_Fold_imm_l0 bigK v_4 0).bind λ out_8=>some out_8:Option ((List GOp))).bind λ out_5=>some out_5)
def g_spec_SimpleOf_l0 (defs_1:List GDef):Nat->(List GDef)->Int->Option (List GDef)
 | 0,_,_=>none
 | k+1,out_5,i_6=>cond (decide (i_6 < (defs_1.length:Int))) ((getI defs_1 i_6).bind λ v_8=>(getI defs_1 i_6).bind λ v_9=>(g_spec_Prune v_9.Body).bind λ y_10=>(g_spec_Fold_imm y_10).bind λ y_11=>(app out_5 [(⟨v_8.Name,y_11⟩:GDef)]).bind λ v_12=>g_spec_SimpleOf_l0 defs_1 k v_12 (IntKind.wrap .i64 (i_6+1))) (some out_5)
def g_spec_SimpleOf (defs_1:List GDef):Option (List GDef):=(g_spec_DefsOk defs_1).bind λ y_3=>cond (!y_3) (some ([]:List GDef)) (((g_spec_SimpleOf_l0 defs_1 bigK ([]:List GDef) 0).bind λ out_7=>some out_7:Option ((List GDef))).bind λ out_4=>some out_4)
def g_impl_letters:Option Bs:=some [32,114,116,111,101,97,110,105,115,109,99,121,108,103,102,119,100,118,112,98,104,120,117,113,48,49,50,51,52,53,54,55,56,57,106,45,107,46,122,47,59,39,33,43,64,42,44,63]
def g_ibytealg_IndexByteString (s_1:Bs) (c_2:Int):Option Int:=gIdxB s_1 c_2
def g_istringslite_IndexByte (s_1:Bs) (c_2:Int):Option Int:=(g_ibytealg_IndexByteString s_1 c_2).bind λ y_4=>some y_4
def g_strings_IndexByte (s_1:Bs) (c_2:Int):Option Int:=(g_istringslite_IndexByte s_1 c_2).bind λ y_4=>some y_4
def g_impl_LetterOf (b_1:Int):Option Int:=(g_impl_letters).bind λ y_3=>(g_strings_IndexByte y_3 b_1).bind λ y_4=>some y_4
def g_impl_within (n_1:Int) (low_2:Int) (high_3:Int):Option Bool:=cond (decide (low_2<=n_1)) (some (decide (n_1<=high_3))) (some false)
def g_impl_NameOk_l0 (s_1:Bs) (v_4:Int):Nat->Int->Option (Unit ⊕ Bool)
 | 0,_=>none
 | k+1,v_5=>cond (decide (v_5 < v_4)) ((idxS s_1 v_5).bind λ v_7=>(g_impl_LetterOf v_7).bind λ y_8=>cond (decide (y_8 < 1)) (some (.inr false)) (g_impl_NameOk_l0 s_1 v_4 k (IntKind.wrap .i64 (v_5+1)))) (some (.inl ()))
def g_impl_NameOk (s_1:Bs):Option Bool:=((g_impl_NameOk_l0 s_1 (s_1.length:Int) bigK 0).bind λ o=>match o with | .inl ()=>some (.inl ()) | .inr v_6=>some (.inr v_6):Option (Unit ⊕ Bool)).bind λ o=>match o with | .inl ()=>(g_impl_within (s_1.length:Int) 1 24).bind λ y_9=>some y_9 | .inr v_3=>some v_3
def g_strings_Fields_l0 (s_1:Bs):Nat->Int->Int->Int->Int->Option (Int×Int)
 | 0,_,_,_,_=>none
 | k+1,n_5,wasSpace_6,setBits_7,i_8=>cond (decide (i_8 < (s_1.length:Int))) ((idxS s_1 i_8).bind λ v_11=>(getI gtAscii v_11).bind λ v_12=>g_strings_Fields_l0 s_1 k (IntKind.wrap .i64 (n_5+(andI .i64 wasSpace_6 (notI .i64 (IntKind.wrap .i64 v_12))))) (IntKind.wrap .i64 v_12) (orI .u8 setBits_7 v_11) (IntKind.wrap .i64 (i_8+1))) (some (n_5,setBits_7))
def g_strings_Fields_l1 (s_1:Bs):Nat->Int->Option Int
 | 0,_=>none
 | k+1,i_15=>(cond (decide (i_15 < (s_1.length:Int))) ((idxS s_1 i_15).bind λ v_18=>(getI gtAscii v_18).bind λ v_19=>some (v_19 != 0)) (some false):Option (Bool)).bind λ v_17=>cond v_17 (g_strings_Fields_l1 s_1 k (IntKind.wrap .i64 (i_15+1))) (some i_15)
def g_strings_Fields_l3 (s_1:Bs):Nat->Int->Option Int
 | 0,_=>none
 | k+1,i_33=>(cond (decide (i_33 < (s_1.length:Int))) ((idxS s_1 i_33).bind λ v_36=>(getI gtAscii v_36).bind λ v_37=>some (v_37 != 0)) (some false):Option (Bool)).bind λ v_35=>cond v_35 (g_strings_Fields_l3 s_1 k (IntKind.wrap .i64 (i_33+1))) (some i_33)
def g_strings_Fields_l2 (s_1:Bs):Nat->(List Bs)->Int->Int->Int->Option ((List Bs)×Int×Int)
 | 0,_,_,_,_=>none
 | k+1,a_20,na_21,fieldStart_22,i_23=>cond (decide (i_23 < (s_1.length:Int))) ((idxS s_1 i_23).bind λ v_27=>(getI gtAscii v_27).bind λ v_28=>cond (v_28==0) (g_strings_Fields_l2 s_1 k a_20 na_21 fieldStart_22 (IntKind.wrap .i64 (i_23+1))) ((subL s_1 fieldStart_22 i_23).bind λ v_29=>(getI a_20 na_21).bind λ v_30=>(g_strings_Fields_l3 s_1 bigK (IntKind.wrap .i64 (i_23+1))).bind λ i_34=>g_strings_Fields_l2 s_1 k (a_20.set na_21.toNat v_29) (IntKind.wrap .i64 (na_21+1)) i_34 i_34)) (some (a_20,na_21,fieldStart_22))
def g_strings_Fields (s_1:Bs):Option (List Bs):=((g_strings_Fields_l0 s_1 bigK 0 1 0 0).bind λ (n_9,setBits_10)=>some (n_9,setBits_10):Option ((Int×Int))).bind λ (n_3,setBits_4)=>cond (decide (setBits_4 ≥ 128)) (none) ((mk ([]:Bs) n_3).bind λ v_13=>(g_strings_Fields_l1 s_1 bigK 0).bind λ i_16=>(g_strings_Fields_l2 s_1 bigK v_13 0 i_16 i_16).bind λ (a_24,na_25,fieldStart_26)=>(cond (decide (fieldStart_26 < (s_1.length:Int))) ((subL s_1 fieldStart_26 (s_1.length:Int)).bind λ v_39=>(getI a_24 na_25).bind λ v_40=>some (a_24.set na_25.toNat v_39)) (some a_24):Option ((List Bs))).bind λ a_38=>some a_38)
def g_impl_prims:Option (List Bs):=(g_strings_Fields [100,117,112,32,100,114,111,112,32,111,118,101,114,32,110,105,112,32,115,119,97,112,32,43,32,45,32,42,32,97,110,100,32,111,114,32,50,42,32,50,47,32,47,109,111,100,32,64,32,33,32,97,32,97,33,32,101,109,105,116,32,107,101,121,32,112,117,115,104,32,112,111,112,32,105,32,46,32,110,111,112]).bind λ y_2=>some y_2
def g_impl_PrimName (k_1:Int):Option Bs:=(g_impl_prims).bind λ y_3=>(g_impl_within k_1 0 (IntKind.wrap .i64 ((y_3.length:Int)-1))).bind λ y_4=>cond y_4 ((getI y_3 k_1).bind λ v_5=>some v_5) (some [])
def g_impl_opOk (o_1:GOp):Option Bool:=cond (o_1.Kind==0) (some true) (cond (o_1.Kind==1) ((g_impl_PrimName (IntKind.wrap .i64 o_1.N)).bind λ y_3=>some (y_3 != [])) (cond (o_1.Kind==2) ((g_impl_within (IntKind.wrap .i64 o_1.N) 0 23).bind λ y_4=>some y_4) ((g_impl_within o_1.Kind 3 8).bind λ y_5=>cond y_5 (some (o_1.N==0)) (some false))))
def g_impl_openIn_l0 (v_7:List GOp) (v_8:Int):Nat->(List Int)->Int->Option ((List Int) ⊕ ((List Int)×Bool))
 | 0,_,_=>none
 | k+1,vopen_9,v_10=>cond (decide (v_10 < v_8)) (((getI v_7 v_10).bind λ v_17=>(g_impl_opOk v_17).bind λ y_18=>cond (!y_18) (some (.inr ([],false))) ((cond (v_17.Kind==3) (some true) (cond (v_17.Kind==4) (some true) (some (v_17.Kind==6))):Option (Bool)).bind λ v_19=>cond v_19 ((app vopen_9 [v_17.Kind]).bind λ v_20=>some (.inl v_20)) ((cond (v_17.Kind==5) (some true) (some (v_17.Kind==7)):Option (Bool)).bind λ v_21=>cond v_21 ((cond (decide ((IntKind.wrap .i64 ((vopen_9.length:Int)-1)) < 0)) (some true) ((getI vopen_9 (IntKind.wrap .i64 ((vopen_9.length:Int)-1))).bind λ v_23=>some ((v_23==6) != (v_17.Kind==7))):Option (Bool)).bind λ v_22=>cond v_22 (some (.inr ([],false))) ((subL vopen_9 0 (IntKind.wrap .i64 ((vopen_9.length:Int)-1))).bind λ v_24=>some (.inl v_24))) (some (.inl vopen_9)))):Option ((List Int) ⊕ ((List Int)×Bool))).bind λ o=>match o with | .inl vopen_14=>g_impl_openIn_l0 v_7 v_8 k vopen_14 (IntKind.wrap .i64 (v_10+1)) | .inr (v_15,v_16)=>some (.inr (v_15,v_16))) (some (.inl vopen_9))
def g_impl_openIn (body_1:List GOp):Option ((List Int)×Bool):=((g_impl_openIn_l0 body_1 (body_1.length:Int) bigK ([]:List Int) 0).bind λ o=>match o with | .inl vopen_11=>some (.inl vopen_11) | .inr (v_12,v_13)=>some (.inr (v_12,v_13)):Option ((List Int) ⊕ ((List Int)×Bool))).bind λ o=>match o with | .inl vopen_4=>some (vopen_4,decide ((body_1.length:Int)<=60)) | .inr (v_5,v_6)=>some (v_5,v_6)
def g_impl_ShapeOk (body_1:List GOp):Option Bool:=(g_impl_openIn body_1).bind λ y_3=>cond y_3.2 (some ((y_3.1.length:Int)==0)) (some false)
def g_impl_callsBelowc1 (o_1:GOp) (a_2:Int):Option Bool:=cond (o_1.Kind==2) (some (decide ((IntKind.wrap .i64 o_1.N) ≥ a_2))) (some false)
def g_slices_IndexFunc_Op_impl_callsBelowc1_l0 (s_1:List GOp) (v_5:Int) (c_2:Int):Nat->Int->Option (Unit ⊕ Int)
 | 0,_=>none
 | k+1,v_6=>cond (decide (v_6 < v_5)) ((getI s_1 v_6).bind λ v_8=>(g_impl_callsBelowc1 v_8 c_2).bind λ y_9=>cond y_9 (some (.inr v_6)) (g_slices_IndexFunc_Op_impl_callsBelowc1_l0 s_1 v_5 c_2 k (IntKind.wrap .i64 (v_6+1)))) (some (.inl ()))
def g_slices_IndexFunc_Op_impl_callsBelowc1 (s_1:List GOp) (c_2:Int):Option Int:=((g_slices_IndexFunc_Op_impl_callsBelowc1_l0 s_1 (s_1.length:Int) c_2 bigK 0).bind λ o=>match o with | .inl ()=>some (.inl ()) | .inr v_7=>some (.inr v_7):Option (Unit ⊕ Int)).bind λ o=>match o with | .inl ()=>some (-1) | .inr v_4=>some v_4
def g_slices_ContainsFunc_Op_impl_callsBelowc1 (s_1:List GOp) (c_2:Int):Option Bool:=(g_slices_IndexFunc_Op_impl_callsBelowc1 s_1 c_2).bind λ y_4=>some (decide (y_4 ≥ 0))
def g_impl_callsBelow (body_1:List GOp) (n_2:Int):Option Bool:=(g_slices_ContainsFunc_Op_impl_callsBelowc1 body_1 n_2).bind λ y_4=>some (!y_4)
def g_impl_DefsOkc1 (d_1:GDef) (a_2:List GDef):Option Bool:=(g_impl_NameOk d_1.Name).bind λ y_4=>cond (!y_4) (some true) ((g_impl_ShapeOk d_1.Body).bind λ y_5=>cond (!y_5) (some true) ((g_impl_callsBelow d_1.Body (a_2.length:Int)).bind λ y_6=>some (!y_6)))
def g_slices_IndexFunc_Def_impl_DefsOkc1_l0 (s_1:List GDef) (v_5:Int) (c_2:List GDef):Nat->Int->Option (Unit ⊕ Int)
 | 0,_=>none
 | k+1,v_6=>cond (decide (v_6 < v_5)) ((getI s_1 v_6).bind λ v_8=>(g_impl_DefsOkc1 v_8 c_2).bind λ y_9=>cond y_9 (some (.inr v_6)) (g_slices_IndexFunc_Def_impl_DefsOkc1_l0 s_1 v_5 c_2 k (IntKind.wrap .i64 (v_6+1)))) (some (.inl ()))
def g_slices_IndexFunc_Def_impl_DefsOkc1 (s_1:List GDef) (c_2:List GDef):Option Int:=((g_slices_IndexFunc_Def_impl_DefsOkc1_l0 s_1 (s_1.length:Int) c_2 bigK 0).bind λ o=>match o with | .inl ()=>some (.inl ()) | .inr v_7=>some (.inr v_7):Option (Unit ⊕ Int)).bind λ o=>match o with | .inl ()=>some (-1) | .inr v_4=>some v_4
def g_slices_ContainsFunc_Def_impl_DefsOkc1 (s_1:List GDef) (c_2:List GDef):Option Bool:=(g_slices_IndexFunc_Def_impl_DefsOkc1 s_1 c_2).bind λ y_4=>some (decide (y_4 ≥ 0))
def g_impl_DefsOk (defs_1:List GDef):Option Bool:=cond (decide ((defs_1.length:Int)<=24)) ((g_slices_ContainsFunc_Def_impl_DefsOkc1 defs_1 defs_1).bind λ y_3=>some (!y_3)) (some false)
def g_impl_grow_l0 (rc_g_impl_grow:(List GOp)->Option ((List GTree)×(List GOp))):Nat->(List GOp)->(List GTree)->Option ((List GTree) ⊕ ((List GTree)×(List GOp)))
 | 0,_,_=>none
 | k+1,body_4,out_5=>cond (decide ((body_4.length:Int) > 0)) ((getI body_4 0).bind λ v_9=>(subL body_4 1 (body_4.length:Int)).bind λ v_10=>((cond (v_9.Kind==5) (some (v_9.Kind==5)) (some (v_9.Kind==7)):Option (Bool)).bind λ v_20=>cond v_20 (some (.inr (out_5,v_10,(⟨v_9.Kind,v_9.N,[]⟩:GTree)))) ((cond (v_9.Kind==3) (some (v_9.Kind==3)) (cond (v_9.Kind==4) (some (v_9.Kind==4)) (some (v_9.Kind==6))):Option (Bool)).bind λ v_21=>cond v_21 ((rc_g_impl_grow v_10).bind λ y_22=>some (.inl (y_22.2,out_5,(⟨v_9.Kind,v_9.N,y_22.1⟩:GTree)))) (some (.inl (v_10,out_5,(⟨v_9.Kind,v_9.N,[]⟩:GTree))))):Option (((List GOp)×(List GTree)×GTree) ⊕ ((List GTree)×(List GOp)×GTree))).bind λ o=>match o with | .inl (body_14,out_15,x_16)=>(app out_15 [(⟨x_16.Kind,x_16.N,x_16.Kids⟩:GTree)]).bind λ v_23=>g_impl_grow_l0 rc_g_impl_grow k body_14 v_23 | .inr (v_17,v_18,x_19)=>some (.inr (v_17,v_18))) (some (.inl out_5))
def g_impl_grow_b (rc_g_impl_grow:(List GOp)->Option ((List GTree)×(List GOp))) (body_1:List GOp):Option ((List GTree)×(List GOp)):=(g_impl_grow_l0 rc_g_impl_grow bigK body_1 ([]:List GTree)).bind λ o=>match o with | .inl out_6=>some (out_6,[]) | .inr (v_7,v_8)=>some (v_7,v_8)
def g_impl_grow_r:Nat->(List GOp)->Option ((List GTree)×(List GOp))
 | 0=>λ _=>none
 | k+1=>g_impl_grow_b (g_impl_grow_r k)
def g_impl_grow (body_1:List GOp):Option ((List GTree)×(List GOp)):=g_impl_grow_r bigK body_1
def g_impl_TreeOf (body_1:List GOp):Option (List GTree):=(g_impl_ShapeOk body_1).bind λ y_3=>cond (!y_3) (some []) ((g_impl_grow body_1).bind λ y_4=>some y_4.1)
def g_impl_pruned_imm_l0 (rc_g_impl_pruned_imm:(List GTree)->Option (List GTree)) (v_4:List GTree) (v_5:Int):Nat->(List GTree)->Int->Option (List GTree)
 | 0,_,_=>none
 | k+1,out_6,v_7=>cond (decide (v_7 < v_5)) ((getI v_4 v_7).bind λ v_9=>(rc_g_impl_pruned_imm v_9.Kids).bind λ y_10=>(app out_6 [(⟨v_9.Kind,v_9.N,y_10⟩:GTree)]).bind λ v_11=>cond (v_9.Kind==8) (some v_11) (g_impl_pruned_imm_l0 rc_g_impl_pruned_imm v_4 v_5 k v_11 (IntKind.wrap .i64 (v_7+1)))) (some out_6)
def g_impl_pruned_imm_b (rc_g_impl_pruned_imm:(List GTree)->Option (List GTree)) (list_1:List GTree):Option (List GTree):=((g_impl_pruned_imm_l0 rc_g_impl_pruned_imm list_1 (list_1.length:Int) bigK ([]:List GTree) 0).bind λ out_8=>some out_8:Option ((List GTree))).bind λ out_3=>some out_3
def g_impl_pruned_imm_r:Nat->(List GTree)->Option (List GTree)
 | 0=>λ _=>none
 | k+1=>g_impl_pruned_imm_b (g_impl_pruned_imm_r k)
def g_impl_pruned_imm (list_1:List GTree):Option (List GTree):=g_impl_pruned_imm_r bigK list_1
def g_impl_pruned_l0 (v_4:List GTree) (v_5:Int):Nat->(List GTree)->Int->Option (List GTree)
 | 0,_,_=>none
 | k+1,out_6,v_7=>cond (decide (v_7 < v_5)) ((getI v_4 v_7).bind λ v_9=>(g_impl_pruned_imm v_9.Kids).bind λ y_10=>(app out_6 [(⟨v_9.Kind,v_9.N,y_10⟩:GTree)]).bind λ v_11=>cond (v_9.Kind==8) (some v_11) (g_impl_pruned_l0 v_4 v_5 k v_11 (IntKind.wrap .i64 (v_7+1)))) (some out_6)
def g_impl_pruned (list_1:List GTree):Option (List GTree):=((g_impl_pruned_l0 list_1 (list_1.length:Int) bigK ([]:List GTree) 0).bind λ out_8=>some out_8:Option ((List GTree))).bind λ out_3=>some out_3
def g_impl_flat_l0 (rc_g_impl_flat:(List GTree)->(List GOp)->Option ((List GOp)×Bool)) (v_8:List GTree) (v_9:Int):Nat->(List GOp)->Int->Option ((List GOp) ⊕ ((List GOp)×Bool))
 | 0,_,_=>none
 | k+1,body_10,v_11=>cond (decide (v_11 < v_9)) (((getI v_8 v_11).bind λ v_18=>((cond (decide ((body_10.length:Int) > 60)) (some true) (cond (v_18.Kind==5) (some true) (some (v_18.Kind==7))):Option (Bool)).bind λ v_21=>cond v_21 (some (.inr false)) (cond (v_18.Kind==6) (some (.inl 7)) (some (.inl 5))):Option (Int ⊕ Bool)).bind λ o=>match o with | .inl ends_19=>(app body_10 [(⟨v_18.Kind,v_18.N⟩:GOp)]).bind λ v_22=>(cond (v_18.Kind != 3) (cond (v_18.Kind != 4) (some (v_18.Kind != 6)) (some false)) (some false):Option (Bool)).bind λ v_23=>cond v_23 (cond (decide ((v_18.Kids.length:Int) > 0)) (some (.inr ([],false))) (some (.inl v_22))) ((rc_g_impl_flat v_18.Kids v_22).bind λ y_24=>cond (!y_24.2) (some (.inr ([],false))) ((app y_24.1 [(⟨ends_19,0⟩:GOp)]).bind λ v_25=>some (.inl v_25))) | .inr v_20=>some (.inr ([],v_20)):Option ((List GOp) ⊕ ((List GOp)×Bool))).bind λ o=>match o with | .inl body_15=>g_impl_flat_l0 rc_g_impl_flat v_8 v_9 k body_15 (IntKind.wrap .i64 (v_11+1)) | .inr (v_16,v_17)=>some (.inr (v_16,v_17))) (some (.inl body_10))
def g_impl_flat_b (rc_g_impl_flat:(List GTree)->(List GOp)->Option ((List GOp)×Bool)) (list_1:List GTree) (body_2:List GOp):Option ((List GOp)×Bool):=((g_impl_flat_l0 rc_g_impl_flat list_1 (list_1.length:Int) bigK body_2 0).bind λ o=>match o with | .inl body_12=>some (.inl body_12) | .inr (v_13,v_14)=>some (.inr (v_13,v_14)):Option ((List GOp) ⊕ ((List GOp)×Bool))).bind λ o=>match o with | .inl body_5=>some (body_5,true) | .inr (v_6,v_7)=>some (v_6,v_7)
def g_impl_flat_r:Nat->(List GTree)->(List GOp)->Option ((List GOp)×Bool)
 | 0=>λ _ _=>none
 | k+1=>g_impl_flat_b (g_impl_flat_r k)
def g_impl_flat (list_1:List GTree) (body_2:List GOp):Option ((List GOp)×Bool):=g_impl_flat_r bigK list_1 body_2
def g_impl_flat_emp_l0 (v_7:List GTree) (v_8:Int):Nat->(List GOp)->Int->Option ((List GOp) ⊕ ((List GOp)×Bool))
 | 0,_,_=>none
 | k+1,body_9,v_10=>cond (decide (v_10 < v_8)) (((getI v_7 v_10).bind λ v_17=>((cond (decide ((body_9.length:Int) > 60)) (some true) (cond (v_17.Kind==5) (some true) (some (v_17.Kind==7))):Option (Bool)).bind λ v_20=>cond v_20 (some (.inr false)) (cond (v_17.Kind==6) (some (.inl 7)) (some (.inl 5))):Option (Int ⊕ Bool)).bind λ o=>match o with | .inl ends_18=>(app body_9 [(⟨v_17.Kind,v_17.N⟩:GOp)]).bind λ v_21=>(cond (v_17.Kind != 3) (cond (v_17.Kind != 4) (some (v_17.Kind != 6)) (some false)) (some false):Option (Bool)).bind λ v_22=>cond v_22 (cond (decide ((v_17.Kids.length:Int) > 0)) (some (.inr ([],false))) (some (.inl v_21))) ((g_impl_flat v_17.Kids v_21).bind λ y_23=>cond (!y_23.2) (some (.inr ([],false))) ((app y_23.1 [(⟨ends_18,0⟩:GOp)]).bind λ v_24=>some (.inl v_24))) | .inr v_19=>some (.inr ([],v_19)):Option ((List GOp) ⊕ ((List GOp)×Bool))).bind λ o=>match o with | .inl body_14=>g_impl_flat_emp_l0 v_7 v_8 k body_14 (IntKind.wrap .i64 (v_10+1)) | .inr (v_15,v_16)=>some (.inr (v_15,v_16))) (some (.inl body_9))
def g_impl_flat_emp (list_1:List GTree):Option ((List GOp)×Bool):=((g_impl_flat_emp_l0 list_1 (list_1.length:Int) bigK [] 0).bind λ o=>match o with | .inl body_11=>some (.inl body_11) | .inr (v_12,v_13)=>some (.inr (v_12,v_13)):Option ((List GOp) ⊕ ((List GOp)×Bool))).bind λ o=>match o with | .inl body_4=>some (body_4,true) | .inr (v_5,v_6)=>some (v_5,v_6)
def g_impl_FlatOf (list_1:List GTree):Option (List GOp):=(g_impl_flat_emp list_1).bind λ y_3=>(cond (!y_3.2) (some true) ((g_impl_ShapeOk y_3.1).bind λ y_5=>some (!y_5)):Option (Bool)).bind λ v_4=>cond v_4 (some []) (some y_3.1)
def g_impl_prune (body_1:List GOp):Option (List GOp):=(g_impl_TreeOf body_1).bind λ y_3=>(g_impl_pruned y_3).bind λ y_4=>(g_impl_FlatOf y_4).bind λ y_5=>some y_5
def g_slices_Clone_Op (s_1:List GOp):Option (List GOp):=app ([]:List GOp) s_1
def g_impl_foldedc1 (k_1:Int) (a_2:List GOp):Option GOp:=cond (decide (k_1 < (a_2.length:Int))) ((getI a_2 k_1).bind λ v_4=>some v_4) (some (⟨8,0⟩:GOp))
def g_slices_Index_string_l0 (s_1:List Bs) (v_2:Bs) (v_5:Int):Nat->Int->Option (Unit ⊕ Int)
 | 0,_=>none
 | k+1,v_6=>cond (decide (v_6 < v_5)) ((getI s_1 v_6).bind λ v_8=>cond (v_2==v_8) (some (.inr v_6)) (g_slices_Index_string_l0 s_1 v_2 v_5 k (IntKind.wrap .i64 (v_6+1)))) (some (.inl ()))
def g_slices_Index_string (s_1:List Bs) (v_2:Bs):Option Int:=((g_slices_Index_string_l0 s_1 v_2 (s_1.length:Int) bigK 0).bind λ o=>match o with | .inl ()=>some (.inl ()) | .inr v_7=>some (.inr v_7):Option (Unit ⊕ Int)).bind λ o=>match o with | .inl ()=>some (-1) | .inr v_4=>some v_4
def g_slices_Contains_string (s_1:List Bs) (v_2:Bs):Option Bool:=(g_slices_Index_string s_1 v_2).bind λ y_4=>some (decide (y_4 ≥ 0))
def g_impl_isPrim (o_1:GOp) (names_2:List Bs):Option Bool:=cond (o_1.Kind==1) ((g_impl_PrimName (IntKind.wrap .i64 o_1.N)).bind λ y_4=>(g_slices_Contains_string names_2 y_4).bind λ y_5=>some y_5) (some false)
def g_impl_result (name_1:Bs) (x_2:Int) (y_3:Int):Option ((List Int)×Int):=cond (name_1==[100,117,112]) (some ([y_3,y_3],0)) (cond (name_1==[100,114,111,112]) (some ([],0)) (cond (name_1==[111,118,101,114]) (some ([x_2,y_3,x_2],0)) (cond (name_1==[110,105,112]) (some ([y_3],0)) (cond (name_1==[115,119,97,112]) (some ([y_3,x_2],0)) (cond (name_1==[43]) (some ([IntKind.wrap .i32 (x_2+y_3)],0)) (cond (name_1==[45]) (some ([notI .i32 y_3],0)) (cond (name_1==[42]) (some ([IntKind.wrap .i32 (x_2*y_3)],0)) (cond (name_1==[97,110,100]) (some ([andI .i32 x_2 y_3],0)) (cond (name_1==[111,114]) (some ([xorI .i32 x_2 y_3],0)) (cond (name_1==[50,42]) (some ([IntKind.wrap .i32 (2*y_3)],0)) (cond (name_1==[50,47]) (some ([y_3 / 2],0)) (cond (name_1==[47,109,111,100]) (cond (y_3==0) (some ([],5)) ((quoI .i64 (IntKind.wrap .i64 x_2) (IntKind.wrap .i64 y_3)).bind λ v_6=>(remI .i64 (IntKind.wrap .i64 x_2) (IntKind.wrap .i64 y_3)).bind λ v_7=>some ([IntKind.wrap .i32 v_7,IntKind.wrap .i32 v_6],0))) (some ([],0))))))))))))))
def g_impl_foldedc2 (name_1:Bs) (x_2:Int) (y_3:Int):Option (List GOp):=(g_impl_result name_1 x_2 y_3).bind λ y_5=>(getI y_5.1 0).bind λ v_6=>some [(⟨0,v_6⟩:GOp)]
def g_impl_folded (body_1:List GOp):Option ((List GOp)×Int):=(g_impl_foldedc1 0 body_1).bind λ y_4=>(g_impl_foldedc1 1 body_1).bind λ y_5=>(g_impl_foldedc1 2 body_1).bind λ y_6=>((cond (y_4.Kind==0) (cond (y_5.Kind==0) ((g_impl_isPrim y_6 [[43],[42],[97,110,100],[111,114]]).bind λ y_10=>some y_10) (some false)) (some false):Option (Bool)).bind λ v_9=>cond v_9 ((g_impl_PrimName (IntKind.wrap .i64 y_6.N)).bind λ y_11=>(g_impl_foldedc2 y_11 y_4.N y_5.N).bind λ y_12=>some (.inr (y_12,3))) ((cond (y_4.Kind==0) ((g_impl_isPrim y_5 [[45],[50,42],[50,47]]).bind λ y_14=>some y_14) (some false):Option (Bool)).bind λ v_13=>cond v_13 ((g_impl_PrimName (IntKind.wrap .i64 y_5.N)).bind λ y_15=>(g_impl_foldedc2 y_15 0 y_4.N).bind λ y_16=>some (.inr (y_16,2))) (((cond (y_4.Kind==0) ((g_impl_isPrim y_5 [[100,114,111,112]]).bind λ y_19=>some y_19) (some false):Option (Bool)).bind λ v_18=>cond v_18 (some v_18) (((g_impl_isPrim y_4 [[100,117,112]]).bind λ y_21=>cond y_21 ((g_impl_isPrim y_5 [[100,114,111,112]]).bind λ y_22=>some y_22) (some false):Option (Bool)).bind λ v_20=>cond v_20 (some v_20) (((g_impl_isPrim y_4 [[115,119,97,112]]).bind λ y_24=>cond y_24 ((g_impl_isPrim y_5 [[115,119,97,112]]).bind λ y_25=>some y_25) (some false):Option (Bool)).bind λ v_23=>cond v_23 (some v_23) ((g_impl_isPrim y_4 [[45]]).bind λ y_26=>cond y_26 ((g_impl_isPrim y_5 [[45]]).bind λ y_27=>some y_27) (some false)))):Option (Bool)).bind λ v_17=>cond v_17 (some (.inr ([],2))) ((g_impl_isPrim y_4 [[110,111,112]]).bind λ y_28=>cond y_28 (some (.inr ([],1))) (some (.inl ()))))):Option (Unit ⊕ ((List GOp)×Int))).bind λ o=>match o with | .inl ()=>some ([],0) | .inr (v_7,v_8)=>some (v_7,v_8)
def g_slices_Replace_Op (s_1:List GOp) (i_2 j_3:Int) (v_4:List GOp):Option (List GOp):=gRep s_1 i_2 j_3 v_4
def g_impl_Fold_l0:Nat->(List GOp)->Int->Option (List GOp)
 | 0,_,_=>none
 | k+1,out_6,i_7=>cond (decide (i_7 < (out_6.length:Int))) ((subL out_6 i_7 ((out_6.length:Nat):Int)).bind λ v_9=>(g_impl_folded v_9).bind λ y_10=>cond (y_10.2==0) (g_impl_Fold_l0 k out_6 (IntKind.wrap .i64 (i_7+1))) ((g_slices_Replace_Op out_6 i_7 (IntKind.wrap .i64 (i_7+y_10.2)) y_10.1).bind λ y_11=>g_impl_Fold_l0 k y_11 0)) (some out_6)
def g_impl_Fold (body_1:List GOp):Option (List GOp):=(g_impl_ShapeOk body_1).bind λ y_3=>cond (!y_3) (some []) ((g_slices_Clone_Op body_1).bind λ y_4=>((g_impl_Fold_l0 bigK y_4 0).bind λ out_8=>some out_8:Option ((List GOp))).bind λ out_5=>some out_5)
def g_impl_Fold_imm_l0:Nat->(List GOp)->Int->Option (List GOp)
 | 0,_,_=>none
 | k+1,out_6,i_7=>cond (decide (i_7 < (out_6.length:Int))) ((subL out_6 i_7 ((out_6.length:Nat):Int)).bind λ v_9=>(g_impl_folded v_9).bind λ y_10=>cond (y_10.2==0) (g_impl_Fold_imm_l0 k out_6 (IntKind.wrap .i64 (i_7+1))) ((g_slices_Replace_Op out_6 i_7 (IntKind.wrap .i64 (i_7+y_10.2)) y_10.1).bind λ y_11=>g_impl_Fold_imm_l0 k y_11 0)) (some out_6)
def g_impl_Fold_imm (body_1:List GOp):Option (List GOp):=(g_impl_ShapeOk body_1).bind λ y_3=>cond (!y_3) (some []) ((g_slices_Clone_Op body_1).bind λ y_4=>((g_impl_Fold_imm_l0 bigK y_4 0).bind λ out_8=>some out_8:Option ((List GOp))).bind λ out_5=>some out_5)
def g_impl_SimpleOf_l0 (v_5:List GDef) (v_6:Int):Nat->(List GDef)->Int->Option (List GDef)
 | 0,_,_=>none
 | k+1,out_7,v_8=>cond (decide (v_8 < v_6)) ((getI v_5 v_8).bind λ v_10=>(g_impl_prune v_10.Body).bind λ y_11=>(g_impl_Fold_imm y_11).bind λ y_12=>(app out_7 [(⟨v_10.Name,y_12⟩:GDef)]).bind λ v_13=>g_impl_SimpleOf_l0 v_5 v_6 k v_13 (IntKind.wrap .i64 (v_8+1))) (some out_7)
def g_laws_eqOp (a_1:GOp) (b_2:GOp):Option Bool:=cond (a_1.Kind != b_2.Kind) (some false) (cond (a_1.N != b_2.N) (some false) (some true))
def g_laws_eqOpS_l0 (a_1:List GOp) (b_2:List GOp):Nat->Int->Option (Unit ⊕ Bool)
 | 0,_=>none
 | k+1,i_5=>cond (decide (i_5 < (a_1.length:Int))) ((getI a_1 i_5).bind λ v_7=>(getI b_2 i_5).bind λ v_8=>(g_laws_eqOp v_7 v_8).bind λ y_9=>cond (!y_9) (some (.inr false)) (g_laws_eqOpS_l0 a_1 b_2 k (IntKind.wrap .i64 (i_5+1)))) (some (.inl ()))
def g_laws_eqOpS (a_1:List GOp) (b_2:List GOp):Option Bool:=cond ((a_1.length:Int) != (b_2.length:Int)) (some false) (((g_laws_eqOpS_l0 a_1 b_2 bigK 0).bind λ o=>match o with | .inl ()=>some (.inl ()) | .inr v_6=>some (.inr v_6):Option (Unit ⊕ Bool)).bind λ o=>match o with | .inl ()=>some true | .inr v_4=>some v_4)
def g_laws_eqDef (a_1:GDef) (b_2:GDef):Option Bool:=cond (a_1.Name != b_2.Name) (some false) ((g_laws_eqOpS a_1.Body b_2.Body).bind λ y_4=>cond (!y_4) (some false) (some true))
def g_laws_eqDefS_l0 (a_1:List GDef) (b_2:List GDef):Nat->Int->Option (Unit ⊕ Bool)
 | 0,_=>none
 | k+1,i_5=>cond (decide (i_5 < (a_1.length:Int))) ((getI a_1 i_5).bind λ v_7=>(getI b_2 i_5).bind λ v_8=>(g_laws_eqDef v_7 v_8).bind λ y_9=>cond (!y_9) (some (.inr false)) (g_laws_eqDefS_l0 a_1 b_2 k (IntKind.wrap .i64 (i_5+1)))) (some (.inl ()))
def g_laws_eqDefS (a_1:List GDef) (b_2:List GDef):Option Bool:=cond ((a_1.length:Int) != (b_2.length:Int)) (some false) (((g_laws_eqDefS_l0 a_1 b_2 bigK 0).bind λ o=>match o with | .inl ()=>some (.inl ()) | .inr v_6=>some (.inr v_6):Option (Unit ⊕ Bool)).bind λ o=>match o with | .inl ()=>some true | .inr v_4=>some v_4)
def g_impl_SimpleOf_deep_l0 (v_5:List GDef) (v_6:Int):Nat->(List GDef)->Int->Option (List GDef)
 | 0,_,_=>none
 | k+1,out_7,v_8=>cond (decide (v_8 < v_6)) ((getI v_5 v_8).bind λ v_10=>(g_impl_prune v_10.Body).bind λ y_11=>(g_impl_Fold y_11).bind λ y_12=>(app out_7 [(⟨v_10.Name,y_12⟩:GDef)]).bind λ v_13=>g_impl_SimpleOf_deep_l0 v_5 v_6 k v_13 (IntKind.wrap .i64 (v_8+1))) (some out_7)
def g_impl_SimpleOf_deep (defs_1:List GDef):Option (List GDef):=(g_impl_DefsOk defs_1).bind λ y_3=>cond (!y_3) (some []) (((g_impl_SimpleOf_deep_l0 defs_1 (defs_1.length:Int) bigK ([]:List GDef) 0).bind λ out_9=>some out_9:Option ((List GDef))).bind λ out_4=>some out_4)
def g_laws_markText_l0:Nat->Int->Bs->Option Bs
 | 0,_,_=>none
 | k+1,k_4,out_5=>cond (decide (k_4 > 0)) ((catS (strOf [IntKind.wrap .u8 (IntKind.wrap .i64 (48+(Int.tmod k_4 10)))]) out_5).bind λ v_7=>g_laws_markText_l0 k (IntKind.wrap .i64 (Int.tdiv k_4 10)) v_7) (some out_5)
def g_laws_markText (k_1:Int):Option Bs:=cond (decide (k_1<=0)) (some [109,48]) ((g_laws_markText_l0 bigK k_1 []).bind λ out_6=>(catS [109] out_6).bind λ v_8=>some v_8)
def g_laws_markOpS_l0:Nat->(List GOp)->Int->Int->Option (Int×(List GOp))
 | 0,_,_,_=>none
 | k+1,a_8,k_9,i_10=>cond (decide (i_10 < (a_8.length:Int))) ((getI a_8 i_10).bind λ v_13=>(getI (a_8.set i_10.toNat (⟨k_9,v_13.N⟩:GOp)) i_10).bind λ v_14=>g_laws_markOpS_l0 k ((a_8.set i_10.toNat (⟨k_9,v_13.N⟩:GOp)).set i_10.toNat (⟨v_14.Kind,IntKind.wrap .i32 (IntKind.wrap .i64 (k_9+1))⟩:GOp)) (IntKind.wrap .i64 ((IntKind.wrap .i64 (k_9+1))+1)) (IntKind.wrap .i64 (i_10+1))) (some (k_9,a_8))
def g_laws_markOpS (a_1:List GOp) (k_2:Int):Option (Int×(List GOp)):=((g_laws_markOpS_l0 bigK a_1 k_2 0).bind λ (k_11,p_12)=>some (k_11,p_12):Option ((Int×(List GOp)))).bind λ (k_5,p_6)=>some (k_5,p_6)
def g_laws_markDefS_l0:Nat->(List GDef)->Int->Int->Option (Int×(List GDef))
 | 0,_,_,_=>none
 | k+1,a_8,k_9,i_10=>cond (decide (i_10 < (a_8.length:Int))) ((g_laws_markText k_9).bind λ y_13=>(getI a_8 i_10).bind λ v_14=>(getI (a_8.set i_10.toNat (⟨y_13,v_14.Body⟩:GDef)) i_10).bind λ v_15=>(g_laws_markOpS v_15.Body (IntKind.wrap .i64 (k_9+1))).bind λ y_16=>g_laws_markDefS_l0 k ((a_8.set i_10.toNat (⟨y_13,v_14.Body⟩:GDef)).set i_10.toNat (⟨v_15.Name,y_16.2⟩:GDef)) y_16.1 (IntKind.wrap .i64 (i_10+1))) (some (k_9,a_8))
def g_laws_markDefS (a_1:List GDef) (k_2:Int):Option (Int×(List GDef)):=((g_laws_markDefS_l0 bigK a_1 k_2 0).bind λ (k_11,p_12)=>some (k_11,p_12):Option ((Int×(List GDef)))).bind λ (k_5,p_6)=>some (k_5,p_6)
def g_laws_heldOpS_l0 (a_1:List GOp):Nat->Int->Int->Option (Int ⊕ Int)
 | 0,_,_=>none
 | k+1,k_6,i_7=>cond (decide (i_7 < (a_1.length:Int))) ((getI a_1 i_7).bind λ v_10=>cond (v_10.Kind != k_6) (some (.inr (-1))) ((getI a_1 i_7).bind λ v_11=>cond (v_11.N != (IntKind.wrap .i32 (IntKind.wrap .i64 (k_6+1)))) (some (.inr (-1))) (g_laws_heldOpS_l0 a_1 k (IntKind.wrap .i64 ((IntKind.wrap .i64 (k_6+1))+1)) (IntKind.wrap .i64 (i_7+1))))) (some (.inl k_6))
def g_laws_heldOpS (a_1:List GOp) (k_2:Int):Option Int:=((g_laws_heldOpS_l0 a_1 bigK k_2 0).bind λ o=>match o with | .inl k_8=>some (.inl k_8) | .inr v_9=>some (.inr v_9):Option (Int ⊕ Int)).bind λ o=>match o with | .inl k_4=>some k_4 | .inr v_5=>some v_5
def g_laws_heldDefS_l0 (a_1:List GDef):Nat->Int->Int->Option (Int ⊕ Int)
 | 0,_,_=>none
 | k+1,k_6,i_7=>cond (decide (i_7 < (a_1.length:Int))) ((getI a_1 i_7).bind λ v_10=>(g_laws_markText k_6).bind λ y_11=>cond (v_10.Name != y_11) (some (.inr (-1))) ((getI a_1 i_7).bind λ v_12=>(g_laws_heldOpS v_12.Body (IntKind.wrap .i64 (k_6+1))).bind λ y_13=>cond (decide (y_13 < 0)) (some (.inr (-1))) (g_laws_heldDefS_l0 a_1 k y_13 (IntKind.wrap .i64 (i_7+1))))) (some (.inl k_6))
def g_laws_heldDefS (a_1:List GDef) (k_2:Int):Option Int:=((g_laws_heldDefS_l0 a_1 bigK k_2 0).bind λ o=>match o with | .inl k_8=>some (.inl k_8) | .inr v_9=>some (.inr v_9):Option (Int ⊕ Int)).bind λ o=>match o with | .inl k_4=>some k_4 | .inr v_5=>some v_5
def g_laws_FnExactSimpleOf (aDefs_1:List GDef):Option Bool:=(g_laws_szDefS aDefs_1 1048576).bind λ y_3=>cond (decide (y_3 < 0)) (some true) ((g_laws_toDefS aDefs_1).bind λ y_4=>(g_spec_SimpleOf y_4).bind λ y_5=>(g_laws_toDefS aDefs_1).bind λ y_6=>(g_impl_SimpleOf_deep y_6).bind λ y_7=>(g_laws_eqDefS y_7 y_5).bind λ y_8=>cond (!y_8) (some false) ((g_laws_toDefS aDefs_1).bind λ y_9=>(g_laws_eqDefS y_6 y_9).bind λ y_10=>cond (!y_10) (some false) ((g_laws_markDefS y_6 1).bind λ y_11=>(cond (decide (y_11.1 < 0)) (some true) ((g_laws_eqDefS y_7 y_5).bind λ y_13=>some (!y_13)):Option (Bool)).bind λ v_12=>cond v_12 (some false) ((g_laws_markDefS y_7 1).bind λ y_14=>(g_laws_heldDefS y_14.2 1).bind λ y_15=>cond (decide (y_15 < 0)) (some false) (cond (y_15 != y_14.1) (some false) ((g_laws_toDefS aDefs_1).bind λ y_16=>(g_impl_SimpleOf_deep y_16).bind λ y_17=>(g_laws_eqDefS y_17 y_5).bind λ y_18=>cond (!y_18) (some false) ((g_laws_heldDefS y_14.2 1).bind λ y_19=>cond (decide (y_19 < 0)) (some false) (cond (y_19 != y_14.1) (some false) (some true)))))))))
def bodyOf (f:Func):Code:=match f.body with|some c=>c|none=>.skip
end Go.Proofs.YtnhefmibcnbehaaDoor
namespace Go.Proofs.YtnhefmibcnbehaaDoor
open Go Go.Fm Go.Proofs Go.Shelf Go.RowKit Go.Lib
set_option maxHeartbeats 4000000 in
set_option maxRecDepth 1000000 in
theorem rep_end_61 (b off i m d c vc:Nat) (A:Option Addr) (w W1 W2:World) (hd:0 < d) (hc:i+m+d<=c) (hn:i+m+d<=4294967296)
  (happ:(Builtin.append_ #[43,43] 43 #[.slice (some ⟨b,off,none⟩) i c, .slice A m vc]).run Tryd.prog w=.ok (.slice (some ⟨b,off,none⟩) (i+m) c) W1)
  (hclr:(Builtin.clear_ #[43] 0 #[.slice (some ⟨b,off+(i+m)*2,none⟩) d (c-(i+m))]).run Tryd.prog W1=.ok (.tuple #[]) W2) :
  Calls Tryd.prog 61 #[.slice (some ⟨b,off,none⟩) (i+m+d) c, .int .i64 i, .int .i64 ((i:Int)+m+d), .slice A m vc] w λ e w'=>e=.returned (.slice (some ⟨b,off,none⟩) (i+m) c)/\w'=W2:=by
 have hw1:¬ ((i:Int)=(i:Int)+m+d):=by omega
 have hb1:(0:Int)<=(i:Int)+m+d:=by omega
 have hb2:(i:Int)<=(i:Int)+m+d:=by omega
 have hb3:(i:Int)+m+d<=(c:Int):=by omega
 have hb4:((i:Int)+m+d).toNat=i+m+d:=by omega
 have hb5:¬ (c=i):=by omega
 have hb6:¬ (c=i+m):=by omega
 have hb7:(i:Int)<=(c:Int):=by omega
 have hb8:i+m < i+m+d:=by omega
 have hb9:(i:Int)+m < (i:Int)+m+d:=by omega
 have hb10:(i:Int)+m<=(i:Int)+m+d:=by omega
 go_enter Tryd.func61,Tryd.ntmps61
 go_wp2_with (first
  | (at_builtin;refine Lib.wpList_append_run _ rfl _ _ _ _ rfl _ _ rfl rfl _ _ happ ?_)
  | (at_builtin;refine wpList_clearI _ rfl _ _ rfl _ rfl hclr ?_))
 go_ret
 exact ⟨rfl,rfl⟩
set_option maxHeartbeats 4000000 in
set_option maxRecDepth 1000000 in
theorem rep_mid_61 (b off i m d q c vc:Nat) (A:Option Addr) (w W1 W2 W3:World) (hd:0 < d) (hq:0 < q) (hc:i+m+d+q<=c) (hn:i+m+d+q<=4294967296)
  (hcp1:∀ dl dc,dl=m+q->(Builtin.copy_ #[43,43] 3 #[.slice (some ⟨b,off+i*2,none⟩) dl dc, .slice A m vc]).run Tryd.prog w.drew=.ok (goInt m) W1)
  (hcp2:∀ dl dc sl sc,dl=q->sl=q->(Builtin.copy_ #[43,43] 3 #[.slice (some ⟨b,off+(i+m)*2,none⟩) dl dc, .slice (some ⟨b,off+(i+m+d)*2,none⟩) sl sc]).run Tryd.prog W1.drew=.ok (goInt q) W2)
  (hclr:∀ dl dc,dl=d->(Builtin.clear_ #[43] 0 #[.slice (some ⟨b,off+(i+m+q)*2,none⟩) dl dc]).run Tryd.prog W2=.ok (.tuple #[]) W3) :
  Calls Tryd.prog 61 #[.slice (some ⟨b,off,none⟩) (i+m+d+q) c, .int .i64 i, .int .i64 ((i:Int)+m+d), .slice A m vc] w λ e w'=>e=.returned (.slice (some ⟨b,off,none⟩) (i+m+q) c)/\w'=W3:=by
 have hw1:¬ ((i:Int)=(i:Int)+m+d):=by omega
 have hw2:¬ ((i:Int)+m+d=(i:Int)+m+d+q):=by omega
 have hb1:(0:Int)<=(i:Int)+m+d:=by omega
 have hb2:(i:Int)<=(i:Int)+m+d:=by omega
 have hb3:(i:Int)+m+d<=(c:Int):=by omega
 have hb4:((i:Int)+m+d).toNat=i+m+d:=by omega
 have hb5:¬ (c=i):=by omega
 have hb6:¬ (c=i+m):=by omega
 have hb7:(i:Int)<=(c:Int):=by omega
 have hb11:(i:Int)+m+d<=(i:Int)+m+d+q:=by omega
 have hb12:¬ (c=i+m+d):=by omega
 have hb13:¬ (c=i+m+q):=by omega
 have hb14:¬ ((c:Int) < (i:Int)+m+q):=by omega
 have hb15:(i:Int)+m+q<=(c:Int):=by omega
 have hb16:(0:Int)<=(i:Int)+m+q:=by omega
 have hb17:((i:Int)+m+q).toNat=i+m+q:=by omega
 have hb18:(i:Int)<=(i:Int)+m+q:=by omega
 have hb19:(i:Int)+m<=(i:Int)+m+d:=by omega
 have hb20:(i:Int)+m<=(i:Int)+m+q:=by omega
 have hb21:(0:Int)<=(i:Int)+m:=by omega
 have hb22:((i:Int)+m).toNat=i+m:=by omega
 have hb23:(i:Int)+m+q<=(i:Int)+m+d+q:=by omega
 have hb24:IntKind.i64.wrap ((i:Int)+m)=(i:Int)+m:=by rw[IntKind.wrap_i64];omega
 have hb25:IntKind.i64.wrap ((i:Int)+m+q)=(i:Int)+m+q:=by rw[IntKind.wrap_i64];omega
 have mixed:Tryd.prog.follows .mixedOrders=true:=by kernel_rfl
 go_enter Tryd.func61,Tryd.ntmps61
 go_wp2
 go_big_region_o
 have h1:=hcp1 (i+m+q-i) (c-i) (by omega)
 have h3:=hclr (i+m+d+q-(i+m+q)) (c-(i+m+q)) (by omega)
 go_wp2
 go_region_law_o (refine step_copy_runI rfl _ _ 43 43 rfl _ _ (by simp[Act.eval,Act.put]) (by simp[Act.eval,Act.put]) (hcp2 _ _ _ _ (by omega) (by omega)) ?_)
 go_wp2
 go_ret
 exact ⟨rfl,rfl⟩
end Go.Proofs.YtnhefmibcnbehaaDoor
namespace Go.Proofs.YtnhefmibcnbehaaDoor
open Go Go.Fm
set_option maxRecDepth 1000000
noncomputable def e_laws_szOpS:Con:=⟨44,⟨[(0, .s K4 []),(1, .s K1 [])],[]⟩,⟨[(0, .s K1 [])],[]⟩,false,[],λ (a_1,left_2)=>g_laws_szOpS a_1 left_2⟩
noncomputable def e_laws_szDef:Con:=⟨20,⟨[(0, .s K5 []),(1, .s K1 [])],[]⟩,⟨[(0, .s K1 [])],[]⟩,false,[],λ (a_1,left_2)=>g_laws_szDef a_1 left_2⟩
noncomputable def e_laws_szDefS:Con:=⟨6,⟨[(0, .s K6 []),(1, .s K1 [])],[]⟩,⟨[(0, .s K1 [])],[]⟩,false,[],λ (a_1,left_2)=>g_laws_szDefS a_1 left_2⟩
noncomputable def e_laws_toOp:Con:=⟨68,⟨[(0, .s K3 [])],[]⟩,⟨[(0, .s K3 [])],[]⟩,false,[],λ a_1=>g_laws_toOp a_1⟩
noncomputable def e_laws_toOpS:Con:=⟨47,⟨[(0, .s K4 [])],[]⟩,⟨[(0, .s K4 [(0,0)])],[.o]⟩,false,[],λ a_1=>g_laws_toOpS a_1⟩
noncomputable def e_laws_toDef:Con:=⟨26,⟨[(0, .s K5 [])],[]⟩,⟨[(0, .s K5 [(1,0)])],[.o]⟩,false,[],λ a_1=>g_laws_toDef a_1⟩
noncomputable def e_laws_toDefS:Con:=⟨8,⟨[(0, .s K6 [])],[]⟩,⟨[(0, .s K6 [(0,0)])],[.od]⟩,false,[],λ a_1=>g_laws_toDefS a_1⟩
noncomputable def e_spec_l01In:Con:=⟨22,⟨[(0, .s K1 []),(1, .s K1 []),(2, .s K1 [])],[]⟩,⟨[(0, .s K7 [])],[]⟩,false,[],λ (x_1,a_2,b_3)=>g_spec_l01In x_1 a_2 b_3⟩
noncomputable def e_spec_l02All:Con:=⟨102,⟨[],[]⟩,⟨[(0, .s K0 [])],[]⟩,false,[],λ _=>g_spec_l02All⟩
noncomputable def e_spec_LetterOf:Con:=⟨65,⟨[(0, .s K8 [])],[]⟩,⟨[(0, .s K1 [])],[]⟩,false,[],λ b_1=>g_spec_LetterOf b_1⟩
noncomputable def e_spec_NameOk:Con:=⟨45,⟨[(0, .s K0 [])],[]⟩,⟨[(0, .s K7 [])],[]⟩,false,[],λ s_1=>g_spec_NameOk s_1⟩
noncomputable def e_spec_l08Names:Con:=⟨118,⟨[],[]⟩,⟨[(0, .s K9 [(0,0)])],[.o]⟩,false,[],λ _=>g_spec_l08Names⟩
noncomputable def e_spec_PrimName:Con:=⟨103,⟨[(0, .s K1 [])],[]⟩,⟨[(0, .s K0 [])],[]⟩,false,[],λ k_1=>g_spec_PrimName k_1⟩
noncomputable def e_spec_l09Op:Con:=⟨66,⟨[(0, .s K3 [])],[]⟩,⟨[(0, .s K7 [])],[]⟩,false,[],λ o_1=>g_spec_l09Op o_1⟩
noncomputable def e_spec_l09Open:Con:=⟨67,⟨[(0, .s K4 [])],[]⟩,⟨[(0, .s K10 [(0,0)]),(1, .s K7 [])],[.o]⟩,false,[],λ body_1=>g_spec_l09Open body_1⟩
noncomputable def e_spec_ShapeOk:Con:=⟨46,⟨[(0, .s K4 [])],[]⟩,⟨[(0, .s K7 [])],[]⟩,false,[],λ body_1=>g_spec_ShapeOk body_1⟩
noncomputable def e_spec_DefsOk:Con:=⟨21,⟨[(0, .s K6 [])],[]⟩,⟨[(0, .s K7 [])],[]⟩,false,[],λ defs_1=>g_spec_DefsOk defs_1⟩
noncomputable def e_spec_l09Trees_r (kk:Nat):Con:=⟨90,⟨[(0, .s K4 []),(1, .s K1 [])],[]⟩,⟨[(0, .s K12 [(0,0)]),(1, .s K1 [])],[.o]⟩,true,[],λ (body_1,i_2)=>g_spec_l09Trees_r kk body_1 i_2⟩
noncomputable def e_spec_l09Trees:Con:=⟨90,⟨[(0, .s K4 []),(1, .s K1 [])],[]⟩,⟨[(0, .s K12 [(0,0)]),(1, .s K1 [])],[.o]⟩,true,[],λ (body_1,i_2)=>g_spec_l09Trees body_1 i_2⟩
noncomputable def e_spec_TreeOf:Con:=⟨59,⟨[(0, .s K4 [])],[]⟩,⟨[(0, .s K12 [(0,0)])],[.o]⟩,true,[],λ body_1=>g_spec_TreeOf body_1⟩
noncomputable def e_spec_l15Prune_imm_r (kk:Nat):Con:=⟨58,⟨[(0, .s K12 [])],[]⟩,⟨[(0, .s K12 [])],[]⟩,true,[],λ list_1=>g_spec_l15Prune_imm_r kk list_1⟩
noncomputable def e_spec_l15Prune_imm:Con:=⟨58,⟨[(0, .s K12 [])],[]⟩,⟨[(0, .s K12 [])],[]⟩,true,[],λ list_1=>g_spec_l15Prune_imm list_1⟩
noncomputable def e_spec_l15Prune:Con:=⟨58,⟨[(0, .s K12 [])],[]⟩,⟨[(0, .s K12 [(0,0)])],[.o]⟩,true,[],λ list_1=>g_spec_l15Prune list_1⟩
noncomputable def e_spec_l09Flat_r (kk:Nat):Con:=⟨89,⟨[(0, .s K12 []),(1, .s K1 []),(2, .s K1 [])],[]⟩,⟨[(0, .s K4 [(0,0)]),(1, .s K7 [])],[.o]⟩,false,[],λ (list_1,deep_2,left_3)=>g_spec_l09Flat_r kk list_1 deep_2 left_3⟩
noncomputable def e_spec_l09Flat:Con:=⟨89,⟨[(0, .s K12 []),(1, .s K1 []),(2, .s K1 [])],[]⟩,⟨[(0, .s K4 [(0,0)]),(1, .s K7 [])],[.o]⟩,false,[],λ (list_1,deep_2,left_3)=>g_spec_l09Flat list_1 deep_2 left_3⟩
noncomputable def e_spec_FlatOf:Con:=⟨57,⟨[(0, .s K12 [])],[]⟩,⟨[(0, .s K4 [(0,0)])],[.o]⟩,false,[],λ list_1=>g_spec_FlatOf list_1⟩
noncomputable def e_spec_Prune:Con:=⟨41,⟨[(0, .s K4 [])],[]⟩,⟨[(0, .s K4 [(0,0)])],[.o]⟩,false,[],λ body_1=>g_spec_Prune body_1⟩
noncomputable def e_spec_l15Is:Con:=⟨88,⟨[(0, .s K3 []),(1, .s K0 [])],[]⟩,⟨[(0, .s K7 [])],[]⟩,false,[],λ (o_1,name_2)=>g_spec_l15Is o_1 name_2⟩
noncomputable def e_spec_l08Pure:Con:=⟨114,⟨[(0, .s K0 []),(1, .s K2 []),(2, .s K2 [])],[]⟩,⟨[(0, .s K13 [(0,0)]),(1, .s K7 [])],[.o]⟩,false,[],λ (name_1,x_2,y_3)=>g_spec_l08Pure name_1 x_2 y_3⟩
noncomputable def e_spec_l15Two:Con:=⟨86,⟨[(0, .s K3 []),(1, .s K2 []),(2, .s K2 [])],[]⟩,⟨[(0, .s K2 []),(1, .s K7 [])],[]⟩,false,[],λ (o_1,x_2,y_3)=>g_spec_l15Two o_1 x_2 y_3⟩
noncomputable def e_spec_l15One:Con:=⟨87,⟨[(0, .s K3 []),(1, .s K2 [])],[]⟩,⟨[(0, .s K2 []),(1, .s K7 [])],[]⟩,false,[],λ (o_1,x_2)=>g_spec_l15One o_1 x_2⟩
noncomputable def e_spec_l15At:Con:=⟨56,⟨[(0, .s K4 [])],[]⟩,⟨[(0, .s K4 [(0,0)]),(1, .s K1 [])],[.o]⟩,false,[],λ l_1=>g_spec_l15At l_1⟩
noncomputable def e_spec_Fold_imm:Con:=⟨40,⟨[(0, .s K4 [])],[]⟩,⟨[(0, .s K4 [])],[]⟩,true,[],λ body_1=>g_spec_Fold_imm body_1⟩
noncomputable def e_spec_SimpleOf:Con:=⟨18,⟨[(0, .s K6 [])],[]⟩,⟨[(0, .s K6 [(0,0)])],[.o]⟩,true,[],λ defs_1=>g_spec_SimpleOf defs_1⟩
noncomputable def e_impl_letters:Con:=⟨105,⟨[],[]⟩,⟨[(0, .s K0 [])],[]⟩,false,[],λ _=>g_impl_letters⟩
noncomputable def e_ibytealg_IndexByteString:Con:=⟨124,⟨[(0, .s K0 []),(1, .s K8 [])],[]⟩,⟨[(0, .s K1 [])],[]⟩,false,[],λ a=>g_ibytealg_IndexByteString a.1 a.2⟩
noncomputable def e_istringslite_IndexByte:Con:=⟨119,⟨[(0, .s K0 []),(1, .s K8 [])],[]⟩,⟨[(0, .s K1 [])],[]⟩,false,[],λ (s_1,c_2)=>g_istringslite_IndexByte s_1 c_2⟩
noncomputable def e_strings_IndexByte:Con:=⟨104,⟨[(0, .s K0 []),(1, .s K8 [])],[]⟩,⟨[(0, .s K1 [])],[]⟩,false,[],λ (s_1,c_2)=>g_strings_IndexByte s_1 c_2⟩
noncomputable def e_impl_LetterOf:Con:=⟨70,⟨[(0, .s K8 [])],[]⟩,⟨[(0, .s K1 [])],[]⟩,false,[],λ b_1=>g_impl_LetterOf b_1⟩
noncomputable def e_impl_within:Con:=⟨28,⟨[(0, .s K1 []),(1, .s K1 []),(2, .s K1 [])],[]⟩,⟨[(0, .s K7 [])],[]⟩,false,[],λ (n_1,low_2,high_3)=>g_impl_within n_1 low_2 high_3⟩
noncomputable def e_impl_NameOk:Con:=⟨50,⟨[(0, .s K0 [])],[]⟩,⟨[(0, .s K7 [])],[]⟩,false,[],λ s_1=>g_impl_NameOk s_1⟩
noncomputable def e_strings_Fields:Con:=⟨122,⟨[(0, .s K0 [])],[]⟩,⟨[(0, .s K9 [(0,0)])],[.o]⟩,false,[],λ s_1=>g_strings_Fields s_1⟩
noncomputable def e_impl_prims:Con:=⟨116,⟨[],[]⟩,⟨[(0, .s K9 [(0,0)])],[.o]⟩,false,[],λ _=>g_impl_prims⟩
noncomputable def e_impl_PrimName:Con:=⟨95,⟨[(0, .s K1 [])],[]⟩,⟨[(0, .s K0 [])],[]⟩,false,[],λ k_1=>g_impl_PrimName k_1⟩
noncomputable def e_impl_opOk:Con:=⟨106,⟨[(0, .s K3 [])],[]⟩,⟨[(0, .s K7 [])],[]⟩,false,[],λ o_1=>g_impl_opOk o_1⟩
noncomputable def e_impl_openIn:Con:=⟨71,⟨[(0, .s K4 [])],[]⟩,⟨[(0, .s K10 [(0,0)]),(1, .s K7 [])],[.o]⟩,false,[],λ body_1=>g_impl_openIn body_1⟩
noncomputable def e_impl_ShapeOk:Con:=⟨51,⟨[(0, .s K4 [])],[]⟩,⟨[(0, .s K7 [])],[]⟩,false,[],λ body_1=>g_impl_ShapeOk body_1⟩
noncomputable def e_impl_callsBelowc1:Con:=⟨73,⟨[(0, .s K3 []),(1, .c (.one (.ptr 0 0)))],[.v K1 []]⟩,⟨[(0, .s K7 [])],[.f]⟩,false,[0],λ (o_1,a_2)=>g_impl_callsBelowc1 o_1 a_2⟩
noncomputable def e_slices_IndexFunc_Op_impl_callsBelowc1:Con:=⟨107,⟨[(0, .s K4 []),(1, .c (.one (.fn 73 [(0,0)])))],[.v K1 []]⟩,⟨[(0, .s K1 [])],[.f]⟩,false,[0],λ (s_1,c_2)=>g_slices_IndexFunc_Op_impl_callsBelowc1 s_1 c_2⟩
noncomputable def e_slices_ContainsFunc_Op_impl_callsBelowc1:Con:=⟨72,⟨[(0, .s K4 []),(1, .c (.one (.fn 73 [(0,0)])))],[.v K1 []]⟩,⟨[(0, .s K7 [])],[.f]⟩,false,[0],λ (s_1,c_2)=>g_slices_ContainsFunc_Op_impl_callsBelowc1 s_1 c_2⟩
noncomputable def e_impl_callsBelow:Con:=⟨52,⟨[(0, .s K4 []),(1, .s K1 [])],[]⟩,⟨[(0, .s K7 [])],[]⟩,false,[],λ (body_1,n_2)=>g_impl_callsBelow body_1 n_2⟩
noncomputable def e_impl_DefsOkc1:Con:=⟨49,⟨[(0, .s K5 []),(1, .c (.one (.ptr 0 0)))],[.v K6 []]⟩,⟨[(0, .s K7 [])],[.f]⟩,false,[0],λ (d_1,a_2)=>g_impl_DefsOkc1 d_1 a_2⟩
noncomputable def e_slices_IndexFunc_Def_impl_DefsOkc1:Con:=⟨69,⟨[(0, .s K6 []),(1, .c (.one (.fn 49 [(0,0)])))],[.v K6 []]⟩,⟨[(0, .s K1 [])],[.f]⟩,false,[0],λ (s_1,c_2)=>g_slices_IndexFunc_Def_impl_DefsOkc1 s_1 c_2⟩
noncomputable def e_slices_ContainsFunc_Def_impl_DefsOkc1:Con:=⟨48,⟨[(0, .s K6 []),(1, .c (.one (.fn 49 [(0,0)])))],[.v K6 []]⟩,⟨[(0, .s K7 [])],[.f]⟩,false,[0],λ (s_1,c_2)=>g_slices_ContainsFunc_Def_impl_DefsOkc1 s_1 c_2⟩
noncomputable def e_impl_DefsOk:Con:=⟨27,⟨[(0, .s K6 [])],[]⟩,⟨[(0, .s K7 [])],[]⟩,false,[],λ defs_1=>g_impl_DefsOk defs_1⟩
noncomputable def e_impl_grow_r (kk:Nat):Con:=⟨101,⟨[(0, .s K4 [])],[]⟩,⟨[(0, .s K12 [(0,0)]),(1, .s K4 [])],[.o]⟩,true,[],λ body_1=>g_impl_grow_r kk body_1⟩
noncomputable def e_impl_grow:Con:=⟨101,⟨[(0, .s K4 [])],[]⟩,⟨[(0, .s K12 [(0,0)]),(1, .s K4 [])],[.o]⟩,true,[],λ body_1=>g_impl_grow body_1⟩
noncomputable def e_impl_TreeOf:Con:=⟨64,⟨[(0, .s K4 [])],[]⟩,⟨[(0, .s K12 [(0,0)])],[.o]⟩,true,[],λ body_1=>g_impl_TreeOf body_1⟩
noncomputable def e_impl_pruned_imm_r (kk:Nat):Con:=⟨63,⟨[(0, .s K12 [])],[]⟩,⟨[(0, .s K12 [])],[]⟩,true,[],λ list_1=>g_impl_pruned_imm_r kk list_1⟩
noncomputable def e_impl_pruned_imm:Con:=⟨63,⟨[(0, .s K12 [])],[]⟩,⟨[(0, .s K12 [])],[]⟩,true,[],λ list_1=>g_impl_pruned_imm list_1⟩
noncomputable def e_impl_pruned:Con:=⟨63,⟨[(0, .s K12 [])],[]⟩,⟨[(0, .s K12 [(0,0)])],[.o]⟩,true,[],λ list_1=>g_impl_pruned list_1⟩
noncomputable def e_impl_flat_r (kk:Nat):Con:=⟨100,⟨[(0, .s K12 []),(1, .s K4 [(0,0)])],[.o]⟩,⟨[(0, .s K4 [(0,1)]),(1, .s K7 [])],[.d, .o]⟩,false,[],λ (list_1,body_2)=>g_impl_flat_r kk list_1 body_2⟩
noncomputable def e_impl_flat:Con:=⟨100,⟨[(0, .s K12 []),(1, .s K4 [(0,0)])],[.o]⟩,⟨[(0, .s K4 [(0,1)]),(1, .s K7 [])],[.d, .o]⟩,false,[],λ (list_1,body_2)=>g_impl_flat list_1 body_2⟩
noncomputable def e_impl_flat_emp:Con:=⟨100,⟨[(0, .s K12 []),(1, .c (.one (.emp)))],[]⟩,⟨[(0, .s K4 [(0,0)]),(1, .s K7 [])],[.o]⟩,false,[],λ list_1=>g_impl_flat_emp list_1⟩
noncomputable def e_impl_FlatOf:Con:=⟨62,⟨[(0, .s K12 [])],[]⟩,⟨[(0, .s K4 [(0,0)])],[.o]⟩,false,[],λ list_1=>g_impl_FlatOf list_1⟩
noncomputable def e_impl_prune:Con:=⟨43,⟨[(0, .s K4 [])],[]⟩,⟨[(0, .s K4 [(0,0)])],[.o]⟩,false,[],λ body_1=>g_impl_prune body_1⟩
noncomputable def e_slices_Clone_Op:Con:=⟨37,⟨[(0, .s K4 [])],[]⟩,⟨[(0, .s K4 [(0,0)])],[.o]⟩,false,[],λ s_1=>g_slices_Clone_Op s_1⟩
noncomputable def e_impl_foldedc1:Con:=⟨91,⟨[(0, .s K1 []),(1, .c (.one (.ptr 0 0)))],[.v K4 []]⟩,⟨[(0, .s K3 [])],[.f]⟩,false,[0],λ (k_1,a_2)=>g_impl_foldedc1 k_1 a_2⟩
noncomputable def e_slices_Index_string:Con:=⟨121,⟨[(0, .s K9 []),(1, .s K0 [])],[]⟩,⟨[(0, .s K1 [])],[]⟩,false,[],λ (s_1,v_2)=>g_slices_Index_string s_1 v_2⟩
noncomputable def e_slices_Contains_string:Con:=⟨115,⟨[(0, .s K9 []),(1, .s K0 [])],[]⟩,⟨[(0, .s K7 [])],[]⟩,false,[],λ (s_1,v_2)=>g_slices_Contains_string s_1 v_2⟩
noncomputable def e_impl_isPrim:Con:=⟨94,⟨[(0, .s K3 []),(1, .s K9 [])],[]⟩,⟨[(0, .s K7 [])],[]⟩,false,[],λ (o_1,names_2)=>g_impl_isPrim o_1 names_2⟩
noncomputable def e_impl_result:Con:=⟨93,⟨[(0, .s K0 []),(1, .s K2 []),(2, .s K2 [])],[]⟩,⟨[(0, .s K13 [(0,0)]),(1, .s K1 [])],[.o]⟩,false,[],λ (name_1,x_2,y_3)=>g_impl_result name_1 x_2 y_3⟩
noncomputable def e_impl_foldedc2:Con:=⟨92,⟨[(0, .s K0 []),(1, .s K2 []),(2, .s K2 [])],[]⟩,⟨[(0, .s K4 [(0,0)])],[.o]⟩,false,[],λ (name_1,x_2,y_3)=>g_impl_foldedc2 name_1 x_2 y_3⟩
noncomputable def e_impl_folded:Con:=⟨60,⟨[(0, .s K4 [])],[]⟩,⟨[(0, .s K4 [(0,0)]),(1, .s K1 [])],[.o]⟩,false,[],λ body_1=>g_impl_folded body_1⟩
noncomputable def e_slices_Replace_Op:Con:=⟨61,⟨[(0, .s K4 [(0,0)]),(1, .s K1 []),(2, .s K1 []),(3, .s K4 [(0,1)])],[.o, .o]⟩,⟨[(0, .s K4 [(0,2)])],[.d, .d, .o]⟩,false,[],λ a=>g_slices_Replace_Op a.1 a.2.1 a.2.2.1 a.2.2.2⟩
noncomputable def e_impl_Fold:Con:=⟨42,⟨[(0, .s K4 [])],[]⟩,⟨[(0, .s K4 [(0,0)])],[.o]⟩,false,[],λ body_1=>g_impl_Fold body_1⟩
noncomputable def e_laws_eqOp:Con:=⟨85,⟨[(0, .s K3 []),(1, .s K3 [])],[]⟩,⟨[(0, .s K7 [])],[]⟩,false,[],λ (a_1,b_2)=>g_laws_eqOp a_1 b_2⟩
noncomputable def e_laws_eqOpS:Con:=⟨55,⟨[(0, .s K4 []),(1, .s K4 [])],[]⟩,⟨[(0, .s K7 [])],[]⟩,false,[],λ (a_1,b_2)=>g_laws_eqOpS a_1 b_2⟩
noncomputable def e_laws_eqDef:Con:=⟨33,⟨[(0, .s K5 []),(1, .s K5 [])],[]⟩,⟨[(0, .s K7 [])],[]⟩,false,[],λ (a_1,b_2)=>g_laws_eqDef a_1 b_2⟩
noncomputable def e_laws_eqDefS:Con:=⟨11,⟨[(0, .s K6 []),(1, .s K6 [])],[]⟩,⟨[(0, .s K7 [])],[]⟩,false,[],λ (a_1,b_2)=>g_laws_eqDefS a_1 b_2⟩
noncomputable def e_impl_SimpleOf_deep:Con:=⟨19,⟨[(0, .s K6 [])],[]⟩,⟨[(0, .s K6 [(0,0)])],[.od]⟩,false,[],λ defs_1=>g_impl_SimpleOf_deep defs_1⟩
noncomputable def e_laws_markText:Con:=⟨34,⟨[(0, .s K1 [])],[]⟩,⟨[(0, .s K0 [])],[]⟩,false,[],λ k_1=>g_laws_markText k_1⟩
noncomputable def e_laws_markOpS:Con:=⟨35,⟨[(0, .s K4 [(0,0)]),(1, .s K1 [])],[.o]⟩,⟨[(0, .s K1 [])],[.r K3]⟩,false,[],λ (a_1,k_2)=>g_laws_markOpS a_1 k_2⟩
noncomputable def e_laws_markDefS:Con:=⟨12,⟨[(0, .s K6 [(0,0)]),(1, .s K1 [])],[.od]⟩,⟨[(0, .s K1 [])],[.rd K5]⟩,false,[],λ (a_1,k_2)=>g_laws_markDefS a_1 k_2⟩
noncomputable def e_laws_heldOpS:Con:=⟨39,⟨[(0, .s K4 []),(1, .s K1 [])],[]⟩,⟨[(0, .s K1 [])],[]⟩,false,[],λ (a_1,k_2)=>g_laws_heldOpS a_1 k_2⟩
noncomputable def e_laws_heldDefS:Con:=⟨17,⟨[(0, .s K6 []),(1, .s K1 [])],[]⟩,⟨[(0, .s K1 [])],[]⟩,false,[],λ (a_1,k_2)=>g_laws_heldDefS a_1 k_2⟩
noncomputable def e_laws_FnExactSimpleOf:Con:=⟨5,⟨[(0, .s K6 [])],[]⟩,⟨[(0, .s K7 [])],[]⟩,false,[],λ aDefs_1=>g_laws_FnExactSimpleOf aDefs_1⟩
abbrev CO (c:Con):Prop:=ConOk Tryd.prog c
abbrev CK (Γ:List Con) (n:Nat) (an:An) (f:Func) (e:Con):Prop:=AnOk TrydT Γ n an (bodyOf f)/\∀ a,fnRun TrydT Γ an (bodyOf f) f.results.toList e.ro e.ps e.rs a=e.g a
theorem fnc {Γ:List Con} {n:Nat} {an:An} {fn:Func} {C:Con} (h:Tryd.prog.follows .mixedOrders=true->∀ c ∈ Γ,CO c) (hf:Tryd.prog.funcs[C.f]? = some fn) (hk:CK Γ n an fn C) (h1:(!(fn.name == "runtime.NumGoroutine")&&okC fn.ntmps (bodyOf fn))=true)
  (h2:∀ a,entB C n fn.ntmps a=true) (h3:∀ r,endB C fn.results.toList.length r=true) (hb:fn.body=some (bodyOf fn)):CO C:=by
 rw[Bool.and_eq_true,Bool.not_eq_true']at h1
 exact fn_ok (P:=λ _=>Tryd.prog) (n:=n) TrydT_eq h hf hb h1.1 rfl rfl h1.2 rfl h2 h3 hk.1 λ a r e=>(hk.2 a).trans e
end Go.Proofs.YtnhefmibcnbehaaDoor
namespace Go.Proofs.YtnhefmibcnbehaaDoor
open Go Go.Fm
set_option maxRecDepth 1000000
noncomputable def ane_laws_szOpS:An:=.z
theorem ke_laws_szOpS:CK [] 0 ane_laws_szOpS Tryd.f44 e_laws_szOpS:=⟨trivial,λ _=>by kernel_rfl⟩
noncomputable def ane_laws_szDef:An:=.z
theorem ke_laws_szDef:CK [e_laws_szOpS] 0 ane_laws_szDef Tryd.f20 e_laws_szDef:=⟨trivial,λ _=>by kernel_rfl⟩
noncomputable def ane_laws_szDefS:An:=.q .z (.q .z (.q .z (.m [(.normal,⟨[(1, .s K1 [])],[]⟩),(.ret,⟨[(4, .s K1 [])],[]⟩)] [0] [] (.q .z (.b (.l ⟨[(0, .s K6 [])],[]⟩ ⟨[(1, .s K1 []),(5, .s K1 [])],[]⟩ [(.exit 0,⟨[(1, .s K1 [])],[]⟩),(.ret,⟨[(4, .s K1 [])],[]⟩)] (λ a_1 k (left_6,i_7)=>g_laws_szDefS_l0 a_1 k left_6 i_7) .z))) .z)))
theorem ke_laws_szDefS:CK [e_laws_szDef] 0 ane_laws_szDefS Tryd.f6 e_laws_szDefS:=⟨⟨trivial,⟨trivial,⟨trivial,⟨⟨trivial,⟨λ _ _=>rfl,λ _ _ _ _=>by kernel_rfl,trivial⟩⟩,trivial⟩⟩⟩⟩,λ _=>by kernel_rfl⟩
noncomputable def ane_laws_toOp:An:=.z
theorem ke_laws_toOp:CK [] 0 ane_laws_toOp Tryd.f68 e_laws_toOp:=⟨trivial,λ _=>by kernel_rfl⟩
noncomputable def ane_laws_toOpS:An:=.q .z (.q .z (.m [(.normal,⟨[(3, .s K4 [(0,0)])],[.o]⟩)] [0,2] [] (.q .z (.b (.l ⟨[(0, .s K4 []),(2, .c (.one (.emp)))],[.n]⟩ ⟨[(3, .s K4 [(0,0)]),(4, .s K1 [])],[.o]⟩ [(.exit 0,⟨[(3, .s K4 [(0,0)])],[.o]⟩)] (λ a_1 k (out_5,i_6)=>g_laws_toOpS_l0 a_1 k out_5 i_6) .z))) .z))
theorem ke_laws_toOpS:CK [e_laws_toOp] 0 ane_laws_toOpS Tryd.f47 e_laws_toOpS:=⟨⟨trivial,⟨trivial,⟨⟨trivial,⟨λ _ _=>rfl,λ _ _ _ _=>by kernel_rfl,trivial⟩⟩,trivial⟩⟩⟩,λ _=>by kernel_rfl⟩
noncomputable def ane_laws_toDef:An:=.z
theorem ke_laws_toDef:CK [e_laws_toOpS] 0 ane_laws_toDef Tryd.f26 e_laws_toDef:=⟨trivial,λ _=>by kernel_rfl⟩
noncomputable def ane_laws_toDefS:An:=.q .z (.q .z (.m [(.normal,⟨[(3, .s K6 [(0,0)])],[.od]⟩)] [0,2] [] (.q .z (.b (.l ⟨[(0, .s K6 []),(2, .c (.one (.emp)))],[.n]⟩ ⟨[(3, .s K6 [(0,0)]),(4, .s K1 [])],[.od]⟩ [(.exit 0,⟨[(3, .s K6 [(0,0)])],[.od]⟩)] (λ a_1 k (out_5,i_6)=>g_laws_toDefS_l0 a_1 k out_5 i_6) .z))) .z))
theorem ke_laws_toDefS:CK [e_laws_toDef] 0 ane_laws_toDefS Tryd.f8 e_laws_toDefS:=⟨⟨trivial,⟨trivial,⟨⟨trivial,⟨λ _ _=>rfl,λ _ _ _ _=>by kernel_rfl,trivial⟩⟩,trivial⟩⟩⟩,λ _=>by kernel_rfl⟩
noncomputable def ane_spec_l01In:An:=.z
theorem ke_spec_l01In:CK [] 0 ane_spec_l01In Tryd.f22 e_spec_l01In:=⟨trivial,λ _=>by kernel_rfl⟩
end Go.Proofs.YtnhefmibcnbehaaDoor
namespace Go.Proofs.YtnhefmibcnbehaaDoor
open Go Go.Fm
set_option maxRecDepth 1000000
noncomputable def ane_spec_l02All:An:=.z
theorem ke_spec_l02All:CK [] 0 ane_spec_l02All Tryd.f102 e_spec_l02All:=⟨trivial,λ _=>by kernel_rfl⟩
noncomputable def ane_spec_LetterOf:An:=.q .z (.q .z (.m [(.normal,⟨[],[]⟩),(.ret,⟨[(2, .s K1 [])],[]⟩)] [0,3] [] (.q .z (.b (.l ⟨[(0, .s K8 []),(3, .s K0 [])],[]⟩ ⟨[(4, .s K1 [])],[]⟩ [(.exit 0,⟨[],[]⟩),(.ret,⟨[(2, .s K1 [])],[]⟩)] (λ (b_1,yu57_3) k i_5=>g_spec_LetterOf_l0 b_1 yu57_3 k i_5) .z))) .z))
theorem ke_spec_LetterOf:CK [e_spec_l02All] 0 ane_spec_LetterOf Tryd.f65 e_spec_LetterOf:=⟨⟨trivial,⟨trivial,⟨⟨trivial,⟨λ _ _=>rfl,λ _ _ _ _=>by kernel_rfl,trivial⟩⟩,trivial⟩⟩⟩,λ _=>by kernel_rfl⟩
noncomputable def ane_spec_NameOk:An:=.q .z (.q .z (.m [(.normal,⟨[],[]⟩),(.ret,⟨[(2, .s K7 [])],[]⟩)] [0] [] (.q .z (.b (.l ⟨[(0, .s K0 [])],[]⟩ ⟨[(3, .s K1 [])],[]⟩ [(.exit 0,⟨[],[]⟩),(.ret,⟨[(2, .s K7 [])],[]⟩)] (λ s_1 k i_5=>g_spec_NameOk_l0 s_1 k i_5) .z))) .z))
theorem ke_spec_NameOk:CK [e_spec_l01In,e_spec_LetterOf] 0 ane_spec_NameOk Tryd.f45 e_spec_NameOk:=⟨⟨trivial,⟨trivial,⟨⟨trivial,⟨λ _ _=>rfl,λ _ _ _ _=>by kernel_rfl,trivial⟩⟩,trivial⟩⟩⟩,λ _=>by kernel_rfl⟩
noncomputable def ane_spec_l08Names:An:=.z
theorem ke_spec_l08Names:CK [] 0 ane_spec_l08Names Tryd.f118 e_spec_l08Names:=⟨trivial,λ _=>by kernel_rfl⟩
noncomputable def ane_spec_PrimName:An:=.z
theorem ke_spec_PrimName:CK [e_spec_l08Names,e_spec_l01In] 0 ane_spec_PrimName Tryd.f103 e_spec_PrimName:=⟨trivial,λ _=>by kernel_rfl⟩
noncomputable def ane_spec_l09Op:An:=.z
theorem ke_spec_l09Op:CK [e_spec_PrimName,e_spec_l01In] 0 ane_spec_l09Op Tryd.f66 e_spec_l09Op:=⟨trivial,λ _=>by kernel_rfl⟩
noncomputable def ane_spec_l09Open:An:=.q .z (.q .z (.m [(.normal,⟨[(4, .s K10 [(0,1)])],[.d, .o]⟩),(.ret,⟨[(2, .c (.one (.emp))),(3, .s K7 [])],[.d]⟩)] [0] [] (.q .z (.b (.l ⟨[(0, .s K4 [])],[.n, .n]⟩ ⟨[(4, .s K10 [(0,1)]),(5, .s K1 [])],[.d, .o]⟩ [(.exit 0,⟨[(4, .s K10 [(0,1)])],[.d, .o]⟩),(.ret,⟨[(2, .c (.one (.emp))),(3, .s K7 [])],[.d, .d]⟩)] (λ body_1 k (vopen_6,i_7)=>g_spec_l09Open_l0 body_1 k vopen_6 i_7) (.q .z (.m [(.normal,⟨[(4, .s K10 [(0,2)])],[.d, .d, .o]⟩),(.ret,⟨[(2, .c (.one (.emp))),(3, .s K7 [])],[.d, .d]⟩)] [5] [] (.b (.q .z (.q .z (.b (.m [(.normal,⟨[(21, .s K7 [])],[.d, .f]⟩)] [4,6,20] [1] .z (.q .z (.m [(.normal,⟨[(29, .s K7 [])],[.d, .f]⟩)] [4,6,20] [1] .z (.q (.q .z (.q (.m [(.normal,⟨[(46, .s K7 [])],[.d, .f]⟩)] [4,6,7] [1] .z .z) .z)) .z)))))))) .z))))) .z))
theorem ke_spec_l09Open:CK [] 0 ane_spec_l09Open Tryd.f67 e_spec_l09Open:=⟨⟨trivial,⟨trivial,⟨⟨trivial,⟨λ _ _=>rfl,λ _ _ _ _=>by kernel_rfl,⟨trivial,⟨⟨trivial,⟨trivial,⟨trivial,⟨trivial,⟨trivial,⟨⟨trivial,⟨⟨trivial,trivial⟩,trivial⟩⟩,trivial⟩⟩⟩⟩⟩⟩,trivial⟩⟩⟩⟩,trivial⟩⟩⟩,λ _=>by kernel_rfl⟩
noncomputable def ane_spec_ShapeOk:An:=.q .z (.q .z (.m [(.normal,⟨[],[]⟩),(.ret,⟨[(2, .s K7 [])],[]⟩)] [0] [] (.q .z (.b (.l ⟨[(0, .s K4 [])],[]⟩ ⟨[(3, .s K1 [])],[]⟩ [(.exit 0,⟨[],[]⟩),(.ret,⟨[(2, .s K7 [])],[]⟩)] (λ body_1 k i_4=>g_spec_ShapeOk_l0 body_1 k i_4) .z))) .z))
theorem ke_spec_ShapeOk:CK [e_spec_l09Op,e_spec_l09Open] 0 ane_spec_ShapeOk Tryd.f46 e_spec_ShapeOk:=⟨⟨trivial,⟨trivial,⟨⟨trivial,⟨λ _ _=>rfl,λ _ _ _ _=>by kernel_rfl,trivial⟩⟩,trivial⟩⟩⟩,λ _=>by kernel_rfl⟩
end Go.Proofs.YtnhefmibcnbehaaDoor
namespace Go.Proofs.YtnhefmibcnbehaaDoor
open Go Go.Fm
set_option maxRecDepth 1000000
noncomputable def ane_spec_DefsOk:An:=.q .z (.q .z (.m [(.normal,⟨[],[]⟩),(.ret,⟨[(2, .s K7 [])],[]⟩)] [0] [] (.q .z (.b (.l ⟨[(0, .s K6 [])],[]⟩ ⟨[(3, .s K1 [])],[]⟩ [(.exit 0,⟨[],[]⟩),(.ret,⟨[(2, .s K7 [])],[]⟩)] (λ defs_1 k i_4=>g_spec_DefsOk_l0 defs_1 k i_4) (.q .z (.m [(.normal,⟨[],[]⟩),(.ret,⟨[(2, .s K7 [])],[]⟩)] [3] [] (.b (.q (.m [(.normal,⟨[(30, .s K7 [])],[]⟩)] [] [] .z .z) (.q .z (.b (.l ⟨[(0, .s K6 []),(3, .s K1 [])],[]⟩ ⟨[(4, .s K1 [])],[]⟩ [(.exit 2,⟨[],[]⟩),(.ret,⟨[(2, .s K7 [])],[]⟩)] (λ (defs_1,i_4) k k_12=>g_spec_DefsOk_l1 defs_1 i_4 k k_12) (.q .z (.q (.b (.q .z (.m [(.normal,⟨[(59, .s K7 [])],[.f]⟩)] [4,5] [0] .z .z))) .z))))))) .z))))) .z))
theorem ke_spec_DefsOk:CK [e_spec_NameOk,e_spec_ShapeOk] 0 ane_spec_DefsOk Tryd.f21 e_spec_DefsOk:=⟨⟨trivial,⟨trivial,⟨⟨trivial,⟨λ _ _=>rfl,λ _ _ _ _=>by kernel_rfl,⟨trivial,⟨⟨⟨trivial,trivial⟩,⟨trivial,⟨λ _ _=>rfl,λ _ _ _ _=>by kernel_rfl,⟨trivial,⟨⟨trivial,⟨trivial,trivial⟩⟩,trivial⟩⟩⟩⟩⟩,trivial⟩⟩⟩⟩,trivial⟩⟩⟩,λ _=>by kernel_rfl⟩
noncomputable def ane_spec_l09Trees (kk:Nat):An:=.q .z (.q .z (.q (.b (.l ⟨[(0, .s K4 []),(4, .c (.one (.emp))),(5, .s K1 [])],[.n, .n]⟩ ⟨[(1, .s K1 []),(6, .s K12 [(0,1)])],[.d, .o]⟩ [(.exit 0,⟨[(1, .s K1 []),(6, .s K12 [(0,1)])],[.d, .o]⟩)] (λ (body_1,_) k (i_6,out_7)=>g_spec_l09Trees_l0 (g_spec_l09Trees_r kk) body_1 k i_6 out_7) (.q (.m [(.normal,⟨[(28, .s K7 [])],[.d, .f]⟩)] [1,6] [1] .z .z) (.b (.q .z (.q .z (.m [(.normal,⟨[(1, .s K1 [])],[.d, .f, .v K11 []]⟩)] [6,7] [1] (.m [(.normal,⟨[(54, .s K7 [])],[.d, .f, .f]⟩)] [1] [2] .z .z) .z))))))) .z))
theorem ke_spec_l09Trees (kk:Nat):CK [(e_spec_l09Trees_r kk)] 0 (ane_spec_l09Trees kk) Tryd.f90 (e_spec_l09Trees_r (kk+1)):=⟨⟨trivial,⟨trivial,⟨⟨λ _ _=>rfl,λ _ _ _ _=>by kernel_rfl,⟨⟨trivial,trivial⟩,⟨trivial,⟨trivial,⟨⟨trivial,trivial⟩,trivial⟩⟩⟩⟩⟩,trivial⟩⟩⟩,λ _=>by kernel_rfl⟩
noncomputable def ane_spec_TreeOf:An:=.z
theorem ke_spec_TreeOf:CK [e_spec_ShapeOk,e_spec_l09Trees] 0 ane_spec_TreeOf Tryd.f59 e_spec_TreeOf:=⟨trivial,λ _=>by kernel_rfl⟩
noncomputable def ane_spec_l15Prune_imm (kk:Nat):An:=.q .z (.q .z (.m [(.normal,⟨[(3, .s K12 [(0,1)])],[.d, .o]⟩),(.ret,⟨[(2, .s K12 [(0,1)])],[.d, .o]⟩)] [0] [] (.q .z (.b (.l ⟨[(0, .s K12 [])],[.n, .n]⟩ ⟨[(3, .s K12 [(0,1)]),(4, .s K1 [])],[.d, .o]⟩ [(.exit 0,⟨[(3, .s K12 [(0,1)])],[.d, .o]⟩),(.ret,⟨[(2, .s K12 [(0,2)])],[.d, .d, .o]⟩)] (λ list_1 k (out_5,i_6)=>g_spec_l15Prune_imm_l0 (g_spec_l15Prune_imm_r kk) list_1 k out_5 i_6) .z))) .z))
theorem ke_spec_l15Prune_imm (kk:Nat):CK [(e_spec_l15Prune_imm_r kk)] 0 (ane_spec_l15Prune_imm kk) Tryd.f58 (e_spec_l15Prune_imm_r (kk+1)):=⟨⟨trivial,⟨trivial,⟨⟨trivial,⟨λ _ _=>rfl,λ _ _ _ _=>by kernel_rfl,trivial⟩⟩,trivial⟩⟩⟩,λ _=>by kernel_rfl⟩
noncomputable def ane_spec_l15Prune:An:=.q .z (.q .z (.m [(.normal,⟨[(3, .s K12 [(0,1)])],[.d, .o]⟩),(.ret,⟨[(2, .s K12 [(0,1)])],[.d, .o]⟩)] [0] [] (.q .z (.b (.l ⟨[(0, .s K12 [])],[.n, .n]⟩ ⟨[(3, .s K12 [(0,1)]),(4, .s K1 [])],[.d, .o]⟩ [(.exit 0,⟨[(3, .s K12 [(0,1)])],[.d, .o]⟩),(.ret,⟨[(2, .s K12 [(0,2)])],[.d, .d, .o]⟩)] (λ list_1 k (out_5,i_6)=>g_spec_l15Prune_l0 list_1 k out_5 i_6) .z))) .z))
theorem ke_spec_l15Prune:CK [e_spec_l15Prune_imm] 0 ane_spec_l15Prune Tryd.f58 e_spec_l15Prune:=⟨⟨trivial,⟨trivial,⟨⟨trivial,⟨λ _ _=>rfl,λ _ _ _ _=>by kernel_rfl,trivial⟩⟩,trivial⟩⟩⟩,λ _=>by kernel_rfl⟩
noncomputable def ane_spec_l09Flat (kk:Nat):An:=.q .z (.q .z (.m [(.normal,⟨[(8, .s K4 [(0,1)])],[.d, .o]⟩),(.ret,⟨[(6, .s K4 [(0,1)]),(7, .s K7 [])],[.d, .o]⟩)] [0,1,2] [] (.q .z (.b (.l ⟨[(0, .s K12 []),(1, .s K1 []),(2, .s K1 [])],[.n, .n]⟩ ⟨[(8, .s K4 [(0,1)]),(9, .s K1 [])],[.d, .o]⟩ [(.exit 0,⟨[(8, .s K4 [(0,1)])],[.d, .o]⟩),(.ret,⟨[(6, .s K4 [(0,2)]),(7, .s K7 [])],[.d, .d, .o]⟩)] (λ (list_1,deep_2,left_3) k (out_9,i_10)=>g_spec_l09Flat_l0 (g_spec_l09Flat_r kk) list_1 deep_2 left_3 k out_9 i_10) (.q .z (.m [(.normal,⟨[(8, .s K4 [(0,2)])],[.d, .d, .o]⟩),(.ret,⟨[(6, .s K4 [(0,2)]),(7, .s K7 [])],[.d, .d, .o]⟩)] [9] [] (.b (.q .z (.m [(.normal,⟨[(11, .s K7 [])],[.d, .f, .f]⟩)] [8,10] [1,2] .z (.q (.m [(.normal,⟨[(65, .s K7 [])],[.d, .f, .f]⟩)] [8,10,11] [1,2] .z .z) .z)))) .z))))) .z))
theorem ke_spec_l09Flat (kk:Nat):CK [(e_spec_l09Flat_r kk)] 0 (ane_spec_l09Flat kk) Tryd.f89 (e_spec_l09Flat_r (kk+1)):=⟨⟨trivial,⟨trivial,⟨⟨trivial,⟨λ _ _=>rfl,λ _ _ _ _=>by kernel_rfl,⟨trivial,⟨⟨trivial,⟨trivial,⟨⟨trivial,trivial⟩,trivial⟩⟩⟩,trivial⟩⟩⟩⟩,trivial⟩⟩⟩,λ _=>by kernel_rfl⟩
noncomputable def ane_spec_FlatOf:An:=.q .z (.q .z (.q (.m [(.normal,⟨[(16, .s K7 [])],[.f]⟩)] [2,3,4] [0] .z .z) .z))
theorem ke_spec_FlatOf:CK [e_spec_l09Flat,e_spec_ShapeOk] 0 ane_spec_FlatOf Tryd.f57 e_spec_FlatOf:=⟨⟨trivial,⟨trivial,⟨⟨trivial,trivial⟩,trivial⟩⟩⟩,λ _=>by kernel_rfl⟩
noncomputable def ane_spec_Prune:An:=.z
theorem ke_spec_Prune:CK [e_spec_ShapeOk,e_spec_TreeOf,e_spec_l15Prune,e_spec_FlatOf] 0 ane_spec_Prune Tryd.f41 e_spec_Prune:=⟨trivial,λ _=>by kernel_rfl⟩
end Go.Proofs.YtnhefmibcnbehaaDoor
namespace Go.Proofs.YtnhefmibcnbehaaDoor
open Go Go.Fm
set_option maxRecDepth 1000000
noncomputable def ane_spec_l15Is:An:=.z
theorem ke_spec_l15Is:CK [e_spec_PrimName] 0 ane_spec_l15Is Tryd.f88 e_spec_l15Is:=⟨trivial,λ _=>by kernel_rfl⟩
noncomputable def ane_spec_l08Pure:An:=.q .z (.m [(.normal,⟨[],[]⟩),(.ret,⟨[(6, .s K13 [(0,0)]),(7, .s K7 [])],[.o]⟩)] [0,1,2] [] (.q .z (.b (.q .z (.q .z (.m [(.normal,⟨[(14, .s K7 [])],[]⟩)] [6,7,8] [] .z .z))))) .z)
theorem ke_spec_l08Pure:CK [] 0 ane_spec_l08Pure Tryd.f114 e_spec_l08Pure:=⟨⟨trivial,⟨⟨trivial,⟨trivial,⟨trivial,⟨trivial,trivial⟩⟩⟩⟩,trivial⟩⟩,λ _=>by kernel_rfl⟩
noncomputable def ane_spec_l15Two:An:=.q .z (.q (.m [(.normal,⟨[(27, .s K7 [])],[.f]⟩)] [1,2,3,6,7] [0] .z .z) .z)
theorem ke_spec_l15Two:CK [e_spec_l15Is,e_spec_PrimName,e_spec_l08Pure] 0 ane_spec_l15Two Tryd.f86 e_spec_l15Two:=⟨⟨trivial,⟨⟨trivial,trivial⟩,trivial⟩⟩,λ _=>by kernel_rfl⟩
noncomputable def ane_spec_l15One:An:=.q .z (.q (.m [(.normal,⟨[(20, .s K7 [])],[.f]⟩)] [1,2,4,5] [0] .z .z) .z)
theorem ke_spec_l15One:CK [e_spec_l15Is,e_spec_PrimName,e_spec_l08Pure] 0 ane_spec_l15One Tryd.f87 e_spec_l15One:=⟨⟨trivial,⟨⟨trivial,trivial⟩,trivial⟩⟩,λ _=>by kernel_rfl⟩
noncomputable def ane_spec_l15At:An:=.q .z (.m [(.normal,⟨[],[]⟩),(.ret,⟨[(2, .s K4 [(0,0)]),(3, .s K1 [])],[.o]⟩)] [0] [] (.m [(.normal,⟨[(26, .s K7 [])],[]⟩)] [2,3] [] .z .z) (.m [(.normal,⟨[],[]⟩),(.ret,⟨[(2, .s K4 [(0,0)]),(3, .s K1 [])],[.o]⟩)] [0] [] (.q .z (.q (.q .z (.q (.q .z (.m [(.normal,⟨[(67, .s K7 [])],[.f, .f]⟩)] [6,7,8,9] [0,1] .z .z)) (.m [(.normal,⟨[(101, .s K7 [])],[.f, .f]⟩)] [6,7] [0,1] .z .z))) .z)) .z))
theorem ke_spec_l15At:CK [e_spec_l15Two,e_spec_l15One,e_spec_l15Is] 0 ane_spec_l15At Tryd.f56 e_spec_l15At:=⟨⟨trivial,⟨⟨trivial,trivial⟩,⟨⟨trivial,⟨⟨trivial,⟨⟨trivial,⟨trivial,trivial⟩⟩,⟨trivial,trivial⟩⟩⟩,trivial⟩⟩,trivial⟩⟩⟩,λ _=>by kernel_rfl⟩
noncomputable def ane_spec_Fold:An:=.q .z (.q .z (.q .z (.m [(.normal,⟨[(3, .s K4 [(0,2)])],[.d, .d, .o]⟩)] [2] [] (.q .z (.b (.l ⟨[(2, .c (.one (.emp)))],[.n, .n, .n]⟩ ⟨[(3, .s K4 [(0,2)]),(4, .s K1 [])],[.d, .d, .o]⟩ [(.exit 0,⟨[(3, .s K4 [(0,2)])],[.d, .d, .o]⟩)] (λ _ k (out_6,i_7)=>g_spec_Fold_l0 k out_6 i_7) (.q .z (.m [(.normal,⟨[(3, .s K4 [(0,3)]),(4, .s K1 [])],[.d, .d, .d, .o]⟩)] [] [] .z .z))))) .z)))
noncomputable def ane_spec_Fold_imm:An:=.q .z (.q .z (.q .z (.m [(.normal,⟨[(3, .s K4 [(0,2)])],[.d, .d, .o]⟩)] [2] [] (.q .z (.b (.l ⟨[(2, .c (.one (.emp)))],[.n, .n, .n]⟩ ⟨[(3, .s K4 [(0,2)]),(4, .s K1 [])],[.d, .d, .o]⟩ [(.exit 0,⟨[(3, .s K4 [(0,2)])],[.d, .d, .o]⟩)] (λ _ k (out_6,i_7)=>g_spec_Fold_imm_l0 k out_6 i_7) (.q .z (.m [(.normal,⟨[(3, .s K4 [(0,3)]),(4, .s K1 [])],[.d, .d, .d, .o]⟩)] [] [] .z .z))))) .z)))
theorem ke_spec_Fold_imm:CK [e_spec_ShapeOk,e_spec_l15At] 0 ane_spec_Fold_imm Tryd.f40 e_spec_Fold_imm:=⟨⟨trivial,⟨trivial,⟨trivial,⟨⟨trivial,⟨λ _ _=>rfl,λ _ _ _ _=>by kernel_rfl,⟨trivial,⟨trivial,trivial⟩⟩⟩⟩,trivial⟩⟩⟩⟩,λ _=>by kernel_rfl⟩
noncomputable def ane_spec_SimpleOf:An:=.q .z (.q .z (.q .z (.m [(.normal,⟨[(3, .s K6 [(0,1)])],[.d, .o]⟩)] [0,2] [] (.q .z (.b (.l ⟨[(0, .s K6 []),(2, .c (.one (.emp)))],[.n, .n]⟩ ⟨[(3, .s K6 [(0,1)]),(4, .s K1 [])],[.d, .o]⟩ [(.exit 0,⟨[(3, .s K6 [(0,1)])],[.d, .o]⟩)] (λ defs_1 k (out_5,i_6)=>g_spec_SimpleOf_l0 defs_1 k out_5 i_6) .z))) .z)))
theorem ke_spec_SimpleOf:CK [e_spec_DefsOk,e_spec_Prune,e_spec_Fold_imm] 0 ane_spec_SimpleOf Tryd.f18 e_spec_SimpleOf:=⟨⟨trivial,⟨trivial,⟨trivial,⟨⟨trivial,⟨λ _ _=>rfl,λ _ _ _ _=>by kernel_rfl,trivial⟩⟩,trivial⟩⟩⟩⟩,λ _=>by kernel_rfl⟩
end Go.Proofs.YtnhefmibcnbehaaDoor
namespace Go.Proofs.YtnhefmibcnbehaaDoor
open Go Go.Fm
set_option maxRecDepth 1000000
noncomputable def ane_impl_letters:An:=.z
theorem ke_impl_letters:CK [] 0 ane_impl_letters Tryd.f105 e_impl_letters:=⟨trivial,λ _=>by kernel_rfl⟩
theorem fe_ibytealg_IndexByteString:ConOk Tryd.prog e_ibytealg_IndexByteString:=index_ok (fn:=Tryd.f124) Tryd.func124 (by kernel_rfl) (by kernel_rfl) (by kernel_rfl) (by kernel_rfl)
noncomputable def ane_istringslite_IndexByte:An:=.z
theorem ke_istringslite_IndexByte:CK [e_ibytealg_IndexByteString] 0 ane_istringslite_IndexByte Tryd.f119 e_istringslite_IndexByte:=⟨trivial,λ _=>by kernel_rfl⟩
noncomputable def ane_strings_IndexByte:An:=.z
theorem ke_strings_IndexByte:CK [e_istringslite_IndexByte] 0 ane_strings_IndexByte Tryd.f104 e_strings_IndexByte:=⟨trivial,λ _=>by kernel_rfl⟩
noncomputable def ane_impl_LetterOf:An:=.z
theorem ke_impl_LetterOf:CK [e_impl_letters,e_strings_IndexByte] 0 ane_impl_LetterOf Tryd.f70 e_impl_LetterOf:=⟨trivial,λ _=>by kernel_rfl⟩
noncomputable def ane_impl_within:An:=.z
theorem ke_impl_within:CK [] 0 ane_impl_within Tryd.f28 e_impl_within:=⟨trivial,λ _=>by kernel_rfl⟩
noncomputable def ane_impl_NameOk:An:=.q .z (.m [(.normal,⟨[],[]⟩),(.ret,⟨[(2, .s K7 [])],[]⟩)] [0] [] (.q .z (.b (.l ⟨[(0, .s K0 []),(5, .s K1 [])],[]⟩ ⟨[(6, .s K1 [])],[]⟩ [(.exit 0,⟨[],[]⟩),(.ret,⟨[(2, .s K7 [])],[]⟩)] (λ (s_1,v_4) k v_5=>g_impl_NameOk_l0 s_1 v_4 k v_5) .z))) .z)
theorem ke_impl_NameOk:CK [e_impl_LetterOf,e_impl_within] 0 ane_impl_NameOk Tryd.f50 e_impl_NameOk:=⟨⟨trivial,⟨⟨trivial,⟨λ _ _=>rfl,λ _ _ _ _=>by kernel_rfl,trivial⟩⟩,trivial⟩⟩,λ _=>by kernel_rfl⟩
noncomputable def ane_strings_Fields:An:=.q .z (.q .z (.q .z (.q .z (.m [(.normal,⟨[(3, .s K1 []),(5, .s K8 [])],[]⟩)] [0,2] [] (.q .z (.b (.l ⟨[(0, .s K0 []),(2, .c (.one (.emp)))],[]⟩ ⟨[(3, .s K1 []),(4, .s K1 []),(5, .s K8 []),(6, .s K1 [])],[]⟩ [(.exit 0,⟨[(3, .s K1 []),(5, .s K8 [])],[]⟩)] (λ s_1 k (n_5,wasSpace_6,setBits_7,i_8)=>g_strings_Fields_l0 s_1 k n_5 wasSpace_6 setBits_7 i_8) .z))) (.q .z (.q .z (.q .z (.q .z (.q .z (.q (.b (.l ⟨[(0, .s K0 []),(2, .c (.one (.emp))),(9, .s K9 [(0,0)]),(10, .s K1 [])],[.o]⟩ ⟨[(12, .s K1 [])],[.f]⟩ [(.exit 2,⟨[(12, .s K1 [])],[.f]⟩)] (λ (s_1,_,_) k i_15=>g_strings_Fields_l1 s_1 k i_15) (.q (.m [(.normal,⟨[(53, .s K7 [])],[.f]⟩)] [12] [] .z .z) .z))) (.q .z (.q (.b (.l ⟨[(0, .s K0 []),(2, .c (.one (.emp)))],[.n]⟩ ⟨[(9, .s K9 [(0,0)]),(10, .s K1 []),(11, .s K1 []),(12, .s K1 [])],[.o]⟩ [(.exit 4,⟨[(9, .s K9 [(0,0)]),(10, .s K1 []),(11, .s K1 [])],[.o]⟩)] (λ s_1 k (a_20,na_21,fieldStart_22,i_23)=>g_strings_Fields_l2 s_1 k a_20 na_21 fieldStart_22 i_23) (.q .z (.b (.q .z (.q .z (.q .z (.q .z (.q (.b (.l ⟨[(0, .s K0 []),(2, .c (.one (.emp))),(9, .s K9 [(0,0)]),(10, .s K1 []),(11, .s K1 [])],[.o]⟩ ⟨[(12, .s K1 [])],[.f]⟩ [(.exit 6,⟨[(12, .s K1 [])],[.f]⟩)] (λ (s_1,_,_,_) k i_33=>g_strings_Fields_l3 s_1 k i_33) (.q (.m [(.normal,⟨[(91, .s K7 [])],[.f]⟩)] [12] [] .z .z) .z))) .z))))))))) (.m [(.normal,⟨[(9, .s K9 [(0,0)])],[.o]⟩)] [0,2,10,11] [] .z .z)))))))))))))
theorem ke_strings_Fields:CK [] 0 ane_strings_Fields Tryd.f122 e_strings_Fields:=⟨⟨trivial,⟨trivial,⟨trivial,⟨trivial,⟨⟨trivial,⟨λ _ _=>rfl,λ _ _ _ _=>by kernel_rfl,trivial⟩⟩,⟨trivial,⟨trivial,⟨trivial,⟨trivial,⟨trivial,⟨⟨λ _ _=>rfl,λ _ _ _ _=>by kernel_rfl,⟨⟨trivial,trivial⟩,trivial⟩⟩,⟨trivial,⟨⟨λ _ _=>rfl,λ _ _ _ _=>by kernel_rfl,⟨trivial,⟨trivial,⟨trivial,⟨trivial,⟨trivial,⟨⟨λ _ _=>rfl,λ _ _ _ _=>by kernel_rfl,⟨⟨trivial,trivial⟩,trivial⟩⟩,trivial⟩⟩⟩⟩⟩⟩⟩,⟨trivial,trivial⟩⟩⟩⟩⟩⟩⟩⟩⟩⟩⟩⟩⟩⟩,λ _=>by kernel_rfl⟩
end Go.Proofs.YtnhefmibcnbehaaDoor
namespace Go.Proofs.YtnhefmibcnbehaaDoor
open Go Go.Fm
set_option maxRecDepth 1000000
noncomputable def ane_impl_prims:An:=.z
theorem ke_impl_prims:CK [e_strings_Fields] 0 ane_impl_prims Tryd.f116 e_impl_prims:=⟨trivial,λ _=>by kernel_rfl⟩
noncomputable def ane_impl_PrimName:An:=.z
theorem ke_impl_PrimName:CK [e_impl_prims,e_impl_within] 0 ane_impl_PrimName Tryd.f95 e_impl_PrimName:=⟨trivial,λ _=>by kernel_rfl⟩
noncomputable def ane_impl_opOk:An:=.z
theorem ke_impl_opOk:CK [e_impl_PrimName,e_impl_within] 0 ane_impl_opOk Tryd.f106 e_impl_opOk:=⟨trivial,λ _=>by kernel_rfl⟩
noncomputable def ane_impl_openIn:An:=.q .z (.q .z (.m [(.normal,⟨[(4, .s K10 [(0,1)])],[.d, .o]⟩),(.ret,⟨[(2, .s K10 [(0,1)]),(3, .s K7 [])],[.d, .o]⟩)] [0] [] (.q .z (.b (.l ⟨[(0, .s K4 []),(9, .s K4 []),(10, .s K1 [])],[.n, .n]⟩ ⟨[(4, .s K10 [(0,1)]),(11, .s K1 [])],[.d, .o]⟩ [(.exit 0,⟨[(4, .s K10 [(0,1)])],[.d, .o]⟩),(.ret,⟨[(2, .s K10 [(0,2)]),(3, .s K7 [])],[.d, .d, .o]⟩)] (λ (_,v_7,v_8) k (vopen_9,v_10)=>g_impl_openIn_l0 v_7 v_8 k vopen_9 v_10) (.q .z (.q .z (.m [(.normal,⟨[(4, .s K10 [(0,2)])],[.d, .d, .o]⟩),(.ret,⟨[(2, .s K10 [(0,2)]),(3, .s K7 [])],[.d, .d, .o]⟩)] [11] [] (.b (.q .z (.q .z (.b (.q .z (.q .z (.m [(.normal,⟨[(22, .s K7 [])],[.d, .f, .f]⟩)] [4,6,7] [1,2] .z (.q .z (.m [(.normal,⟨[(41, .s K7 [])],[.d, .f, .f]⟩)] [4,6,7] [1,2] .z (.q (.q (.m [(.normal,⟨[(62, .s K7 [])],[.d, .f, .f]⟩)] [4,6,7] [1,2] .z .z) .z) .z)))))))))) .z)))))) .z))
theorem ke_impl_openIn:CK [e_impl_opOk] 0 ane_impl_openIn Tryd.f71 e_impl_openIn:=⟨⟨trivial,⟨trivial,⟨⟨trivial,⟨λ _ _=>rfl,λ _ _ _ _=>by kernel_rfl,⟨trivial,⟨trivial,⟨⟨trivial,⟨trivial,⟨trivial,⟨trivial,⟨trivial,⟨trivial,⟨trivial,⟨⟨⟨trivial,trivial⟩,trivial⟩,trivial⟩⟩⟩⟩⟩⟩⟩⟩,trivial⟩⟩⟩⟩⟩,trivial⟩⟩⟩,λ _=>by kernel_rfl⟩
noncomputable def ane_impl_ShapeOk:An:=.z
theorem ke_impl_ShapeOk:CK [e_impl_openIn] 0 ane_impl_ShapeOk Tryd.f51 e_impl_ShapeOk:=⟨trivial,λ _=>by kernel_rfl⟩
noncomputable def ane_impl_callsBelowc1:An:=.z
theorem ke_impl_callsBelowc1:CK [] 1 ane_impl_callsBelowc1 Tryd.f73 e_impl_callsBelowc1:=⟨trivial,λ _=>by kernel_rfl⟩
noncomputable def ane_slices_IndexFunc_Op_impl_callsBelowc1:An:=.q .z (.m [(.normal,⟨[],[.f]⟩),(.ret,⟨[(4, .s K1 [])],[.f]⟩)] [0,1] [] (.q .z (.b (.l ⟨[(0, .s K4 []),(1, .c (.one (.fn 73 [(0,0)]))),(7, .s K1 [])],[.v K1 []]⟩ ⟨[(8, .s K1 [])],[.f]⟩ [(.exit 0,⟨[],[.f]⟩),(.ret,⟨[(4, .s K1 [])],[.f]⟩)] (λ (s_1,v_5,c_2) k v_6=>g_slices_IndexFunc_Op_impl_callsBelowc1_l0 s_1 v_5 c_2 k v_6) .z))) .z)
theorem ke_slices_IndexFunc_Op_impl_callsBelowc1:CK [e_impl_callsBelowc1] 1 ane_slices_IndexFunc_Op_impl_callsBelowc1 Tryd.f107 e_slices_IndexFunc_Op_impl_callsBelowc1:=⟨⟨trivial,⟨⟨trivial,⟨λ _ _=>rfl,λ _ _ _ _=>by kernel_rfl,trivial⟩⟩,trivial⟩⟩,λ _=>by kernel_rfl⟩
noncomputable def ane_slices_ContainsFunc_Op_impl_callsBelowc1:An:=.z
theorem ke_slices_ContainsFunc_Op_impl_callsBelowc1:CK [e_slices_IndexFunc_Op_impl_callsBelowc1] 1 ane_slices_ContainsFunc_Op_impl_callsBelowc1 Tryd.f72 e_slices_ContainsFunc_Op_impl_callsBelowc1:=⟨trivial,λ _=>by kernel_rfl⟩
end Go.Proofs.YtnhefmibcnbehaaDoor
namespace Go.Proofs.YtnhefmibcnbehaaDoor
open Go Go.Fm
set_option maxRecDepth 1000000
noncomputable def ane_impl_callsBelow:An:=.z
theorem ke_impl_callsBelow:CK [e_slices_ContainsFunc_Op_impl_callsBelowc1] 0 ane_impl_callsBelow Tryd.f52 e_impl_callsBelow:=⟨trivial,λ _=>by kernel_rfl⟩
noncomputable def ane_impl_DefsOkc1:An:=.z
theorem ke_impl_DefsOkc1:CK [e_impl_NameOk,e_impl_ShapeOk,e_impl_callsBelow] 1 ane_impl_DefsOkc1 Tryd.f49 e_impl_DefsOkc1:=⟨trivial,λ _=>by kernel_rfl⟩
noncomputable def ane_slices_IndexFunc_Def_impl_DefsOkc1:An:=.q .z (.m [(.normal,⟨[],[.f]⟩),(.ret,⟨[(4, .s K1 [])],[.f]⟩)] [0,1] [] (.q .z (.b (.l ⟨[(0, .s K6 []),(1, .c (.one (.fn 49 [(0,0)]))),(7, .s K1 [])],[.v K6 []]⟩ ⟨[(8, .s K1 [])],[.f]⟩ [(.exit 0,⟨[],[.f]⟩),(.ret,⟨[(4, .s K1 [])],[.f]⟩)] (λ (s_1,v_5,c_2) k v_6=>g_slices_IndexFunc_Def_impl_DefsOkc1_l0 s_1 v_5 c_2 k v_6) .z))) .z)
theorem ke_slices_IndexFunc_Def_impl_DefsOkc1:CK [e_impl_DefsOkc1] 1 ane_slices_IndexFunc_Def_impl_DefsOkc1 Tryd.f69 e_slices_IndexFunc_Def_impl_DefsOkc1:=⟨⟨trivial,⟨⟨trivial,⟨λ _ _=>rfl,λ _ _ _ _=>by kernel_rfl,trivial⟩⟩,trivial⟩⟩,λ _=>by kernel_rfl⟩
noncomputable def ane_slices_ContainsFunc_Def_impl_DefsOkc1:An:=.z
theorem ke_slices_ContainsFunc_Def_impl_DefsOkc1:CK [e_slices_IndexFunc_Def_impl_DefsOkc1] 1 ane_slices_ContainsFunc_Def_impl_DefsOkc1 Tryd.f48 e_slices_ContainsFunc_Def_impl_DefsOkc1:=⟨trivial,λ _=>by kernel_rfl⟩
noncomputable def ane_impl_DefsOk:An:=.z
theorem ke_impl_DefsOk:CK [e_slices_ContainsFunc_Def_impl_DefsOkc1] 0 ane_impl_DefsOk Tryd.f27 e_impl_DefsOk:=⟨trivial,λ _=>by kernel_rfl⟩
noncomputable def ane_impl_grow (kk:Nat):An:=.q .z (.q .z (.q (.b (.l ⟨[],[.n, .n]⟩ ⟨[(0, .s K4 []),(4, .s K12 [(0,1)])],[.d, .o]⟩ [(.exit 0,⟨[(4, .s K12 [(0,1)])],[.d, .o]⟩),(.ret,⟨[(2, .s K12 [(0,1)]),(3, .s K4 [])],[.d, .o]⟩)] (λ _ k (body_4,out_5)=>g_impl_grow_l0 (g_impl_grow_r kk) k body_4 out_5) (.q .z (.b (.q .z (.q .z (.q .z (.m [(.normal,⟨[(0, .s K4 []),(4, .s K12 [(0,1)])],[.d, .o, .f, .v K11 []]⟩),(.ret,⟨[(2, .s K12 [(0,1)]),(3, .s K4 [])],[.d, .o, .f, .v K11 [(2,4)], .o]⟩)] [5,6] [2] (.q .z (.b (.m [(.normal,⟨[(23, .s K7 [])],[.d, .f, .f, .f]⟩)] [0,4,22] [1,3] .z (.q .z (.m [(.normal,⟨[(28, .s K7 [])],[.d, .f, .f, .f]⟩)] [0,4,22] [1,3] .z .z))))) .z)))))))) .z))
theorem ke_impl_grow (kk:Nat):CK [(e_impl_grow_r kk)] 0 (ane_impl_grow kk) Tryd.f101 (e_impl_grow_r (kk+1)):=⟨⟨trivial,⟨trivial,⟨⟨λ _ _=>rfl,λ _ _ _ _=>by kernel_rfl,⟨trivial,⟨trivial,⟨trivial,⟨trivial,⟨⟨trivial,⟨trivial,⟨trivial,⟨trivial,trivial⟩⟩⟩⟩,trivial⟩⟩⟩⟩⟩⟩,trivial⟩⟩⟩,λ _=>by kernel_rfl⟩
noncomputable def ane_impl_TreeOf:An:=.z
theorem ke_impl_TreeOf:CK [e_impl_ShapeOk,e_impl_grow] 0 ane_impl_TreeOf Tryd.f64 e_impl_TreeOf:=⟨trivial,λ _=>by kernel_rfl⟩
noncomputable def ane_impl_pruned_imm (kk:Nat):An:=.q .z (.q .z (.m [(.normal,⟨[(3, .s K12 [(0,1)])],[.d, .o]⟩)] [0,2] [] (.q .z (.b (.l ⟨[(0, .s K12 []),(2, .c (.one (.emp))),(7, .s K12 []),(8, .s K1 [])],[.n, .n]⟩ ⟨[(3, .s K12 [(0,1)]),(9, .s K1 [])],[.d, .o]⟩ [(.exit 0,⟨[(3, .s K12 [(0,2)])],[.d, .d, .o]⟩)] (λ (_,v_4,v_5) k (out_6,v_7)=>g_impl_pruned_imm_l0 (g_impl_pruned_imm_r kk) v_4 v_5 k out_6 v_7) .z))) .z))
theorem ke_impl_pruned_imm (kk:Nat):CK [(e_impl_pruned_imm_r kk)] 0 (ane_impl_pruned_imm kk) Tryd.f63 (e_impl_pruned_imm_r (kk+1)):=⟨⟨trivial,⟨trivial,⟨⟨trivial,⟨λ _ _=>rfl,λ _ _ _ _=>by kernel_rfl,trivial⟩⟩,trivial⟩⟩⟩,λ _=>by kernel_rfl⟩
end Go.Proofs.YtnhefmibcnbehaaDoor
namespace Go.Proofs.YtnhefmibcnbehaaDoor
open Go Go.Fm
set_option maxRecDepth 1000000
noncomputable def ane_impl_pruned:An:=.q .z (.q .z (.m [(.normal,⟨[(3, .s K12 [(0,1)])],[.d, .o]⟩)] [0,2] [] (.q .z (.b (.l ⟨[(0, .s K12 []),(2, .c (.one (.emp))),(7, .s K12 []),(8, .s K1 [])],[.n, .n]⟩ ⟨[(3, .s K12 [(0,1)]),(9, .s K1 [])],[.d, .o]⟩ [(.exit 0,⟨[(3, .s K12 [(0,2)])],[.d, .d, .o]⟩)] (λ (_,v_4,v_5) k (out_6,v_7)=>g_impl_pruned_l0 v_4 v_5 k out_6 v_7) .z))) .z))
theorem ke_impl_pruned:CK [e_impl_pruned_imm] 0 ane_impl_pruned Tryd.f63 e_impl_pruned:=⟨⟨trivial,⟨trivial,⟨⟨trivial,⟨λ _ _=>rfl,λ _ _ _ _=>by kernel_rfl,trivial⟩⟩,trivial⟩⟩⟩,λ _=>by kernel_rfl⟩
noncomputable def ane_impl_flat (kk:Nat):An:=.q .z (.m [(.normal,⟨[(1, .s K4 [(0,1)])],[.d, .o]⟩),(.ret,⟨[(4, .s K4 [(0,1)]),(5, .s K7 [])],[.d, .o]⟩)] [0] [] (.q .z (.b (.l ⟨[(0, .s K12 []),(11, .s K12 []),(12, .s K1 [])],[.n, .n]⟩ ⟨[(1, .s K4 [(0,1)]),(13, .s K1 [])],[.d, .o]⟩ [(.exit 0,⟨[(1, .s K4 [(0,1)])],[.d, .o]⟩),(.ret,⟨[(4, .s K4 [(0,2)]),(5, .s K7 [])],[.d, .d, .o]⟩)] (λ (_,v_8,v_9) k (body_10,v_11)=>g_impl_flat_l0 (g_impl_flat_r kk) v_8 v_9 k body_10 v_11) (.q .z (.q .z (.m [(.normal,⟨[(1, .s K4 [(0,2)])],[.f, .d, .o]⟩),(.ret,⟨[(4, .s K4 [(0,2)]),(5, .s K7 [])],[.f, .d, .o]⟩)] [13] [0] (.b (.q .z (.q .z (.m [(.normal,⟨[(8, .s K1 [])],[.f, .f, .f]⟩),(.ret,⟨[(4, .c (.one (.emp))),(5, .s K7 [])],[.f, .f, .f]⟩)] [1,7] [1,2] (.b (.m [(.normal,⟨[(17, .s K7 [])],[.f, .f, .f]⟩)] [8] [] .z .z)) (.q .z (.q (.m [(.normal,⟨[(55, .s K7 [])],[.f, .d, .f, .d, .f]⟩)] [1,7,8] [2,4] .z .z) .z)))))) .z)))))) .z)
theorem ke_impl_flat (kk:Nat):CK [(e_impl_flat_r kk)] 1 (ane_impl_flat kk) Tryd.f100 (e_impl_flat_r (kk+1)):=⟨⟨trivial,⟨⟨trivial,⟨λ _ _=>rfl,λ _ _ _ _=>by kernel_rfl,⟨trivial,⟨trivial,⟨⟨trivial,⟨trivial,⟨⟨trivial,trivial⟩,⟨trivial,⟨⟨trivial,trivial⟩,trivial⟩⟩⟩⟩⟩,trivial⟩⟩⟩⟩⟩,trivial⟩⟩,λ _=>by kernel_rfl⟩
noncomputable def ane_impl_flat_emp:An:=.q .z (.m [(.normal,⟨[(1, .s K4 [(0,0)])],[.o]⟩),(.ret,⟨[(4, .s K4 [(0,0)]),(5, .s K7 [])],[.o]⟩)] [0] [] (.q .z (.b (.l ⟨[(0, .s K12 []),(11, .s K12 []),(12, .s K1 [])],[.n]⟩ ⟨[(1, .s K4 [(0,0)]),(13, .s K1 [])],[.o]⟩ [(.exit 0,⟨[(1, .s K4 [(0,0)])],[.o]⟩),(.ret,⟨[(4, .s K4 [(0,1)]),(5, .s K7 [])],[.d, .o]⟩)] (λ (_,v_7,v_8) k (body_9,v_10)=>g_impl_flat_emp_l0 v_7 v_8 k body_9 v_10) (.q .z (.q .z (.m [(.normal,⟨[(1, .s K4 [(0,1)])],[.d, .o]⟩),(.ret,⟨[(4, .s K4 [(0,1)]),(5, .s K7 [])],[.d, .o]⟩)] [13] [] (.b (.q .z (.q .z (.m [(.normal,⟨[(8, .s K1 [])],[.f, .f]⟩),(.ret,⟨[(4, .c (.one (.emp))),(5, .s K7 [])],[.f, .f]⟩)] [1,7] [0,1] (.b (.m [(.normal,⟨[(17, .s K7 [])],[.f, .f]⟩)] [8] [] .z .z)) (.q .z (.q (.m [(.normal,⟨[(55, .s K7 [])],[.d, .f, .d, .f]⟩)] [1,7,8] [1,3] .z .z) .z)))))) .z)))))) .z)
theorem ke_impl_flat_emp:CK [e_impl_flat] 0 ane_impl_flat_emp Tryd.f100 e_impl_flat_emp:=⟨⟨trivial,⟨⟨trivial,⟨λ _ _=>rfl,λ _ _ _ _=>by kernel_rfl,⟨trivial,⟨trivial,⟨⟨trivial,⟨trivial,⟨⟨trivial,trivial⟩,⟨trivial,⟨⟨trivial,trivial⟩,trivial⟩⟩⟩⟩⟩,trivial⟩⟩⟩⟩⟩,trivial⟩⟩,λ _=>by kernel_rfl⟩
noncomputable def ane_impl_FlatOf:An:=.q .z (.q .z (.q (.m [(.normal,⟨[(16, .s K7 [])],[.f]⟩)] [2,3,4] [0] .z .z) .z))
theorem ke_impl_FlatOf:CK [e_impl_flat_emp,e_impl_ShapeOk] 0 ane_impl_FlatOf Tryd.f62 e_impl_FlatOf:=⟨⟨trivial,⟨trivial,⟨⟨trivial,trivial⟩,trivial⟩⟩⟩,λ _=>by kernel_rfl⟩
noncomputable def ane_impl_prune:An:=.z
theorem ke_impl_prune:CK [e_impl_TreeOf,e_impl_pruned,e_impl_FlatOf] 0 ane_impl_prune Tryd.f43 e_impl_prune:=⟨trivial,λ _=>by kernel_rfl⟩
theorem fe_slices_Clone_Op:ConOk Tryd.prog e_slices_Clone_Op:=clone_own (P:=λ _=>Tryd.prog) (τ:=K3) TrydT_eq Tryd.func37 rfl rfl ⟨by kernel_rfl,by kernel_rfl,by kernel_rfl⟩ (congrArg TyI.kind TrydT_43) (λ a=>by kernel_rfl)
noncomputable def ane_impl_foldedc1:An:=.z
theorem ke_impl_foldedc1:CK [] 1 ane_impl_foldedc1 Tryd.f91 e_impl_foldedc1:=⟨trivial,λ _=>by kernel_rfl⟩
noncomputable def ane_slices_Index_string:An:=.q .z (.m [(.normal,⟨[],[]⟩),(.ret,⟨[(4, .s K1 [])],[]⟩)] [0,1] [] (.q .z (.b (.l ⟨[(0, .s K9 []),(1, .s K0 []),(7, .s K1 [])],[]⟩ ⟨[(8, .s K1 [])],[]⟩ [(.exit 0,⟨[],[]⟩),(.ret,⟨[(4, .s K1 [])],[]⟩)] (λ (s_1,v_2,v_5) k v_6=>g_slices_Index_string_l0 s_1 v_2 v_5 k v_6) .z))) .z)
theorem ke_slices_Index_string:CK [] 0 ane_slices_Index_string Tryd.f121 e_slices_Index_string:=⟨⟨trivial,⟨⟨trivial,⟨λ _ _=>rfl,λ _ _ _ _=>by kernel_rfl,trivial⟩⟩,trivial⟩⟩,λ _=>by kernel_rfl⟩
end Go.Proofs.YtnhefmibcnbehaaDoor
namespace Go.Proofs.YtnhefmibcnbehaaDoor
open Go Go.Fm
set_option maxRecDepth 1000000
noncomputable def ane_slices_Contains_string:An:=.z
theorem ke_slices_Contains_string:CK [e_slices_Index_string] 0 ane_slices_Contains_string Tryd.f115 e_slices_Contains_string:=⟨trivial,λ _=>by kernel_rfl⟩
noncomputable def ane_impl_isPrim:An:=.z
theorem ke_impl_isPrim:CK [e_impl_PrimName,e_slices_Contains_string] 0 ane_impl_isPrim Tryd.f94 e_impl_isPrim:=⟨trivial,λ _=>by kernel_rfl⟩
noncomputable def ane_impl_result:An:=.z
theorem ke_impl_result:CK [] 0 ane_impl_result Tryd.f93 e_impl_result:=⟨trivial,λ _=>by kernel_rfl⟩
noncomputable def ane_impl_foldedc2:An:=.z
theorem ke_impl_foldedc2:CK [e_impl_result] 0 ane_impl_foldedc2 Tryd.f92 e_impl_foldedc2:=⟨trivial,λ _=>by kernel_rfl⟩
noncomputable def ane_impl_folded:An:=.q .z (.q .z (.q .z (.q .z (.m [(.normal,⟨[],[.d, .f, .f, .f]⟩),(.ret,⟨[(2, .s K4 [(0,4)]),(3, .s K1 [])],[.d, .f, .f, .f, .o]⟩)] [5,6,7,8] [1,2,3] (.b (.m [(.normal,⟨[(16, .s K7 [])],[.d, .f, .f, .f]⟩)] [2,3] [] .z (.q .z (.m [(.normal,⟨[(40, .s K7 [])],[.d, .f, .f, .f]⟩)] [2,3] [] .z (.q .z (.m [(.normal,⟨[(57, .s K7 [])],[.d, .f, .f, .f]⟩)] [2,3] [] (.m [(.normal,⟨[(57, .s K7 [])],[.d, .f, .f, .f]⟩)] [] [] .z (.q .z (.m [(.normal,⟨[(57, .s K7 [])],[.d, .f, .f, .f]⟩)] [] [] .z (.q .z (.m [(.normal,⟨[(57, .s K7 [])],[.d, .f, .f, .f]⟩)] [] [] .z .z))))) .z)))))) .z))))
theorem ke_impl_folded:CK [e_impl_foldedc1,e_impl_isPrim,e_impl_PrimName,e_impl_foldedc2] 0 ane_impl_folded Tryd.f60 e_impl_folded:=⟨⟨trivial,⟨trivial,⟨trivial,⟨trivial,⟨⟨trivial,⟨trivial,⟨trivial,⟨trivial,⟨⟨trivial,⟨trivial,⟨trivial,⟨trivial,⟨trivial,trivial⟩⟩⟩⟩⟩,trivial⟩⟩⟩⟩⟩,trivial⟩⟩⟩⟩⟩,λ _=>by kernel_rfl⟩
noncomputable def repZ_61:Value:=((Tryd.prog.info? 56).bind (·.zero)).getD (.bool false)
noncomputable def repB_61:Nat:=((Tryd.prog.info? 56).map (·.bytes)).getD 0
theorem repL_61:RepL Tryd.prog 61 Tryd.f61 43 56 (Ty.size K3) repB_61 repZ_61 where
 hf:=Tryd.func61
 hn:=by kernel_rfl
 hb:=⟨_,rfl⟩
 t:=Tryd.underlying43
 z:=Tryd.sizeOf56
 i:=insInfo (by kernel_rfl)
 fin:=rep_end_61
 mid:=rep_mid_61
theorem fe_slices_Replace_Op:ConOk Tryd.prog e_slices_Replace_Op:=rep_ok repL_61 (by kernel_rfl) (by kernel_rfl) (flat_len (encOk K3).len)
noncomputable def ane_impl_Fold:An:=.q .z (.q .z (.q .z (.m [(.normal,⟨[(3, .s K4 [(0,1)])],[.d, .o]⟩)] [2] [] (.q .z (.b (.l ⟨[(2, .c (.one (.emp)))],[.n, .n]⟩ ⟨[(3, .s K4 [(0,1)]),(4, .s K1 [])],[.d, .o]⟩ [(.exit 0,⟨[(3, .s K4 [(0,1)])],[.d, .o]⟩)] (λ _ k (out_6,i_7)=>g_impl_Fold_l0 k out_6 i_7) .z))) .z)))
theorem ke_impl_Fold:CK [e_impl_ShapeOk,e_slices_Clone_Op,e_impl_folded,e_slices_Replace_Op] 0 ane_impl_Fold Tryd.f42 e_impl_Fold:=⟨⟨trivial,⟨trivial,⟨trivial,⟨⟨trivial,⟨λ _ _=>rfl,λ _ _ _ _=>by kernel_rfl,trivial⟩⟩,trivial⟩⟩⟩⟩,λ _=>by kernel_rfl⟩
end Go.Proofs.YtnhefmibcnbehaaDoor
namespace Go.Proofs.YtnhefmibcnbehaaDoor
open Go Go.Fm
set_option maxRecDepth 1000000
noncomputable def ane_impl_SimpleOf:An:=.q .z (.q .z (.q .z (.m [(.normal,⟨[(3, .s K6 [(0,1)])],[.d, .o]⟩)] [0,2] [] (.q .z (.b (.l ⟨[(0, .s K6 []),(2, .c (.one (.emp))),(10, .s K6 []),(11, .s K1 [])],[.n, .n]⟩ ⟨[(3, .s K6 [(0,1)]),(12, .s K1 [])],[.d, .o]⟩ [(.exit 0,⟨[(3, .s K6 [(0,1)])],[.d, .o]⟩)] (λ (_,v_5,v_6) k (out_7,v_8)=>g_impl_SimpleOf_l0 v_5 v_6 k out_7 v_8) .z))) .z)))
noncomputable def ane_laws_eqOp:An:=.z
theorem ke_laws_eqOp:CK [] 0 ane_laws_eqOp Tryd.f85 e_laws_eqOp:=⟨trivial,λ _=>by kernel_rfl⟩
noncomputable def ane_laws_eqOpS:An:=.q .z (.q .z (.m [(.normal,⟨[],[]⟩),(.ret,⟨[(4, .s K7 [])],[]⟩)] [0,1] [] (.q .z (.b (.l ⟨[(0, .s K4 []),(1, .s K4 [])],[]⟩ ⟨[(5, .s K1 [])],[]⟩ [(.exit 0,⟨[],[]⟩),(.ret,⟨[(4, .s K7 [])],[]⟩)] (λ (a_1,b_2) k i_5=>g_laws_eqOpS_l0 a_1 b_2 k i_5) .z))) .z))
theorem ke_laws_eqOpS:CK [e_laws_eqOp] 0 ane_laws_eqOpS Tryd.f55 e_laws_eqOpS:=⟨⟨trivial,⟨trivial,⟨⟨trivial,⟨λ _ _=>rfl,λ _ _ _ _=>by kernel_rfl,trivial⟩⟩,trivial⟩⟩⟩,λ _=>by kernel_rfl⟩
noncomputable def ane_laws_eqDef:An:=.z
theorem ke_laws_eqDef:CK [e_laws_eqOpS] 0 ane_laws_eqDef Tryd.f33 e_laws_eqDef:=⟨trivial,λ _=>by kernel_rfl⟩
noncomputable def ane_laws_eqDefS:An:=.q .z (.q .z (.m [(.normal,⟨[],[]⟩),(.ret,⟨[(4, .s K7 [])],[]⟩)] [0,1] [] (.q .z (.b (.l ⟨[(0, .s K6 []),(1, .s K6 [])],[]⟩ ⟨[(5, .s K1 [])],[]⟩ [(.exit 0,⟨[],[]⟩),(.ret,⟨[(4, .s K7 [])],[]⟩)] (λ (a_1,b_2) k i_5=>g_laws_eqDefS_l0 a_1 b_2 k i_5) .z))) .z))
theorem ke_laws_eqDefS:CK [e_laws_eqDef] 0 ane_laws_eqDefS Tryd.f11 e_laws_eqDefS:=⟨⟨trivial,⟨trivial,⟨⟨trivial,⟨λ _ _=>rfl,λ _ _ _ _=>by kernel_rfl,trivial⟩⟩,trivial⟩⟩⟩,λ _=>by kernel_rfl⟩
noncomputable def ane_impl_SimpleOf_deep:An:=.q .z (.q .z (.q .z (.m [(.normal,⟨[(3, .s K6 [(0,1)])],[.d, .od]⟩)] [0,2] [] (.q .z (.b (.l ⟨[(0, .s K6 []),(2, .c (.one (.emp))),(10, .s K6 []),(11, .s K1 [])],[.n, .n]⟩ ⟨[(3, .s K6 [(0,1)]),(12, .s K1 [])],[.d, .od]⟩ [(.exit 0,⟨[(3, .s K6 [(0,1)])],[.d, .od]⟩)] (λ (_,v_5,v_6) k (out_7,v_8)=>g_impl_SimpleOf_deep_l0 v_5 v_6 k out_7 v_8) .z))) .z)))
theorem ke_impl_SimpleOf_deep:CK [e_impl_DefsOk,e_impl_prune,e_impl_Fold] 0 ane_impl_SimpleOf_deep Tryd.f19 e_impl_SimpleOf_deep:=⟨⟨trivial,⟨trivial,⟨trivial,⟨⟨trivial,⟨λ _ _=>rfl,λ _ _ _ _=>by kernel_rfl,trivial⟩⟩,trivial⟩⟩⟩⟩,λ _=>by kernel_rfl⟩
noncomputable def ane_laws_markText:An:=.q .z (.q .z (.q .z (.q (.b (.l ⟨[(2, .s K0 [])],[]⟩ ⟨[(0, .s K1 []),(3, .s K0 [])],[]⟩ [(.exit 0,⟨[(3, .s K0 [])],[]⟩)] (λ _ k (k_4,out_5)=>g_laws_markText_l0 k k_4 out_5) .z)) .z)))
theorem ke_laws_markText:CK [] 0 ane_laws_markText Tryd.f34 e_laws_markText:=⟨⟨trivial,⟨trivial,⟨trivial,⟨⟨λ _ _=>rfl,λ _ _ _ _=>by kernel_rfl,trivial⟩,trivial⟩⟩⟩⟩,λ _=>by kernel_rfl⟩
noncomputable def ane_laws_markOpS:An:=.q .z (.m [(.normal,⟨[(1, .s K1 [])],[.r K3]⟩)] [4] [] (.q .z (.b (.l ⟨[(4, .s K1 [])],[.n]⟩ ⟨[(0, .s K4 [(0,0)]),(1, .s K1 []),(5, .s K1 [])],[.o]⟩ [(.exit 0,⟨[(1, .s K1 [])],[.r K3]⟩)] (λ _ k (a_8,k_9,i_10)=>g_laws_markOpS_l0 k a_8 k_9 i_10) .z))) .z)
theorem ke_laws_markOpS:CK [] 1 ane_laws_markOpS Tryd.f35 e_laws_markOpS:=⟨⟨trivial,⟨⟨trivial,⟨λ _ _=>rfl,λ _ _ _ _=>by kernel_rfl,trivial⟩⟩,trivial⟩⟩,λ _=>by kernel_rfl⟩
end Go.Proofs.YtnhefmibcnbehaaDoor
namespace Go.Proofs.YtnhefmibcnbehaaDoor
open Go Go.Fm
set_option maxRecDepth 1000000
noncomputable def ane_laws_markDefS:An:=.q .z (.m [(.normal,⟨[(1, .s K1 [])],[.rd K5]⟩)] [4] [] (.q .z (.b (.l ⟨[(4, .s K1 [])],[.n]⟩ ⟨[(0, .s K6 [(0,0)]),(1, .s K1 []),(5, .s K1 [])],[.od]⟩ [(.exit 0,⟨[(1, .s K1 [])],[.rd K5]⟩)] (λ _ k (a_8,k_9,i_10)=>g_laws_markDefS_l0 k a_8 k_9 i_10) .z))) .z)
theorem ke_laws_markDefS:CK [e_laws_markText,e_laws_markOpS] 1 ane_laws_markDefS Tryd.f12 e_laws_markDefS:=⟨⟨trivial,⟨⟨trivial,⟨λ _ _=>rfl,λ _ _ _ _=>by kernel_rfl,trivial⟩⟩,trivial⟩⟩,λ _=>by kernel_rfl⟩
noncomputable def ane_laws_heldOpS:An:=.q .z (.m [(.normal,⟨[(1, .s K1 [])],[]⟩),(.ret,⟨[(4, .s K1 [])],[]⟩)] [0] [] (.q .z (.b (.l ⟨[(0, .s K4 [])],[]⟩ ⟨[(1, .s K1 []),(5, .s K1 [])],[]⟩ [(.exit 0,⟨[(1, .s K1 [])],[]⟩),(.ret,⟨[(4, .s K1 [])],[]⟩)] (λ a_1 k (k_6,i_7)=>g_laws_heldOpS_l0 a_1 k k_6 i_7) .z))) .z)
theorem ke_laws_heldOpS:CK [] 0 ane_laws_heldOpS Tryd.f39 e_laws_heldOpS:=⟨⟨trivial,⟨⟨trivial,⟨λ _ _=>rfl,λ _ _ _ _=>by kernel_rfl,trivial⟩⟩,trivial⟩⟩,λ _=>by kernel_rfl⟩
noncomputable def ane_laws_heldDefS:An:=.q .z (.m [(.normal,⟨[(1, .s K1 [])],[]⟩),(.ret,⟨[(4, .s K1 [])],[]⟩)] [0] [] (.q .z (.b (.l ⟨[(0, .s K6 [])],[]⟩ ⟨[(1, .s K1 []),(5, .s K1 [])],[]⟩ [(.exit 0,⟨[(1, .s K1 [])],[]⟩),(.ret,⟨[(4, .s K1 [])],[]⟩)] (λ a_1 k (k_6,i_7)=>g_laws_heldDefS_l0 a_1 k k_6 i_7) .z))) .z)
theorem ke_laws_heldDefS:CK [e_laws_markText,e_laws_heldOpS] 0 ane_laws_heldDefS Tryd.f17 e_laws_heldDefS:=⟨⟨trivial,⟨⟨trivial,⟨λ _ _=>rfl,λ _ _ _ _=>by kernel_rfl,trivial⟩⟩,trivial⟩⟩,λ _=>by kernel_rfl⟩
noncomputable def ane_laws_FnExactSimpleOf:An:=.q .z (.q .z (.q .z (.q .z (.q .z (.q .z (.q .z (.q .z (.q .z (.q .z (.q .z (.q (.m [(.normal,⟨[(42, .s K7 [])],[.d, .f, .d, .f, .d]⟩)] [0,2,4,6,7] [1,3] .z .z) .z)))))))))))
theorem ke_laws_FnExactSimpleOf:CK [e_laws_szDefS,e_laws_toDefS,e_spec_SimpleOf,e_impl_SimpleOf_deep,e_laws_eqDefS,e_laws_markDefS,e_laws_heldDefS] 0 ane_laws_FnExactSimpleOf Tryd.f5 e_laws_FnExactSimpleOf:=⟨⟨trivial,⟨trivial,⟨trivial,⟨trivial,⟨trivial,⟨trivial,⟨trivial,⟨trivial,⟨trivial,⟨trivial,⟨trivial,⟨⟨trivial,trivial⟩,trivial⟩⟩⟩⟩⟩⟩⟩⟩⟩⟩⟩⟩,λ _=>by kernel_rfl⟩
end Go.Proofs.YtnhefmibcnbehaaDoor
namespace Go.Proofs.YtnhefmibcnbehaaDoor
open Go Go.Fm
set_option maxRecDepth 1000000
theorem ce_laws_szOpS:CO e_laws_szOpS:=fnc (λ _=>con_nil) Tryd.func44 ke_laws_szOpS (by kernel_rfl) (λ _=>by kernel_rfl) (λ _=>by kernel_rfl) rfl
theorem ce_laws_szDef:CO e_laws_szDef:=fnc (λ _=>con_cons ce_laws_szOpS con_nil) Tryd.func20 ke_laws_szDef (by kernel_rfl) (λ _=>by kernel_rfl) (λ _=>by kernel_rfl) rfl
theorem ce_laws_szDefS:CO e_laws_szDefS:=fnc (λ _=>con_cons ce_laws_szDef con_nil) Tryd.func6 ke_laws_szDefS (by kernel_rfl) (λ _=>by kernel_rfl) (λ _=>by kernel_rfl) rfl
theorem ce_laws_toOp:CO e_laws_toOp:=fnc (λ _=>con_nil) Tryd.func68 ke_laws_toOp (by kernel_rfl) (λ _=>by kernel_rfl) (λ _=>by kernel_rfl) rfl
theorem ce_laws_toOpS:CO e_laws_toOpS:=fnc (λ _=>con_cons ce_laws_toOp con_nil) Tryd.func47 ke_laws_toOpS (by kernel_rfl) (λ _=>by kernel_rfl) (λ _=>by kernel_rfl) rfl
theorem ce_laws_toDef:CO e_laws_toDef:=fnc (λ _=>con_cons ce_laws_toOpS con_nil) Tryd.func26 ke_laws_toDef (by kernel_rfl) (λ _=>by kernel_rfl) (λ _=>by kernel_rfl) rfl
theorem ce_laws_toDefS:CO e_laws_toDefS:=fnc (λ _=>con_cons ce_laws_toDef con_nil) Tryd.func8 ke_laws_toDefS (by kernel_rfl) (λ _=>by kernel_rfl) (λ _=>by kernel_rfl) rfl
theorem ce_spec_l01In:CO e_spec_l01In:=fnc (λ _=>con_nil) Tryd.func22 ke_spec_l01In (by kernel_rfl) (λ _=>by kernel_rfl) (λ _=>by kernel_rfl) rfl
theorem ce_spec_l02All:CO e_spec_l02All:=fnc (λ _=>con_nil) Tryd.func102 ke_spec_l02All (by kernel_rfl) (λ _=>by kernel_rfl) (λ _=>by kernel_rfl) rfl
theorem ce_spec_LetterOf:CO e_spec_LetterOf:=fnc (λ _=>con_cons ce_spec_l02All con_nil) Tryd.func65 ke_spec_LetterOf (by kernel_rfl) (λ _=>by kernel_rfl) (λ _=>by kernel_rfl) rfl
theorem ce_spec_NameOk:CO e_spec_NameOk:=fnc (λ _=>con_cons ce_spec_l01In (con_cons ce_spec_LetterOf con_nil)) Tryd.func45 ke_spec_NameOk (by kernel_rfl) (λ _=>by kernel_rfl) (λ _=>by kernel_rfl) rfl
theorem ce_spec_l08Names:CO e_spec_l08Names:=fnc (λ _=>con_nil) Tryd.func118 ke_spec_l08Names (by kernel_rfl) (λ _=>by kernel_rfl) (λ _=>by kernel_rfl) rfl
theorem ce_spec_PrimName:CO e_spec_PrimName:=fnc (λ _=>con_cons ce_spec_l08Names (con_cons ce_spec_l01In con_nil)) Tryd.func103 ke_spec_PrimName (by kernel_rfl) (λ _=>by kernel_rfl) (λ _=>by kernel_rfl) rfl
theorem ce_spec_l09Op:CO e_spec_l09Op:=fnc (λ _=>con_cons ce_spec_PrimName (con_cons ce_spec_l01In con_nil)) Tryd.func66 ke_spec_l09Op (by kernel_rfl) (λ _=>by kernel_rfl) (λ _=>by kernel_rfl) rfl
theorem ce_spec_l09Open:CO e_spec_l09Open:=fnc (λ _=>con_nil) Tryd.func67 ke_spec_l09Open (by kernel_rfl) (λ _=>by kernel_rfl) (λ _=>by kernel_rfl) rfl
theorem ce_spec_ShapeOk:CO e_spec_ShapeOk:=fnc (λ _=>con_cons ce_spec_l09Op (con_cons ce_spec_l09Open con_nil)) Tryd.func46 ke_spec_ShapeOk (by kernel_rfl) (λ _=>by kernel_rfl) (λ _=>by kernel_rfl) rfl
theorem ce_spec_DefsOk:CO e_spec_DefsOk:=fnc (λ _=>con_cons ce_spec_NameOk (con_cons ce_spec_ShapeOk con_nil)) Tryd.func21 ke_spec_DefsOk (by kernel_rfl) (λ _=>by kernel_rfl) (λ _=>by kernel_rfl) rfl
theorem ce_spec_l09Trees_r:∀ kk,CO (e_spec_l09Trees_r kk)
 | 0=>λ _ _ _ h=>nomatch h
 | kk+1=>fnc (λ _=>con_cons (ce_spec_l09Trees_r kk) con_nil) Tryd.func90 (ke_spec_l09Trees kk) (by kernel_rfl) (λ _=>by kernel_rfl) (λ _=>by kernel_rfl) rfl
theorem ce_spec_l09Trees:CO e_spec_l09Trees:=ce_spec_l09Trees_r bigK
theorem ce_spec_TreeOf:CO e_spec_TreeOf:=fnc (λ _=>con_cons ce_spec_ShapeOk (con_cons ce_spec_l09Trees con_nil)) Tryd.func59 ke_spec_TreeOf (by kernel_rfl) (λ _=>by kernel_rfl) (λ _=>by kernel_rfl) rfl
theorem ce_spec_l15Prune_imm_r:∀ kk,CO (e_spec_l15Prune_imm_r kk)
 | 0=>λ _ _ _ h=>nomatch h
 | kk+1=>fnc (λ _=>con_cons (ce_spec_l15Prune_imm_r kk) con_nil) Tryd.func58 (ke_spec_l15Prune_imm kk) (by kernel_rfl) (λ _=>by kernel_rfl) (λ _=>by kernel_rfl) rfl
theorem ce_spec_l15Prune_imm:CO e_spec_l15Prune_imm:=ce_spec_l15Prune_imm_r bigK
theorem ce_spec_l15Prune:CO e_spec_l15Prune:=fnc (λ _=>con_cons ce_spec_l15Prune_imm con_nil) Tryd.func58 ke_spec_l15Prune (by kernel_rfl) (λ _=>by kernel_rfl) (λ _=>by kernel_rfl) rfl
theorem ce_spec_l09Flat_r:∀ kk,CO (e_spec_l09Flat_r kk)
 | 0=>λ _ _ _ h=>nomatch h
 | kk+1=>fnc (λ _=>con_cons (ce_spec_l09Flat_r kk) con_nil) Tryd.func89 (ke_spec_l09Flat kk) (by kernel_rfl) (λ _=>by kernel_rfl) (λ _=>by kernel_rfl) rfl
theorem ce_spec_l09Flat:CO e_spec_l09Flat:=ce_spec_l09Flat_r bigK
theorem ce_spec_FlatOf:CO e_spec_FlatOf:=fnc (λ _=>con_cons ce_spec_l09Flat (con_cons ce_spec_ShapeOk con_nil)) Tryd.func57 ke_spec_FlatOf (by kernel_rfl) (λ _=>by kernel_rfl) (λ _=>by kernel_rfl) rfl
theorem ce_spec_Prune:CO e_spec_Prune:=fnc (λ _=>con_cons ce_spec_ShapeOk (con_cons ce_spec_TreeOf (con_cons ce_spec_l15Prune (con_cons ce_spec_FlatOf con_nil)))) Tryd.func41 ke_spec_Prune (by kernel_rfl) (λ _=>by kernel_rfl) (λ _=>by kernel_rfl) rfl
theorem ce_spec_l15Is:CO e_spec_l15Is:=fnc (λ _=>con_cons ce_spec_PrimName con_nil) Tryd.func88 ke_spec_l15Is (by kernel_rfl) (λ _=>by kernel_rfl) (λ _=>by kernel_rfl) rfl
theorem ce_spec_l08Pure:CO e_spec_l08Pure:=fnc (λ _=>con_nil) Tryd.func114 ke_spec_l08Pure (by kernel_rfl) (λ _=>by kernel_rfl) (λ _=>by kernel_rfl) rfl
theorem ce_spec_l15Two:CO e_spec_l15Two:=fnc (λ _=>con_cons ce_spec_l15Is (con_cons ce_spec_PrimName (con_cons ce_spec_l08Pure con_nil))) Tryd.func86 ke_spec_l15Two (by kernel_rfl) (λ _=>by kernel_rfl) (λ _=>by kernel_rfl) rfl
theorem ce_spec_l15One:CO e_spec_l15One:=fnc (λ _=>con_cons ce_spec_l15Is (con_cons ce_spec_PrimName (con_cons ce_spec_l08Pure con_nil))) Tryd.func87 ke_spec_l15One (by kernel_rfl) (λ _=>by kernel_rfl) (λ _=>by kernel_rfl) rfl
theorem ce_spec_l15At:CO e_spec_l15At:=fnc (λ _=>con_cons ce_spec_l15Two (con_cons ce_spec_l15One (con_cons ce_spec_l15Is con_nil))) Tryd.func56 ke_spec_l15At (by kernel_rfl) (λ _=>by kernel_rfl) (λ _=>by kernel_rfl) rfl
theorem ce_spec_Fold_imm:CO e_spec_Fold_imm:=fnc (λ _=>con_cons ce_spec_ShapeOk (con_cons ce_spec_l15At con_nil)) Tryd.func40 ke_spec_Fold_imm (by kernel_rfl) (λ _=>by kernel_rfl) (λ _=>by kernel_rfl) rfl
theorem ce_spec_SimpleOf:CO e_spec_SimpleOf:=fnc (λ _=>con_cons ce_spec_DefsOk (con_cons ce_spec_Prune (con_cons ce_spec_Fold_imm con_nil))) Tryd.func18 ke_spec_SimpleOf (by kernel_rfl) (λ _=>by kernel_rfl) (λ _=>by kernel_rfl) rfl
theorem ce_impl_letters:CO e_impl_letters:=fnc (λ _=>con_nil) Tryd.func105 ke_impl_letters (by kernel_rfl) (λ _=>by kernel_rfl) (λ _=>by kernel_rfl) rfl
theorem ce_ibytealg_IndexByteString:ConOk Tryd.prog e_ibytealg_IndexByteString:=fe_ibytealg_IndexByteString
theorem ce_istringslite_IndexByte:CO e_istringslite_IndexByte:=fnc (λ _=>con_cons ce_ibytealg_IndexByteString con_nil) Tryd.func119 ke_istringslite_IndexByte (by kernel_rfl) (λ _=>by kernel_rfl) (λ _=>by kernel_rfl) rfl
theorem ce_strings_IndexByte:CO e_strings_IndexByte:=fnc (λ _=>con_cons ce_istringslite_IndexByte con_nil) Tryd.func104 ke_strings_IndexByte (by kernel_rfl) (λ _=>by kernel_rfl) (λ _=>by kernel_rfl) rfl
theorem ce_impl_LetterOf:CO e_impl_LetterOf:=fnc (λ _=>con_cons ce_impl_letters (con_cons ce_strings_IndexByte con_nil)) Tryd.func70 ke_impl_LetterOf (by kernel_rfl) (λ _=>by kernel_rfl) (λ _=>by kernel_rfl) rfl
theorem ce_impl_within:CO e_impl_within:=fnc (λ _=>con_nil) Tryd.func28 ke_impl_within (by kernel_rfl) (λ _=>by kernel_rfl) (λ _=>by kernel_rfl) rfl
theorem ce_impl_NameOk:CO e_impl_NameOk:=fnc (λ _=>con_cons ce_impl_LetterOf (con_cons ce_impl_within con_nil)) Tryd.func50 ke_impl_NameOk (by kernel_rfl) (λ _=>by kernel_rfl) (λ _=>by kernel_rfl) rfl
theorem ce_strings_Fields:CO e_strings_Fields:=fnc (λ _=>con_nil) Tryd.func122 ke_strings_Fields (by kernel_rfl) (λ _=>by kernel_rfl) (λ _=>by kernel_rfl) rfl
theorem ce_impl_prims:CO e_impl_prims:=fnc (λ _=>con_cons ce_strings_Fields con_nil) Tryd.func116 ke_impl_prims (by kernel_rfl) (λ _=>by kernel_rfl) (λ _=>by kernel_rfl) rfl
theorem ce_impl_PrimName:CO e_impl_PrimName:=fnc (λ _=>con_cons ce_impl_prims (con_cons ce_impl_within con_nil)) Tryd.func95 ke_impl_PrimName (by kernel_rfl) (λ _=>by kernel_rfl) (λ _=>by kernel_rfl) rfl
theorem ce_impl_opOk:CO e_impl_opOk:=fnc (λ _=>con_cons ce_impl_PrimName (con_cons ce_impl_within con_nil)) Tryd.func106 ke_impl_opOk (by kernel_rfl) (λ _=>by kernel_rfl) (λ _=>by kernel_rfl) rfl
theorem ce_impl_openIn:CO e_impl_openIn:=fnc (λ _=>con_cons ce_impl_opOk con_nil) Tryd.func71 ke_impl_openIn (by kernel_rfl) (λ _=>by kernel_rfl) (λ _=>by kernel_rfl) rfl
theorem ce_impl_ShapeOk:CO e_impl_ShapeOk:=fnc (λ _=>con_cons ce_impl_openIn con_nil) Tryd.func51 ke_impl_ShapeOk (by kernel_rfl) (λ _=>by kernel_rfl) (λ _=>by kernel_rfl) rfl
theorem ce_impl_callsBelowc1:CO e_impl_callsBelowc1:=fnc (λ _=>con_nil) Tryd.func73 ke_impl_callsBelowc1 (by kernel_rfl) (λ _=>by kernel_rfl) (λ _=>by kernel_rfl) rfl
theorem ce_slices_IndexFunc_Op_impl_callsBelowc1:CO e_slices_IndexFunc_Op_impl_callsBelowc1:=fnc (λ _=>con_cons ce_impl_callsBelowc1 con_nil) Tryd.func107 ke_slices_IndexFunc_Op_impl_callsBelowc1 (by kernel_rfl) (λ _=>by kernel_rfl) (λ _=>by kernel_rfl) rfl
theorem ce_slices_ContainsFunc_Op_impl_callsBelowc1:CO e_slices_ContainsFunc_Op_impl_callsBelowc1:=fnc (λ _=>con_cons ce_slices_IndexFunc_Op_impl_callsBelowc1 con_nil) Tryd.func72 ke_slices_ContainsFunc_Op_impl_callsBelowc1 (by kernel_rfl) (λ _=>by kernel_rfl) (λ _=>by kernel_rfl) rfl
theorem ce_impl_callsBelow:CO e_impl_callsBelow:=fnc (λ _=>con_cons ce_slices_ContainsFunc_Op_impl_callsBelowc1 con_nil) Tryd.func52 ke_impl_callsBelow (by kernel_rfl) (λ _=>by kernel_rfl) (λ _=>by kernel_rfl) rfl
theorem ce_impl_DefsOkc1:CO e_impl_DefsOkc1:=fnc (λ _=>con_cons ce_impl_NameOk (con_cons ce_impl_ShapeOk (con_cons ce_impl_callsBelow con_nil))) Tryd.func49 ke_impl_DefsOkc1 (by kernel_rfl) (λ _=>by kernel_rfl) (λ _=>by kernel_rfl) rfl
theorem ce_slices_IndexFunc_Def_impl_DefsOkc1:CO e_slices_IndexFunc_Def_impl_DefsOkc1:=fnc (λ _=>con_cons ce_impl_DefsOkc1 con_nil) Tryd.func69 ke_slices_IndexFunc_Def_impl_DefsOkc1 (by kernel_rfl) (λ _=>by kernel_rfl) (λ _=>by kernel_rfl) rfl
theorem ce_slices_ContainsFunc_Def_impl_DefsOkc1:CO e_slices_ContainsFunc_Def_impl_DefsOkc1:=fnc (λ _=>con_cons ce_slices_IndexFunc_Def_impl_DefsOkc1 con_nil) Tryd.func48 ke_slices_ContainsFunc_Def_impl_DefsOkc1 (by kernel_rfl) (λ _=>by kernel_rfl) (λ _=>by kernel_rfl) rfl
theorem ce_impl_DefsOk:CO e_impl_DefsOk:=fnc (λ _=>con_cons ce_slices_ContainsFunc_Def_impl_DefsOkc1 con_nil) Tryd.func27 ke_impl_DefsOk (by kernel_rfl) (λ _=>by kernel_rfl) (λ _=>by kernel_rfl) rfl
theorem ce_impl_grow_r:∀ kk,CO (e_impl_grow_r kk)
 | 0=>λ _ _ _ h=>nomatch h
 | kk+1=>fnc (λ _=>con_cons (ce_impl_grow_r kk) con_nil) Tryd.func101 (ke_impl_grow kk) (by kernel_rfl) (λ _=>by kernel_rfl) (λ _=>by kernel_rfl) rfl
theorem ce_impl_grow:CO e_impl_grow:=ce_impl_grow_r bigK
theorem ce_impl_TreeOf:CO e_impl_TreeOf:=fnc (λ _=>con_cons ce_impl_ShapeOk (con_cons ce_impl_grow con_nil)) Tryd.func64 ke_impl_TreeOf (by kernel_rfl) (λ _=>by kernel_rfl) (λ _=>by kernel_rfl) rfl
theorem ce_impl_pruned_imm_r:∀ kk,CO (e_impl_pruned_imm_r kk)
 | 0=>λ _ _ _ h=>nomatch h
 | kk+1=>fnc (λ _=>con_cons (ce_impl_pruned_imm_r kk) con_nil) Tryd.func63 (ke_impl_pruned_imm kk) (by kernel_rfl) (λ _=>by kernel_rfl) (λ _=>by kernel_rfl) rfl
theorem ce_impl_pruned_imm:CO e_impl_pruned_imm:=ce_impl_pruned_imm_r bigK
theorem ce_impl_pruned:CO e_impl_pruned:=fnc (λ _=>con_cons ce_impl_pruned_imm con_nil) Tryd.func63 ke_impl_pruned (by kernel_rfl) (λ _=>by kernel_rfl) (λ _=>by kernel_rfl) rfl
theorem ce_impl_flat_r:∀ kk,CO (e_impl_flat_r kk)
 | 0=>λ _ _ _ h=>nomatch h
 | kk+1=>fnc (λ _=>con_cons (ce_impl_flat_r kk) con_nil) Tryd.func100 (ke_impl_flat kk) (by kernel_rfl) (λ _=>by kernel_rfl) (λ _=>by kernel_rfl) rfl
theorem ce_impl_flat:CO e_impl_flat:=ce_impl_flat_r bigK
theorem ce_impl_flat_emp:CO e_impl_flat_emp:=fnc (λ _=>con_cons ce_impl_flat con_nil) Tryd.func100 ke_impl_flat_emp (by kernel_rfl) (λ _=>by kernel_rfl) (λ _=>by kernel_rfl) rfl
theorem ce_impl_FlatOf:CO e_impl_FlatOf:=fnc (λ _=>con_cons ce_impl_flat_emp (con_cons ce_impl_ShapeOk con_nil)) Tryd.func62 ke_impl_FlatOf (by kernel_rfl) (λ _=>by kernel_rfl) (λ _=>by kernel_rfl) rfl
theorem ce_impl_prune:CO e_impl_prune:=fnc (λ _=>con_cons ce_impl_TreeOf (con_cons ce_impl_pruned (con_cons ce_impl_FlatOf con_nil))) Tryd.func43 ke_impl_prune (by kernel_rfl) (λ _=>by kernel_rfl) (λ _=>by kernel_rfl) rfl
theorem ce_slices_Clone_Op:ConOk Tryd.prog e_slices_Clone_Op:=fe_slices_Clone_Op
theorem ce_impl_foldedc1:CO e_impl_foldedc1:=fnc (λ _=>con_nil) Tryd.func91 ke_impl_foldedc1 (by kernel_rfl) (λ _=>by kernel_rfl) (λ _=>by kernel_rfl) rfl
theorem ce_slices_Index_string:CO e_slices_Index_string:=fnc (λ _=>con_nil) Tryd.func121 ke_slices_Index_string (by kernel_rfl) (λ _=>by kernel_rfl) (λ _=>by kernel_rfl) rfl
theorem ce_slices_Contains_string:CO e_slices_Contains_string:=fnc (λ _=>con_cons ce_slices_Index_string con_nil) Tryd.func115 ke_slices_Contains_string (by kernel_rfl) (λ _=>by kernel_rfl) (λ _=>by kernel_rfl) rfl
theorem ce_impl_isPrim:CO e_impl_isPrim:=fnc (λ _=>con_cons ce_impl_PrimName (con_cons ce_slices_Contains_string con_nil)) Tryd.func94 ke_impl_isPrim (by kernel_rfl) (λ _=>by kernel_rfl) (λ _=>by kernel_rfl) rfl
theorem ce_impl_result:CO e_impl_result:=fnc (λ _=>con_nil) Tryd.func93 ke_impl_result (by kernel_rfl) (λ _=>by kernel_rfl) (λ _=>by kernel_rfl) rfl
theorem ce_impl_foldedc2:CO e_impl_foldedc2:=fnc (λ _=>con_cons ce_impl_result con_nil) Tryd.func92 ke_impl_foldedc2 (by kernel_rfl) (λ _=>by kernel_rfl) (λ _=>by kernel_rfl) rfl
theorem ce_impl_folded:CO e_impl_folded:=fnc (λ _=>con_cons ce_impl_foldedc1 (con_cons ce_impl_isPrim (con_cons ce_impl_PrimName (con_cons ce_impl_foldedc2 con_nil)))) Tryd.func60 ke_impl_folded (by kernel_rfl) (λ _=>by kernel_rfl) (λ _=>by kernel_rfl) rfl
theorem ce_slices_Replace_Op:ConOk Tryd.prog e_slices_Replace_Op:=fe_slices_Replace_Op
theorem ce_impl_Fold:CO e_impl_Fold:=fnc (λ _=>con_cons ce_impl_ShapeOk (con_cons ce_slices_Clone_Op (con_cons ce_impl_folded (con_cons ce_slices_Replace_Op con_nil)))) Tryd.func42 ke_impl_Fold (by kernel_rfl) (λ _=>by kernel_rfl) (λ _=>by kernel_rfl) rfl
theorem ce_laws_eqOp:CO e_laws_eqOp:=fnc (λ _=>con_nil) Tryd.func85 ke_laws_eqOp (by kernel_rfl) (λ _=>by kernel_rfl) (λ _=>by kernel_rfl) rfl
theorem ce_laws_eqOpS:CO e_laws_eqOpS:=fnc (λ _=>con_cons ce_laws_eqOp con_nil) Tryd.func55 ke_laws_eqOpS (by kernel_rfl) (λ _=>by kernel_rfl) (λ _=>by kernel_rfl) rfl
theorem ce_laws_eqDef:CO e_laws_eqDef:=fnc (λ _=>con_cons ce_laws_eqOpS con_nil) Tryd.func33 ke_laws_eqDef (by kernel_rfl) (λ _=>by kernel_rfl) (λ _=>by kernel_rfl) rfl
theorem ce_laws_eqDefS:CO e_laws_eqDefS:=fnc (λ _=>con_cons ce_laws_eqDef con_nil) Tryd.func11 ke_laws_eqDefS (by kernel_rfl) (λ _=>by kernel_rfl) (λ _=>by kernel_rfl) rfl
theorem ce_impl_SimpleOf_deep:CO e_impl_SimpleOf_deep:=fnc (λ _=>con_cons ce_impl_DefsOk (con_cons ce_impl_prune (con_cons ce_impl_Fold con_nil))) Tryd.func19 ke_impl_SimpleOf_deep (by kernel_rfl) (λ _=>by kernel_rfl) (λ _=>by kernel_rfl) rfl
theorem ce_laws_markText:CO e_laws_markText:=fnc (λ _=>con_nil) Tryd.func34 ke_laws_markText (by kernel_rfl) (λ _=>by kernel_rfl) (λ _=>by kernel_rfl) rfl
theorem ce_laws_markOpS:CO e_laws_markOpS:=fnc (λ _=>con_nil) Tryd.func35 ke_laws_markOpS (by kernel_rfl) (λ _=>by kernel_rfl) (λ _=>by kernel_rfl) rfl
theorem ce_laws_markDefS:CO e_laws_markDefS:=fnc (λ _=>con_cons ce_laws_markText (con_cons ce_laws_markOpS con_nil)) Tryd.func12 ke_laws_markDefS (by kernel_rfl) (λ _=>by kernel_rfl) (λ _=>by kernel_rfl) rfl
theorem ce_laws_heldOpS:CO e_laws_heldOpS:=fnc (λ _=>con_nil) Tryd.func39 ke_laws_heldOpS (by kernel_rfl) (λ _=>by kernel_rfl) (λ _=>by kernel_rfl) rfl
theorem ce_laws_heldDefS:CO e_laws_heldDefS:=fnc (λ _=>con_cons ce_laws_markText (con_cons ce_laws_heldOpS con_nil)) Tryd.func17 ke_laws_heldDefS (by kernel_rfl) (λ _=>by kernel_rfl) (λ _=>by kernel_rfl) rfl
theorem ce_laws_FnExactSimpleOf:CO e_laws_FnExactSimpleOf:=fnc (λ _=>con_cons ce_laws_szDefS (con_cons ce_laws_toDefS (con_cons ce_spec_SimpleOf (con_cons ce_impl_SimpleOf_deep (con_cons ce_laws_eqDefS (con_cons ce_laws_markDefS (con_cons ce_laws_heldDefS con_nil))))))) Tryd.func5 ke_laws_FnExactSimpleOf (by kernel_rfl) (λ _=>by kernel_rfl) (λ _=>by kernel_rfl) rfl
end Go.Proofs.YtnhefmibcnbehaaDoor

namespace Go.Fm
theorem wI64 {x:Int} (h1 : -9223372036854775808<=x) (h2:x < 9223372036854775808):IntKind.wrap .i64 x=x:=by
 simp[IntKind.wrap,IntKind.bits,IntKind.signed];omega
theorem wI32 {x:Int} (h1 : -2147483648<=x) (h2:x < 2147483648):IntKind.wrap .i32 x=x:=by
 simp[IntKind.wrap,IntKind.bits,IntKind.signed];omega
theorem wI32_bd (x:Int) : -2147483648<=IntKind.wrap .i32 x/\IntKind.wrap .i32 x < 2147483648:=by
 simp[IntKind.wrap,IntKind.bits,IntKind.signed];omega
theorem getI_ex {α:Type} {xs:List α} {i:Int} (h0:0<=i) (h1:i < xs.length):∃ x,getI xs i=some x/\x ∈ xs/\xs[i.toNat]? = some x:=by
 have hi:i.toNat < xs.length:=by omega
 unfold getI
 rw[if_pos h0,List.getElem?_eq_getElem hi]
 exact ⟨_,rfl,List.getElem_mem hi,rfl⟩
theorem getI_nat {α:Type} {xs:List α} {i:Nat}:getI xs (i:Int)=xs[i]? := by
 unfold getI;rw[if_pos (Int.natCast_nonneg i)];rfl
theorem app_eq {α:Type} {xs ys:List α} (h:xs.length+ys.length<=4294967296):app xs ys=some (xs++ys):=by
 unfold app
 rw[if_pos (by rw[List.length_append];exact h)]
theorem subL_eq {α:Type} {xs:List α} {a b:Int} (h0:0<=a) (h1:a<=b) (h2:b<=xs.length):subL xs a b=some ((xs.drop a.toNat).take (b.toNat-a.toNat)):=by
 unfold subL;rw[if_pos ⟨h0,h1,h2⟩]
theorem subL_drop {α:Type} {xs:List α} {a:Int} (h0:0<=a) (h2:a<=xs.length):subL xs a xs.length=some (xs.drop a.toNat):=by
 rw[subL_eq h0 h2 (Int.le_refl _),List.take_of_length_le]
 rw[List.length_drop];omega
theorem subL_take {α:Type} {xs:List α} {b:Int} (h0:0<=b) (h2:b<=xs.length):subL xs 0 b=some (xs.take b.toNat):=by
 rw[subL_eq (Int.le_refl _) h0 h2];rfl
theorem mk_eq {α:Type} {z:α} {n:Int} (h0:0<=n) (h1:n<=4294967296):mk z n=some (List.replicate n.toNat z):=by
 unfold mk;rw[if_pos ⟨h0,h1⟩]
theorem catS_eq {a b:List UInt8} (h:a.length+b.length < 4611686018427387904):catS a b=some (a++b):=by
 unfold catS;rw[if_pos h]
def Tot {α:Type} (o:Option α) (Q:α->Prop):Prop:=∃ a,o=some a/\Q a
section
variable {α β:Type} {Q Q':α->Prop} {R:β->Prop}
theorem Tot.some {a:α} (h:Q a):Tot (some a) Q:=⟨a,rfl,h⟩
theorem Tot.bind {o:Option α} {f:α->Option β} (h:Tot o Q) (hf:∀ a,Q a->Tot (f a) R):Tot (o.bind f) R:=by
 obtain ⟨a,rfl,ha⟩:=h;exact hf a ha
theorem Tot.bindE {o:Option α} {f:α->Option β} {a:α} (h:o=.some a) (hf:Tot (f a) R):Tot (o.bind f) R:=by subst h;exact hf
theorem Tot.cond {c:Bool} {x y:Option α} (h1:c=true->Tot x Q) (h2:c=false->Tot y Q):Tot (cond c x y) Q:=by
 cases c with
 | true=>exact h1 rfl
 | false=>exact h2 rfl
theorem Tot.condD {p:Prop} [Decidable p] {x y:Option α} (h1:p->Tot x Q) (h2:¬ p->Tot y Q):Tot (_root_.cond (decide p) x y) Q :=
 .cond (λ h=>h1 (of_decide_eq_true h)) (λ h=>h2 (of_decide_eq_false h))
theorem Tot.mono {o:Option α} (h:Tot o Q) (hq:∀ a,Q a->Q' a):Tot o Q':=by obtain ⟨a,e,ha⟩:=h;exact ⟨a,e,hq a ha⟩
end
end Go.Fm
namespace Go.Fm
theorem nxt {n:Nat} (h:n < 16777216):IntKind.wrap .i64 ((n:Int)+1)=((n+1:Nat):Int):=by rw[wI64 (by omega) (by omega)];omega
def allN {α:Type} (p:Nat->α->Bool):Nat->List α->Bool
 | _,[]=>true
 | n,x::r=>p n x&&allN p (n+1) r
theorem allN_const {α:Type} (p:α->Bool):∀ (n:Nat) (l:List α),allN (λ _=>p) n l=l.all p
 | n,[]=>rfl
 | n,x::r=>by simp only[allN,List.all_cons,allN_const p (n+1) r]
theorem allLoop {α β:Type} {L:List α} {bad:β} (p:Nat->α->Bool) (F:Nat->Int->Option (Unit ⊕ β)) (step:∀ (k n:Nat) (x:α),L[n]? = some x->n < L.length->F (k+1) n=cond (p n x) (F k ((n+1:Nat):Int)) (some (.inr bad)))
  (fin:∀ k n:Nat,L.length<=n->F (k+1) n=some (.inl ())) (hm:L.length<=16777216):F bigK 0=some (cond (allN p 0 L) (.inl ()) (.inr bad)):=by
 have key:∀ (k n:Nat),n<=L.length->L.length-n < k->F k n=some (cond (allN p n (L.drop n)) (.inl ()) (.inr bad)):=by
  intro k
  induction k with
  | zero=>intro n h0 h1;omega
  | succ k ih =>
   intro n h0 h1
   by_cases hn:n < L.length
   ·rw[step k n L[n] (List.getElem?_eq_getElem hn) hn,List.drop_eq_getElem_cons hn]
    show _=some (cond (p n L[n]&&allN p (n+1) (L.drop (n+1))) _ _)
    cases p n L[n] with
    | false=>rfl
    | true=>rw[cond_true,ih (n+1) (by omega) (by omega),Bool.true_and]
   ·rw[fin k n (by omega),List.drop_eq_nil_of_le (by omega)];rfl
 have:=key bigK 0 (Nat.zero_le _) (by unfold bigK;omega)
 rw[List.drop_zero]at this
 exact this
theorem eqList {α:Type} [DecidableEq α] {a b:List α} (F:Nat->Int->Option (Unit ⊕ Bool)) (g:Option Bool) (hg:g=cond ((a.length:Int) != (b.length:Int)) (some false) (((F bigK 0).bind λ o=>match o with | .inl ()=>some (.inl ()) | .inr v=>some (.inr v):Option (Unit ⊕ Bool)).bind λ o=>match o with | .inl ()=>some true | .inr v=>some v))
  (hF:∀ (k:Nat) (i:Int),F (k+1) i=cond (decide (i < (a.length:Int))) ((getI a i).bind λ x=>(getI b i).bind λ y=>cond (!decide (x=y)) (some (.inr false)) (F k (IntKind.wrap .i64 (i+1)))) (some (.inl ()))) (hm:a.length<=1048576):g=some (decide (a=b)):=by
 rw[hg]
 by_cases hl:a.length=b.length
 ·have key:∀ (k n:Nat),n<=a.length->a.length-n < k->F k n=some (if a.drop n=b.drop n then .inl () else .inr false):=by
   intro k
   induction k with
   | zero=>intro n h0 h1;omega
   | succ k ih =>
    intro n h0 h1
    rw[hF]
    by_cases hn:n < a.length
    ·have hn':n < b.length:=by omega
     rw[decide_eq_true (by omega),getI_nat,getI_nat,List.getElem?_eq_getElem hn,List.getElem?_eq_getElem hn',List.drop_eq_getElem_cons hn,List.drop_eq_getElem_cons hn']
     simp only[cond_true,Option.bind_some]
     by_cases he:a[n]=b[n]
     ·rw[decide_eq_true he,Bool.not_true,cond_false,wI64 (by omega) (by omega),show ((n:Int)+1)=((n+1:Nat):Int) by omega,ih (n+1) (by omega) (by omega),he]
      simp only[List.cons.injEq,true_and]
     ·rw[decide_eq_false he,Bool.not_false,cond_true,if_neg (λ h=>he (List.cons.inj h).1)]
    ·rw[decide_eq_false (by omega),cond_false,List.drop_eq_nil_of_le (by omega),List.drop_eq_nil_of_le (by omega),if_pos rfl]
  have:((a.length:Int) != (b.length:Int))=false:=by rw[hl];simp
  rw[this,cond_false]
  have h:=key bigK 0 (Nat.zero_le _) (by unfold bigK;omega)
  rw[show ((0:Nat):Int)=0 from rfl]at h
  rw[h]
  by_cases he:a=b
  ·simp[he]
  ·simp[he]
 ·have:((a.length:Int) != (b.length:Int))=true:=by simp;omega
  rw[this,cond_true,decide_eq_false (λ h=>hl (by rw[h]))]
theorem copyM {α:Type} {a:List α} (F:Nat->List α->Int->Option (List α))
  (hs:∀ (k n:Nat) (out:List α) (x y:α),a[n]? = some x->n < a.length->out[n]? = some y->F (k+1) out n=F k (out.set n x) ((n+1:Nat):Int))
  (he:∀ (k n:Nat) (out:List α),a.length<=n->F (k+1) out n=some out) (hm:a.length<=16777216) {z:List α} (hz:z.length=a.length):F bigK z 0=some a:=by
 have key:∀ (k n:Nat) (rest:List α),n<=a.length->a.length-n < k->rest.length=a.length-n->F k (a.take n++rest) n=some a:=by
  intro k
  induction k with
  | zero=>intro n rest h0 h1;omega
  | succ k ih =>
   intro n rest h0 h1 h2
   by_cases hn:n < a.length
   ·cases rest with
    | nil=>simp at h2;omega
    | cons x r =>
     have hl:(a.take n).length=n:=by rw[List.length_take];omega
     rw[hs k n _ a[n] x (List.getElem?_eq_getElem hn) hn (by rw[List.getElem?_append_right (by omega),hl,Nat.sub_self];rfl)]
     have hset:(a.take n++x::r).set n a[n]=a.take (n+1)++r:=by
      rw[List.set_append_right _ _ (by omega),hl,Nat.sub_self,List.set_cons_zero,List.take_succ_eq_append_getElem hn,List.append_assoc]
      rfl
     rw[hset]
     exact ih (n+1) r (by omega) (by omega) (by simp at h2;omega)
   ·have hr:rest=[]:=List.length_eq_zero_iff.1 (by omega)
    rw[he k n _ (by omega),hr,List.append_nil,List.take_of_length_le (by omega)]
 have h:=key bigK 0 z (Nat.zero_le _) (by unfold bigK;omega) (by omega)
 rw[Int.natCast_zero,List.take_zero,List.nil_append]at h
 exact h
theorem copyLoop {α:Type} {a:List α} (F:Nat->List α->Int->Option (List α))
  (hs:∀ (k:Nat) (out:List α) (i:Int),F (k+1) out i=cond (decide (i < (a.length:Int))) ((getI a i).bind λ x=>(getI out i).bind λ _=>F k (out.set i.toNat x) (IntKind.wrap .i64 (i+1))) (some out))
  (hm:a.length<=16777216) {z:List α} (hz:z.length=a.length):F bigK z 0=some a:=by
 by_cases hb:a.length < 16777216
 ·exact copyM F (λ k n out x y hx hn hy=>by
   rw[hs,decide_eq_true (by omega),cond_true,getI_nat,hx]
   simp only[Option.bind_some]
   rw[getI_nat,hy,nxt (by omega)]
   rfl) (λ k n out hn=>by rw[hs,decide_eq_false (by omega),cond_false]) hm hz
 ·exact copyM F (λ k n out x y hx hn hy=>by
   rw[hs,decide_eq_true (by omega),cond_true,getI_nat,hx]
   simp only[Option.bind_some]
   rw[getI_nat,hy,nxt (by omega)]
   rfl) (λ k n out hn=>by rw[hs,decide_eq_false (by omega),cond_false]) hm hz
theorem eqRefl {α:Type} {a:List α} (F:Nat->Int->Option (Unit ⊕ Bool)) (f:Option Bool)
  (hf:f=cond ((a.length:Int) != (a.length:Int)) (some false) (((F bigK 0).bind λ o=>match o with | .inl ()=>some (.inl ()) | .inr v=>some (.inr v):Option (Unit ⊕ Bool)).bind λ o=>match o with | .inl ()=>some true | .inr v=>some v))
  (hs:∀ (k n:Nat) (x:α),a[n]? = some x->n < a.length->F (k+1) n=F k ((n+1:Nat):Int)) (he:∀ (k n:Nat),a.length<=n->F (k+1) n=some (.inl ())) (hm:a.length<=16777216):f=some true:=by
 have h:=allLoop (L:=a) (bad:=false) (λ _ _=>true) F (λ k n x hx hn=>by rw[hs k n x hx hn];rfl) he hm
 rw[hf,h]
 have e:∀ (n:Nat) (l:List α),allN (λ _ _=>true) n l=true:=λ n l=>by rw[allN_const (λ _=>true)];simp
 rw[e]
 simp
theorem bne_self' {α:Type} [BEq α] [LawfulBEq α] (x:α):(x != x)=false:=by simp
abbrev LN:Nat:=9223372036854775807
def marksN {β:Type} (val:Nat->β) (s:Nat):Nat->Nat->List β
 | _,0=>[]
 | k,n+1=>val k::marksN val s (k+s) n
theorem marksN_len {β:Type} (val:Nat->β) (s:Nat):∀ (n k:Nat),(marksN val s k n).length=n
 | 0,k=>rfl
 | n+1,k=>by rw[marksN,List.length_cons,marksN_len val s n]
theorem markL {β:Type} (val:Nat->β) (s N:Nat) (F:Nat->List β->Int->Int->Option (Int×List β)) 
  (hs:∀ (k:Nat) (a:List β) (kk n:Nat),n < a.length->a.length<=1048576->kk<=N->F (k+1) a kk n=F k (a.set n (val kk)) ((kk+s:Nat):Int) ((n+1:Nat):Int))
  (he:∀ (k:Nat) (a:List β) (kk n:Nat),a.length<=n->F (k+1) a kk n=some ((kk:Int),a)) :
  ∀ (k:Nat) (done rest:List β) (kk:Nat),kk+s*rest.length<=N->done.length+rest.length<=1048576->rest.length < k->F k (done++rest) kk done.length=some (((kk+s*rest.length:Nat):Int),done++marksN val s kk rest.length):=by
 intro k
 induction k with
 | zero=>intro done rest kk h0 h1 h2;omega
 | succ k ih =>
  intro done rest kk h0 h1 h2
  cases rest with
  | nil=>rw[he _ _ _ _ (by simp)];simp[marksN]
  | cons x r =>
   simp only[List.length_cons,Nat.mul_add,Nat.mul_one]at h0 h1 h2
   rw[hs _ _ _ _ (by simp) (by simp;omega) (by omega),List.set_append_right _ _ (Nat.le_refl _),Nat.sub_self,List.set_cons_zero]
   have:=ih (done++[val kk]) r (kk+s) (by omega) (by simp;omega) (by omega)
   simp only[List.append_assoc,List.singleton_append,List.length_append,List.length_singleton]at this
   rw[this]
   simp only[marksN,List.length_cons,Nat.mul_add,Nat.mul_one]
   congr 3
   omega
theorem heldL {β:Type} (val:Nat->β) (s N:Nat) {L:List β} (F:Nat->Int->Int->Option (Int ⊕ Int))
  (hs:∀ (k kk n:Nat) (h:n < L.length),n<=1048576->kk<=N->L[n]=val kk->F (k+1) kk n=F k ((kk+s:Nat):Int) ((n+1:Nat):Int))
  (he:∀ (k kk n:Nat),L.length<=n->F (k+1) kk n=some (.inl (kk:Int))) :
  ∀ (k:Nat) (done:List β) (kk m:Nat),L=done++marksN val s kk m->L.length<=1048576->kk+s*m<=N->m < k->F k kk done.length=some (.inl ((kk+s*m:Nat):Int)):=by
 intro k
 induction k with
 | zero=>intro done kk m h0 hL h1 h2;omega
 | succ k ih =>
  intro done kk m h0 hL h1 h2
  cases m with
  | zero=>rw[he _ _ _ (by rw[h0];simp[marksN])];simp
  | succ m =>
   have hl:done.length < L.length:=by rw[h0];simp[marksN]
   have hg:L[done.length]=val kk:=by
    have:L[done.length]? = some (val kk):=by rw[h0,List.getElem?_append_right (Nat.le_refl _),Nat.sub_self];rfl
    rw[List.getElem?_eq_getElem hl]at this
    exact Option.some.inj this
   simp only[Nat.mul_add,Nat.mul_one]at h1
   rw[hs _ _ _ hl (by omega) (by omega) hg]
   have:=ih (done++[val kk]) (kk+s) m (by rw[h0,List.append_assoc];rfl) hL (by omega) (by omega)
   rw[List.length_append,List.length_singleton]at this
   rw[this]
   simp only[Nat.mul_add,Nat.mul_one]
   congr 3
   omega
end Go.Fm
namespace Go.Proofs.YtnhefmibcnbehaaDoor
open Go Go.Fm
set_option maxRecDepth 1000000
def g_spec_l20Put_own_l0 (list_1:List Int) (n_2:Int):Nat->Int->Option Int
 | 0,_=>none
 | k+1,vat_4=>(cond (decide (vat_4 < (list_1.length:Int))) ((getI list_1 vat_4).bind λ v_7=>some (decide (v_7 < n_2))) (some false):Option (Bool)).bind λ v_6=>cond v_6 (g_spec_l20Put_own_l0 list_1 n_2 k (IntKind.wrap .i64 (vat_4+1))) (some vat_4)
def g_spec_l20Put_own (list_1:List Int) (n_2:Int):Option (List Int):=(g_spec_l20Put_own_l0 list_1 n_2 bigK 0).bind λ vat_5=>(cond (decide (vat_5 < (list_1.length:Int))) ((getI list_1 vat_5).bind λ v_9=>some (v_9==n_2)) (some false):Option (Bool)).bind λ v_8=>cond v_8 (some list_1) ((subL list_1 0 vat_5).bind λ v_10=>(app ([]:List Int) v_10).bind λ v_11=>(app v_11 [n_2]).bind λ v_12=>(subL list_1 vat_5 ((list_1.length:Nat):Int)).bind λ v_13=>(app v_12 v_13).bind λ v_14=>some v_14)
def g_spec_CallsOf_own_l0 (body_1:List GOp):Nat->(List Int)->Int->Option (List Int)
 | 0,_,_=>none
 | k+1,out_5,i_6=>cond (decide (i_6 < (body_1.length:Int))) (((getI body_1 i_6).bind λ v_9=>cond (v_9.Kind==2) ((getI body_1 i_6).bind λ v_10=>(g_spec_l20Put_own out_5 (IntKind.wrap .i64 v_10.N)).bind λ y_11=>some y_11) (some out_5):Option ((List Int))).bind λ out_8=>g_spec_CallsOf_own_l0 body_1 k out_8 (IntKind.wrap .i64 (i_6+1))) (some out_5)
def g_slices_Index_int_l0 (s_1:List Int) (v_2:Int) (v_5:Int):Nat->Int->Option (Unit ⊕ Int)
 | 0,_=>none
 | k+1,v_6=>cond (decide (v_6 < v_5)) ((getI s_1 v_6).bind λ v_8=>cond (v_2==v_8) (some (.inr v_6)) (g_slices_Index_int_l0 s_1 v_2 v_5 k (IntKind.wrap .i64 (v_6+1)))) (some (.inl ()))
def g_slices_Index_int (s_1:List Int) (v_2:Int):Option Int:=((g_slices_Index_int_l0 s_1 v_2 (s_1.length:Int) bigK 0).bind λ o=>match o with | .inl ()=>some (.inl ()) | .inr v_7=>some (.inr v_7):Option (Unit ⊕ Int)).bind λ o=>match o with | .inl ()=>some (-1) | .inr v_4=>some v_4
def g_slices_Contains_int (s_1:List Int) (v_2:Int):Option Bool:=(g_slices_Index_int s_1 v_2).bind λ y_4=>some (decide (y_4 ≥ 0))
def g_slices_Sort_int (x_1:List Int):Option (List Int):=gSort x_1
def g_impl_callsOf_l0 (v_4:List GOp) (v_5:Int):Nat->(List Int)->Int->Option (List Int)
 | 0,_,_=>none
 | k+1,out_6,v_7=>cond (decide (v_7 < v_5)) (((getI v_4 v_7).bind λ v_10=>(cond (v_10.Kind==2) ((g_slices_Contains_int out_6 (IntKind.wrap .i64 v_10.N)).bind λ y_12=>some (!y_12)) (some false):Option (Bool)).bind λ v_11=>cond v_11 ((app out_6 [IntKind.wrap .i64 v_10.N]).bind λ v_13=>some v_13) (some out_6):Option ((List Int))).bind λ out_9=>g_impl_callsOf_l0 v_4 v_5 k out_9 (IntKind.wrap .i64 (v_7+1))) (some out_6)
def g_impl_callsOf (body_1:List GOp):Option (List Int):=((g_impl_callsOf_l0 body_1 (body_1.length:Int) bigK ([]:List Int) 0).bind λ out_8=>some out_8:Option ((List Int))).bind λ out_3=>(g_slices_Sort_int out_3).bind λ y_14=>some y_14
def g_impl_TreeOf_imm (body_1:List GOp):Option (List GTree):=(g_impl_ShapeOk body_1).bind λ y_3=>cond (!y_3) (some []) ((g_impl_grow body_1).bind λ y_4=>some y_4.1)
end Go.Proofs.YtnhefmibcnbehaaDoor
namespace Go.Proofs.YtnhefmibcnbehaaDoor
open Go Go.Fm
set_option maxRecDepth 100000
theorem specIn_eq {x a b:Int}:g_spec_l01In x a b=some (decide (a<=x/\x<=b)):=by
 unfold g_spec_l01In
 by_cases h:x ≥ a
 ·rw[decide_eq_true h]
  simp only[cond_true]
  congr 1
  exact decide_eq_decide.2 ⟨λ h2=>⟨h,h2⟩,λ h2=>h2.2⟩
 ·rw[decide_eq_false h]
  simp only[cond_false]
  congr 1
  exact (decide_eq_false λ h2=>h h2.1).symm
theorem within_eq {x a b:Int}:g_impl_within x a b=some (decide (a<=x/\x<=b)):=by
 unfold g_impl_within
 by_cases h:a<=x
 ·rw[decide_eq_true h]
  simp only[cond_true]
  congr 1
  exact decide_eq_decide.2 ⟨λ h2=>⟨h,h2⟩,λ h2=>h2.2⟩
 ·rw[decide_eq_false h]
  simp only[cond_false]
  congr 1
  exact (decide_eq_false λ h2=>h h2.1).symm
theorem prims_eq:g_impl_prims=g_spec_l08Names:=by kernel_rfl
theorem name_eq (k:Int):g_impl_PrimName k=g_spec_PrimName k:=by
 unfold g_impl_PrimName g_spec_PrimName
 rw[prims_eq]
 unfold g_spec_l08Names
 simp only[Option.bind_some]
 rw[within_eq,specIn_eq]
 simp only[Option.bind_some]
 have key:∀ (b:Bool) (x y:Option Bs),cond b x y=cond (!b) y x:=λ b x y=>by cases b<;>rfl
 exact key _ _ _
theorem op_eq (o:GOp):g_impl_opOk o=g_spec_l09Op o:=by
 unfold g_impl_opOk g_spec_l09Op
 simp only[name_eq,within_eq,specIn_eq]
theorem name_tot (k:Int):∃ s,g_spec_PrimName k=some s:=by
 unfold g_spec_PrimName
 unfold g_spec_l08Names
 simp only[Option.bind_some]
 rw[specIn_eq]
 simp only[Option.bind_some]
 by_cases h:(0:Int)<=k/\k<=IntKind.wrap .i64 (((([[100,117,112],[100,114,111,112],[111,118,101,114],[110,105,112],[115,119,97,112],[43],[45],[42],[97,110,100],[111,114],[50,42],[50,47],[47,109,111,100],[64],[33],[97],[97,33],[101,109,105,116],[107,101,121],[112,117,115,104],[112,111,112],[105],[46],[110,111,112]]:List Bs).length:Nat):Int)-1)
 ·rw[decide_eq_true h,Bool.not_true,cond_false]
  have h2:k<=23:=h.2
  obtain ⟨x,hx,_⟩:=getI_ex (xs:=([[100,117,112],[100,114,111,112],[111,118,101,114],[110,105,112],[115,119,97,112],[43],[45],[42],[97,110,100],[111,114],[50,42],[50,47],[47,109,111,100],[64],[33],[97],[97,33],[101,109,105,116],[107,101,121],[112,117,115,104],[112,111,112],[105],[46],[110,111,112]]:List Bs)) (i:=k) h.1 (by simp;omega)
  rw[hx]
  exact ⟨_,rfl⟩
 ·rw[decide_eq_false h,Bool.not_false,cond_true]
  exact ⟨_,rfl⟩
theorem op_tot (o:GOp):∃ b,g_spec_l09Op o=some b:=by
 unfold g_spec_l09Op
 obtain ⟨s,hs⟩:=name_tot (IntKind.wrap .i64 o.N)
 rw[hs,specIn_eq,specIn_eq]
 simp only[Option.bind_some]
 cases o.Kind==0
 ·cases o.Kind==1
  ·cases o.Kind==2
   ·simp only[cond_false]
    by_cases h:3<=o.Kind/\o.Kind<=8
    ·rw[decide_eq_true h,cond_true]
     exact ⟨_,rfl⟩
    ·rw[decide_eq_false h,cond_false]
     exact ⟨_,rfl⟩
   ·exact ⟨_,rfl⟩
  ·exact ⟨_,rfl⟩
 ·exact ⟨_,rfl⟩
def okB (o:GOp):Bool:=(g_spec_l09Op o).getD false
theorem okB_eq (o:GOp):g_spec_l09Op o=some (okB o):=by
 obtain ⟨b,h⟩:=op_tot o
 unfold okB
 rw[h]
 rfl
def stepF (v:List Int) (o:GOp):Option (List Int) :=
 if o.Kind=3\/o.Kind=4\/o.Kind=6 then some (v++[o.Kind])
 else if o.Kind=5\/o.Kind=7 then (match v.getLast? with|none=>none|some l=>if decide (l=6)=decide (o.Kind=7) then some v.dropLast else none)
 else some v
def openF:List GOp->List Int->Option (List Int)
 | [],v=>some v
 | o::r,v=>(stepF v o).bind (openF r)
def openG:List GOp->List Int->Option (List Int)
 | [],v=>some v
 | o::r,v=>cond (okB o) ((stepF v o).bind (openG r)) none
theorem openG_eq:∀ (l:List GOp) (v:List Int),openG l v=cond (l.all okB) (openF l v) none
 | [],v=>rfl
 | o::r,v=>by
  rw[List.all_cons]
  unfold openG openF
  cases ho:okB o
  ·rfl
  ·rw[Bool.true_and,cond_true]
   cases hs:stepF v o with
   | none=>cases r.all okB<;>rfl
   | some w=>simp only[Option.bind_some];exact openG_eq r w
theorem stepF_len {v w:List Int} {o:GOp} (h:stepF v o=some w):w.length<=v.length+1:=by
 unfold stepF at h
 split at h
 ·cases h;simp
 ·split at h
  ·split at h
   ·cases h
   ·split at h
    ·cases h;simp;omega
    ·cases h
  ·cases h;omega
def sumE {β:Type} (e:β) (o:Option (List Int)):List Int ⊕ β:=match o with|some w=>.inl w|none=>.inr e
theorem kinds (k:Int):(k==3)=decide (k=3)/\(k==4)=decide (k=4)/\(k==5)=decide (k=5)/\(k==6)=decide (k=6)/\(k==7)=decide (k=7):=by
 refine ⟨?_,?_,?_,?_,?_⟩<;>rw[Bool.eq_iff_iff]<;>simp
theorem last_get {v:List Int} (h:v≠[]) (hl:v.length<=16777216):getI v (IntKind.wrap .i64 ((v.length:Int)-1))=v.getLast? ∧ subL v 0 (IntKind.wrap .i64 ((v.length:Int)-1))=some v.dropLast:=by
 have h0:0 < v.length:=by
  cases v with
  | nil=>exact absurd rfl h
  | cons a r=>simp
 rw[wI64 (by omega) (by omega),show (v.length:Int)-1=((v.length-1:Nat):Int) by omega,getI_nat,subL_take (by omega) (by omega),Int.toNat_natCast,List.getLast?_eq_getElem?,List.dropLast_eq_take]
 exact ⟨rfl,rfl⟩
theorem spec_step {β:Type} (e:β) (v:List Int) (o:GOp) (hl:v.length<=16777216) :
  ((cond (o.Kind==3) (some (o.Kind==3)) (cond (o.Kind==4) (some (o.Kind==4)) (some (o.Kind==6))):Option (Bool)).bind λ v_17=>cond v_17 ((app v [o.Kind]).bind λ v_23=>some (Sum.inl v_23)) ((cond (o.Kind==5) (some (o.Kind==5)) (some (o.Kind==7)):Option (Bool)).bind λ v_24=>cond v_24 ((cond ((v.length:Int)==0) (some true) ((getI v (IntKind.wrap .i64 ((v.length:Int)-1))).bind λ v_33=>some ((v_33==6) != (o.Kind==7))):Option (Bool)).bind λ v_29=>cond v_29 (some (Sum.inr e)) ((subL v 0 (IntKind.wrap .i64 ((v.length:Int)-1))).bind λ v_35=>some (Sum.inl v_35))) (some (Sum.inl v))):Option ((List Int) ⊕ β))=some (sumE e (stepF v o)):=by
 obtain ⟨e3,e4,e5,e6,e7⟩:=kinds o.Kind
 rw[e3,e4,e5,e6,e7]
 unfold stepF
 by_cases h3:o.Kind=3
 ·simp only[h3,decide_true,cond_true,Option.bind_some]
  rw[app_eq (by simp;omega)]
  rfl
 ·by_cases h4:o.Kind=4
  ·rw[decide_eq_false h3,cond_false,decide_eq_true h4,cond_true,Option.bind_some,cond_true,app_eq (by simp;omega),if_pos (.inr (.inl h4))]
   rfl
  ·by_cases h6:o.Kind=6
   ·rw[decide_eq_false h3,cond_false,decide_eq_false h4,cond_false,Option.bind_some,decide_eq_true h6,cond_true,app_eq (by simp;omega),if_pos (.inr (.inr h6))]
    rfl
   ·rw[decide_eq_false h3,cond_false,decide_eq_false h4,cond_false,Option.bind_some,decide_eq_false h6,cond_false,if_neg (by omega)]
    by_cases h57:o.Kind=5\/o.Kind=7
    ·have hc:(cond (decide (o.Kind=5)) (some (decide (o.Kind=5))) (some (decide (o.Kind=7))):Option Bool)=some true:=by
      rcases h57 with h|h
      ·rw[decide_eq_true h];rfl
      ·rw[decide_eq_true h,decide_eq_false (by omega)];rfl
     rw[hc,Option.bind_some,cond_true,if_pos h57]
     cases v with
     | nil=>rfl
     | cons a r =>
      obtain ⟨g1,g2⟩:=last_get (v:=a::r) (by simp) hl
      have hz:(((a::r).length:Int)==0)=false:=by simp;omega
      rw[hz,cond_false,g1,g2]
      obtain ⟨x,hx⟩:∃ x,(a::r).getLast? = some x:=by rw[List.getLast?_cons];exact ⟨_,rfl⟩
      rw[hx]
      simp only[Option.bind_some]
      have ex:(x==6)=decide (x=6):=(kinds x).2.2.2.1
      rw[ex]
      by_cases hq:decide (x=6)=decide (o.Kind=7)
      ·rw[hq,if_pos rfl]
       simp[sumE]
      ·rw[if_neg hq]
       have:(decide (x=6) != decide (o.Kind=7))=true:=by simpa using hq
       rw[this,cond_true]
       rfl
    ·have hc:(cond (decide (o.Kind=5)) (some (decide (o.Kind=5))) (some (decide (o.Kind=7))):Option Bool)=some false:=by
      rw[decide_eq_false (by omega),decide_eq_false (by omega)];rfl
     rw[hc,Option.bind_some,cond_false,if_neg h57]
     rfl
theorem impl_step {β:Type} (e:β) (v:List Int) (o:GOp) (hl:v.length<=16777216) :
  ((cond (o.Kind==3) (some true) (cond (o.Kind==4) (some true) (some (o.Kind==6))):Option (Bool)).bind λ v_19=>cond v_19 ((app v [o.Kind]).bind λ v_25=>some (Sum.inl v_25)) ((cond (o.Kind==5) (some true) (some (o.Kind==7)):Option (Bool)).bind λ v_26=>cond v_26 ((cond (decide ((IntKind.wrap .i64 ((v.length:Int)-1)) < 0)) (some true) ((getI v (IntKind.wrap .i64 ((v.length:Int)-1))).bind λ v_35=>some ((v_35==6) != (o.Kind==7))):Option (Bool)).bind λ v_31=>cond v_31 (some (Sum.inr e)) ((subL v 0 (IntKind.wrap .i64 ((v.length:Int)-1))).bind λ v_37=>some (Sum.inl v_37))) (some (Sum.inl v))):Option ((List Int) ⊕ β))=some (sumE e (stepF v o)):=by
 rw[<-spec_step e v o hl]
 have c1:∀ b:Bool,∀ x:Option Bool,(cond b (some true) x:Option Bool)=cond b (some b) x:=λ b x=>by cases b<;>rfl
 have c2:decide ((IntKind.wrap .i64 ((v.length:Int)-1)) < 0)=((v.length:Int)==0):=by
  rw[wI64 (by omega) (by omega)]
  by_cases h0:v.length=0
  ·rw[h0];rfl
  ·rw[decide_eq_false (by omega),beq_eq_false_iff_ne.2 (by omega)]
 rw[c2,c1 (o.Kind==3),c1 (o.Kind==4),c1 (o.Kind==5)]
theorem spec_l0 {body:List GOp} (hb:body.length<=1048576):∀ (k n:Nat) (v:List Int),n<=body.length->body.length-n < k->v.length<=n->g_spec_l09Open_l0 body k v n=some (sumE false (openF (body.drop n) v)):=by
 intro k
 induction k with
 | zero=>intro n v h0 h1;omega
 | succ k ih =>
  intro n v h0 h1 h2
  rw[g_spec_l09Open_l0]
  by_cases hn:n < body.length
  ·rw[decide_eq_true (by omega),cond_true,getI_nat,List.getElem?_eq_getElem hn,List.drop_eq_getElem_cons hn]
   simp only[Option.bind_some]
   rw[spec_step _ v body[n] (by omega)]
   simp only[Option.bind_some,openF]
   cases hs:stepF v body[n] with
   | none=>rfl
   | some w =>
    have:=stepF_len hs
    simp only[sumE,Option.bind_some]
    rw[wI64 (by omega) (by omega),show (n:Int)+1=((n+1:Nat):Int) by omega,ih (n+1) w (by omega) (by omega) (by omega)]
    rfl
  ·rw[decide_eq_false (by omega),cond_false,List.drop_eq_nil_of_le (by omega)]
   rfl
theorem impl_l0 {body:List GOp} (hb:body.length<=1048576):∀ (k n:Nat) (v:List Int),n<=body.length->body.length-n < k->v.length<=n->g_impl_openIn_l0 body (body.length:Int) k v n=some (sumE (([]:List Int),false) (openG (body.drop n) v)):=by
 intro k
 induction k with
 | zero=>intro n v h0 h1;omega
 | succ k ih =>
  intro n v h0 h1 h2
  rw[g_impl_openIn_l0]
  by_cases hn:n < body.length
  ·rw[decide_eq_true (by omega),cond_true,getI_nat,List.getElem?_eq_getElem hn,List.drop_eq_getElem_cons hn]
   simp only[Option.bind_some]
   rw[op_eq,okB_eq]
   simp only[Option.bind_some,openG]
   cases ho:okB body[n]
   ·rw[Bool.not_false,cond_true,cond_false]
    rfl
   ·rw[Bool.not_true,cond_false,cond_true,impl_step _ v body[n] (by omega)]
    simp only[Option.bind_some]
    cases hs:stepF v body[n] with
    | none=>rfl
    | some w =>
     have:=stepF_len hs
     simp only[sumE,Option.bind_some]
     rw[wI64 (by omega) (by omega),show (n:Int)+1=((n+1:Nat):Int) by omega,ih (n+1) w (by omega) (by omega) (by omega)]
     rfl
  ·rw[decide_eq_false (by omega),cond_false,List.drop_eq_nil_of_le (by omega)]
   rfl
theorem spec_open {body:List GOp} (hb:body.length<=1048576):g_spec_l09Open body=some (match openF body [] with|none=>([],false)|some w=>(w,true)):=by
 unfold g_spec_l09Open
 have h1:=spec_l0 hb bigK 0 [] (Nat.zero_le _) (by unfold bigK;omega) (Nat.le_refl _)
 rw[Int.natCast_zero,List.drop_zero]at h1
 rw[h1]
 cases openF body []<;>rfl
theorem impl_open {body:List GOp} (hb:body.length<=1048576):g_impl_openIn body=some (match cond (body.all okB) (openF body []) none with|none=>([],false)|some w=>(w,decide ((body.length:Int)<=60))):=by
 unfold g_impl_openIn
 have h1:=impl_l0 hb bigK 0 [] (Nat.zero_le _) (by unfold bigK;omega) (Nat.le_refl _)
 rw[Int.natCast_zero,List.drop_zero]at h1
 rw[h1,openG_eq]
 cases cond (body.all okB) (openF body []) none<;>rfl
def shapeB (body:List GOp):Bool:=decide (body.length<=60)&&body.all okB&&decide (openF body []=some [])
theorem specShape {body:List GOp} (hb:body.length<=1048576):g_spec_ShapeOk body=some (shapeB body):=by
 unfold g_spec_ShapeOk shapeB
 by_cases h60:body.length<=60
 ·rw[decide_eq_false (by omega),cond_false,decide_eq_true h60,spec_open hb]
  have:=allLoop (L:=body) (bad:=false) (λ _ o=>okB o) (g_spec_ShapeOk_l0 body) (λ k n x hx hn=>by
   rw[g_spec_ShapeOk_l0,decide_eq_true (by omega),cond_true,getI_nat,hx,Option.bind_some,okB_eq,Option.bind_some,wI64 (by omega) (by omega),show ((n:Int)+1)=((n+1:Nat):Int) by omega]
   cases okB x<;>rfl) (λ k n hn=>by rw[g_spec_ShapeOk_l0,decide_eq_false (by omega),cond_false]) (by omega)
  rw[this,allN_const,Bool.true_and]
  cases body.all okB with
  | false=>rfl
  | true =>
   simp only[cond_true,Option.bind_some,Bool.true_and]
   cases openF body [] with
   | none=>rfl
   | some w=>cases w<;>simp<;>omega
 ·rw[decide_eq_true (by omega),cond_true,decide_eq_false h60];rfl
theorem implShape {body:List GOp} (hb:body.length<=1048576):g_impl_ShapeOk body=some (shapeB body):=by
 unfold g_impl_ShapeOk shapeB
 rw[impl_open hb]
 cases body.all okB with
 | false=>simp
 | true =>
  simp only[cond_true,Option.bind_some,Bool.and_true]
  cases openF body [] with
  | none=>simp
  | some w =>
   by_cases h60:body.length<=60
   ·rw[decide_eq_true (p:=(body.length:Int)<=60) (by omega),decide_eq_true h60]
    cases w<;>simp<;>omega
   ·rw[decide_eq_false (p:=(body.length:Int)<=60) (by omega),decide_eq_false h60];simp
end Go.Proofs.YtnhefmibcnbehaaDoor
namespace Go.Proofs.YtnhefmibcnbehaaDoor
open Go Go.Fm
structure Same (u s:List Int) (n:Nat):Prop where
 asc:s.Pairwise (· < ·)
 nd:u.Nodup
 mem:∀ x,x ∈ u ↔ x ∈ s
 lu:u.length<=n
 ls:s.length<=n
end Go.Proofs.YtnhefmibcnbehaaDoor
namespace Go.Proofs.YtnhefmibcnbehaaDoor
open Go Go.Fm
inductive Rch (nx:Int->List Int) (k:Int):Int->Prop where
 | refl:Rch nx k k
 | step {x y:Int} (h:Rch nx k x) (hy:y ∈ nx x):Rch nx k y
end Go.Proofs.YtnhefmibcnbehaaDoor
namespace Go.Proofs.YtnhefmibcnbehaaDoor
open Go Go.Fm
set_option maxRecDepth 100000
def callsL (body:List GOp):List Int:=(g_impl_callsOf body).getD []
structure CallsOk (body:List GOp):Prop where
 i:g_impl_callsOf body=some (callsL body)
 s:g_spec_CallsOf_own_l0 body bigK [] 0=some (callsL body)
 m:∀ x,x ∈ callsL body ↔ ∃ o ∈ body,o.Kind=2/\x=IntKind.wrap .i64 o.N
 l:(callsL body).length<=60
def fallsB (body:List GOp):Bool:=shapeB body&&(decide (body.length=0) || decide (∃ o,body.getLast? = some o/\o.Kind≠8))
def bodyAt (defs:List GDef) (x:Int):List GOp:=match defs[x.toNat]? with|some d=>d.Body|none=>[]
def nx (defs:List GDef) (x:Int):List Int:=callsL (bodyAt defs x)++(if fallsB (bodyAt defs x)=true/\x+1 < defs.length then [x+1] else [])
structure DG (defs:List GDef):Prop where
 n:defs.length<=24
 s:∀ d ∈ defs,shapeB d.Body=true
 c:∀ d ∈ defs,∀ o ∈ d.Body,o.Kind=2->0<=IntKind.wrap .i64 o.N/\IntKind.wrap .i64 o.N < defs.length
structure RcI (defs:List GDef) (k:Int) (out:List Int) (i:Nat):Prop where
 nd:out.Nodup
 m0:k ∈ out
 v:∀ x ∈ out,0<=x/\x < defs.length
 r:∀ x ∈ out,Rch (nx defs) k x
 le:i<=out.length
 c:∀ (j:Nat) (x:Int),j < i->out[j]? = some x->∀ y ∈ nx defs x,y ∈ out
structure IsR (defs:List GDef) (k:Int) (r:List Int):Prop where
 asc:r.Pairwise (· < ·)
 v:∀ x ∈ r,0<=x/\x < defs.length
 m:∀ x,x ∈ r ↔ Rch (nx defs) k x
structure SI (defs:List GDef) (k:Int) (out:List Int):Prop where
 asc:out.Pairwise (· < ·)
 m0:k ∈ out
 v:∀ x ∈ out,0<=x/\x < defs.length
 r:∀ x ∈ out,Rch (nx defs) k x
end Go.Proofs.YtnhefmibcnbehaaDoor
namespace Go.Proofs.YtnhefmibcnbehaaDoor
open Go Go.Fm
set_option maxRecDepth 100000
structure DefSz (d:GDef):Prop where
 n:d.Name.length<=1048576
 b:d.Body.length<=1048576
theorem toOpS {a:List GOp} (h:a.length<=1048576):g_laws_toOpS a=some a:=by
 unfold g_laws_toOpS
 rw[mk_eq (by omega) (by omega),Option.bind_some,copyLoop (g_laws_toOpS_l0 a) (λ _ _ _=>rfl) (by omega) (by simp)]
 rfl
theorem toDefS {a:List GDef} (h:a.length<=1048576) (hd:∀ d ∈ a,DefSz d):g_laws_toDefS a=some a:=by
 unfold g_laws_toDefS
 rw[mk_eq (by omega) (by omega),Option.bind_some,copyM (a:=a) (g_laws_toDefS_l0 a) (λ k n out x y hx hn hy=>by
  rw[g_laws_toDefS_l0,decide_eq_true (by omega),cond_true,getI_nat,hx]
  simp only[Option.bind_some]
  unfold g_laws_toDef
  rw[toOpS (hd x (List.mem_of_getElem? hx)).b]
  simp only[Option.bind_some]
  rw[getI_nat,hy,nxt (by omega)]
  rfl) (λ k n out hn=>by rw[g_laws_toDefS_l0,decide_eq_false (by omega),cond_false]) (by omega) (by simp)]
 rfl
theorem eqOpS {a:List GOp} (h:a.length<=1048576):g_laws_eqOpS a a=some true :=
 eqRefl (g_laws_eqOpS_l0 a a) _ rfl (λ k n x hx hn=>by
  rw[g_laws_eqOpS_l0,decide_eq_true (by omega),cond_true,getI_nat,hx]
  unfold g_laws_eqOp
  simp only[Option.bind_some,bne_self',cond_false,Bool.not_true]
  rw[nxt (by omega)]) (λ k n hn=>by rw[g_laws_eqOpS_l0,decide_eq_false (by omega),cond_false]) (by omega)
theorem eqDefS {a:List GDef} (h:a.length<=1048576) (hd:∀ d ∈ a,DefSz d):g_laws_eqDefS a a=some true :=
 eqRefl (g_laws_eqDefS_l0 a a) _ rfl (λ k n x hx hn=>by
  rw[g_laws_eqDefS_l0,decide_eq_true (by omega),cond_true,getI_nat,hx]
  unfold g_laws_eqDef
  simp only[Option.bind_some,bne_self',cond_false]
  rw[eqOpS (hd x (List.mem_of_getElem? hx)).b]
  simp only[Option.bind_some,Bool.not_true,cond_false]
  rw[nxt (by omega)]) (λ k n hn=>by rw[g_laws_eqDefS_l0,decide_eq_false (by omega),cond_false]) (by omega)
def Fits (f:Int->Option Int) (c:Nat) (Q:Prop):Prop:=∀ left:Int,0<=left->left<=1048576->Tot (f left) λ r=>r < 0\/(0<=r/\r+c<=left/\Q)
theorem Fits.one {f:Int->Option Int} {n:Nat} (hn:n<=9223372036854775807) (hf:∀ left,f left=cond (decide ((IntKind.wrap .i64 (left-(n:Int))) < 0)) (some (-1)) (some (IntKind.wrap .i64 (left-(n:Int))))):Fits f n True:=λ left h0 h1=>by
 rw[hf,wI64 (by omega) (by omega)]
 exact .condD (λ _=>.some (.inl (by decide))) λ h=>.some (.inr ⟨by omega,by omega,trivial⟩)
theorem Fits.list {α:Type} {a:List α} {f:Int->Option Int} {F:Nat->Int->Int->Option (Int ⊕ Int)} {g:α->Int->Option Int} {Q:α->Prop} (hl:a.length<=9223372036854775807) (hg:∀ x ∈ a,Fits (g x) 0 (Q x))
  (hs:∀ k left i,F (k+1) left i=cond (decide (i < (a.length:Int))) ((getI a i).bind λ v=>(g v left).bind λ y=>cond (decide (y < 0)) (some (.inr (-1))) (F k y (IntKind.wrap .i64 (i+1)))) (some (.inl left)))
  (hf:∀ left,f left=cond (decide ((IntKind.wrap .i64 (left-(a.length:Int))) < 0)) (some (-1)) (((F bigK (IntKind.wrap .i64 (left-(a.length:Int))) 0).bind λ o=>match o with | .inl l=>some (.inl l) | .inr v=>some (.inr v):Option (Int ⊕ Int)).bind λ o=>match o with | .inl l=>some l | .inr v=>some v)) :
  Fits f a.length (∀ x ∈ a,Q x):=λ left h0 h1=>by
 rw[hf,wI64 (by omega) (by omega)]
 refine .condD (λ h=>.some (.inl (by decide))) λ h => ?_
 have key:∀ (k n:Nat) (l:Int),n<=a.length->a.length-n < k->0<=l->l<=left-a.length->(∀ x ∈ a.take n,Q x)->Tot (F k l (n:Int)) λ o=>match o with | .inl r=>0<=r/\r<=left-a.length/\∀ x ∈ a,Q x | .inr v=>v < 0:=by
  intro k
  induction k with
  | zero=>intro n l g0 g1;omega
  | succ k ih =>
   intro n l g0 g1 g2 g3 g4
   rw[hs]
   refine .condD (λ hi => ?_) λ hi=>.some ⟨g2,g3,by rw[List.take_of_length_le (by omega)]at g4;exact g4⟩
   have hn:n < a.length:=by omega
   refine .bindE (a:=a[n]) (by rw[getI_nat,List.getElem?_eq_getElem hn]) (.bind (hg _ (List.getElem_mem hn) l g2 (by omega)) λ y hy=>.condD (λ _=>.some (by show (-1:Int) < 0;decide)) λ hy0 => ?_)
   have hy:=hy.resolve_left hy0
   rw[nxt (by omega)]
   refine ih (n+1) y (by omega) (by omega) hy.1 (by omega) λ x hx => ?_
   rw[List.take_succ_eq_append_getElem hn]at hx
   rcases List.mem_append.1 hx with hx|hx
   ·exact g4 x hx
   ·rw[List.mem_singleton.1 hx];exact hy.2.2
 have k0:=key bigK 0 (left-a.length) (Nat.zero_le _) (by unfold bigK;omega) (by omega) (Int.le_refl _) (λ x hx=>by rw[List.take_zero]at hx;cases hx)
 obtain ⟨o,e,ho⟩:=k0
 rw[Int.natCast_zero]at e
 rw[e]
 cases o with
 | inl r=>exact .some (.inr ⟨ho.1,by have:=ho.2.1;omega,ho.2.2⟩)
 | inr u=>exact .some (.inl ho)
theorem Fits.weak {f:Int->Option Int} {c:Nat} {Q R:Prop} (h:Fits f c Q) (hq:c<=1048576->Q->R):Fits f 0 R:=λ left h0 h1=>(h left h0 h1).mono λ r hr=>by
 rcases hr with hr|hr
 ·exact .inl hr
 ·exact .inr ⟨hr.1,by omega,hq (by omega) hr.2.2⟩
structure DefW (d:GDef):Prop where
 n:d.Name.length<=LN
 b:d.Body.length<=LN
theorem fitsDefs {a:List GDef} (hl:a.length<=LN) (hd:∀ d ∈ a,DefW d):Fits (g_laws_szDefS a) 0 (a.length<=1048576/\∀ d ∈ a,DefSz d) :=
 Fits.weak (Fits.list (F:=g_laws_szDefS_l0 a) (g:=g_laws_szDef) hl (λ x hx=>(show Fits (g_laws_szDef x) 0 (DefSz x) from λ left h0 h1=>by
  have hw:=hd x hx
  unfold g_laws_szDef
  have hn:x.Name.length<=9223372036854775807:=hw.n
  rw[wI64 (by omega) (by omega)]
  refine .condD (λ _=>.some (.inl (by decide))) λ hk => ?_
  refine .bind ((Fits.one hw.b λ _=>rfl:Fits (g_laws_szOpS x.Body) _ _) _ (by omega) (by omega)) λ y hy=>.condD (λ _=>.some (.inl (by decide))) λ hy0 => ?_
  have hy:=hy.resolve_left hy0
  exact .some (.inr ⟨hy.1,by omega,⟨by omega,by omega⟩⟩))) (λ _ _ _=>rfl) (λ _=>rfl)) λ hc hq=>⟨hc,hq⟩
theorem markText_ok {k:Nat} (hk:k<=1152921504606846976):Tot (g_laws_markText k) λ _=>True:=by
 unfold g_laws_markText
 have key:∀ (f kk:Nat) (out:Bs),kk < f->kk+out.length<=1152921504606846976->Tot (g_laws_markText_l0 f kk out) λ r=>r.length<=1152921504606846976:=by
  intro f
  induction f with
  | zero=>intro kk out h0;omega
  | succ f ih =>
   intro kk out h0 h1
   unfold g_laws_markText_l0
   refine .condD (λ h => ?_) λ h=>.some (by omega)
   refine .bindE (catS_eq (by simp[strOf];omega)) ?_
   rw[Int.tdiv_eq_ediv_of_nonneg (by omega),wI64 (by omega) (by omega),show (kk:Int) / 10=((kk / 10:Nat):Int) by omega]
   exact ih _ _ (by omega) (by simp[strOf];omega)
 refine .condD (λ _=>.some trivial) λ _=>.bind (key bigK k [] (by unfold bigK;omega) (by simp;omega)) λ r hr=>.bindE (catS_eq (by simp;omega)) (.some trivial)
def mt (k:Nat):Bs:=(g_laws_markText k).getD []
theorem mt_eq {k:Nat} (hk:k<=1152921504606846976):g_laws_markText k=some (mt k):=by
 obtain ⟨r,hr,_⟩:=markText_ok hk
 unfold mt
 rw[hr];rfl
def opV (k:Nat):GOp:=⟨(k:Int),IntKind.wrap .i32 ((k:Int)+1)⟩
abbrev NN:Nat:=1152921504606846976
theorem w2 {k:Nat} (hk:k<=NN):IntKind.wrap .i64 ((k:Int)+1)=(k:Int)+1/\IntKind.wrap .i64 ((k:Int)+1+1)=(k:Int)+1+1 :=
 ⟨wI64 (by omega) (by have:k<=1152921504606846976:=hk;omega),wI64 (by omega) (by have:k<=1152921504606846976:=hk;omega)⟩
theorem markOpS {a:List GOp} (h:a.length<=1048576) {k:Nat} (hk:k+2*a.length<=NN):g_laws_markOpS a (k:Int)=some (((k+2*a.length:Nat):Int),marksN opV 2 k a.length):=by
 have:=markL opV 2 NN (g_laws_markOpS_l0) (λ f a kk n hn hl hk=>by
  obtain ⟨e1,e2⟩:=w2 hk
  rw[g_laws_markOpS_l0,decide_eq_true (by omega),cond_true,e1,e2]
  simp only[getI_nat,List.getElem?_eq_getElem hn,Option.bind_some,Int.toNat_natCast,List.getElem?_set_self,List.length_set,hn,List.set_set]
  rw[wI64 (x:=(n:Int)+1) (by omega) (by omega)]
  rfl) (λ f a kk n hn=>by rw[g_laws_markOpS_l0,decide_eq_false (by omega),cond_false]) bigK [] a k hk (by simpa using h) (by unfold bigK;omega)
 unfold g_laws_markOpS
 rw[List.nil_append,List.length_nil,show ((0:Nat):Int)=0 from rfl]at this
 rw[this];rfl
theorem heldOpS {n k:Nat} (h:n<=1048576) (hk:k+2*n<=NN):g_laws_heldOpS (marksN opV 2 k n) (k:Int)=some ((k+2*n:Nat):Int):=by
 have:=heldL opV 2 NN (L:=marksN opV 2 k n) (g_laws_heldOpS_l0 (marksN opV 2 k n)) (λ f kk i hi hl hk he=>by
  obtain ⟨e1,e2⟩:=w2 hk
  rw[g_laws_heldOpS_l0,decide_eq_true (by omega),cond_true,e1,e2]
  have hg:getI (marksN opV 2 k n) (i:Int)=some (opV kk):=by rw[getI_nat,List.getElem?_eq_getElem hi,he]
  simp only[hg,Option.bind_some]
  rw[show (opV kk).Kind=(kk:Int) from rfl,bne_self',cond_false,show (opV kk).N=IntKind.wrap .i32 ((kk:Int)+1) from rfl,bne_self',cond_false,
   wI64 (x:=(i:Int)+1) (by omega) (by omega)]
  rfl) (λ f kk i hi=>by rw[g_laws_heldOpS_l0,decide_eq_false (by omega),cond_false]) bigK [] k n (by simp) (by rw[marksN_len];exact h) hk (by unfold bigK;omega)
 unfold g_laws_heldOpS
 rw[List.length_nil,show ((0:Nat):Int)=0 from rfl]at this
 rw[this];rfl
def mkD:Nat->List GDef->List GDef
 | _,[]=>[]
 | k,d::r=>⟨mt k,marksN opV 2 (k+1) d.Body.length⟩::mkD (k+1+2*d.Body.length) r
def mkC:Nat->List GDef->Nat
 | k,[]=>k
 | k,d::r=>mkC (k+1+2*d.Body.length) r
theorem markDef_l0:∀ (f:Nat) (done rest:List GDef) (kk:Nat),kk+2097153*rest.length<=1152921504606846976->done.length+rest.length<=1048576->(∀ d ∈ rest,d.Body.length<=1048576)->rest.length < f →
  g_laws_markDefS_l0 f (done++rest) (kk:Int) (done.length:Int)=some ((mkC kk rest:Int),done++mkD kk rest):=by
 intro f
 induction f with
 | zero=>intro done rest kk h0 h1 h2 h3;omega
 | succ f ih =>
  intro done rest kk h0 h1 h2 h3
  cases rest with
  | nil=>rw[g_laws_markDefS_l0,decide_eq_false (by simp),cond_false];simp[mkC,mkD]
  | cons d r =>
   simp only[List.length_cons,Nat.mul_add,Nat.mul_one]at h0 h1 h3
   have hb:=h2 d (List.mem_cons_self ..)
   rw[g_laws_markDefS_l0,decide_eq_true (by simp;omega),cond_true,mt_eq (k:=kk) (by omega)]
   have e1:∀ x:GDef,getI (done++x::r) (done.length:Int)=some x:=λ x=>by rw[getI_nat,List.getElem?_append_right (Nat.le_refl _),Nat.sub_self];rfl
   have e2:∀ x y:GDef,(done++x::r).set ((done.length:Int)).toNat y=done++y::r:=λ x y=>by rw[Int.toNat_natCast,List.set_append_right _ _ (Nat.le_refl _),Nat.sub_self,List.set_cons_zero]
   have e3:IntKind.wrap .i64 ((kk:Int)+1)=((kk+1:Nat):Int):=by rw[wI64 (by omega) (by omega)];omega
   simp only[Option.bind_some,e1,e2,e3]
   rw[markOpS (k:=kk+1) hb (by show _<=1152921504606846976;omega)]
   simp only[Option.bind_some,e2]
   rw[wI64 (x:=(done.length:Int)+1) (by omega) (by omega)]
   have:=ih (done++[⟨mt kk,marksN opV 2 (kk+1) d.Body.length⟩]) r (kk+1+2*d.Body.length) (by omega) (by simp;omega) (λ x hx=>h2 x (List.mem_cons_of_mem _ hx)) (by omega)
   simp only[List.append_assoc,List.singleton_append,List.length_append,List.length_singleton]at this
   rw[show ((done.length+1:Nat):Int)=(done.length:Int)+1 by omega]at this
   rw[this]
   rfl
theorem markDefS {a:List GDef} (h:a.length<=1048576) (hd:∀ d ∈ a,DefSz d):g_laws_markDefS a 1=some ((mkC 1 a:Int),mkD 1 a):=by
 have:=markDef_l0 bigK [] a 1 (by omega) (by simpa using h) (λ d hd'=>(hd d hd').b) (by unfold bigK;omega)
 unfold g_laws_markDefS
 rw[List.nil_append,List.length_nil,show ((0:Nat):Int)=0 from rfl,show ((1:Nat):Int)=1 from rfl]at this
 rw[this];rfl
theorem heldDef_l0 {L:List GDef}:∀ (f:Nat) (done rest:List GDef) (kk:Nat),L=done++mkD kk rest->kk+2097153*rest.length<=1152921504606846976->done.length+rest.length<=1048576->(∀ d ∈ rest,d.Body.length<=1048576)->rest.length < f →
  g_laws_heldDefS_l0 L f (kk:Int) (done.length:Int)=some (.inl (mkC kk rest:Int)):=by
 intro f
 induction f with
 | zero=>intro done rest kk hL h0 h1 h2 h3;omega
 | succ f ih =>
  intro done rest kk hL h0 h1 h2 h3
  cases rest with
  | nil=>rw[g_laws_heldDefS_l0,hL,decide_eq_false (by simp[mkD]),cond_false];rfl
  | cons d r =>
   simp only[List.length_cons,Nat.mul_add,Nat.mul_one]at h0 h1 h3
   have hb:=h2 d (List.mem_cons_self ..)
   have e1:getI L (done.length:Int)=some ⟨mt kk,marksN opV 2 (kk+1) d.Body.length⟩:=by rw[hL,mkD,getI_nat,List.getElem?_append_right (Nat.le_refl _),Nat.sub_self];rfl
   have e3:IntKind.wrap .i64 ((kk:Int)+1)=((kk+1:Nat):Int):=by rw[wI64 (by omega) (by omega)];omega
   have hlt:(done.length:Int) < (L.length:Int):=by rw[hL,mkD];simp;omega
   rw[g_laws_heldDefS_l0,decide_eq_true hlt,cond_true,mt_eq (k:=kk) (by omega),e1,e3]
   simp only[Option.bind_some,bne_self',cond_false]
   rw[heldOpS (k:=kk+1) hb (by show _<=1152921504606846976;omega)]
   simp only[Option.bind_some]
   rw[decide_eq_false (by omega),cond_false,wI64 (x:=(done.length:Int)+1) (by omega) (by omega)]
   have:=ih (done++[⟨mt kk,marksN opV 2 (kk+1) d.Body.length⟩]) r (kk+1+2*d.Body.length) (by rw[hL,mkD,List.append_assoc];rfl) (by omega) (by simp;omega) (λ x hx=>h2 x (List.mem_cons_of_mem _ hx)) (by omega)
   simp only[List.length_append,List.length_singleton]at this
   rw[show ((done.length+1:Nat):Int)=(done.length:Int)+1 by omega]at this
   rw[this]
   rfl
theorem heldDefS {a:List GDef} (h:a.length<=1048576) (hd:∀ d ∈ a,DefSz d):g_laws_heldDefS (mkD 1 a) 1=some (mkC 1 a:Int):=by
 have:=heldDef_l0 (L:=mkD 1 a) bigK [] a 1 rfl (by omega) (by simpa using h) (λ d hd'=>(hd d hd').b) (by unfold bigK;omega)
 unfold g_laws_heldDefS
 rw[List.length_nil,show ((0:Nat):Int)=0 from rfl,show ((1:Nat):Int)=1 from rfl]at this
 rw[this];rfl
end Go.Proofs.YtnhefmibcnbehaaDoor
namespace Go.Proofs.YtnhefmibcnbehaaDoor
open Go Go.Fm
theorem specIn_eqQ {x a b:Int}:g_spec_l01In x a b=some (decide (a<=x/\x<=b)):=by
 unfold g_spec_l01In
 by_cases h:x ≥ a
 ·rw[decide_eq_true h]
  simp only[cond_true]
  congr 1
  exact decide_eq_decide.2 ⟨λ h2=>⟨h,h2⟩,λ h2=>h2.2⟩
 ·rw[decide_eq_false h]
  simp only[cond_false]
  congr 1
  exact (decide_eq_false λ h2=>h h2.1).symm
end Go.Proofs.YtnhefmibcnbehaaDoor
namespace Go.Proofs.YtnhefmibcnbehaaDoor
open Go Go.Fm
theorem within_eqQ {x a b:Int}:g_impl_within x a b=some (decide (a<=x/\x<=b)):=by
 unfold g_impl_within
 by_cases h:a<=x
 ·rw[decide_eq_true h]
  simp only[cond_true]
  congr 1
  exact decide_eq_decide.2 ⟨λ h2=>⟨h,h2⟩,λ h2=>h2.2⟩
 ·rw[decide_eq_false h]
  simp only[cond_false]
  congr 1
  exact (decide_eq_false λ h2=>h h2.1).symm
def Letters:Bs:=[32,114,116,111,101,97,110,105,115,109,99,121,108,103,102,119,100,118,112,98,104,120,117,113,48,49,50,51,52,53,54,55,56,57,106,45,107,46,122,47,59,39,33,43,64,42,44,63]
theorem letters_len:Letters.length=48:=rfl
theorem idxB_bd {l:List UInt8} {c:Int} : -1<=idxB l c/\idxB l c < l.length:=by
 unfold idxB
 cases h:l.findIdx? (λ b=>(b.toNat:Int)==c) with
 | none=>exact ⟨by decide,by show (-1:Int) < _;omega⟩
 | some i =>
  have:=(List.findIdx?_eq_some_iff_getElem.1 h).1
  exact ⟨by show (-1:Int)<=(i:Int);omega,by show (i:Int) < _;omega⟩
theorem letterOf_ok {b:Int} (h0:0<=b) (h1:b < 256):Tot (g_impl_LetterOf b) λ r => -1<=r/\r<=47:=by
 unfold g_impl_LetterOf g_strings_IndexByte g_istringslite_IndexByte g_ibytealg_IndexByteString gIdxB
 refine .bindE (a:=Letters) rfl (.bind (Q:=λ r => -1<=r/\r<=47) (.bind (Q:=λ r => -1<=r/\r<=47) ?_ λ r h=>.some h) λ r h=>.some h)
 refine .bind (Q:=λ r => -1<=r/\r<=47) ?_ λ r h=>.some h
 rw[if_pos ⟨h0,h1⟩]
 refine .some ⟨idxB_bd.1,?_⟩
 have:=(idxB_bd (l:=Letters) (c:=b)).2
 rw[letters_len]at this
 omega
end Go.Proofs.YtnhefmibcnbehaaDoor
namespace Go.Proofs.YtnhefmibcnbehaaDoor
open Go Go.Fm
theorem letterOf_all:(List.range 256).all (λ b=>g_spec_LetterOf (b:Int)==g_impl_LetterOf (b:Int))=true:=by kernel_rfl
theorem letterOf_eq {b:Int} (h0:0<=b) (h1:b < 256):g_spec_LetterOf b=g_impl_LetterOf b:=by
 have h:=List.all_eq_true.1 letterOf_all b.toNat (List.mem_range.2 (by omega))
 rw[Int.toNat_of_nonneg h0]at h
 exact eq_of_beq h
def good (b:UInt8):Bool:=match g_impl_LetterOf (b.toNat:Int) with|some k=>decide (1<=k)|none=>false
theorem good_of {b:UInt8} {k:Int} (h:g_impl_LetterOf (b.toNat:Int)=some k):good b=decide (1<=k):=by unfold good;rw[h]
theorem idxS_nat {s:List UInt8} {n:Nat} (h:n < s.length):idxS s (n:Int)=some ((s[n].toNat:Nat):Int):=by
 unfold idxS
 rw[if_pos ⟨by omega,by omega⟩,Int.toNat_natCast,List.getD_eq_getElem?_getD,List.getElem?_eq_getElem h]
 rfl
theorem specNameOk_l0 {s:Bs} (hs:s.length<=1048576):∀ (k n:Nat),n<=s.length->s.length-n < k->g_spec_NameOk_l0 s k n=some (if (s.drop n).all good then .inl () else .inr false):=by
 intro k
 induction k with
 | zero=>intro n h0 h1;omega
 | succ k ih =>
  intro n h0 h1
  unfold g_spec_NameOk_l0
  by_cases hn:n < s.length
  ·have hb:=UInt8.toNat_lt s[n]
   obtain ⟨x,hx,x0,x1⟩:=letterOf_ok (b:=(s[n].toNat:Int)) (by omega) (by omega)
   rw[decide_eq_true (by omega),idxS_nat hn,List.drop_eq_getElem_cons hn,List.all_cons,good_of hx]
   simp only[cond_true,Option.bind_some,letterOf_eq (b:=(s[n].toNat:Int)) (by omega) (by omega),hx]
   by_cases hc:x < 1
   ·rw[decide_eq_true hc,decide_eq_false (p:=1<=x) (by omega)];rfl
   ·rw[decide_eq_false hc,decide_eq_true (p:=1<=x) (by omega),cond_false,wI64 (by omega) (by omega),show ((n:Int)+1)=((n+1:Nat):Int) by omega,ih (n+1) (by omega) (by omega),Bool.true_and]
  ·rw[decide_eq_false (by omega),List.drop_eq_nil_of_le (by omega)];rfl
theorem implNameOk_l0 {s:Bs} (hs:s.length<=1048576):∀ (k n:Nat),n<=s.length->s.length-n < k->g_impl_NameOk_l0 s (s.length:Int) k n=some (if (s.drop n).all good then .inl () else .inr false):=by
 intro k
 induction k with
 | zero=>intro n h0 h1;omega
 | succ k ih =>
  intro n h0 h1
  unfold g_impl_NameOk_l0
  by_cases hn:n < s.length
  ·have hb:=UInt8.toNat_lt s[n]
   obtain ⟨x,hx,x0,x1⟩:=letterOf_ok (b:=(s[n].toNat:Int)) (by omega) (by omega)
   rw[decide_eq_true (by omega),idxS_nat hn,List.drop_eq_getElem_cons hn,List.all_cons,good_of hx]
   simp only[cond_true,Option.bind_some,hx]
   by_cases hc:x < 1
   ·rw[decide_eq_true hc,decide_eq_false (p:=1<=x) (by omega)];rfl
   ·rw[decide_eq_false hc,decide_eq_true (p:=1<=x) (by omega),cond_false,wI64 (by omega) (by omega),show ((n:Int)+1)=((n+1:Nat):Int) by omega,ih (n+1) (by omega) (by omega),Bool.true_and]
  ·rw[decide_eq_false (by omega),List.drop_eq_nil_of_le (by omega)];rfl
def named (s:Bs):Bool:=s.all good&&decide (1<=s.length/\s.length<=24)
theorem implNameOk {s:Bs} (hs:s.length<=1048576):g_impl_NameOk s=some (named s):=by
 unfold g_impl_NameOk named
 have h:=implNameOk_l0 hs bigK 0 (Nat.zero_le _) (by unfold bigK;omega)
 rw[show ((0:Nat):Int)=0 from rfl]at h
 rw[h,List.drop_zero,within_eqQ]
 cases s.all good with
 | false=>rfl
 | true =>
  simp only[if_true,Option.bind_some,Bool.true_and]
  congr 1
  exact decide_eq_decide.2 (by omega)
theorem specNameOk {s:Bs} (hs:s.length<=1048576):g_spec_NameOk s=some (named s):=by
 unfold g_spec_NameOk named
 have h:=specNameOk_l0 hs bigK 0 (Nat.zero_le _) (by unfold bigK;omega)
 rw[show ((0:Nat):Int)=0 from rfl]at h
 rw[h,List.drop_zero,specIn_eqQ]
 have e:decide ((1:Int)<=s.length/\(s.length:Int)<=24)=decide (1<=s.length/\s.length<=24):=decide_eq_decide.2 (by omega)
 rw[e]
 cases decide (1<=s.length/\s.length<=24)<;>cases s.all good<;>rfl
end Go.Proofs.YtnhefmibcnbehaaDoor
namespace Go.Proofs.YtnhefmibcnbehaaDoor
open Go Go.Fm
set_option maxRecDepth 100000
theorem idxLoop {α:Type} {L:List α} (p:α->Bool) (F:Nat->Int->Option (Unit ⊕ Int)) (step:∀ (k n:Nat) (x:α),L[n]? = some x->n < L.length->F (k+1) n=cond (p x) (some (.inr (n:Int))) (F k ((n+1:Nat):Int)))
  (fin:∀ k n:Nat,L.length<=n->F (k+1) n=some (.inl ())) (hm:L.length<=16777216):∃ o,F bigK 0=some o/\(match o with | .inl _=>L.any p=false | .inr v=>0<=v/\L.any p=true):=by
 have key:∀ (k n:Nat),n<=L.length->L.length-n < k->∃ o,F k n=some o/\(match o with | .inl _=>(L.drop n).any p=false | .inr v=>0<=v/\(L.drop n).any p=true):=by
  intro k
  induction k with
  | zero=>intro n h0 h1;omega
  | succ k ih =>
   intro n h0 h1
   by_cases hn:n < L.length
   ·rw[step k n L[n] (List.getElem?_eq_getElem hn) hn,List.drop_eq_getElem_cons hn,List.any_cons]
    cases hp:p L[n] with
    | true=>exact ⟨_,rfl,by show 0<=(n:Int)/\_;exact ⟨by omega,rfl⟩⟩
    | false =>
     rw[cond_false,Bool.false_or]
     exact ih (n+1) (by omega) (by omega)
   ·rw[fin k n (by omega),List.drop_eq_nil_of_le (by omega)]
    exact ⟨_,rfl,rfl⟩
 have:=key bigK 0 (Nat.zero_le _) (by unfold bigK;omega)
 rw[List.drop_zero]at this
 exact this
def tooFar (n:Int) (o:GOp):Bool:=o.Kind==2&&decide (IntKind.wrap .i64 o.N ≥ n)
theorem below_eq {body:List GOp} {n:Int} (hb:body.length<=1048576):g_impl_callsBelow body n=some (!(body.any (tooFar n))):=by
 unfold g_impl_callsBelow g_slices_ContainsFunc_Op_impl_callsBelowc1 g_slices_IndexFunc_Op_impl_callsBelowc1
 obtain ⟨o,h1,h2⟩:=idxLoop (L:=body) (tooFar n) (g_slices_IndexFunc_Op_impl_callsBelowc1_l0 body (body.length:Int) n) (λ k i x hx hi=>by
  rw[g_slices_IndexFunc_Op_impl_callsBelowc1_l0,decide_eq_true (by omega),cond_true,getI_nat,hx,Option.bind_some]
  unfold g_impl_callsBelowc1 tooFar
  rw[nxt (by omega)]
  cases x.Kind==2<;>rfl) (λ k i hi=>by rw[g_slices_IndexFunc_Op_impl_callsBelowc1_l0,decide_eq_false (by omega),cond_false]) (by omega)
 rw[h1]
 cases o with
 | inl u=>simp only[Option.bind_some];rw[h2];rfl
 | inr v=>simp only[Option.bind_some];rw[h2.2,decide_eq_true h2.1]
def defB (n:Int) (d:GDef):Bool:=named d.Name&&shapeB d.Body && !(d.Body.any (tooFar n))
def defsB (defs:List GDef):Bool:=decide (defs.length<=24)&&defs.all (defB defs.length)
structure DW (defs:List GDef):Prop where
 n:defs.length<=1048576
 d:∀ d ∈ defs,DefSz d
theorem DW.l {defs:List GDef} (h:DW defs):∀ d ∈ defs,d.Body.length<=1048576:=λ d hd=>(h.d d hd).b
theorem defsOk_impl {defs:List GDef} (h:DW defs):g_impl_DefsOk defs=some (defsB defs):=by
 have hn:=h.n
 unfold g_impl_DefsOk defsB
 by_cases hl:defs.length<=24
 ·rw[decide_eq_true (by omega),decide_eq_true hl,cond_true,Bool.true_and]
  unfold g_slices_ContainsFunc_Def_impl_DefsOkc1 g_slices_IndexFunc_Def_impl_DefsOkc1
  obtain ⟨o,h1,h2⟩:=idxLoop (L:=defs) (λ d => !(defB defs.length d)) (g_slices_IndexFunc_Def_impl_DefsOkc1_l0 defs (defs.length:Int) defs) (λ k i d hx hi=>by
   have hd:=List.mem_of_getElem? hx
   rw[g_slices_IndexFunc_Def_impl_DefsOkc1_l0,decide_eq_true (by omega),cond_true,getI_nat,hx,Option.bind_some]
   unfold g_impl_DefsOkc1
   have:=h.l d hd
   rw[implNameOk (h.d d hd).n,implShape (by omega),below_eq (by omega),nxt (by omega)]
   unfold defB
   cases named d.Name<;>cases shapeB d.Body<;>cases d.Body.any (tooFar defs.length)<;>rfl) (λ k i hi=>by rw[g_slices_IndexFunc_Def_impl_DefsOkc1_l0,decide_eq_false (by omega),cond_false]) (by omega)
  rw[h1]
  have e:defs.all (defB defs.length) = !(defs.any λ d => !(defB defs.length d)):=by rw[List.not_any_eq_all_not];simp
  rw[e]
  cases o with
  | inl u=>simp only[Option.bind_some];rw[h2];rfl
  | inr v=>simp only[Option.bind_some];rw[h2.2,decide_eq_true h2.1]
 ·rw[decide_eq_false (by omega),decide_eq_false hl,cond_false,Bool.false_and]
theorem defsOk_spec {defs:List GDef} (h:DW defs):g_spec_DefsOk defs=some (defsB defs):=by
 have hn:=h.n
 unfold g_spec_DefsOk defsB
 by_cases hl:defs.length<=24
 ·rw[decide_eq_false (by omega),decide_eq_true hl,cond_false,Bool.true_and]
  have h0:=allLoop (L:=defs) (bad:=false) (λ _ d=>defB defs.length d) (g_spec_DefsOk_l0 defs) (λ k n d hx hi=>by
   have hd:=List.mem_of_getElem? hx
   have hb:=h.l d hd
   have h1:=allLoop (L:=d.Body) (bad:=false) (λ _ o => !(tooFar defs.length o)) (g_spec_DefsOk_l1 defs (n:Int)) (λ k m o ho hm=>by
    rw[g_spec_DefsOk_l1,getI_nat,hx]
    simp only[Option.bind_some]
    rw[decide_eq_true (by omega),cond_true,getI_nat,ho]
    simp only[Option.bind_some]
    rw[nxt (by omega)]
    unfold tooFar
    cases o.Kind==2
    ·rfl
    ·simp only[cond_true,Option.bind_some,Bool.true_and]
     cases decide (IntKind.wrap .i64 o.N ≥ (defs.length:Int))<;>rfl) (λ k m hm=>by
    rw[g_spec_DefsOk_l1,getI_nat,hx]
    simp only[Option.bind_some]
    rw[decide_eq_false (by omega),cond_false]) (by omega)
   rw[g_spec_DefsOk_l0,decide_eq_true (by omega),cond_true,getI_nat,hx]
   simp only[Option.bind_some]
   rw[specNameOk (h.d d hd).n,specShape (by omega),h1,allN_const,nxt (by omega)]
   unfold defB
   have e:(d.Body.all λ o => !(tooFar defs.length o)) = !(d.Body.any (tooFar defs.length)):=by rw[List.not_any_eq_all_not]
   rw[e]
   cases named d.Name<;>cases shapeB d.Body<;>cases d.Body.any (tooFar defs.length)<;>rfl) (λ k n hi=>by rw[g_spec_DefsOk_l0,decide_eq_false (by omega),cond_false]) (by omega)
  rw[h0,allN_const]
  cases defs.all (defB defs.length)<;>rfl
 ·rw[decide_eq_true (by omega),decide_eq_false hl,cond_true,Bool.false_and]
theorem okB_call {o:GOp} (h:okB o=true) (hk:o.Kind=2):0<=IntKind.wrap .i64 o.N:=by
 have:=okB_eq o
 rw[h]at this
 unfold g_spec_l09Op at this
 rw[hk]at this
 simp only[show ((2:Int)==0)=false from rfl,show ((2:Int)==1)=false from rfl,show ((2:Int)==2)=true from rfl,cond_false,cond_true]at this
 rw[specIn_eq]at this
 simp only[Option.bind_some,Option.some.injEq,decide_eq_true_eq]at this
 exact this.1
theorem DG.of {defs:List GDef} (h:defsB defs=true):DG defs:=by
 unfold defsB at h
 rw[Bool.and_eq_true,decide_eq_true_eq,List.all_eq_true]at h
 refine ⟨h.1,λ d hd => ?_,λ d hd o ho hk => ?_⟩
 ·have:=h.2 d hd
  unfold defB at this
  rw[Bool.and_eq_true,Bool.and_eq_true]at this
  exact this.1.2
 ·have:=h.2 d hd
  unfold defB at this
  rw[Bool.and_eq_true,Bool.and_eq_true,Bool.not_eq_true',List.any_eq_false]at this
  have h2:=this.2 o ho
  have h1:=this.1.2
  unfold shapeB at h1
  simp only[Bool.and_eq_true,List.all_eq_true]at h1
  have h3:=okB_call (h1.1.2 o ho) hk
  unfold tooFar at h2
  rw[hk]at h2
  simp only[beq_self_eq_true,Bool.true_and,decide_eq_true_eq]at h2
  omega
theorem nnN (n:Nat):decide ((n:Int) < 0)=false:=decide_eq_false (by omega)
end Go.Proofs.YtnhefmibcnbehaaDoor
namespace Go.Proofs.YtnhefmibcnbehaaDoor
open Go Go.Fm
def nestB (k:Int):Bool:=decide (k=3\/k=4\/k=6)
def endsK (k:Int):Int:=if k=6 then 7 else 5
mutual
def flT:GTree->List GOp
 | ⟨k,n,ks⟩=>⟨k,n⟩::(if nestB k then flS ks++[⟨endsK k,0⟩] else [])
def flS:List GTree->List GOp
 | []=>[]
 | t::r=>flT t++flS r
end
mutual
def gdT:GTree->Prop
 | ⟨k,_,ks⟩=>k≠5/\k≠7/\(nestB k=false->ks=[])/\gdS ks
def gdS:List GTree->Prop
 | []=>True
 | t::r=>gdT t/\gdS r
end
theorem kind3 (k:Int) {α:Type} (x:Bool->Option α):((cond (k==3) (some true) (cond (k==4) (some true) (some (k==6))):Option Bool).bind x)=x (nestB k):=by
 unfold nestB
 by_cases h3:k=3
 ·subst h3;rfl
 ·by_cases h4:k=4
  ·subst h4;rfl
  ·by_cases h6:k=6
   ·subst h6;rfl
   ·have e3:(k==3)=false:=by simp[h3]
    have e4:(k==4)=false:=by simp[h4]
    have e6:(k==6)=false:=by simp[h6]
    rw[e3,e4,e6,cond_false,cond_false,decide_eq_false (by omega)];rfl
theorem kind3' (k:Int) {α:Type} (x:Bool->Option α):((cond (k==3) (some (k==3)) (cond (k==4) (some (k==4)) (some (k==6))):Option Bool).bind x)=x (nestB k):=by
 refine Eq.trans ?_ (kind3 k x)
 cases h3:(k==3)
 ·cases h4:(k==4)
  ·rfl
  ·rfl
 ·rfl
theorem kind5 (k:Int) {α:Type} (x:Bool->Option α):((cond (k==5) (some (k==5)) (some (k==7)):Option Bool).bind x)=x (decide (k=5\/k=7)):=by
 by_cases h5:k=5
 ·subst h5;rfl
 ·have e5:(k==5)=false:=by simp[h5]
  rw[e5,cond_false]
  by_cases h7:k=7
  ·subst h7;rfl
  ·have e7:(k==7)=false:=by simp[h7]
   rw[e7,decide_eq_false (by omega)];rfl
def Bal (body:List GOp) (i j:Nat):Prop:=i<=body.length->∀ w,openF (body.drop i) w=some []->(w=[]->j=body.length)/\(∀ v x,w=v++[x]->j < body.length/\(∃ p,body[j]? = some p/\p.Kind=endsK x)/\openF (body.drop (j+1)) v=some [])
theorem okB_end {o:GOp} (h:okB o=true) (hk:o.Kind=5\/o.Kind=7):o.N=0:=by
 have:=okB_eq o
 rw[h]at this
 unfold g_spec_l09Op at this
 rw[show (o.Kind==0)=false by rw[beq_eq_false_iff_ne];omega,show (o.Kind==1)=false by rw[beq_eq_false_iff_ne];omega,show (o.Kind==2)=false by rw[beq_eq_false_iff_ne];omega,cond_false,cond_false,cond_false,specIn_eq,decide_eq_true (by omega)]at this
 simpa using this
structure Got (body:List GOp) (i:Nat) (ts:List GTree) (j:Nat):Prop where
 le:i<=j
 top:j<=max i (2*body.length-i)
 gd:gdS ts
 size:(flS ts).length=j-i
 len:ts.length<=j-i
 bal:Bal body i j
 cont:(∀ o ∈ body,okB o=true)->i<=body.length->∀ w,openF (body.drop i) w=some []->flS ts=(body.drop i).take (j-i)
theorem take_mid {α:Type} (l:List α) (a b:Nat) (x:α) (r:List α) (h:l.drop a=x::r):l.take (a+1+b)=l.take a++x::r.take b:=by
 rw[Nat.add_assoc,List.take_add,h,Nat.add_comm 1 b,List.take_succ_cons]
theorem par_loop {body:List GOp} (hb:body.length<=1048576):∀ (m i:Nat),body.length-i<=m->i<=2*body.length->∀ (rk k:Nat),m<=rk->m < k->∀ out:List GTree,out.length+m<=2097152 →
  ∃ ts j,Got body i ts j ∧
   g_impl_grow_l0 (g_impl_grow_r rk) k (body.drop i) out=some (if j < body.length then .inr (out++ts,body.drop (j+1)) else .inl (out++ts)):=by
 intro m
 induction m with
 | zero =>
  intro i hm hi rk k h1 h2 out ho
  obtain ⟨k,rfl⟩:∃ k',k=k'+1:=⟨k-1,by omega⟩
  refine ⟨[],i,⟨Nat.le_refl _,by omega,trivial,by simp[flS],by simp,?_,λ _ _ _ _=>by simp[flS]⟩,?_⟩
  ·intro hl w hw
   have:i=body.length:=by omega
   rw[this,List.drop_length]at hw
   cases hw
   exact ⟨λ _=>this,λ v x e=>by cases v<;>cases e⟩
  ·rw[List.drop_eq_nil_of_le (by omega),g_impl_grow_l0,if_neg (by omega)]
   simp
 | succ m ih =>
  intro i hm hi rk k h1 h2 out ho
  obtain ⟨k,rfl⟩:∃ k',k=k'+1:=⟨k-1,by omega⟩
  obtain ⟨rk,rfl⟩:∃ k',rk=k'+1:=⟨rk-1,by omega⟩
  by_cases hn:i < body.length
  case neg =>
   refine ⟨[],i,⟨Nat.le_refl _,by omega,trivial,by simp[flS],by simp,?_,λ _ _ _ _=>by simp[flS]⟩,?_⟩
   ·intro hl w hw
    have:i=body.length:=by omega
    rw[this,List.drop_length]at hw
    cases hw
    exact ⟨λ _=>this,λ v x e=>by cases v<;>cases e⟩
   ·rw[List.drop_eq_nil_of_le (by omega),g_impl_grow_l0,if_neg (by omega)]
    simp
  have hd:body.drop i=body[i]::body.drop (i+1):=List.drop_eq_getElem_cons hn
  have hg:getI body (i:Int)=some body[i]:=by rw[getI_nat,List.getElem?_eq_getElem hn]
  generalize ho':body[i]=o at hd hg
  have e2:getI (o::body.drop (i+1)) 0=some o:=rfl
  have e3:subL (o::body.drop (i+1)) 1 ((o::body.drop (i+1)).length:Int)=some (body.drop (i+1)):=by
   rw[subL_drop (by omega) (by simp only[List.length_cons];omega)];rfl
  have e0:decide (((o::body.drop (i+1)).length:Int) > 0)=true:=by simp
  rw[hd,g_impl_grow_l0,e0,cond_true,e2,e3]
  simp only[Option.bind_some]
  rw[kind5]
  by_cases h57:o.Kind=5\/o.Kind=7
  ·-- what ends
   rw[decide_eq_true h57]
   refine ⟨[],i,⟨Nat.le_refl _,by omega,trivial,by simp[flS],by simp,?_,λ _ _ _ _=>by simp[flS]⟩,?_⟩
   ·intro hl w hw
    rw[hd,openF]at hw
    unfold stepF at hw
    rw[if_neg (by omega),if_pos h57]at hw
    cases hw':w.getLast? with
    | none=>rw[hw']at hw;cases hw
    | some l =>
     rw[hw']at hw
     refine ⟨λ e=>(by rw[e]at hw';cases hw'),λ v x e=>⟨hn,?_,?_⟩⟩
     ·subst e
      rw[List.getLast?_concat]at hw'
      cases hw'
      refine ⟨o,by rw[List.getElem?_eq_getElem hn,ho'],?_⟩
      by_cases hl6:decide (l=6)=decide (o.Kind=7)
      ·unfold endsK
       by_cases hx:l=6
       ·rw[if_pos hx]
        rw[decide_eq_true hx]at hl6
        exact of_decide_eq_true hl6.symm
       ·rw[if_neg hx]
        rw[decide_eq_false hx]at hl6
        have:=of_decide_eq_false hl6.symm
        omega
      ·simp only[if_neg hl6]at hw;cases hw
     subst e
     by_cases hl6:decide (l=6)=decide (o.Kind=7)
     ·simp only[hl6,if_true,Option.bind_some,List.dropLast_concat]at hw
      exact hw
     ·simp only[if_neg hl6]at hw;cases hw
   ·rw[if_pos hn];simp
  ·rw[decide_eq_false h57]
   simp only[cond_false]
   rw[kind3']
   by_cases hne:nestB o.Kind=true
   ·-- what holds others
    rw[hne,cond_true]
    obtain ⟨ts,j,g1,g3⟩:=ih (i+1) (by omega) (by omega) rk bigK (by omega) (by unfold bigK;omega) [] (by simp;omega)
    have hj:=g1.top
    have hjl:=g1.le
    have e4:g_impl_grow_r (rk+1) (body.drop (i+1))=some (ts,body.drop (j+1)):=by
     rw[g_impl_grow_r,g_impl_grow_b,g3]
     by_cases hjn:j < body.length
     ·rw[if_pos hjn];rfl
     ·rw[if_neg hjn,List.drop_eq_nil_of_le (by omega)];rfl
    rw[e4]
    simp only[Option.bind_some]
    rw[app_eq (by simp;omega)]
    simp only[Option.bind_some]
    obtain ⟨ts2,j2,f1,f3⟩:=ih (j+1) (by omega) (by omega) (rk+1) k (by omega) (by omega) (out++[⟨o.Kind,o.N,ts⟩]) (by simp;omega)
    refine ⟨⟨o.Kind,o.N,ts⟩::ts2,j2,⟨by have:=f1.le;omega,by have:=f1.top;omega,?_,?_,?_,?_,?_⟩,?_⟩
    ·rw[gdS,gdT]
     exact ⟨⟨λ h=>h57 (.inl h),λ h=>h57 (.inr h),λ h=>absurd (hne.symm.trans h) (by simp),g1.gd⟩,f1.gd⟩
    ·rw[flS,flT,hne,if_pos rfl]
     have a1:=g1.size
     have a2:=f1.size
     have a3:=f1.le
     simp only[List.length_append,List.length_cons,List.length_nil,a1,a2]
     omega
    ·have a2:=f1.len
     have a3:=f1.le
     simp only[List.length_cons];omega
    ·intro hl w hw
     rw[hd,openF]at hw
     unfold stepF at hw
     unfold nestB at hne
     rw[if_pos (of_decide_eq_true hne),Option.bind_some]at hw
     obtain ⟨c1,_,c2⟩:=(g1.bal (by omega) _ hw).2 w o.Kind rfl
     exact f1.bal (by omega) w c2
    ·intro hok hl w hw
     rw[hd,openF]at hw
     unfold stepF at hw
     have hne':=hne
     unfold nestB at hne'
     rw[if_pos (of_decide_eq_true hne'),Option.bind_some]at hw
     obtain ⟨c1,⟨p,c3,c4⟩,c2⟩:=(g1.bal (by omega) _ hw).2 w o.Kind rfl
     have d1:=g1.cont hok (by omega) _ hw
     have d2:=f1.cont hok (by omega) w c2
     have hp:p=⟨endsK o.Kind,0⟩:=by
      have hm:=List.mem_of_getElem? c3
      have hk:p.Kind=5\/p.Kind=7:=by rw[c4];unfold endsK;split<;>simp
      have h0:=okB_end (hok p hm) hk
      obtain ⟨a,b⟩:=p
      simp only at c4 h0
      rw[c4,h0]
     have hjd:body.drop j=p::body.drop (j+1):=by
      rw[List.drop_eq_getElem_cons c1]
      rw[List.getElem?_eq_getElem c1]at c3
      rw[Option.some.inj c3]
     have a3:=f1.le
     rw[flS,flT,hne,if_pos rfl,d1,d2,hd,show j2-i=(j-(i+1)+1+(j2-(j+1)))+1 by omega,List.take_succ_cons,take_mid (body.drop (i+1)) (j-(i+1)) (j2-(j+1)) p (body.drop (j+1)) (by rw[List.drop_drop,show i+1+(j-(i+1))=j by omega,hjd]),hp]
     simp
    ·rw[f3];simp
   ·-- a plain one
    have hne:nestB o.Kind=false:=by simpa using hne
    rw[hne]
    simp only[cond_false,Option.bind_some]
    rw[app_eq (by simp;omega)]
    simp only[Option.bind_some]
    obtain ⟨ts2,j2,f1,f3⟩:=ih (i+1) (by omega) (by omega) (rk+1) k (by omega) (by omega) (out++[⟨o.Kind,o.N,[]⟩]) (by simp;omega)
    refine ⟨⟨o.Kind,o.N,[]⟩::ts2,j2,⟨by have:=f1.le;omega,by have:=f1.top;omega,?_,?_,?_,?_,?_⟩,?_⟩
    ·rw[gdS,gdT]
     exact ⟨⟨λ h=>h57 (.inl h),λ h=>h57 (.inr h),λ _=>rfl,trivial⟩,f1.gd⟩
    ·rw[flS,flT,hne,if_neg (by simp)]
     have a2:=f1.size
     have a3:=f1.le
     simp only[List.length_append,List.length_cons,List.length_nil,a2]
     omega
    ·have a2:=f1.len
     have a3:=f1.le
     simp only[List.length_cons];omega
    ·intro hl w hw
     rw[hd,openF]at hw
     unfold stepF at hw
     unfold nestB at hne
     rw[if_neg (of_decide_eq_false hne),if_neg h57,Option.bind_some]at hw
     exact f1.bal (by omega) w hw
    ·intro hok hl w hw
     rw[hd,openF]at hw
     unfold stepF at hw
     have hne':=hne
     unfold nestB at hne'
     rw[if_neg (of_decide_eq_false hne'),if_neg h57,Option.bind_some]at hw
     have d2:=f1.cont hok (by omega) w hw
     have a3:=f1.le
     rw[flS,flT,hne,if_neg (by simp),d2,hd,show j2-i=(j2-(i+1))+1 by omega,List.take_succ_cons]
     rfl
    ·rw[f3];simp
inductive OkS (P:Int->Int->Prop):List GTree->Prop where
 | nil:OkS P []
 | cons {k n:Int} {ks r:List GTree} (h:P k n) (hl:ks.length<=60) (hk:OkS P ks) (hr:OkS P r):OkS P (⟨k,n,ks⟩::r)
theorem flT_pos (t:GTree):1<=(flT t).length:=by
 obtain ⟨k,n,ks⟩:=t;rw[flT];simp
theorem flS_len:∀ ts:List GTree,ts.length<=(flS ts).length
 | []=>Nat.le_refl _
 | t::r=>by
  have:=flT_pos t
  have:=flS_len r
  rw[flS,List.length_append,List.length_cons];omega
theorem treesC {body:List GOp} (hs:shapeB body=true):∃ ts,gdS ts/\flS ts=body/\ts.length<=60/\g_impl_TreeOf_imm body=some ts:=by
 have hs':=hs
 unfold shapeB at hs
 simp only[Bool.and_eq_true,decide_eq_true_eq]at hs
 obtain ⟨⟨h60,ho⟩,hp⟩:=hs
 obtain ⟨ts,j,g,e2⟩:=par_loop (body:=body) (by omega) body.length 0 (by omega) (by omega) (bigK-1) bigK (by unfold bigK;omega) (by unfold bigK;omega) [] (by simp;omega)
 have hj:j=body.length:=((g.bal (by omega)) [] (by simpa using hp)).1 rfl
 subst hj
 have hl:=g.len
 have hc:=g.cont (List.all_eq_true.1 ho) (by omega) [] (by simpa using hp)
 rw[List.drop_zero,Nat.sub_zero,List.take_length]at hc
 refine ⟨ts,g.gd,hc,by omega,?_⟩
 rw[g_impl_TreeOf_imm,implShape (by omega),hs',Option.bind_some,Bool.not_true,cond_false,g_impl_grow,show bigK=(bigK-1)+1 from rfl,g_impl_grow_r,g_impl_grow_b]
 rw[List.drop_zero,if_neg (by omega)]at e2
 rw[e2];simp
end Go.Proofs.YtnhefmibcnbehaaDoor
namespace Go.Proofs.YtnhefmibcnbehaaDoor
open Go Go.Fm
theorem nest3 (k:Int) {α:Type} (x:Bool->Option α):((cond (k != 3) (cond (k != 4) (some (k != 6)) (some false)) (some false):Option Bool).bind x)=x (!nestB k):=by
 unfold nestB
 by_cases h3:k=3
 ·subst h3;rfl
 ·by_cases h4:k=4
  ·subst h4;rfl
  ·by_cases h6:k=6
   ·subst h6;rfl
   ·have e3:(k != 3)=true:=by simp[h3]
    have e4:(k != 4)=true:=by simp[h4]
    have e6:(k != 6)=true:=by simp[h6]
    rw[e3,e4,e6,cond_true,cond_true,decide_eq_false (by omega)];rfl
theorem iflat_loop {rk:Nat} (hr:∀ ts body,gdS ts->(flS ts).length < rk->body.length+(flS ts).length<=60->g_impl_flat_r rk ts body=some (body++flS ts,true)) {ts:List GTree} (hl:ts.length<=60) :
  ∀ (k i:Nat) (b:List GOp),i<=ts.length->ts.length-i < k->gdS (ts.drop i)->b.length+(flS (ts.drop i)).length<=60->(flS (ts.drop i)).length<=rk →
  g_impl_flat_l0 (g_impl_flat_r rk) ts (ts.length:Int) k b (i:Int)=some (.inl (b++flS (ts.drop i))):=by
 intro k
 induction k with
 | zero=>intro i b h0 h1;omega
 | succ k ih =>
  intro i b h0 h1 hg hb hk
  rw[g_impl_flat_l0]
  by_cases hn:i < ts.length
  case neg =>
   rw[decide_eq_false (by omega),cond_false,List.drop_eq_nil_of_le (by omega),flS,List.append_nil]
  have hd:ts.drop i=ts[i]::ts.drop (i+1):=List.drop_eq_getElem_cons hn
  have hgi:getI ts (i:Int)=some ts[i]:=by rw[getI_nat,List.getElem?_eq_getElem hn]
  rw[hd]at hg hb hk ⊢
  rw[decide_eq_true (by omega),cond_true,hgi]
  generalize ts[i]=t at hg hb hk ⊢
  obtain ⟨kd,n,ks⟩:=t
  rw[gdS,gdT]at hg
  obtain ⟨⟨g5,g7,gk,gs⟩,gr⟩:=hg
  rw[flS,flT]at hb hk ⊢
  simp only[List.length_append,List.length_cons]at hb hk
  simp only[Option.bind_some]
  rw[decide_eq_false (by omega),cond_false,show (kd==5)=false by simp[g5],show (kd==7)=false by simp[g7]]
  simp only[cond_false,Option.bind_some]
  have hw:IntKind.wrap .i64 ((i:Int)+1)=((i+1:Nat):Int):=by rw[wI64 (by omega) (by omega)];omega
  rw[app_eq (by simp;omega),hw]
  cases hne:nestB kd with
  | false =>
   rw[hne,if_neg (by simp)]at hb hk
   have hks:=gk hne
   subst hks
   rw[if_neg (by simp)]
   have e:∀ x:Int,((cond (kd==6) (some (Sum.inl 7)) (some (Sum.inl 5)):Option (Int ⊕ Bool)))=some (.inl (endsK kd)):=λ x=>by
    unfold endsK
    by_cases h6:kd=6
    ·subst h6;rfl
    ·rw[if_neg h6,show (kd==6)=false by simp[h6]];rfl
   rw[e 0]
   simp only[Option.bind_some]
   rw[nest3,hne]
   simp only[Bool.not_false,cond_true,List.length_nil,List.append_nil,List.cons_append,List.nil_append]at hb hk ⊢
   rw[decide_eq_false (by omega),cond_false]
   simp only[Option.bind_some]
   rw[ih (i+1) (b++[(⟨kd,n⟩:GOp)]) (by omega) (by omega) gr (by simp;omega) (by omega)]
   simp
  | true =>
   rw[hne,if_pos rfl]at hb hk
   rw[if_pos rfl]
   simp only[List.length_append,List.length_cons,List.length_nil]at hb hk
   have e:((cond (kd==6) (some (Sum.inl 7)) (some (Sum.inl 5)):Option (Int ⊕ Bool)))=some (.inl (endsK kd)):=by
    unfold endsK
    by_cases h6:kd=6
    ·subst h6;rfl
    ·rw[if_neg h6,show (kd==6)=false by simp[h6]];rfl
   rw[e]
   simp only[Option.bind_some]
   rw[nest3,hne]
   simp only[Bool.not_true,cond_false]
   rw[hr ks (b++[(⟨kd,n⟩:GOp)]) gs (by omega) (by simp;omega)]
   simp only[Option.bind_some,Bool.not_true,cond_false]
   rw[app_eq (by simp;omega)]
   simp only[Option.bind_some]
   rw[ih (i+1) _ (by omega) (by omega) gr (by simp;omega) (by omega)]
   simp
theorem iflat:∀ rk ts body,gdS ts->(flS ts).length < rk->body.length+(flS ts).length<=60->g_impl_flat_r rk ts body=some (body++flS ts,true):=by
 intro rk
 induction rk with
 | zero=>intro ts body h1 h2;omega
 | succ rk ih =>
  intro ts body h1 h2 h3
  have:=flS_len ts
  have h:=iflat_loop ih (ts:=ts) (by omega) bigK 0 body (by omega) (by unfold bigK;omega) (by simpa using h1) (by simpa using h3) (by simp;omega)
  rw[List.drop_zero,show ((0:Nat):Int)=0 from rfl]at h
  rw[g_impl_flat_r,g_impl_flat_b,h];rfl
theorem emp_l0 (v:List GTree) (n:Int):∀ (k:Nat) (b:List GOp) (i:Int),g_impl_flat_emp_l0 v n k b i=g_impl_flat_l0 (g_impl_flat_r bigK) v n k b i:=by
 intro k
 induction k with
 | zero=>intro b i;rfl
 | succ k ih =>
  intro b i
  rw[g_impl_flat_emp_l0,g_impl_flat_l0]
  simp only[ih]
  rfl
theorem iflat_emp {ts:List GTree} (h1:gdS ts) (h3:(flS ts).length<=60):g_impl_flat_emp ts=some (flS ts,true):=by
 have:=flS_len ts
 have h:=iflat_loop (iflat bigK) (ts:=ts) (by omega) bigK 0 [] (by omega) (by unfold bigK;omega) (by simpa using h1) (by simpa using h3) (by unfold bigK;simp;omega)
 rw[List.drop_zero,show ((0:Nat):Int)=0 from rfl]at h
 rw[g_impl_flat_emp,emp_l0,h];rfl
mutual
def prT:GTree->GTree
 | ⟨k,n,ks⟩=>⟨k,n,prS ks⟩
def prS:List GTree->List GTree
 | []=>[]
 | t::r=>prT t::(if t.Kind=8 then [] else prS r)
end
mutual
theorem prT_ok:∀ t:GTree,gdT t->gdT (prT t)/\(flT (prT t)).length<=(flT t).length
 | ⟨k,n,ks⟩,h=>by
  rw[gdT]at h
  obtain ⟨h1,h2,h3,h4⟩:=h
  obtain ⟨g1,g2⟩:=prS_ok ks h4
  rw[prT,gdT,flT,flT]
  refine ⟨⟨h1,h2,λ e=>by rw[h3 e];rfl,g1⟩,?_⟩
  cases nestB k with
  | false=>simp
  | true=>simp;exact g2
theorem prS_ok:∀ ts:List GTree,gdS ts->gdS (prS ts)/\(flS (prS ts)).length<=(flS ts).length
 | [],h=>⟨trivial,Nat.le_refl _⟩
 | t::r,h=>by
  rw[gdS]at h
  obtain ⟨g1,g2⟩:=prT_ok t h.1
  obtain ⟨f1,f2⟩:=prS_ok r h.2
  rw[prS,gdS,flS,flS]
  by_cases h8:t.Kind=8
  ·rw[if_pos h8]
   refine ⟨⟨g1,trivial⟩,?_⟩
   rw[flS];simp;omega
  ·rw[if_neg h8]
   refine ⟨⟨g1,f1⟩,?_⟩
   simp;omega
end
theorem kids_lt {t:GTree} (h:gdT t):(flS t.Kids).length < (flT t).length:=by
 obtain ⟨k,n,ks⟩:=t
 rw[gdT]at h
 obtain ⟨h1,h2,h3,h4⟩:=h
 rw[flT]
 cases hn:nestB k with
 | false=>rw[h3 hn];simp[flS]
 | true=>simp;omega
theorem ipr_loop {rec:List GTree->Option (List GTree)} {F:Nat->List GTree->Int->Option (List GTree)} {ts:List GTree} {B:Nat} (hB:B<=1000)
  (hF:∀ (k:Nat) (out:List GTree) (i:Int),F (k+1) out i=cond (decide (i < (ts.length:Int))) ((getI ts i).bind λ v_9=>(rec v_9.Kids).bind λ y_10=>(app out [(⟨v_9.Kind,v_9.N,y_10⟩:GTree)]).bind λ v_11=>cond (v_9.Kind==8) (some v_11) (F k v_11 (IntKind.wrap .i64 (i+1)))) (some out))
  (hr:∀ ks,gdS ks->(flS ks).length < B->rec ks=some (prS ks)) (hl:ts.length<=1000) :
  ∀ (k i:Nat) (out:List GTree),i<=ts.length->ts.length-i < k->gdS (ts.drop i)->(flS (ts.drop i)).length<=B->out.length<=i->F k out (i:Int)=some (out++prS (ts.drop i)):=by
 intro k
 induction k with
 | zero=>intro i out h0 h1;omega
 | succ k ih =>
  intro i out h0 h1 hg hb ho
  rw[hF]
  by_cases hn:i < ts.length
  case neg=>rw[decide_eq_false (by omega),cond_false,List.drop_eq_nil_of_le (by omega),prS,List.append_nil]
  rw[decide_eq_true (by omega),cond_true,getI_nat,List.getElem?_eq_getElem hn]
  have hd:ts.drop i=ts[i]::ts.drop (i+1):=List.drop_eq_getElem_cons hn
  rw[hd]at hg hb ⊢
  generalize ts[i]=t at hg hb ⊢
  rw[gdS]at hg
  have:=kids_lt hg.1
  have hp:=flT_pos t
  rw[flS,List.length_append]at hb
  simp only[Option.bind_some]
  obtain ⟨kd,n,ks⟩:=t
  have hks:=hg.1
  rw[gdT]at hks
  rw[hr ks hks.2.2.2 (by simp only at this;omega),prS,prT]
  simp only[Option.bind_some]
  rw[app_eq (by simp;omega)]
  simp only[Option.bind_some]
  rw[wI64 (by omega) (by omega),show ((i:Int)+1)=((i+1:Nat):Int) by omega]
  by_cases h8:kd=8
  ·rw[if_pos h8,show (kd==8)=true by simp[h8],cond_true]
  ·rw[if_neg h8,show (kd==8)=false by simp[h8],cond_false,ih (i+1) _ (by omega) (by omega) hg.2 (by omega) (by simp;omega)]
   simp
theorem ipruned_imm:∀ (rk:Nat) (ts:List GTree),gdS ts->(flS ts).length < rk->(flS ts).length<=1000->g_impl_pruned_imm_r rk ts=some (prS ts):=by
 intro rk
 induction rk with
 | zero=>intro ts h1 h2;omega
 | succ rk ih =>
  intro ts h1 h2 h3
  have:=flS_len ts
  have h:=ipr_loop (B:=(flS ts).length) h3 (rec:=g_impl_pruned_imm_r rk) (F:=g_impl_pruned_imm_l0 (g_impl_pruned_imm_r rk) ts (ts.length:Int)) (λ k out i=>by rw[g_impl_pruned_imm_l0]) (λ ks hk hk2=>ih ks hk (by omega) (by omega)) (by omega) bigK 0 [] (by omega) (by unfold bigK;omega) (by simpa using h1) (by simp) (by simp)
  rw[List.drop_zero,show ((0:Nat):Int)=0 from rfl]at h
  rw[g_impl_pruned_imm_r,g_impl_pruned_imm_b,h];rfl
theorem ipruned {ts:List GTree} (h1:gdS ts) (h3:(flS ts).length<=1000):g_impl_pruned ts=some (prS ts):=by
 have:=flS_len ts
 have h:=ipr_loop (B:=(flS ts).length) h3 (rec:=g_impl_pruned_imm) (F:=g_impl_pruned_l0 ts (ts.length:Int)) (λ k out i=>by rw[g_impl_pruned_l0]) (λ ks hk hk2=>ipruned_imm bigK ks hk (by unfold bigK;omega) (by omega)) (by omega) bigK 0 [] (by omega) (by unfold bigK;omega) (by simpa using h1) (by simp) (by simp)
 rw[List.drop_zero,show ((0:Nat):Int)=0 from rfl]at h
 rw[g_impl_pruned,h];rfl
end Go.Proofs.YtnhefmibcnbehaaDoor
namespace Go.Proofs.YtnhefmibcnbehaaDoor
open Go Go.Fm
theorem step_nest {v:List Int} {k n:Int} (h:nestB k=true):stepF v ⟨k,n⟩=some (v++[k]):=by
 unfold stepF nestB at *
 rw[if_pos (of_decide_eq_true h)]
theorem step_end {v:List Int} {k n:Int} (h:nestB k=true):stepF (v++[k]) ⟨endsK k,n⟩=some v:=by
 unfold nestB at h
 have h:=of_decide_eq_true h
 have e:(v++[k]).getLast? = some k:=List.getLast?_concat
 have e2:(v++[k]).dropLast=v:=List.dropLast_concat
 unfold stepF endsK
 by_cases h6:k=6
 ·subst h6
  rw[if_pos rfl,if_neg (by show ¬((7:Int)=3\/(7:Int)=4\/(7:Int)=6);omega),if_pos (.inr rfl),e,e2];rfl
 ·rw[if_neg h6,if_neg (by show ¬((5:Int)=3\/(5:Int)=4\/(5:Int)=6);omega),if_pos (.inl rfl),e,e2]
  show (if decide (k=6)=decide ((5:Int)=7) then _ else _)=_
  rw[decide_eq_false h6];rfl
theorem step_plain {v:List Int} {k n:Int} (h:nestB k=false) (h5:k≠5) (h7:k≠7):stepF v ⟨k,n⟩=some v:=by
 unfold nestB at h
 have h:=of_decide_eq_false h
 unfold stepF
 rw[if_neg h,if_neg (by show ¬(k=5\/k=7);omega)]
mutual
theorem openT:∀ (t:GTree) (rest:List GOp) (v:List Int),gdT t->openF (flT t++rest) v=openF rest v
 | ⟨k,n,ks⟩,rest,v,h=>by
  rw[gdT]at h
  rw[flT,List.cons_append,openF]
  cases hn:nestB k with
  | true =>
   rw[step_nest hn,Option.bind_some,if_pos rfl,List.append_assoc,openS ks _ _ h.2.2.2,List.singleton_append,openF,step_end hn];rfl
  | false=>rw[step_plain hn h.1 h.2.1,Option.bind_some,if_neg (by simp),List.nil_append]
theorem openS:∀ (ts:List GTree) (rest:List GOp) (v:List Int),gdS ts->openF (flS ts++rest) v=openF rest v
 | [],rest,v,h=>rfl
 | t::r,rest,v,h=>by
  rw[gdS]at h
  rw[flS,List.append_assoc,openT t _ _ h.1,openS r _ _ h.2]
end
theorem openS0 {ts:List GTree} (h:gdS ts):openF (flS ts) []=some []:=by
 have:=openS ts [] [] h
 rwa [List.append_nil]at this
mutual
theorem prT_sub:∀ (t:GTree) (o:GOp),o ∈ flT (prT t)->o ∈ flT t
 | ⟨k,n,ks⟩,o,h=>by
  rw[prT,flT]at h
  rw[flT]
  cases hn:nestB k with
  | true =>
   rw[hn,if_pos rfl]at h
   rw[if_pos rfl]
   rcases List.mem_cons.1 h with h|h
   ·exact List.mem_cons.2 (.inl h)
   ·rcases List.mem_append.1 h with h|h
    ·exact List.mem_cons.2 (.inr (List.mem_append_left _ (prS_sub ks o h)))
    ·exact List.mem_cons.2 (.inr (List.mem_append_right _ h))
  | false =>
   rw[hn,if_neg (by simp)]at h
   rw[if_neg (by simp)]
   exact h
theorem prS_sub:∀ (ts:List GTree) (o:GOp),o ∈ flS (prS ts)->o ∈ flS ts
 | [],o,h=>by rw[prS]at h;exact h
 | t::r,o,h=>by
  rw[prS,flS]at h
  rw[flS]
  rcases List.mem_append.1 h with h|h
  ·exact List.mem_append_left _ (prT_sub t o h)
  ·refine List.mem_append_right _ (prS_sub r o ?_)
   by_cases h8:t.Kind=8
   ·rw[if_pos h8]at h;cases h
   ·rw[if_neg h8]at h;exact h
end
theorem shape_of {ts:List GTree} (h:gdS ts) (hl:(flS ts).length<=60) (ho:∀ o ∈ flS ts,okB o=true):shapeB (flS ts)=true:=by
 unfold shapeB
 rw[openS0 h]
 simp only[Bool.and_eq_true,decide_eq_true_eq,List.all_eq_true]
 exact ⟨⟨hl,ho⟩,trivial⟩
theorem shape_ok {b:List GOp} (h:shapeB b=true):b.length<=60/\(∀ o ∈ b,okB o=true):=by
 unfold shapeB at h
 simp only[Bool.and_eq_true,decide_eq_true_eq,List.all_eq_true]at h
 exact h.1
def tr (b:List GOp):List GTree:=(g_impl_TreeOf_imm b).getD []
structure TrOk (b:List GOp):Prop where
 gd:gdS (tr b)
 fl:flS (tr b)=b
 l:(tr b).length<=60
 e:g_impl_TreeOf_imm b=some (tr b)
theorem tr_ok {b:List GOp} (h:shapeB b=true):TrOk b:=by
 obtain ⟨ts,h1,h2,h3,h4⟩:=treesC h
 have:tr b=ts:=by unfold tr;rw[h4];rfl
 exact ⟨by rw[this];exact h1,by rw[this];exact h2,by rw[this];exact h3,by rw[this];exact h4⟩
theorem tr_e {b:List GOp} (h:shapeB b=true):g_impl_TreeOf b=some (tr b):=by
 rw[<-(tr_ok h).e]
 rfl
def prB (b:List GOp):List GOp:=flS (prS (tr b))
theorem prB_ok {b:List GOp} (h:shapeB b=true):shapeB (prB b)=true/\(prB b).length<=b.length/\g_impl_prune b=some (prB b)/\(∀ o ∈ prB b,o ∈ b):=by
 have t:=tr_ok h
 obtain ⟨h60,hok⟩:=shape_ok h
 obtain ⟨p1,p2⟩:=prS_ok (tr b) t.gd
 rw[t.fl]at p2
 have hs:∀ o ∈ prB b,o ∈ b:=λ o ho=>by have:=prS_sub _ o ho;rw[t.fl]at this;exact this
 have hsh:shapeB (prB b)=true:=shape_of p1 (by omega) λ o ho=>hok o (hs o ho)
 refine ⟨hsh,p2,?_,hs⟩
 rw[g_impl_prune,tr_e h,Option.bind_some,ipruned t.gd (by rw[t.fl];omega),Option.bind_some,g_impl_FlatOf,iflat_emp p1 (by omega),Option.bind_some]
 simp only[Bool.not_true,cond_false]
 rw[implShape (by omega)]
 show ((some (shapeB (prB b))).bind λ y=>cond (!y) (some []) (some (prB b))).bind _=_
 rw[hsh];rfl
end Go.Proofs.YtnhefmibcnbehaaDoor
namespace Go.Proofs.YtnhefmibcnbehaaDoor
open Go Go.Fm
def nestBZ (k:Int):Bool:=decide (k=3\/k=4\/k=6)
def endsKZ (k:Int):Int:=if k=6 then 7 else 5
mutual
def flTZ:GTree->List GOp
 | ⟨k,n,ks⟩=>⟨k,n⟩::(if nestBZ k then flSZ ks++[⟨endsKZ k,0⟩] else [])
def flSZ:List GTree->List GOp
 | []=>[]
 | t::r=>flTZ t++flSZ r
end
mutual
def gdTZ:GTree->Prop
 | ⟨k,_,ks⟩=>k≠5/\k≠7/\(nestBZ k=false->ks=[])/\gdSZ ks
def gdSZ:List GTree->Prop
 | []=>True
 | t::r=>gdTZ t/\gdSZ r
end
theorem kind3Z (k:Int) {α:Type} (x:Bool->Option α):((cond (k==3) (some true) (cond (k==4) (some true) (some (k==6))):Option Bool).bind x)=x (nestBZ k):=by
 unfold nestBZ
 by_cases h3:k=3
 ·subst h3;rfl
 ·by_cases h4:k=4
  ·subst h4;rfl
  ·by_cases h6:k=6
   ·subst h6;rfl
   ·have e3:(k==3)=false:=by simp[h3]
    have e4:(k==4)=false:=by simp[h4]
    have e6:(k==6)=false:=by simp[h6]
    rw[e3,e4,e6,cond_false,cond_false,decide_eq_false (by omega)];rfl
theorem kind3'Z (k:Int) {α:Type} (x:Bool->Option α):((cond (k==3) (some (k==3)) (cond (k==4) (some (k==4)) (some (k==6))):Option Bool).bind x)=x (nestBZ k):=by
 refine Eq.trans ?_ (kind3Z k x)
 cases h3:(k==3)
 ·cases h4:(k==4)
  ·rfl
  ·rfl
 ·rfl
theorem kind5Z (k:Int) {α:Type} (x:Bool->Option α):((cond (k==5) (some (k==5)) (some (k==7)):Option Bool).bind x)=x (decide (k=5\/k=7)):=by
 by_cases h5:k=5
 ·subst h5;rfl
 ·have e5:(k==5)=false:=by simp[h5]
  rw[e5,cond_false]
  by_cases h7:k=7
  ·subst h7;rfl
  ·have e7:(k==7)=false:=by simp[h7]
   rw[e7,decide_eq_false (by omega)];rfl
def BalZ (body:List GOp) (i j:Nat):Prop:=i<=body.length->∀ w,openF (body.drop i) w=some []->(w=[]->j=body.length)/\(∀ v x,w=v++[x]->j < body.length/\openF (body.drop (j+1)) v=some [])
structure GotZ (body:List GOp) (i:Nat) (ts:List GTree) (j:Nat):Prop where
 le:i<=j
 top:j<=max i (2*body.length-i)
 gd:gdSZ ts
 size:(flSZ ts).length=j-i
 len:ts.length<=j-i
 bal:BalZ body i j
theorem par_loopZ {body:List GOp} (hb:body.length<=1048576):∀ (m i:Nat),body.length-i<=m->i<=2*body.length->∀ (rk k:Nat),m<=rk->m < k->∀ out:List GTree,out.length+m<=2097152 →
  ∃ ts j,GotZ body i ts j/\g_spec_l09Trees_l0 (g_spec_l09Trees_r rk) body k (i:Int) out=some ((j:Int),out++ts) ∧
   g_impl_grow_l0 (g_impl_grow_r rk) k (body.drop i) out=some (if j < body.length then .inr (out++ts,body.drop (j+1)) else .inl (out++ts)):=by
 intro m
 induction m with
 | zero =>
  intro i hm hi rk k h1 h2 out ho
  obtain ⟨k,rfl⟩:∃ k',k=k'+1:=⟨k-1,by omega⟩
  refine ⟨[],i,⟨Nat.le_refl _,by omega,trivial,by simp[flSZ],by simp,?_⟩,?_,?_⟩
  ·intro hl w hw
   have:i=body.length:=by omega
   rw[this,List.drop_length]at hw
   cases hw
   exact ⟨λ _=>this,λ v x e=>by cases v<;>cases e⟩
  ·rw[g_spec_l09Trees_l0,decide_eq_false (by omega)]
   simp
  ·rw[List.drop_eq_nil_of_le (by omega),g_impl_grow_l0,if_neg (by omega)]
   simp
 | succ m ih =>
  intro i hm hi rk k h1 h2 out ho
  obtain ⟨k,rfl⟩:∃ k',k=k'+1:=⟨k-1,by omega⟩
  obtain ⟨rk,rfl⟩:∃ k',rk=k'+1:=⟨rk-1,by omega⟩
  by_cases hn:i < body.length
  case neg =>
   refine ⟨[],i,⟨Nat.le_refl _,by omega,trivial,by simp[flSZ],by simp,?_⟩,?_,?_⟩
   ·intro hl w hw
    have:i=body.length:=by omega
    rw[this,List.drop_length]at hw
    cases hw
    exact ⟨λ _=>this,λ v x e=>by cases v<;>cases e⟩
   ·rw[g_spec_l09Trees_l0,decide_eq_false (by omega)]
    simp
   ·rw[List.drop_eq_nil_of_le (by omega),g_impl_grow_l0,if_neg (by omega)]
    simp
  have hd:body.drop i=body[i]::body.drop (i+1):=List.drop_eq_getElem_cons hn
  have hg:getI body (i:Int)=some body[i]:=by rw[getI_nat,List.getElem?_eq_getElem hn]
  generalize ho':body[i]=o at hd hg
  have e1:∀ {α:Type} (x:Bool->Option α),((cond (decide ((i:Int) < (body.length:Int))) ((getI body (i:Int)).bind λ v_11=>cond (v_11.Kind != 5) ((getI body (i:Int)).bind λ v_12=>some (v_12.Kind != 7)) (some false)) (some false):Option Bool).bind x)=x (!decide (o.Kind=5\/o.Kind=7)):=by
   intro α x
   rw[decide_eq_true (by omega),cond_true,hg]
   simp only[Option.bind_some]
   by_cases h5:o.Kind=5
   ·have:(o.Kind != 5)=false:=by simp[h5]
    rw[this,cond_false,decide_eq_true (.inl h5)];rfl
   ·have:(o.Kind != 5)=true:=by simp[h5]
    rw[this,cond_true]
    by_cases h7:o.Kind=7
    ·have:(o.Kind != 7)=false:=by simp[h7]
     rw[this,decide_eq_true (.inr h7)];rfl
    ·have:(o.Kind != 7)=true:=by simp[h7]
     rw[this,decide_eq_false (by omega)];rfl
  have e2:getI (o::body.drop (i+1)) 0=some o:=rfl
  have e3:subL (o::body.drop (i+1)) 1 ((o::body.drop (i+1)).length:Int)=some (body.drop (i+1)):=by
   rw[subL_drop (by omega) (by simp only[List.length_cons];omega)];rfl
  have e0:decide (((o::body.drop (i+1)).length:Int) > 0)=true:=by simp
  rw[g_spec_l09Trees_l0,e1,hd,g_impl_grow_l0,e0,cond_true,e2,e3]
  simp only[Option.bind_some]
  rw[kind5Z]
  by_cases h57:o.Kind=5\/o.Kind=7
  ·-- what ends
   rw[decide_eq_true h57]
   refine ⟨[],i,⟨Nat.le_refl _,by omega,trivial,by simp[flSZ],by simp,?_⟩,?_,?_⟩
   ·intro hl w hw
    rw[hd,openF]at hw
    unfold stepF at hw
    rw[if_neg (by omega),if_pos h57]at hw
    cases hw':w.getLast? with
    | none=>rw[hw']at hw;cases hw
    | some l =>
     rw[hw']at hw
     refine ⟨λ e=>(by rw[e]at hw';cases hw'),λ v x e=>⟨hn,?_⟩⟩
     subst e
     by_cases hl6:decide (l=6)=decide (o.Kind=7)
     ·simp only[hl6,if_true,Option.bind_some,List.dropLast_concat]at hw
      exact hw
     ·simp only[if_neg hl6]at hw;cases hw
   ·simp
   ·rw[if_pos hn];simp
  ·rw[decide_eq_false h57]
   simp only[Bool.not_false,cond_true,cond_false]
   rw[kind3'Z,hg]
   simp only[Option.bind_some]
   rw[kind3Z,show IntKind.wrap .i64 ((i:Int)+1)=((i+1:Nat):Int) by rw[wI64 (by omega) (by omega)];omega]
   by_cases hne:nestBZ o.Kind=true
   ·-- what holds others
    rw[hne,cond_true,cond_true]
    obtain ⟨ts,j,g1,g2,g3⟩:=ih (i+1) (by omega) (by omega) rk bigK (by omega) (by unfold bigK;omega) [] (by simp;omega)
    have hj:=g1.top
    have hjl:=g1.le
    have e5:g_spec_l09Trees_r (rk+1) body ((i+1:Nat):Int)=some (ts,(j:Int)):=by
     rw[g_spec_l09Trees_r,g_spec_l09Trees_b,g2];rfl
    have e4:g_impl_grow_r (rk+1) (body.drop (i+1))=some (ts,body.drop (j+1)):=by
     rw[g_impl_grow_r,g_impl_grow_b,g3]
     by_cases hjn:j < body.length
     ·rw[if_pos hjn];rfl
     ·rw[if_neg hjn,List.drop_eq_nil_of_le (by omega)];rfl
    rw[e5,e4]
    simp only[Option.bind_some]
    rw[app_eq (by simp;omega)]
    simp only[Option.bind_some]
    rw[show IntKind.wrap .i64 ((j:Int)+1)=((j+1:Nat):Int) by rw[wI64 (by omega) (by omega)];omega]
    obtain ⟨ts2,j2,f1,f2,f3⟩:=ih (j+1) (by omega) (by omega) (rk+1) k (by omega) (by omega) (out++[⟨o.Kind,o.N,ts⟩]) (by simp;omega)
    refine ⟨⟨o.Kind,o.N,ts⟩::ts2,j2,⟨by have:=f1.le;omega,by have:=f1.top;omega,?_,?_,?_,?_⟩,?_,?_⟩
    ·rw[gdSZ,gdTZ]
     exact ⟨⟨λ h=>h57 (.inl h),λ h=>h57 (.inr h),λ h=>absurd (hne.symm.trans h) (by simp),g1.gd⟩,f1.gd⟩
    ·rw[flSZ,flTZ,hne,if_pos rfl]
     have a1:=g1.size
     have a2:=f1.size
     have a3:=f1.le
     simp only[List.length_append,List.length_cons,List.length_nil,a1,a2]
     omega
    ·have a2:=f1.len
     have a3:=f1.le
     simp only[List.length_cons];omega
    ·intro hl w hw
     rw[hd,openF]at hw
     unfold stepF at hw
     unfold nestBZ at hne
     rw[if_pos (of_decide_eq_true hne),Option.bind_some]at hw
     obtain ⟨c1,c2⟩:=(g1.bal (by omega) _ hw).2 w o.Kind rfl
     exact f1.bal (by omega) w c2
    ·rw[f2];simp
    ·rw[f3];simp
   ·-- a plain one
    have hne:nestBZ o.Kind=false:=by simpa using hne
    rw[hne]
    simp only[cond_false,Option.bind_some]
    rw[app_eq (by simp;omega)]
    simp only[Option.bind_some]
    obtain ⟨ts2,j2,f1,f2,f3⟩:=ih (i+1) (by omega) (by omega) (rk+1) k (by omega) (by omega) (out++[⟨o.Kind,o.N,[]⟩]) (by simp;omega)
    refine ⟨⟨o.Kind,o.N,[]⟩::ts2,j2,⟨by have:=f1.le;omega,by have:=f1.top;omega,?_,?_,?_,?_⟩,?_,?_⟩
    ·rw[gdSZ,gdTZ]
     exact ⟨⟨λ h=>h57 (.inl h),λ h=>h57 (.inr h),λ _=>rfl,trivial⟩,f1.gd⟩
    ·rw[flSZ,flTZ,hne,if_neg (by simp)]
     have a2:=f1.size
     have a3:=f1.le
     simp only[List.length_append,List.length_cons,List.length_nil,a2]
     omega
    ·have a2:=f1.len
     have a3:=f1.le
     simp only[List.length_cons];omega
    ·intro hl w hw
     rw[hd,openF]at hw
     unfold stepF at hw
     unfold nestBZ at hne
     rw[if_neg (of_decide_eq_false hne),if_neg h57,Option.bind_some]at hw
     exact f1.bal (by omega) w hw
    ·rw[f2];simp
    ·rw[f3];simp
end Go.Proofs.YtnhefmibcnbehaaDoor
namespace Go.Proofs.YtnhefmibcnbehaaDoor
open Go Go.Fm
theorem flT_posZ (t:GTree):1<=(flTZ t).length:=by
 cases t;rw[flTZ];simp
theorem flS_lenZ:∀ ts:List GTree,ts.length<=(flSZ ts).length
 | []=>Nat.le_refl _
 | t::r=>by
  have:=flS_lenZ r
  have:=flT_posZ t
  rw[flSZ,List.length_cons,List.length_append];omega
theorem nest3Z (k:Int) {α:Type} (x:Bool->Option α):((cond (k != 3) (cond (k != 4) (some (k != 6)) (some false)) (some false):Option Bool).bind x)=x (!nestBZ k):=by
 unfold nestBZ
 by_cases h3:k=3
 ·subst h3;rfl
 ·by_cases h4:k=4
  ·subst h4;rfl
  ·by_cases h6:k=6
   ·subst h6;rfl
   ·have e3:(k != 3)=true:=by simp[h3]
    have e4:(k != 4)=true:=by simp[h4]
    have e6:(k != 6)=true:=by simp[h6]
    rw[e3,e4,e6,cond_true,cond_true,decide_eq_false (by omega)];rfl
theorem iflat_loopZ {rk:Nat} (hr:∀ ts body,gdSZ ts->(flSZ ts).length < rk->body.length+(flSZ ts).length<=60->g_impl_flat_r rk ts body=some (body++flSZ ts,true)) {ts:List GTree} (hl:ts.length<=60) :
  ∀ (k i:Nat) (b:List GOp),i<=ts.length->ts.length-i < k->gdSZ (ts.drop i)->b.length+(flSZ (ts.drop i)).length<=60->(flSZ (ts.drop i)).length<=rk →
  g_impl_flat_l0 (g_impl_flat_r rk) ts (ts.length:Int) k b (i:Int)=some (.inl (b++flSZ (ts.drop i))):=by
 intro k
 induction k with
 | zero=>intro i b h0 h1;omega
 | succ k ih =>
  intro i b h0 h1 hg hb hk
  rw[g_impl_flat_l0]
  by_cases hn:i < ts.length
  case neg =>
   rw[decide_eq_false (by omega),cond_false,List.drop_eq_nil_of_le (by omega),flSZ,List.append_nil]
  have hd:ts.drop i=ts[i]::ts.drop (i+1):=List.drop_eq_getElem_cons hn
  have hgi:getI ts (i:Int)=some ts[i]:=by rw[getI_nat,List.getElem?_eq_getElem hn]
  rw[hd]at hg hb hk ⊢
  rw[decide_eq_true (by omega),cond_true,hgi]
  generalize ts[i]=t at hg hb hk ⊢
  obtain ⟨kd,n,ks⟩:=t
  rw[gdSZ,gdTZ]at hg
  obtain ⟨⟨g5,g7,gk,gs⟩,gr⟩:=hg
  rw[flSZ,flTZ]at hb hk ⊢
  simp only[List.length_append,List.length_cons]at hb hk
  simp only[Option.bind_some]
  rw[decide_eq_false (by omega),cond_false,show (kd==5)=false by simp[g5],show (kd==7)=false by simp[g7]]
  simp only[cond_false,Option.bind_some]
  have hw:IntKind.wrap .i64 ((i:Int)+1)=((i+1:Nat):Int):=by rw[wI64 (by omega) (by omega)];omega
  rw[app_eq (by simp;omega),hw]
  cases hne:nestBZ kd with
  | false =>
   rw[hne,if_neg (by simp)]at hb hk
   have hks:=gk hne
   subst hks
   rw[if_neg (by simp)]
   have e:∀ x:Int,((cond (kd==6) (some (Sum.inl 7)) (some (Sum.inl 5)):Option (Int ⊕ Bool)))=some (.inl (endsKZ kd)):=λ x=>by
    unfold endsKZ
    by_cases h6:kd=6
    ·subst h6;rfl
    ·rw[if_neg h6,show (kd==6)=false by simp[h6]];rfl
   rw[e 0]
   simp only[Option.bind_some]
   rw[nest3Z,hne]
   simp only[Bool.not_false,cond_true,List.length_nil,List.append_nil,List.cons_append,List.nil_append]at hb hk ⊢
   rw[decide_eq_false (by omega),cond_false]
   simp only[Option.bind_some]
   rw[ih (i+1) (b++[(⟨kd,n⟩:GOp)]) (by omega) (by omega) gr (by simp;omega) (by omega)]
   simp
  | true =>
   rw[hne,if_pos rfl]at hb hk
   rw[if_pos rfl]
   simp only[List.length_append,List.length_cons,List.length_nil]at hb hk
   have e:((cond (kd==6) (some (Sum.inl 7)) (some (Sum.inl 5)):Option (Int ⊕ Bool)))=some (.inl (endsKZ kd)):=by
    unfold endsKZ
    by_cases h6:kd=6
    ·subst h6;rfl
    ·rw[if_neg h6,show (kd==6)=false by simp[h6]];rfl
   rw[e]
   simp only[Option.bind_some]
   rw[nest3Z,hne]
   simp only[Bool.not_true,cond_false]
   rw[hr ks (b++[(⟨kd,n⟩:GOp)]) gs (by omega) (by simp;omega)]
   simp only[Option.bind_some,Bool.not_true,cond_false]
   rw[app_eq (by simp;omega)]
   simp only[Option.bind_some]
   rw[ih (i+1) _ (by omega) (by omega) gr (by simp;omega) (by omega)]
   simp
theorem iflatZ:∀ rk ts body,gdSZ ts->(flSZ ts).length < rk->body.length+(flSZ ts).length<=60->g_impl_flat_r rk ts body=some (body++flSZ ts,true):=by
 intro rk
 induction rk with
 | zero=>intro ts body h1 h2;omega
 | succ rk ih =>
  intro ts body h1 h2 h3
  have:=flS_lenZ ts
  have h:=iflat_loopZ ih (ts:=ts) (by omega) bigK 0 body (by omega) (by unfold bigK;omega) (by simpa using h1) (by simpa using h3) (by simp;omega)
  rw[List.drop_zero,show ((0:Nat):Int)=0 from rfl]at h
  rw[g_impl_flat_r,g_impl_flat_b,h];rfl
theorem emp_l0Z (v:List GTree) (n:Int):∀ (k:Nat) (b:List GOp) (i:Int),g_impl_flat_emp_l0 v n k b i=g_impl_flat_l0 (g_impl_flat_r bigK) v n k b i:=by
 intro k
 induction k with
 | zero=>intro b i;rfl
 | succ k ih =>
  intro b i
  rw[g_impl_flat_emp_l0,g_impl_flat_l0]
  simp only[ih]
  rfl
theorem iflat_empZ {ts:List GTree} (h1:gdSZ ts) (h3:(flSZ ts).length<=60):g_impl_flat_emp ts=some (flSZ ts,true):=by
 have:=flS_lenZ ts
 have h:=iflat_loopZ (iflatZ bigK) (ts:=ts) (by omega) bigK 0 [] (by omega) (by unfold bigK;omega) (by simpa using h1) (by simpa using h3) (by unfold bigK;simp;omega)
 rw[List.drop_zero,show ((0:Nat):Int)=0 from rfl]at h
 rw[g_impl_flat_emp,emp_l0Z,h];rfl
theorem sflat_loop {rk:Nat} (hr:∀ ts (deep left:Int),gdSZ ts->(flSZ ts).length < rk->(flSZ ts).length<=deep->(flSZ ts).length<=left->deep<=60->left<=60->g_spec_l09Flat_r rk ts deep left=some (flSZ ts,true)) {ts:List GTree} (hl:ts.length<=60) {deep left:Int} (hd60:deep<=60) (hl60:left<=60) :
  ∀ (k i:Nat) (b:List GOp),i<=ts.length->ts.length-i < k->gdSZ (ts.drop i)->b.length+(flSZ (ts.drop i)).length<=left->(flSZ (ts.drop i)).length<=deep->(flSZ (ts.drop i)).length<=rk →
  g_spec_l09Flat_l0 (g_spec_l09Flat_r rk) ts deep left k b (i:Int)=some (.inl (b++flSZ (ts.drop i))):=by
 intro k
 induction k with
 | zero=>intro i b h0 h1;omega
 | succ k ih =>
  intro i b h0 h1 hg hb hdp hk
  rw[g_spec_l09Flat_l0]
  by_cases hn:i < ts.length
  case neg =>
   rw[decide_eq_false (by omega),cond_false,List.drop_eq_nil_of_le (by omega),flSZ,List.append_nil]
  have hd:ts.drop i=ts[i]::ts.drop (i+1):=List.drop_eq_getElem_cons hn
  have hgi:getI ts (i:Int)=some ts[i]:=by rw[getI_nat,List.getElem?_eq_getElem hn]
  rw[hd]at hg hb hk hdp ⊢
  rw[decide_eq_true (by omega),cond_true,hgi]
  generalize ts[i]=t at hg hb hk hdp ⊢
  obtain ⟨kd,n,ks⟩:=t
  rw[gdSZ,gdTZ]at hg
  obtain ⟨⟨g5,g7,gk,gs⟩,gr⟩:=hg
  rw[flSZ,flTZ]at hb hk hdp ⊢
  simp only[List.length_append,List.length_cons]at hb hk hdp
  simp only[Option.bind_some]
  rw[kind3Z]
  have hw:IntKind.wrap .i64 ((i:Int)+1)=((i+1:Nat):Int):=by rw[wI64 (by omega) (by omega)];omega
  rw[hw,decide_eq_false (by omega),cond_false,decide_eq_false (by omega),cond_false,show (kd==5)=false by simp[g5],show (kd==7)=false by simp[g7]]
  simp only[cond_false,Option.bind_some]
  rw[app_eq (by simp;omega)]
  cases hne:nestBZ kd with
  | false =>
   rw[hne,if_neg (by simp)]at hb hk hdp
   have hks:=gk hne
   subst hks
   rw[if_neg (by simp)]
   simp only[Bool.not_false,cond_true,List.length_nil,List.append_nil,List.cons_append,List.nil_append,Option.bind_some]at hb hk hdp ⊢
   rw[decide_eq_false (by omega),cond_false]
   simp only[Option.bind_some]
   rw[ih (i+1) (b++[(⟨kd,n⟩:GOp)]) (by omega) (by omega) gr (by simp;omega) (by omega) (by omega)]
   simp
  | true =>
   rw[hne,if_pos rfl]at hb hk hdp
   rw[if_pos rfl]
   simp only[List.length_append,List.length_cons,List.length_nil]at hb hk hdp
   simp only[Bool.not_true,cond_false,Option.bind_some]
   have hlen:((b++[(⟨kd,n⟩:GOp)]).length:Int)=(b.length:Int)+1:=by simp
   rw[hlen,wI64 (x:=deep-1) (by omega) (by omega),wI64 (x:=left-((b.length:Int)+1)) (by omega) (by omega)]
   rw[hr ks (deep-1) (left-((b.length:Int)+1)) gs (by omega) (by omega) (by omega) (by omega) (by omega)]
   simp only[Option.bind_some,Bool.not_true,cond_false]
   rw[app_eq (by simp;omega)]
   simp only[Option.bind_some]
   have e:(cond (kd==6) ((app (b++[(⟨kd,n⟩:GOp)]++flSZ ks) [(⟨7,0⟩:GOp)]).bind λ v_23=>some (Sum.inl v_23)) ((app (b++[(⟨kd,n⟩:GOp)]++flSZ ks) [(⟨5,0⟩:GOp)]).bind λ v_24=>some (Sum.inl v_24)):Option (List GOp ⊕ (List GOp×Bool)))=some (.inl (b++[⟨kd,n⟩]++flSZ ks++[⟨endsKZ kd,0⟩])):=by
    unfold endsKZ
    by_cases h6:kd=6
    ·subst h6
     rw[show ((6:Int)==6)=true from rfl,cond_true,app_eq (by simp;omega)];rfl
    ·rw[if_neg h6,show (kd==6)=false by simp[h6],cond_false,app_eq (by simp;omega)];rfl
   rw[e]
   simp only[Option.bind_some]
   rw[ih (i+1) _ (by omega) (by omega) gr (by simp;omega) (by omega) (by omega)]
   simp
theorem sflat:∀ rk ts (deep left:Int),gdSZ ts->(flSZ ts).length < rk->(flSZ ts).length<=deep->(flSZ ts).length<=left->deep<=60->left<=60->g_spec_l09Flat_r rk ts deep left=some (flSZ ts,true):=by
 intro rk
 induction rk with
 | zero=>intro ts deep left h1 h2;omega
 | succ rk ih =>
  intro ts deep left h1 h2 h3 h4 h5 h6
  have:=flS_lenZ ts
  have h:=sflat_loop ih (ts:=ts) (by omega) h5 h6 bigK 0 [] (by omega) (by unfold bigK;omega) (by simpa using h1) (by simpa using h4) (by simpa using h3) (by simp;omega)
  rw[List.drop_zero,show ((0:Nat):Int)=0 from rfl]at h
  rw[g_spec_l09Flat_r,g_spec_l09Flat_b,h];rfl
end Go.Proofs.YtnhefmibcnbehaaDoor
namespace Go.Proofs.YtnhefmibcnbehaaDoor
open Go Go.Fm
mutual
def prTZ:GTree->GTree
 | ⟨k,n,ks⟩=>⟨k,n,prSZ ks⟩
def prSZ:List GTree->List GTree
 | []=>[]
 | t::r=>prTZ t::(if t.Kind=8 then [] else prSZ r)
end
mutual
theorem prT_okZ:∀ t:GTree,gdTZ t->gdTZ (prTZ t)/\(flTZ (prTZ t)).length<=(flTZ t).length
 | ⟨k,n,ks⟩,h=>by
  rw[gdTZ]at h
  obtain ⟨h1,h2,h3,h4⟩:=h
  obtain ⟨g1,g2⟩:=prS_okZ ks h4
  rw[prTZ,gdTZ,flTZ,flTZ]
  refine ⟨⟨h1,h2,λ e=>by rw[h3 e];rfl,g1⟩,?_⟩
  cases nestBZ k with
  | false=>simp
  | true=>simp;exact g2
theorem prS_okZ:∀ ts:List GTree,gdSZ ts->gdSZ (prSZ ts)/\(flSZ (prSZ ts)).length<=(flSZ ts).length
 | [],h=>⟨trivial,Nat.le_refl _⟩
 | t::r,h=>by
  rw[gdSZ]at h
  obtain ⟨g1,g2⟩:=prT_okZ t h.1
  obtain ⟨f1,f2⟩:=prS_okZ r h.2
  rw[prSZ,gdSZ,flSZ,flSZ]
  by_cases h8:t.Kind=8
  ·rw[if_pos h8]
   refine ⟨⟨g1,trivial⟩,?_⟩
   rw[flSZ];simp;omega
  ·rw[if_neg h8]
   refine ⟨⟨g1,f1⟩,?_⟩
   simp;omega
end
theorem kids_ltZ {t:GTree} (h:gdTZ t):(flSZ t.Kids).length < (flTZ t).length:=by
 obtain ⟨k,n,ks⟩:=t
 rw[gdTZ]at h
 obtain ⟨h1,h2,h3,h4⟩:=h
 rw[flTZ]
 cases hn:nestBZ k with
 | false=>rw[h3 hn];simp[flSZ]
 | true=>simp;omega
theorem ipr_loopZ {rec:List GTree->Option (List GTree)} {F:Nat->List GTree->Int->Option (List GTree)} {ts:List GTree} {B:Nat} (hB:B<=1000)
  (hF:∀ (k:Nat) (out:List GTree) (i:Int),F (k+1) out i=cond (decide (i < (ts.length:Int))) ((getI ts i).bind λ v_9=>(rec v_9.Kids).bind λ y_10=>(app out [(⟨v_9.Kind,v_9.N,y_10⟩:GTree)]).bind λ v_11=>cond (v_9.Kind==8) (some v_11) (F k v_11 (IntKind.wrap .i64 (i+1)))) (some out))
  (hr:∀ ks,gdSZ ks->(flSZ ks).length < B->rec ks=some (prSZ ks)) (hl:ts.length<=1000) :
  ∀ (k i:Nat) (out:List GTree),i<=ts.length->ts.length-i < k->gdSZ (ts.drop i)->(flSZ (ts.drop i)).length<=B->out.length<=i->F k out (i:Int)=some (out++prSZ (ts.drop i)):=by
 intro k
 induction k with
 | zero=>intro i out h0 h1;omega
 | succ k ih =>
  intro i out h0 h1 hg hb ho
  rw[hF]
  by_cases hn:i < ts.length
  case neg=>rw[decide_eq_false (by omega),cond_false,List.drop_eq_nil_of_le (by omega),prSZ,List.append_nil]
  rw[decide_eq_true (by omega),cond_true,getI_nat,List.getElem?_eq_getElem hn]
  have hd:ts.drop i=ts[i]::ts.drop (i+1):=List.drop_eq_getElem_cons hn
  rw[hd]at hg hb ⊢
  generalize ts[i]=t at hg hb ⊢
  rw[gdSZ]at hg
  have:=kids_ltZ hg.1
  have hp:=flT_posZ t
  rw[flSZ,List.length_append]at hb
  simp only[Option.bind_some]
  obtain ⟨kd,n,ks⟩:=t
  have hks:=hg.1
  rw[gdTZ]at hks
  rw[hr ks hks.2.2.2 (by simp only at this;omega),prSZ,prTZ]
  simp only[Option.bind_some]
  rw[app_eq (by simp;omega)]
  simp only[Option.bind_some]
  rw[wI64 (by omega) (by omega),show ((i:Int)+1)=((i+1:Nat):Int) by omega]
  by_cases h8:kd=8
  ·rw[if_pos h8,show (kd==8)=true by simp[h8],cond_true]
  ·rw[if_neg h8,show (kd==8)=false by simp[h8],cond_false,ih (i+1) _ (by omega) (by omega) hg.2 (by omega) (by simp;omega)]
   simp
theorem ipruned_immZ:∀ (rk:Nat) (ts:List GTree),gdSZ ts->(flSZ ts).length < rk->(flSZ ts).length<=1000->g_impl_pruned_imm_r rk ts=some (prSZ ts):=by
 intro rk
 induction rk with
 | zero=>intro ts h1 h2;omega
 | succ rk ih =>
  intro ts h1 h2 h3
  have:=flS_lenZ ts
  have h:=ipr_loopZ (B:=(flSZ ts).length) h3 (rec:=g_impl_pruned_imm_r rk) (F:=g_impl_pruned_imm_l0 (g_impl_pruned_imm_r rk) ts (ts.length:Int)) (λ k out i=>by rw[g_impl_pruned_imm_l0]) (λ ks hk hk2=>ih ks hk (by omega) (by omega)) (by omega) bigK 0 [] (by omega) (by unfold bigK;omega) (by simpa using h1) (by simp) (by simp)
  rw[List.drop_zero,show ((0:Nat):Int)=0 from rfl]at h
  rw[g_impl_pruned_imm_r,g_impl_pruned_imm_b,h];rfl
theorem iprunedZ {ts:List GTree} (h1:gdSZ ts) (h3:(flSZ ts).length<=1000):g_impl_pruned ts=some (prSZ ts):=by
 have:=flS_lenZ ts
 have h:=ipr_loopZ (B:=(flSZ ts).length) h3 (rec:=g_impl_pruned_imm) (F:=g_impl_pruned_l0 ts (ts.length:Int)) (λ k out i=>by rw[g_impl_pruned_l0]) (λ ks hk hk2=>ipruned_immZ bigK ks hk (by unfold bigK;omega) (by omega)) (by omega) bigK 0 [] (by omega) (by unfold bigK;omega) (by simpa using h1) (by simp) (by simp)
 rw[List.drop_zero,show ((0:Nat):Int)=0 from rfl]at h
 rw[g_impl_pruned,h];rfl
theorem spr_loop {rec:List GTree->Option (List GTree)} {F:Nat->List GTree->Int->Option (List GTree ⊕ List GTree)} {ts:List GTree} {B:Nat} (hB:B<=1000)
  (hF:∀ (k:Nat) (out:List GTree) (i:Int),F (k+1) out i=cond (decide (i < (ts.length:Int))) ((getI ts i).bind λ v_9=>(rec v_9.Kids).bind λ y_10=>(app out [(⟨v_9.Kind,v_9.N,y_10⟩:GTree)]).bind λ v_11=>cond (v_9.Kind==8) (some (.inr v_11)) (F k v_11 (IntKind.wrap .i64 (i+1)))) (some (.inl out)))
  (hr:∀ ks,gdSZ ks->(flSZ ks).length < B->rec ks=some (prSZ ks)) (hl:ts.length<=1000) :
  ∀ (k i:Nat) (out:List GTree),i<=ts.length->ts.length-i < k->gdSZ (ts.drop i)->(flSZ (ts.drop i)).length<=B->out.length<=i->F k out (i:Int)=some (.inl (out++prSZ (ts.drop i)))\/F k out (i:Int)=some (.inr (out++prSZ (ts.drop i))):=by
 intro k
 induction k with
 | zero=>intro i out h0 h1;omega
 | succ k ih =>
  intro i out h0 h1 hg hb ho
  rw[hF]
  by_cases hn:i < ts.length
  case neg=>rw[decide_eq_false (by omega),cond_false,List.drop_eq_nil_of_le (by omega),prSZ,List.append_nil];exact .inl rfl
  rw[decide_eq_true (by omega),cond_true,getI_nat,List.getElem?_eq_getElem hn]
  have hd:ts.drop i=ts[i]::ts.drop (i+1):=List.drop_eq_getElem_cons hn
  rw[hd]at hg hb ⊢
  generalize ts[i]=t at hg hb ⊢
  rw[gdSZ]at hg
  have:=kids_ltZ hg.1
  have hp:=flT_posZ t
  rw[flSZ,List.length_append]at hb
  simp only[Option.bind_some]
  obtain ⟨kd,n,ks⟩:=t
  have hks:=hg.1
  rw[gdTZ]at hks
  rw[hr ks hks.2.2.2 (by simp only at this;omega),prSZ,prTZ]
  simp only[Option.bind_some]
  rw[app_eq (by simp;omega)]
  simp only[Option.bind_some]
  rw[wI64 (by omega) (by omega),show ((i:Int)+1)=((i+1:Nat):Int) by omega]
  by_cases h8:kd=8
  ·rw[if_pos h8,show (kd==8)=true by simp[h8],cond_true];exact .inr rfl
  ·rw[if_neg h8,show (kd==8)=false by simp[h8],cond_false]
   have:=ih (i+1) (out++[⟨kd,n,prSZ ks⟩]) (by omega) (by omega) hg.2 (by omega) (by simp;omega)
   simpa using this
theorem spruned_imm:∀ (rk:Nat) (ts:List GTree),gdSZ ts->(flSZ ts).length < rk->(flSZ ts).length<=1000->g_spec_l15Prune_imm_r rk ts=some (prSZ ts):=by
 intro rk
 induction rk with
 | zero=>intro ts h1 h2;omega
 | succ rk ih =>
  intro ts h1 h2 h3
  have:=flS_lenZ ts
  have h:=spr_loop (B:=(flSZ ts).length) h3 (rec:=g_spec_l15Prune_imm_r rk) (F:=g_spec_l15Prune_imm_l0 (g_spec_l15Prune_imm_r rk) ts) (λ k out i=>by rw[g_spec_l15Prune_imm_l0]) (λ ks hk hk2=>ih ks hk (by omega) (by omega)) (by omega) bigK 0 [] (by omega) (by unfold bigK;omega) (by simpa using h1) (by simp) (by simp)
  rw[List.drop_zero,show ((0:Nat):Int)=0 from rfl]at h
  rw[g_spec_l15Prune_imm_r,g_spec_l15Prune_imm_b]
  rcases h with h|h<;>(rw[h];rfl)
theorem spruned {ts:List GTree} (h1:gdSZ ts) (h3:(flSZ ts).length<=1000):g_spec_l15Prune ts=some (prSZ ts):=by
 have:=flS_lenZ ts
 have h:=spr_loop (B:=(flSZ ts).length) h3 (rec:=g_spec_l15Prune_imm) (F:=g_spec_l15Prune_l0 ts) (λ k out i=>by rw[g_spec_l15Prune_l0]) (λ ks hk hk2=>spruned_imm bigK ks hk (by unfold bigK;omega) (by omega)) (by omega) bigK 0 [] (by omega) (by unfold bigK;omega) (by simpa using h1) (by simp) (by simp)
 rw[List.drop_zero,show ((0:Nat):Int)=0 from rfl]at h
 rw[g_spec_l15Prune]
 rcases h with h|h<;>(rw[h];rfl)
theorem trees {body:List GOp} (hs:shapeB body=true):∃ ts,gdSZ ts/\(flSZ ts).length<=60/\g_spec_TreeOf body=some ts/\g_impl_TreeOf body=some ts:=by
 have hs':=hs
 unfold shapeB at hs
 simp only[Bool.and_eq_true,decide_eq_true_eq]at hs
 obtain ⟨⟨h60,ho⟩,hp⟩:=hs
 obtain ⟨ts,j,g,e1,e2⟩:=par_loopZ (body:=body) (by omega) body.length 0 (by omega) (by omega) (bigK-1) bigK (by unfold bigK;omega) (by unfold bigK;omega) [] (by simp;omega)
 have hj:j=body.length:=((g.bal (by omega)) [] (by simpa using hp)).1 rfl
 subst hj
 refine ⟨ts,g.gd,by rw[g.size];omega,?_,?_⟩
 ·rw[g_spec_TreeOf,specShape (by omega),hs',Option.bind_some,Bool.not_true,cond_false,g_spec_l09Trees,show bigK=(bigK-1)+1 from rfl,g_spec_l09Trees_r,g_spec_l09Trees_b]
  rw[show ((0:Nat):Int)=0 from rfl]at e1
  rw[e1];simp
 ·rw[g_impl_TreeOf,implShape (by omega),hs',Option.bind_some,Bool.not_true,cond_false,g_impl_grow,show bigK=(bigK-1)+1 from rfl,g_impl_grow_r,g_impl_grow_b]
  rw[List.drop_zero,if_neg (by omega)]at e2
  rw[e2];simp
theorem flats {ts:List GTree} (h1:gdSZ ts) (h2:(flSZ ts).length<=60):∃ b,b.length<=60/\g_spec_FlatOf ts=some b/\g_impl_FlatOf ts=some b:=by
 have e1:=sflat bigK ts 60 60 h1 (by unfold bigK;omega) (by omega) (by omega) (by omega) (by omega)
 have e2:=iflat_empZ h1 h2
 refine ⟨if shapeB (flSZ ts) then flSZ ts else [],?_,?_,?_⟩
 ·split
  ·exact h2
  ·simp
 ·rw[g_spec_FlatOf,g_spec_l09Flat,e1,Option.bind_some]
  simp only[Bool.not_true,cond_false]
  rw[specShape (by omega)]
  cases shapeB (flSZ ts)<;>rfl
 ·rw[g_impl_FlatOf,e2,Option.bind_some]
  simp only[Bool.not_true,cond_false]
  rw[implShape (by omega)]
  cases shapeB (flSZ ts)<;>rfl
theorem prune_shape {body:List GOp} (hs:shapeB body=true):∃ w,w.length<=60/\g_spec_Prune body=some w/\g_impl_prune body=some w:=by
 have h60:body.length<=60:=by unfold shapeB at hs;simp only[Bool.and_eq_true,decide_eq_true_eq]at hs;exact hs.1.1
 obtain ⟨ts,g1,g2,e1,e2⟩:=trees hs
 obtain ⟨p1,p2⟩:=prS_okZ ts g1
 obtain ⟨b,hb,f1,f2⟩:=flats p1 (by omega)
 refine ⟨b,hb,?_,?_⟩
 ·rw[g_spec_Prune,specShape (by omega),hs,Option.bind_some,Bool.not_true,cond_false,e1,Option.bind_some,spruned g1 (by omega),Option.bind_some,f1];rfl
 ·rw[g_impl_prune,e2,Option.bind_some,iprunedZ g1 (by omega),Option.bind_some,f2];rfl
end Go.Proofs.YtnhefmibcnbehaaDoor
namespace Go.Proofs.YtnhefmibcnbehaaDoor
open Go Go.Fm
def i32B (x:Int):Prop := -2147483648<=x/\x<=2147483647
theorem i32w (x:Int):i32B (IntKind.wrap .i32 x):=by have:=wI32_bd x;unfold i32B;omega
theorem bv_ofInt (y:Int):(BitVec.ofInt 32 y).toNat=(y % 4294967296).toNat:=by rw[BitVec.toNat_ofInt];rfl
theorem not32 {y:Int} (h:i32B y):notI .i32 y=IntKind.wrap .i32 ((-1)-y):=by
 unfold notI bytesB
 show IntKind.wrap .i32 ((BitVec.ofInt 32 (if true=true then -1 else _) ^^^ BitVec.ofInt 32 y).toNat:Int)=_
 rw[if_pos rfl,show BitVec.ofInt 32 (-1)=BitVec.allOnes 32 from rfl,BitVec.allOnes_xor,BitVec.toNat_not,bv_ofInt]
 unfold i32B at h
 rw[wI32 (x:=(-1)-y) (by omega) (by omega)]
 unfold IntKind.wrap
 simp[IntKind.signed,IntKind.bits]
 omega
theorem wfI32 {n:Int} (h:(Lit.int .i32 n).wf=true):i32B n:=by
 unfold Lit.wf at h
 simp[IntKind.min,IntKind.max,IntKind.signed,IntKind.bits]at h
 unfold i32B;omega
end Go.Proofs.YtnhefmibcnbehaaDoor
